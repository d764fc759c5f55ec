import Derived.Test.YtbnmoonelaolcaaHw11
import Derived.Test.YtbnmoonelaolcaaProg
namespace Go.Proofs.Ytbnmoonelaolcaa
open Go Go.HW Go.RowKit
set_option linter.unusedVariables false
set_option linter.unusedSimpArgs false

theorem mixed : Try.prog.follows .mixedOrders = true := by kernel_rfl
theorem enter34 (args : Array Value) (w : World) : (callFunc 34 args).run Try.prog w = .ok (.enter 34 args) w := by kernel_rfl
theorem ty_f26_0 (a : Addr) (w : World) : (Instr.fieldAt 26 (.pointer (some a)) 0).run Try.prog w = .ok (.pointer (some (a.add 0))) w := by kernel_rfl
theorem ty_a22 (w : World) : (isAgg 22).run Try.prog w = .ok false w := by kernel_rfl
theorem enter25 (args : Array Value) (w : World) : (callFunc 25 args).run Try.prog w = .ok (.enter 25 args) w := by kernel_rfl
theorem ty_f26_1 (a : Addr) (w : World) : (Instr.fieldAt 26 (.pointer (some a)) 1).run Try.prog w = .ok (.pointer (some (a.add 1))) w := by kernel_rfl
theorem ty_a23 (w : World) : (isAgg 23).run Try.prog w = .ok false w := by kernel_rfl
theorem ty_f26_3 (a : Addr) (w : World) : (Instr.fieldAt 26 (.pointer (some a)) 3).run Try.prog w = .ok (.pointer (some (a.add 3))) w := by kernel_rfl
theorem ty_a24 (w : World) : (isAgg 24).run Try.prog w = .ok false w := by kernel_rfl
theorem enter31 (args : Array Value) (w : World) : (callFunc 31 args).run Try.prog w = .ok (.enter 31 args) w := by kernel_rfl
theorem ty_f26_2 (a : Addr) (w : World) : (Instr.fieldAt 26 (.pointer (some a)) 2).run Try.prog w = .ok (.pointer (some (a.add 2))) w := by kernel_rfl
theorem enter26 (args : Array Value) (w : World) : (callFunc 26 args).run Try.prog w = .ok (.enter 26 args) w := by kernel_rfl
theorem enter32 (args : Array Value) (w : World) : (callFunc 32 args).run Try.prog w = .ok (.enter 32 args) w := by kernel_rfl
theorem ty_a26 (w : World) : (isAgg 26).run Try.prog w = .ok true w := by kernel_rfl
theorem ty_s26 (w : World) : (sizeOf 26).run Try.prog w = .ok 4 w := by kernel_rfl
theorem enter22 (args : Array Value) (w : World) : (callFunc 22 args).run Try.prog w = .ok (.enter 22 args) w := by kernel_rfl
theorem enter23 (args : Array Value) (w : World) : (callFunc 23 args).run Try.prog w = .ok (.enter 23 args) w := by kernel_rfl
theorem ty_z26 (w : World) : (zeroValue 26).run Try.prog w = .ok (.agg #[.int .i64 0, .int .i64 0, .int .i64 0, .int .i64 0]) w := by kernel_rfl
theorem ty_s24 (w : World) : (sizeOf 24).run Try.prog w = .ok 1 w := by kernel_rfl
theorem enter29 (args : Array Value) (w : World) : (callFunc 29 args).run Try.prog w = .ok (.enter 29 args) w := by kernel_rfl
theorem enter30 (args : Array Value) (w : World) : (callFunc 30 args).run Try.prog w = .ok (.enter 30 args) w := by kernel_rfl
theorem enter21 (args : Array Value) (w : World) : (callFunc 21 args).run Try.prog w = .ok (.enter 21 args) w := by kernel_rfl
theorem enter33 (args : Array Value) (w : World) : (callFunc 33 args).run Try.prog w = .ok (.enter 33 args) w := by kernel_rfl
theorem enter24 (args : Array Value) (w : World) : (callFunc 24 args).run Try.prog w = .ok (.enter 24 args) w := by kernel_rfl
theorem enter7 (args : Array Value) (w : World) : (callFunc 7 args).run Try.prog w = .ok (.enter 7 args) w := by kernel_rfl
theorem enter15 (args : Array Value) (w : World) : (callFunc 15 args).run Try.prog w = .ok (.enter 15 args) w := by kernel_rfl
theorem ty_ue24 : Try.prog.underlying 24 = some (.int .i64) := by kernel_rfl
theorem ty_ue23 : Try.prog.underlying 23 = some (.int .i64) := by kernel_rfl
theorem ty_ue22 : Try.prog.underlying 22 = some (.int .i64) := by kernel_rfl
theorem eqs26 {d : Nat} (a0 a1 a2 a3 b0 b1 b2 b3 : Int) (w : World) : (Op.equalIn (d + 2) 26 (.agg #[.int .i64 a0, .int .i64 a1, .int .i64 a2, .int .i64 a3]) (.agg #[.int .i64 b0, .int .i64 b1, .int .i64 b2, .int .i64 b3])).run Try.prog w = .ok (a0 == b0 && (a1 == b1 && (a2 == b2 && (a3 == b3 && true)))) w :=
  eq_struct (fs := (match Try.prog.underlying 26 with | some (.struct fs) => fs.toList | _ => [])) (by kernel_rfl) (by kernel_rfl) (show (Op.eqFields (d + 1) _ _ (match Try.prog.underlying 26 with | some (.struct fs) => fs.toList | _ => [])).run _ _ = _ from eq_more rfl (run_part ty_a22 rfl) (run_part ty_a22 rfl) (run_equalIn_int w d 22 .i64 .i64 a0 b0 ty_ue22) (eq_more rfl (run_part ty_a23 rfl) (run_part ty_a23 rfl) (run_equalIn_int w d 23 .i64 .i64 a1 b1 ty_ue23) (eq_more rfl (run_part ty_a24 rfl) (run_part ty_a24 rfl) (run_equalIn_int w d 24 .i64 .i64 a2 b2 ty_ue24) (eq_more rfl (run_part ty_a24 rfl) (run_part ty_a24 rfl) (run_equalIn_int w d 24 .i64 .i64 a3 b3 ty_ue24) (eq_none)))))
theorem ty_g26 : Try.prog.eqGuardType Try.prog.depth 26 = false := by kernel_rfl
theorem enter8 (args : Array Value) (w : World) : (callFunc 8 args).run Try.prog w = .ok (.enter 8 args) w := by kernel_rfl
theorem enter9 (args : Array Value) (w : World) : (callFunc 9 args).run Try.prog w = .ok (.enter 9 args) w := by kernel_rfl
theorem enter10 (args : Array Value) (w : World) : (callFunc 10 args).run Try.prog w = .ok (.enter 10 args) w := by kernel_rfl
theorem enter11 (args : Array Value) (w : World) : (callFunc 11 args).run Try.prog w = .ok (.enter 11 args) w := by kernel_rfl
theorem enter12 (args : Array Value) (w : World) : (callFunc 12 args).run Try.prog w = .ok (.enter 12 args) w := by kernel_rfl
theorem enter13 (args : Array Value) (w : World) : (callFunc 13 args).run Try.prog w = .ok (.enter 13 args) w := by kernel_rfl
theorem enter14 (args : Array Value) (w : World) : (callFunc 14 args).run Try.prog w = .ok (.enter 14 args) w := by kernel_rfl
theorem enter16 (args : Array Value) (w : World) : (callFunc 16 args).run Try.prog w = .ok (.enter 16 args) w := by kernel_rfl
theorem enter36 (args : Array Value) (w : World) : (callFunc 36 args).run Try.prog w = .ok (.enter 36 args) w := by kernel_rfl
theorem ty_u56 (w : World) : (underlying 56).run Try.prog w = .ok (.map 41 47) w := by kernel_rfl
theorem ty_u41 (w : World) : (underlying 41).run Try.prog w = .ok (.int .i64) w := by kernel_rfl
theorem enter38 (args : Array Value) (w : World) : (callFunc 38 args).run Try.prog w = .ok (.enter 38 args) w := by kernel_rfl
theorem enter35 (args : Array Value) (w : World) : (callFunc 35 args).run Try.prog w = .ok (.enter 35 args) w := by kernel_rfl
theorem ty_z47 (w : World) : (zeroValue 47).run Try.prog w = .ok .nilFunc w := by kernel_rfl
theorem enter40 (args : Array Value) (w : World) : (callFunc 40 args).run Try.prog w = .ok (.enter 40 args) w := by kernel_rfl
theorem enter41 (args : Array Value) (w : World) : (callFunc 41 args).run Try.prog w = .ok (.enter 41 args) w := by kernel_rfl
theorem enter39 (args : Array Value) (w : World) : (callFunc 39 args).run Try.prog w = .ok (.enter 39 args) w := by kernel_rfl
theorem enter42 (args : Array Value) (w : World) : (callFunc 42 args).run Try.prog w = .ok (.enter 42 args) w := by kernel_rfl
theorem enter17 (args : Array Value) (w : World) : (callFunc 17 args).run Try.prog w = .ok (.enter 17 args) w := by kernel_rfl
theorem enter18 (args : Array Value) (w : World) : (callFunc 18 args).run Try.prog w = .ok (.enter 18 args) w := by kernel_rfl
theorem enter19 (args : Array Value) (w : World) : (callFunc 19 args).run Try.prog w = .ok (.enter 19 args) w := by kernel_rfl
theorem enter20 (args : Array Value) (w : World) : (callFunc 20 args).run Try.prog w = .ok (.enter 20 args) w := by kernel_rfl
theorem ty_u4 (w : World) : (underlying 4).run Try.prog w = .ok (.bool) w := by kernel_rfl

/-! ### escutcheon/policy.OfType: function 25 -/
noncomputable def B25 : Code := bodyOf Try.f25
def policy_OfType.f (a0 : Int) : Option (Int) := if (a0 == 1) = true then (some 39) else (if (a0 == 2) = true then (some 43) else (if (a0 == 3) = true then (some 51) else (some 0)))
set_option maxRecDepth 20000 in
theorem policy_OfType.ok {a0 : Int} {r : Int} (h : policy_OfType.f a0 = some r) (w : World) : Calls Try.prog 25 #[.int .i64 a0] w (Post (fun u => u = .int .i64 r) w) := by
  unfold policy_OfType.f at h
  refine calls_of_TT (N := 10) (S := [(0, .int .i64 a0)]) (c := B25) Try.func25 rfl rfl rfl (by simp) ?_
  show TT _ _ _ _ _ _ [.code (sub [] B25)] _ _
  refine TT.seq (x := sub [0] B25) (y := sub [1] B25) ?_
  refine TT.region (id := 0) (n := 1) (ops := (opsOf (sub [0] B25))) [(.pure, none)] rfl ?_
  show DL _ _ _ _ _ _ _ _ _ _ [0] _ _
  refine DL.pu 2 (.int .i64 0) rfl (p_assign rfl rfl) ?_
  refine DL.nil ?_
  refine TT.seq (x := sub [1, 0] B25) (y := sub [1, 1] B25) ?_
  refine TT.seq (x := sub [1, 0, 0] B25) (y := sub [1, 0, 1] B25) ?_
  refine TT.region (id := 1) (n := 1) (ops := (opsOf (sub [1, 0, 0] B25))) [(.pure, none)] rfl ?_
  show DL _ _ _ _ _ _ _ _ _ _ [0] _ _
  refine DL.pu 3 (.int .i64 a0) rfl (p_move rfl rfl) ?_
  refine DL.nil ?_
  refine TT.block (c := sub [1, 0, 1, 0] B25) ?_
  refine TT.seq (x := sub [1, 0, 1, 0, 0] B25) (y := sub [1, 0, 1, 0, 1] B25) ?_
  refine TT.region (id := 2) (n := 2) (ops := (opsOf (sub [1, 0, 1, 0, 0] B25))) [(.pure, none), (.pure, none)] rfl ?_
  show DL _ _ _ _ _ _ _ _ _ _ [0, 1] _ _
  refine DL.pu 5 (.bool (a0 == 1)) rfl (p_eql rfl rfl rfl) ?_
  refine DL.pu 4 (.bool (a0 == 1)) rfl (p_assign rfl rfl) ?_
  refine DL.nil ?_
  by_cases c1 : (a0 == 1) = true
  · have h2 := ite_true c1 h
    refine TT.cond_true (x := sub [1, 0, 1, 0, 1, 0] B25) (y := sub [1, 0, 1, 0, 1, 1] B25) rfl c1 ?_
    refine TT.seq (x := sub [1, 0, 1, 0, 1, 0, 0] B25) (y := sub [1, 0, 1, 0, 1, 0, 1] B25) ?_
    refine TT.region (id := 3) (n := 1) (ops := (opsOf (sub [1, 0, 1, 0, 1, 0, 0] B25))) [(.pure, none)] rfl ?_
    show DL _ _ _ _ _ _ _ _ _ _ [0] _ _
    refine DL.pu 2 (.int .i64 39) rfl (p_assign rfl rfl) ?_
    refine DL.nil ?_
    obtain rfl := Option.some.inj h2
    exact ret1 Try.func25 rfl (ResV.tmp rfl) rfl
  · replace c1 := Bool.eq_false_iff.mpr c1
    have h3 := ite_false c1 h
    refine TT.cond_false (x := sub [1, 0, 1, 0, 1, 0] B25) (y := sub [1, 0, 1, 0, 1, 1] B25) rfl c1 ?_
    refine TT.seq (x := sub [1, 0, 1, 0, 1, 1, 0] B25) (y := sub [1, 0, 1, 0, 1, 1, 1] B25) ?_
    refine TT.region (id := 4) (n := 2) (ops := (opsOf (sub [1, 0, 1, 0, 1, 1, 0] B25))) [(.pure, none), (.pure, none)] rfl ?_
    show DL _ _ _ _ _ _ _ _ _ _ [0, 1] _ _
    refine DL.pu 7 (.bool (a0 == 2)) rfl (p_eql rfl rfl rfl) ?_
    refine DL.pu 6 (.bool (a0 == 2)) rfl (p_assign rfl rfl) ?_
    refine DL.nil ?_
    by_cases c4 : (a0 == 2) = true
    · have h5 := ite_true c4 h3
      refine TT.cond_true (x := sub [1, 0, 1, 0, 1, 1, 1, 0] B25) (y := sub [1, 0, 1, 0, 1, 1, 1, 1] B25) rfl c4 ?_
      refine TT.seq (x := sub [1, 0, 1, 0, 1, 1, 1, 0, 0] B25) (y := sub [1, 0, 1, 0, 1, 1, 1, 0, 1] B25) ?_
      refine TT.region (id := 5) (n := 1) (ops := (opsOf (sub [1, 0, 1, 0, 1, 1, 1, 0, 0] B25))) [(.pure, none)] rfl ?_
      show DL _ _ _ _ _ _ _ _ _ _ [0] _ _
      refine DL.pu 2 (.int .i64 43) rfl (p_assign rfl rfl) ?_
      refine DL.nil ?_
      obtain rfl := Option.some.inj h5
      exact ret1 Try.func25 rfl (ResV.tmp rfl) rfl
    · replace c4 := Bool.eq_false_iff.mpr c4
      have h6 := ite_false c4 h3
      refine TT.cond_false (x := sub [1, 0, 1, 0, 1, 1, 1, 0] B25) (y := sub [1, 0, 1, 0, 1, 1, 1, 1] B25) rfl c4 ?_
      refine TT.seq (x := sub [1, 0, 1, 0, 1, 1, 1, 1, 0] B25) (y := sub [1, 0, 1, 0, 1, 1, 1, 1, 1] B25) ?_
      refine TT.region (id := 6) (n := 2) (ops := (opsOf (sub [1, 0, 1, 0, 1, 1, 1, 1, 0] B25))) [(.pure, none), (.pure, none)] rfl ?_
      show DL _ _ _ _ _ _ _ _ _ _ [0, 1] _ _
      refine DL.pu 9 (.bool (a0 == 3)) rfl (p_eql rfl rfl rfl) ?_
      refine DL.pu 8 (.bool (a0 == 3)) rfl (p_assign rfl rfl) ?_
      refine DL.nil ?_
      by_cases c7 : (a0 == 3) = true
      · have h8 := ite_true c7 h6
        refine TT.cond_true (x := sub [1, 0, 1, 0, 1, 1, 1, 1, 1, 0] B25) (y := sub [1, 0, 1, 0, 1, 1, 1, 1, 1, 1] B25) rfl c7 ?_
        refine TT.seq (x := sub [1, 0, 1, 0, 1, 1, 1, 1, 1, 0, 0] B25) (y := sub [1, 0, 1, 0, 1, 1, 1, 1, 1, 0, 1] B25) ?_
        refine TT.region (id := 7) (n := 1) (ops := (opsOf (sub [1, 0, 1, 0, 1, 1, 1, 1, 1, 0, 0] B25))) [(.pure, none)] rfl ?_
        show DL _ _ _ _ _ _ _ _ _ _ [0] _ _
        refine DL.pu 2 (.int .i64 51) rfl (p_assign rfl rfl) ?_
        refine DL.nil ?_
        obtain rfl := Option.some.inj h8
        exact ret1 Try.func25 rfl (ResV.tmp rfl) rfl
      · replace c7 := Bool.eq_false_iff.mpr c7
        have h9 := ite_false c7 h6
        refine TT.cond_false (x := sub [1, 0, 1, 0, 1, 1, 1, 1, 1, 0] B25) (y := sub [1, 0, 1, 0, 1, 1, 1, 1, 1, 1] B25) rfl c7 ?_
        refine TT.skip ?_
        refine TT.inBlock ?_
        refine TT.seq (x := sub [1, 1, 0] B25) (y := sub [1, 1, 1] B25) ?_
        refine TT.region (id := 8) (n := 1) (ops := (opsOf (sub [1, 1, 0] B25))) [(.pure, none)] rfl ?_
        show DL _ _ _ _ _ _ _ _ _ _ [0] _ _
        refine DL.pu 2 (.int .i64 0) rfl (p_assign rfl rfl) ?_
        refine DL.nil ?_
        obtain rfl := Option.some.inj h9
        exact ret1 Try.func25 rfl (ResV.tmp rfl) rfl
theorem policy_OfType.val {a0 : Int} {r : Int} (h : policy_OfType.f a0 = some r) (w : World) : Calls Try.prog 25 #[.int .i64 a0] w fun e w' => e = .returned (.int .i64 r) ∧ Below w.heap.size w w' :=
  calls_value (policy_OfType.ok h w)

/-! ### escutcheon/escutcheonref21.OfType: function 26 -/
noncomputable def B26 : Code := bodyOf Try.f26
def ref21_OfType.f (a0 : Int) : Option (Int) := if (a0 == 1) = true then (some 39) else (if (a0 == 2) = true then (some 43) else (if (a0 == 3) = true then (some 51) else (some 0)))
set_option maxRecDepth 20000 in
theorem ref21_OfType.ok {a0 : Int} {r : Int} (h : ref21_OfType.f a0 = some r) (w : World) : Calls Try.prog 26 #[.int .i64 a0] w (Post (fun u => u = .int .i64 r) w) := by
  unfold ref21_OfType.f at h
  refine calls_of_TT (N := 10) (S := [(0, .int .i64 a0)]) (c := B26) Try.func26 rfl rfl rfl (by simp) ?_
  show TT _ _ _ _ _ _ [.code (sub [] B26)] _ _
  refine TT.seq (x := sub [0] B26) (y := sub [1] B26) ?_
  refine TT.region (id := 0) (n := 1) (ops := (opsOf (sub [0] B26))) [(.pure, none)] rfl ?_
  show DL _ _ _ _ _ _ _ _ _ _ [0] _ _
  refine DL.pu 2 (.int .i64 0) rfl (p_assign rfl rfl) ?_
  refine DL.nil ?_
  refine TT.seq (x := sub [1, 0] B26) (y := sub [1, 1] B26) ?_
  refine TT.seq (x := sub [1, 0, 0] B26) (y := sub [1, 0, 1] B26) ?_
  refine TT.region (id := 1) (n := 1) (ops := (opsOf (sub [1, 0, 0] B26))) [(.pure, none)] rfl ?_
  show DL _ _ _ _ _ _ _ _ _ _ [0] _ _
  refine DL.pu 3 (.int .i64 a0) rfl (p_move rfl rfl) ?_
  refine DL.nil ?_
  refine TT.block (c := sub [1, 0, 1, 0] B26) ?_
  refine TT.seq (x := sub [1, 0, 1, 0, 0] B26) (y := sub [1, 0, 1, 0, 1] B26) ?_
  refine TT.region (id := 2) (n := 2) (ops := (opsOf (sub [1, 0, 1, 0, 0] B26))) [(.pure, none), (.pure, none)] rfl ?_
  show DL _ _ _ _ _ _ _ _ _ _ [0, 1] _ _
  refine DL.pu 5 (.bool (a0 == 1)) rfl (p_eql rfl rfl rfl) ?_
  refine DL.pu 4 (.bool (a0 == 1)) rfl (p_assign rfl rfl) ?_
  refine DL.nil ?_
  by_cases c1 : (a0 == 1) = true
  · have h2 := ite_true c1 h
    refine TT.cond_true (x := sub [1, 0, 1, 0, 1, 0] B26) (y := sub [1, 0, 1, 0, 1, 1] B26) rfl c1 ?_
    refine TT.seq (x := sub [1, 0, 1, 0, 1, 0, 0] B26) (y := sub [1, 0, 1, 0, 1, 0, 1] B26) ?_
    refine TT.region (id := 3) (n := 1) (ops := (opsOf (sub [1, 0, 1, 0, 1, 0, 0] B26))) [(.pure, none)] rfl ?_
    show DL _ _ _ _ _ _ _ _ _ _ [0] _ _
    refine DL.pu 2 (.int .i64 39) rfl (p_assign rfl rfl) ?_
    refine DL.nil ?_
    obtain rfl := Option.some.inj h2
    exact ret1 Try.func26 rfl (ResV.tmp rfl) rfl
  · replace c1 := Bool.eq_false_iff.mpr c1
    have h3 := ite_false c1 h
    refine TT.cond_false (x := sub [1, 0, 1, 0, 1, 0] B26) (y := sub [1, 0, 1, 0, 1, 1] B26) rfl c1 ?_
    refine TT.seq (x := sub [1, 0, 1, 0, 1, 1, 0] B26) (y := sub [1, 0, 1, 0, 1, 1, 1] B26) ?_
    refine TT.region (id := 4) (n := 2) (ops := (opsOf (sub [1, 0, 1, 0, 1, 1, 0] B26))) [(.pure, none), (.pure, none)] rfl ?_
    show DL _ _ _ _ _ _ _ _ _ _ [0, 1] _ _
    refine DL.pu 7 (.bool (a0 == 2)) rfl (p_eql rfl rfl rfl) ?_
    refine DL.pu 6 (.bool (a0 == 2)) rfl (p_assign rfl rfl) ?_
    refine DL.nil ?_
    by_cases c4 : (a0 == 2) = true
    · have h5 := ite_true c4 h3
      refine TT.cond_true (x := sub [1, 0, 1, 0, 1, 1, 1, 0] B26) (y := sub [1, 0, 1, 0, 1, 1, 1, 1] B26) rfl c4 ?_
      refine TT.seq (x := sub [1, 0, 1, 0, 1, 1, 1, 0, 0] B26) (y := sub [1, 0, 1, 0, 1, 1, 1, 0, 1] B26) ?_
      refine TT.region (id := 5) (n := 1) (ops := (opsOf (sub [1, 0, 1, 0, 1, 1, 1, 0, 0] B26))) [(.pure, none)] rfl ?_
      show DL _ _ _ _ _ _ _ _ _ _ [0] _ _
      refine DL.pu 2 (.int .i64 43) rfl (p_assign rfl rfl) ?_
      refine DL.nil ?_
      obtain rfl := Option.some.inj h5
      exact ret1 Try.func26 rfl (ResV.tmp rfl) rfl
    · replace c4 := Bool.eq_false_iff.mpr c4
      have h6 := ite_false c4 h3
      refine TT.cond_false (x := sub [1, 0, 1, 0, 1, 1, 1, 0] B26) (y := sub [1, 0, 1, 0, 1, 1, 1, 1] B26) rfl c4 ?_
      refine TT.seq (x := sub [1, 0, 1, 0, 1, 1, 1, 1, 0] B26) (y := sub [1, 0, 1, 0, 1, 1, 1, 1, 1] B26) ?_
      refine TT.region (id := 6) (n := 2) (ops := (opsOf (sub [1, 0, 1, 0, 1, 1, 1, 1, 0] B26))) [(.pure, none), (.pure, none)] rfl ?_
      show DL _ _ _ _ _ _ _ _ _ _ [0, 1] _ _
      refine DL.pu 9 (.bool (a0 == 3)) rfl (p_eql rfl rfl rfl) ?_
      refine DL.pu 8 (.bool (a0 == 3)) rfl (p_assign rfl rfl) ?_
      refine DL.nil ?_
      by_cases c7 : (a0 == 3) = true
      · have h8 := ite_true c7 h6
        refine TT.cond_true (x := sub [1, 0, 1, 0, 1, 1, 1, 1, 1, 0] B26) (y := sub [1, 0, 1, 0, 1, 1, 1, 1, 1, 1] B26) rfl c7 ?_
        refine TT.seq (x := sub [1, 0, 1, 0, 1, 1, 1, 1, 1, 0, 0] B26) (y := sub [1, 0, 1, 0, 1, 1, 1, 1, 1, 0, 1] B26) ?_
        refine TT.region (id := 7) (n := 1) (ops := (opsOf (sub [1, 0, 1, 0, 1, 1, 1, 1, 1, 0, 0] B26))) [(.pure, none)] rfl ?_
        show DL _ _ _ _ _ _ _ _ _ _ [0] _ _
        refine DL.pu 2 (.int .i64 51) rfl (p_assign rfl rfl) ?_
        refine DL.nil ?_
        obtain rfl := Option.some.inj h8
        exact ret1 Try.func26 rfl (ResV.tmp rfl) rfl
      · replace c7 := Bool.eq_false_iff.mpr c7
        have h9 := ite_false c7 h6
        refine TT.cond_false (x := sub [1, 0, 1, 0, 1, 1, 1, 1, 1, 0] B26) (y := sub [1, 0, 1, 0, 1, 1, 1, 1, 1, 1] B26) rfl c7 ?_
        refine TT.skip ?_
        refine TT.inBlock ?_
        refine TT.seq (x := sub [1, 1, 0] B26) (y := sub [1, 1, 1] B26) ?_
        refine TT.region (id := 8) (n := 1) (ops := (opsOf (sub [1, 1, 0] B26))) [(.pure, none)] rfl ?_
        show DL _ _ _ _ _ _ _ _ _ _ [0] _ _
        refine DL.pu 2 (.int .i64 0) rfl (p_assign rfl rfl) ?_
        refine DL.nil ?_
        obtain rfl := Option.some.inj h9
        exact ret1 Try.func26 rfl (ResV.tmp rfl) rfl
theorem ref21_OfType.val {a0 : Int} {r : Int} (h : ref21_OfType.f a0 = some r) (w : World) : Calls Try.prog 26 #[.int .i64 a0] w fun e w' => e = .returned (.int .i64 r) ∧ Below w.heap.size w w' :=
  calls_value (ref21_OfType.ok h w)

/-! ### escutcheon/policy.in: function 31 -/
noncomputable def B31 : Code := bodyOf Try.f31
def policy_in.f (a0 : Int) (a1 : Int) : Option (Bool) := (if (decide (0 ≤ a0)) = true then (some ((iandn .i64 a0 a1) == 0)) else (some false)).bind fun q1 => some q1
set_option maxRecDepth 20000 in
theorem policy_in.ok {a0 : Int} {a1 : Int} {r : Bool} (h : policy_in.f a0 a1 = some r) (w : World) : Calls Try.prog 31 #[.int .i64 a0, .int .i64 a1] w (Post (fun u => u = .bool r) w) := by
  unfold policy_in.f at h
  refine calls_of_TT (N := 13) (S := [(0, .int .i64 a0), (1, .int .i64 a1)]) (c := B31) Try.func31 rfl rfl rfl (by simp) ?_
  show TT _ _ _ _ _ _ [.code (sub [] B31)] _ _
  refine TT.seq (x := sub [0] B31) (y := sub [1] B31) ?_
  refine TT.region (id := 0) (n := 1) (ops := (opsOf (sub [0] B31))) [(.pure, none)] rfl ?_
  show DL _ _ _ _ _ _ _ _ _ _ [0] _ _
  refine DL.pu 4 (.bool false) rfl (p_assign rfl rfl) ?_
  refine DL.nil ?_
  refine TT.seq (x := sub [1, 0] B31) (y := sub [1, 1] B31) ?_
  refine TT.region (id := 1) (n := 9) (ops := (opsOf (sub [1, 0] B31))) [(.pure, none), (.pure, none), (.pure, none), (.pure, none), (.pure, none), (.pure, none), (.pure, none), (.pure, none), (.pure, none)] rfl ?_
  show DL _ _ _ _ _ _ _ _ _ _ [0, 1, 2, 3, 4, 5, 6, 7, 8] _ _
  refine DL.pu 5 (.int .i64 a0) rfl (p_move rfl rfl) ?_
  refine DL.pu 6 (.bool (decide (0 ≤ a0))) rfl (p_geq rfl rfl rfl) ?_
  refine DL.pu 7 (.bool (decide (0 ≤ a0))) rfl (p_move rfl rfl) ?_
  obtain ⟨q1, h2, h3⟩ := bind_some h
  refine DL.cut [(12, .bool q1)] [8] ?_ (fun J4 => ?_)
  · refine DL.pu 4 (.bool q1) rfl (p_assign rfl rfl) ?_
    refine DL.nil ?_
    obtain rfl := Option.some.inj h3
    exact ret1 Try.func31 rfl (ResV.tmp rfl) rfl
  · by_cases c5 : (decide (0 ≤ a0)) = true
    · have h6 := ite_true c5 h2
      refine DL.pure (v := .int .i64 a0) rfl (Wn.yes c5 rfl rfl rfl rfl) rfl rfl rfl (p_move rfl rfl) ?_
      refine DL.pure (v := .int .i64 a1) rfl (Wn.yes c5 rfl rfl rfl rfl) rfl rfl rfl (p_move rfl rfl) ?_
      refine DL.pure (v := .int .i64 (iandn .i64 a0 a1)) rfl (Wn.yes c5 rfl rfl rfl rfl) rfl rfl rfl (p_andNot rfl rfl rfl) ?_
      refine DL.pure (v := .bool ((iandn .i64 a0 a1) == 0)) rfl (Wn.yes c5 rfl rfl rfl rfl) rfl rfl rfl (p_eql rfl rfl rfl) ?_
      refine DL.pu 12 (.bool ((iandn .i64 a0 a1) == 0)) rfl (p_pick_t c5 rfl rfl rfl) ?_
      obtain rfl := Option.some.inj h6
      exact DL.weak J4 (Sub.cons rfl (Sub.nil _))
    · replace c5 := Bool.eq_false_iff.mpr c5
      have h7 := ite_false c5 h2
      refine DL.not (i := 3) rfl (Wn.no c5 rfl rfl rfl rfl) rfl rfl ?_
      refine DL.not (i := 4) rfl (Wn.no c5 rfl rfl rfl rfl) rfl rfl ?_
      refine DL.not (i := 5) rfl (Wn.no c5 rfl rfl rfl rfl) rfl rfl ?_
      refine DL.not (i := 6) rfl (Wn.no c5 rfl rfl rfl rfl) rfl rfl ?_
      refine DL.pu 12 (.bool false) rfl (p_pick_f c5 rfl rfl rfl) ?_
      obtain rfl := Option.some.inj h7
      exact DL.weak J4 (Sub.cons rfl (Sub.nil _))
theorem policy_in.val {a0 : Int} {a1 : Int} {r : Bool} (h : policy_in.f a0 a1 = some r) (w : World) : Calls Try.prog 31 #[.int .i64 a0, .int .i64 a1] w fun e w' => e = .returned (.bool r) ∧ Below w.heap.size w w' :=
  calls_value (policy_in.ok h w)

/-! ### escutcheon/escutcheonref21.Has: function 34 -/
noncomputable def B34 : Code := bodyOf Try.f34
def ref21_Has.f (a0 : Int) (a1 : Int) : Option (Bool) := req (a1 ≠ 0) (nm ((Int.tmod (IntKind.i64.wrap (Int.tdiv a0 a1)) 2) == 1) fun t3 => some t3)
set_option maxRecDepth 20000 in
theorem ref21_Has.ok {a0 : Int} {a1 : Int} {r : Bool} (h : ref21_Has.f a0 a1 = some r) (w : World) : Calls Try.prog 34 #[.int .i64 a0, .int .i64 a1] w (Post (fun u => u = .bool r) w) := by
  unfold ref21_Has.f at h
  refine calls_of_TT (N := 10) (S := [(0, .int .i64 a0), (1, .int .i64 a1)]) (c := B34) Try.func34 rfl rfl rfl (by simp) ?_
  show TT _ _ _ _ _ _ [.code (sub [] B34)] _ _
  refine TT.seq (x := sub [0] B34) (y := sub [1] B34) ?_
  refine TT.region (id := 0) (n := 1) (ops := (opsOf (sub [0] B34))) [(.pure, none)] rfl ?_
  show DL _ _ _ _ _ _ _ _ _ _ [0] _ _
  refine DL.pu 4 (.bool false) rfl (p_assign rfl rfl) ?_
  refine DL.nil ?_
  refine TT.seq (x := sub [1, 0] B34) (y := sub [1, 1] B34) ?_
  refine TT.region (id := 1) (n := 6) (ops := (opsOf (sub [1, 0] B34))) [(.pure, none), (.pure, none), (.pure, none), (.pure, none), (.pure, none), (.pure, none)] rfl ?_
  show DL _ _ _ _ _ _ _ _ _ _ [0, 1, 2, 3, 4, 5] _ _
  refine DL.pu 5 (.int .i64 a0) rfl (p_move rfl rfl) ?_
  refine DL.pu 6 (.int .i64 a1) rfl (p_move rfl rfl) ?_
  obtain ⟨g1, h2⟩ := req_some h
  refine DL.pu 7 (.int .i64 (IntKind.i64.wrap (Int.tdiv a0 a1))) rfl (p_quo g1 rfl rfl rfl) ?_
  refine DL.pu 8 (.int .i64 (Int.tmod (IntKind.i64.wrap (Int.tdiv a0 a1)) 2)) rfl (p_rem (by decide) rfl rfl rfl) ?_
  obtain ⟨t3, e4, h5⟩ := nm_some h2
  refine DL.pu 9 (.bool t3) rfl (by rw [e4]; exact p_eql rfl rfl rfl) ?_
  refine DL.pu 4 (.bool t3) rfl (p_assign rfl rfl) ?_
  refine DL.nil ?_
  obtain rfl := Option.some.inj h5
  exact ret1 Try.func34 rfl (ResV.tmp rfl) rfl
theorem ref21_Has.val {a0 : Int} {a1 : Int} {r : Bool} (h : ref21_Has.f a0 a1 = some r) (w : World) : Calls Try.prog 34 #[.int .i64 a0, .int .i64 a1] w fun e w' => e = .returned (.bool r) ∧ Below w.heap.size w w' :=
  calls_value (ref21_Has.ok h w)

/-! ### escutcheon/escutcheonref21.In: function 32 -/
noncomputable def B32 : Code := bodyOf Try.f32
def ref21_In.L0 (a0 : Int) (a1 : Int) : Nat → Int → Option ((Unit) ⊕ (Bool))
  | 0, _ => none
  | k + 1, x5_18 => if (decide (x5_18 < 64)) = true then ((ref21_Has.f a0 x5_18).bind fun t90 => (if t90 = true then ((ref21_Has.f a1 x5_18).bind fun t99 => some (!t99)) else (some false)).bind fun q93 => if q93 = true then (some (.inr false)) else (ref21_In.L0 a0 a1 k (IntKind.i64.wrap (2 * x5_18)))) else (some (.inl ()))
set_option maxRecDepth 20000 in
theorem ref21_In.L0_ok (a0 : Int) (a1 : Int) {p : Value → Prop} {w0 : World} {K : List Item} :
    ∀ (k : Nat) (x5_18 : Int) (q : (Unit) ⊕ (Bool)) (h : ref21_In.L0 a0 a1 k x5_18 = some q) (hk : match (generalizing := false) q with | .inl () => (TT Try.prog 32 (Post p w0) 29 w0 (heapOf w0) K [] []) | .inr rq => p (.bool rq)),
      TT Try.prog 32 (Post p w0) 29 w0 (heapOf w0) (.code (sub [1, 1, 0, 1, 0, 0] B32) :: .inLoop (sub [1, 1, 0, 1, 0, 0] B32) :: .inBlock 0 :: K) [(0, .int .i64 a0), (1, .int .i64 a1), (5, .int .i64 x5_18)] [] := by
  intro k
  induction k with
  | zero => intro x5_18 q h; simp [ref21_In.L0] at h
  | succ k ih =>
    intro x5_18 q h hk
    unfold ref21_In.L0 at h
    refine TT.seq (x := sub [1, 1, 0, 1, 0, 0, 0] B32) (y := sub [1, 1, 0, 1, 0, 0, 1] B32) ?_
    refine TT.seq (x := sub [1, 1, 0, 1, 0, 0, 0, 0] B32) (y := sub [1, 1, 0, 1, 0, 0, 0, 1] B32) ?_
    refine TT.region (id := 4) (n := 2) (ops := (opsOf (sub [1, 1, 0, 1, 0, 0, 0, 0] B32))) [(.pure, none), (.pure, none)] rfl ?_
    show DL _ _ _ _ _ _ _ _ _ _ [0, 1] _ _
    refine DL.pu 16 (.int .i64 x5_18) rfl (p_move rfl rfl) ?_
    refine DL.pu 17 (.bool (decide (x5_18 < 64))) rfl (p_lss rfl rfl rfl) ?_
    refine DL.nil ?_
    by_cases c88 : (decide (x5_18 < 64)) = true
    · have h89 := ite_true c88 h
      refine TT.cond_true (x := sub [1, 1, 0, 1, 0, 0, 0, 1, 0] B32) (y := sub [1, 1, 0, 1, 0, 0, 0, 1, 1] B32) rfl c88 ?_
      refine TT.skip ?_
      refine TT.seq (x := sub [1, 1, 0, 1, 0, 0, 1, 0] B32) (y := sub [1, 1, 0, 1, 0, 0, 1, 1] B32) ?_
      refine TT.block (c := sub [1, 1, 0, 1, 0, 0, 1, 0, 0] B32) ?_
      refine TT.seq (x := sub [1, 1, 0, 1, 0, 0, 1, 0, 0, 0] B32) (y := sub [1, 1, 0, 1, 0, 0, 1, 0, 0, 1] B32) ?_
      refine TT.region (id := 6) (n := 9) (ops := (opsOf (sub [1, 1, 0, 1, 0, 0, 1, 0, 0, 0] B32))) [(.pure, none), (.pure, none), (.quiet, none), (.pure, none), (.pure, none), (.pure, none), (.quiet, none), (.pure, none), (.pure, none)] rfl ?_
      show DL _ _ _ _ _ _ _ _ _ _ [0, 1, 2, 3, 4, 5, 6, 7, 8] _ _
      refine DL.pu 20 (.int .i64 a0) rfl (p_move rfl rfl) ?_
      refine DL.pu 21 (.int .i64 x5_18) rfl (p_move rfl rfl) ?_
      obtain ⟨t90, h91, h92⟩ := bind_some h89
      refine DL.qu 22 (.bool t90) rfl (f_call rfl rfl (args_val (vs := [.int .i64 a0, .int .i64 x5_18]) rfl) (fun w => enter34 _ w) (fun w => ref21_Has.val h91 w)) ?_
      refine DL.pu 23 (.bool t90) rfl (p_move rfl rfl) ?_
      obtain ⟨q93, h94, h95⟩ := bind_some h92
      refine DL.cut [(0, .int .i64 a0), (1, .int .i64 a1), (5, .int .i64 x5_18), (28, .bool q93)] [] ?_ (fun J96 => ?_)
      · refine DL.nil ?_
        by_cases c103 : q93 = true
        · have h104 := ite_true c103 h95
          refine TT.cond_true (x := sub [1, 1, 0, 1, 0, 0, 1, 0, 0, 1, 0] B32) (y := sub [1, 1, 0, 1, 0, 0, 1, 0, 0, 1, 1] B32) rfl c103 ?_
          refine TT.seq (x := sub [1, 1, 0, 1, 0, 0, 1, 0, 0, 1, 0, 0] B32) (y := sub [1, 1, 0, 1, 0, 0, 1, 0, 0, 1, 0, 1] B32) ?_
          refine TT.region (id := 7) (n := 1) (ops := (opsOf (sub [1, 1, 0, 1, 0, 0, 1, 0, 0, 1, 0, 0] B32))) [(.pure, none)] rfl ?_
          show DL _ _ _ _ _ _ _ _ _ _ [0] _ _
          refine DL.pu 4 (.bool false) rfl (p_assign rfl rfl) ?_
          refine DL.nil ?_
          obtain rfl := Option.some.inj h104
          exact ret1 Try.func32 rfl (ResV.tmp rfl) (hk)
        · replace c103 := Bool.eq_false_iff.mpr c103
          have h105 := ite_false c103 h95
          refine TT.cond_false (x := sub [1, 1, 0, 1, 0, 0, 1, 0, 0, 1, 0] B32) (y := sub [1, 1, 0, 1, 0, 0, 1, 0, 0, 1, 1] B32) rfl c103 ?_
          refine TT.skip ?_
          refine TT.inBlock ?_
          refine TT.region (id := 5) (n := 3) (ops := (opsOf (sub [1, 1, 0, 1, 0, 0, 1, 1] B32))) [(.pure, none), (.pure, none), (.pure, none)] rfl ?_
          show DL _ _ _ _ _ _ _ _ _ _ [0, 1, 2] _ _
          refine DL.pu 18 (.int .i64 x5_18) rfl (p_move rfl rfl) ?_
          refine DL.pu 19 (.int .i64 (IntKind.i64.wrap (2 * x5_18))) rfl (p_mul rfl rfl rfl) ?_
          refine DL.pu 5 (.int .i64 (IntKind.i64.wrap (2 * x5_18))) rfl (p_assign rfl rfl) ?_
          refine DL.nil ?_
          refine TT.inLoop ?_
          exact TT.weak (ih (IntKind.i64.wrap (2 * x5_18)) _ h105 hk) (Sub.cons rfl (Sub.cons rfl (Sub.cons rfl (Sub.nil _))))
      · by_cases c97 : t90 = true
        · have h98 := ite_true c97 h94
          refine DL.pure (v := .int .i64 a1) rfl (Wn.yes c97 rfl rfl rfl rfl) rfl rfl rfl (p_move rfl rfl) ?_
          refine DL.pure (v := .int .i64 x5_18) rfl (Wn.yes c97 rfl rfl rfl rfl) rfl rfl rfl (p_move rfl rfl) ?_
          obtain ⟨t99, h100, h101⟩ := bind_some h98
          refine DL.quiet (v := .bool t99) rfl (Wn.yes c97 rfl rfl rfl rfl) rfl rfl rfl (f_call rfl rfl (args_val (vs := [.int .i64 a1, .int .i64 x5_18]) rfl) (fun w => enter34 _ w) (fun w => ref21_Has.val h100 w)) ?_
          refine DL.pure (v := .bool (!t99)) rfl (Wn.yes c97 rfl rfl rfl rfl) rfl rfl rfl (p_not rfl rfl) ?_
          refine DL.pu 28 (.bool (!t99)) rfl (p_pick_t c97 rfl rfl rfl) ?_
          obtain rfl := Option.some.inj h101
          exact DL.weak J96 (Sub.cons rfl (Sub.cons rfl (Sub.cons rfl (Sub.cons rfl (Sub.nil _)))))
        · replace c97 := Bool.eq_false_iff.mpr c97
          have h102 := ite_false c97 h94
          refine DL.not (i := 4) rfl (Wn.no c97 rfl rfl rfl rfl) rfl rfl ?_
          refine DL.not (i := 5) rfl (Wn.no c97 rfl rfl rfl rfl) rfl rfl ?_
          refine DL.not (i := 6) rfl (Wn.no c97 rfl rfl rfl rfl) rfl rfl ?_
          refine DL.not (i := 7) rfl (Wn.no c97 rfl rfl rfl rfl) rfl rfl ?_
          refine DL.pu 28 (.bool false) rfl (p_pick_f c97 rfl rfl rfl) ?_
          obtain rfl := Option.some.inj h102
          exact DL.weak J96 (Sub.cons rfl (Sub.cons rfl (Sub.cons rfl (Sub.cons rfl (Sub.nil _)))))
    · replace c88 := Bool.eq_false_iff.mpr c88
      have h106 := ite_false c88 h
      refine TT.cond_false (x := sub [1, 1, 0, 1, 0, 0, 0, 1, 0] B32) (y := sub [1, 1, 0, 1, 0, 0, 0, 1, 1] B32) rfl c88 ?_
      refine TT.exit rfl ?_
      obtain rfl := Option.some.inj h106
      exact TT.weak (hk) (Sub.nil _)

def ref21_In.f (a0 : Int) (a1 : Int) : Option (Bool) := (if (decide (a0 < 0)) = true then (some true) else (some (decide (63 < a0)))).bind fun q1 => (if q1 = true then (some true) else (some (decide (a1 < 0)))).bind fun q8 => if q8 = true then (some false) else (onw (ref21_In.L0 a0 a1 8 1) (fun _ => some true) (fun r => some r))
set_option maxRecDepth 20000 in
theorem ref21_In.ok {a0 : Int} {a1 : Int} {r : Bool} (h : ref21_In.f a0 a1 = some r) (w : World) : Calls Try.prog 32 #[.int .i64 a0, .int .i64 a1] w (Post (fun u => u = .bool r) w) := by
  unfold ref21_In.f at h
  refine calls_of_TT (N := 29) (S := [(0, .int .i64 a0), (1, .int .i64 a1)]) (c := B32) Try.func32 rfl rfl rfl (by simp) ?_
  show TT _ _ _ _ _ _ [.code (sub [] B32)] _ _
  refine TT.seq (x := sub [0] B32) (y := sub [1] B32) ?_
  refine TT.region (id := 0) (n := 1) (ops := (opsOf (sub [0] B32))) [(.pure, none)] rfl ?_
  show DL _ _ _ _ _ _ _ _ _ _ [0] _ _
  refine DL.pu 4 (.bool false) rfl (p_assign rfl rfl) ?_
  refine DL.nil ?_
  refine TT.seq (x := sub [1, 0] B32) (y := sub [1, 1] B32) ?_
  refine TT.seq (x := sub [1, 0, 0] B32) (y := sub [1, 0, 1] B32) ?_
  refine TT.region (id := 1) (n := 10) (ops := (opsOf (sub [1, 0, 0] B32))) [(.pure, none), (.pure, none), (.pure, none), (.pure, none), (.pure, none), (.pure, none), (.pure, none), (.pure, none), (.pure, none), (.pure, none)] rfl ?_
  show DL _ _ _ _ _ _ _ _ _ _ [0, 1, 2, 3, 4, 5, 6, 7, 8, 9] _ _
  refine DL.pu 6 (.int .i64 a0) rfl (p_move rfl rfl) ?_
  refine DL.pu 7 (.bool (decide (a0 < 0))) rfl (p_lss rfl rfl rfl) ?_
  refine DL.pu 8 (.bool (decide (a0 < 0))) rfl (p_move rfl rfl) ?_
  obtain ⟨q1, h2, h3⟩ := bind_some h
  refine DL.cut [(0, .int .i64 a0), (1, .int .i64 a1), (11, .bool q1)] [6, 7, 8, 9] ?_ (fun J4 => ?_)
  · refine DL.pu 12 (.bool q1) rfl (p_move rfl rfl) ?_
    obtain ⟨q8, h9, h10⟩ := bind_some h3
    refine DL.cut [(0, .int .i64 a0), (1, .int .i64 a1), (15, .bool q8)] [] ?_ (fun J11 => ?_)
    · refine DL.nil ?_
      by_cases c15 : q8 = true
      · have h16 := ite_true c15 h10
        refine TT.cond_true (x := sub [1, 0, 1, 0] B32) (y := sub [1, 0, 1, 1] B32) rfl c15 ?_
        refine TT.seq (x := sub [1, 0, 1, 0, 0] B32) (y := sub [1, 0, 1, 0, 1] B32) ?_
        refine TT.region (id := 2) (n := 1) (ops := (opsOf (sub [1, 0, 1, 0, 0] B32))) [(.pure, none)] rfl ?_
        show DL _ _ _ _ _ _ _ _ _ _ [0] _ _
        refine DL.pu 4 (.bool false) rfl (p_assign rfl rfl) ?_
        refine DL.nil ?_
        obtain rfl := Option.some.inj h16
        exact ret1 Try.func32 rfl (ResV.tmp rfl) rfl
      · replace c15 := Bool.eq_false_iff.mpr c15
        have h17 := ite_false c15 h10
        refine TT.cond_false (x := sub [1, 0, 1, 0] B32) (y := sub [1, 0, 1, 1] B32) rfl c15 ?_
        refine TT.skip ?_
        refine TT.seq (x := sub [1, 1, 0] B32) (y := sub [1, 1, 1] B32) ?_
        refine TT.seq (x := sub [1, 1, 0, 0] B32) (y := sub [1, 1, 0, 1] B32) ?_
        refine TT.region (id := 3) (n := 1) (ops := (opsOf (sub [1, 1, 0, 0] B32))) [(.pure, none)] rfl ?_
        show DL _ _ _ _ _ _ _ _ _ _ [0] _ _
        refine DL.pu 5 (.int .i64 1) rfl (p_assign rfl rfl) ?_
        refine DL.nil ?_
        refine TT.block (c := sub [1, 1, 0, 1, 0] B32) ?_
        refine TT.loop (c := sub [1, 1, 0, 1, 0, 0] B32) ?_
        rcases onw_some h17 with ⟨_, h107, h108⟩ | ⟨r109, h107, h108⟩
        · refine TT.weak (ref21_In.L0_ok a0 a1 8 1 (.inl ()) h107 (?_)) (Sub.cons rfl (Sub.cons rfl (Sub.cons rfl (Sub.nil _))))
          show TT _ _ _ _ _ _ _ _ _
          refine TT.seq (x := sub [1, 1, 1, 0] B32) (y := sub [1, 1, 1, 1] B32) ?_
          refine TT.region (id := 8) (n := 1) (ops := (opsOf (sub [1, 1, 1, 0] B32))) [(.pure, none)] rfl ?_
          show DL _ _ _ _ _ _ _ _ _ _ [0] _ _
          refine DL.pu 4 (.bool true) rfl (p_assign rfl rfl) ?_
          refine DL.nil ?_
          obtain rfl := Option.some.inj h108
          exact ret1 Try.func32 rfl (ResV.tmp rfl) rfl
        · obtain rfl := Option.some.inj h108
          exact TT.weak (ref21_In.L0_ok a0 a1 8 1 (.inr r109) h107 (rfl)) (Sub.cons rfl (Sub.cons rfl (Sub.cons rfl (Sub.nil _))))
    · by_cases c12 : q1 = true
      · have h13 := ite_true c12 h9
        refine DL.not (i := 7) rfl (Wn.yes c12 rfl rfl rfl rfl) rfl rfl ?_
        refine DL.not (i := 8) rfl (Wn.yes c12 rfl rfl rfl rfl) rfl rfl ?_
        refine DL.pu 15 (.bool true) rfl (p_pick_t c12 rfl rfl rfl) ?_
        obtain rfl := Option.some.inj h13
        exact DL.weak J11 (Sub.cons rfl (Sub.cons rfl (Sub.cons rfl (Sub.nil _))))
      · replace c12 := Bool.eq_false_iff.mpr c12
        have h14 := ite_false c12 h9
        refine DL.pure (v := .int .i64 a1) rfl (Wn.no c12 rfl rfl rfl rfl) rfl rfl rfl (p_move rfl rfl) ?_
        refine DL.pure (v := .bool (decide (a1 < 0))) rfl (Wn.no c12 rfl rfl rfl rfl) rfl rfl rfl (p_lss rfl rfl rfl) ?_
        refine DL.pu 15 (.bool (decide (a1 < 0))) rfl (p_pick_f c12 rfl rfl rfl) ?_
        obtain rfl := Option.some.inj h14
        exact DL.weak J11 (Sub.cons rfl (Sub.cons rfl (Sub.cons rfl (Sub.nil _))))
  · by_cases c5 : (decide (a0 < 0)) = true
    · have h6 := ite_true c5 h2
      refine DL.not (i := 3) rfl (Wn.yes c5 rfl rfl rfl rfl) rfl rfl ?_
      refine DL.not (i := 4) rfl (Wn.yes c5 rfl rfl rfl rfl) rfl rfl ?_
      refine DL.pu 11 (.bool true) rfl (p_pick_t c5 rfl rfl rfl) ?_
      obtain rfl := Option.some.inj h6
      exact DL.weak J4 (Sub.cons rfl (Sub.cons rfl (Sub.cons rfl (Sub.nil _))))
    · replace c5 := Bool.eq_false_iff.mpr c5
      have h7 := ite_false c5 h2
      refine DL.pure (v := .int .i64 a0) rfl (Wn.no c5 rfl rfl rfl rfl) rfl rfl rfl (p_move rfl rfl) ?_
      refine DL.pure (v := .bool (decide (63 < a0))) rfl (Wn.no c5 rfl rfl rfl rfl) rfl rfl rfl (p_gtr rfl rfl rfl) ?_
      refine DL.pu 11 (.bool (decide (63 < a0))) rfl (p_pick_f c5 rfl rfl rfl) ?_
      obtain rfl := Option.some.inj h7
      exact DL.weak J4 (Sub.cons rfl (Sub.cons rfl (Sub.cons rfl (Sub.nil _))))
theorem ref21_In.val {a0 : Int} {a1 : Int} {r : Bool} (h : ref21_In.f a0 a1 = some r) (w : World) : Calls Try.prog 32 #[.int .i64 a0, .int .i64 a1] w fun e w' => e = .returned (.bool r) ∧ Below w.heap.size w w' :=
  calls_value (ref21_In.ok h w)

/-! ### escutcheon/policy.MayCard: function 22 -/
noncomputable def B22 : Code := bodyOf Try.f22
def policy_MayCard.f (a0_0 : Int) (a0_1 : Int) (a0_2 : Int) (a0_3 : Int) : Option (Bool) := (policy_OfType.f a0_0).bind fun t3 => (if (t3 != 0) = true then (some (decide (1 ≤ a0_1))) else (some false)).bind fun q6 => (if q6 = true then (some (decide (a0_1 ≤ 4))) else (some false)).bind fun q13 => (if q13 = true then ((policy_OfType.f a0_0).bind fun t26 => (policy_in.f a0_3 t26).bind fun t29 => some t29) else (some false)).bind fun q20 => (if q20 = true then ((policy_in.f a0_2 a0_3).bind fun t39 => some t39) else (some false)).bind fun q33 => (if q33 = true then ((if (a0_1 != 2) = true then (some true) else (some ((iand .i64 a0_3 1) != 0))).bind fun q49 => some q49) else (some false)).bind fun q43 => some q43
set_option maxRecDepth 20000 in
theorem policy_MayCard.ok {a0_0 : Int} {a0_1 : Int} {a0_2 : Int} {a0_3 : Int} {r : Bool} (h : policy_MayCard.f a0_0 a0_1 a0_2 a0_3 = some r) (w : World) : Calls Try.prog 22 #[.agg #[.int .i64 a0_0, .int .i64 a0_1, .int .i64 a0_2, .int .i64 a0_3]] w (Post (fun u => u = .bool r) w) := by
  unfold policy_MayCard.f at h
  refine calls_of_TT (N := 43) (S := [(0, .agg #[.int .i64 a0_0, .int .i64 a0_1, .int .i64 a0_2, .int .i64 a0_3])]) (c := B22) Try.func22 rfl rfl rfl (by simp) ?_
  show TT _ _ _ _ _ _ [.code (sub [] B22)] _ _
  refine TT.seq (x := sub [0] B22) (y := sub [1] B22) ?_
  refine TT.region (id := 0) (n := 2) (ops := (opsOf (sub [0] B22))) [(.alloc, none), (.pure, none)] rfl ?_
  show DL _ _ _ _ _ _ _ _ _ _ [0, 1] _ _
  refine DL.new (ob := .cells (#[.int .i64 a0_0, .int .i64 a0_1, .int .i64 a0_2, .int .i64 a0_3]) 26) (mk := fun b => ptr b 0) (i := 0) rfl (Wn.none rfl) rfl rfl rfl (f_box (v := .agg #[.int .i64 a0_0, .int .i64 a0_1, .int .i64 a0_2, .int .i64 a0_3]) rfl rfl) ?_
  intro b1 hb1
  refine DL.pu 2 (.bool false) rfl (p_assign rfl rfl) ?_
  refine DL.nil ?_
  refine TT.seq (x := sub [1, 0] B22) (y := sub [1, 1] B22) ?_
  refine TT.regionD (id := 1) (ops := (opsOf (sub [1, 0] B22))) [0, 1, 2, 3, 4, 5, 6, 7, 8, 9, 10, 11, 12, 13, 14, 15, 16, 17, 18, 19, 20, 21, 22, 23, 24, 25, 26, 27, 28, 29, 30, 31, 32, 33, 34, 35, 36, 37, 38, 39, 40] [0, 1, 3, 7, 15, 31, 63, 127, 255, 511, 1023, 2047, 4095, 8191, 16383, 32767, 65535, 32767, 163839, 425983, 1048575, 2097151, 4194303, 8388607, 16777215, 8388607, 41943039, 134217727, 268435455, 536870911, 1073741823, 2147483647, 4294967295, 8589934591, 17179869183, 34359738367, 68719476735, 137438953471, 274877906943, 549755813887, 1099511627775] [(.pure, none), (.look, some 0), (.quiet, none), (.pure, none), (.pure, none), (.pure, none), (.look, some 0), (.pure, none), (.pure, none), (.pure, none), (.pure, none), (.look, some 0), (.pure, none), (.pure, none), (.pure, none), (.pure, none), (.look, some 0), (.pure, none), (.look, some 0), (.quiet, none), (.quiet, none), (.pure, none), (.pure, none), (.pure, none), (.look, some 0), (.pure, none), (.look, some 0), (.quiet, none), (.pure, none), (.pure, none), (.pure, none), (.look, some 0), (.pure, none), (.pure, none), (.pure, none), (.look, some 0), (.pure, none), (.pure, none), (.pure, none), (.pure, none), (.pure, none)] mixed (by kernel_rfl) ?_
  intro w2 hl2 hj2 hz2
  refine DL.pu 3 (ptr b1 0) rfl (p_fieldAddr ty_f26_0 rfl rfl) ?_
  refine DL.look (v := .int .i64 a0_0) (x := 0) (b := b1) (i := 1) rfl (Wn.none rfl) rfl rfl rfl rfl rfl (List.mem_of_getElem? (i := 0) rfl) (b_load ty_a22 rfl rfl rfl) ?_
  obtain ⟨t3, h4, h5⟩ := bind_some h
  refine DL.qu 5 (.int .i64 t3) rfl (f_call rfl rfl (args_val (vs := [.int .i64 a0_0]) rfl) (fun w => enter25 _ w) (fun w => policy_OfType.val h4 w)) ?_
  refine DL.pu 6 (.bool (t3 != 0)) rfl (p_neq rfl rfl rfl) ?_
  refine DL.pu 7 (.bool (t3 != 0)) rfl (p_move rfl rfl) ?_
  obtain ⟨q6, h7, h8⟩ := bind_some h5
  refine DL.cut [(1, ptr b1 0), (11, .bool q6)] [9, 10, 11, 12, 13, 14, 15, 16, 17, 18, 19, 20, 21, 22, 23, 24, 25, 26, 27, 28, 29, 30, 31, 32, 33, 34, 35, 36, 37, 38, 39, 40] ?_ (fun J9 => ?_)
  · refine DL.pu 12 (.bool q6) rfl (p_move rfl rfl) ?_
    obtain ⟨q13, h14, h15⟩ := bind_some h8
    refine DL.cut [(1, ptr b1 0), (16, .bool q13)] [14, 15, 16, 17, 18, 19, 20, 21, 22, 23, 24, 25, 26, 27, 28, 29, 30, 31, 32, 33, 34, 35, 36, 37, 38, 39, 40] ?_ (fun J16 => ?_)
    · refine DL.pu 17 (.bool q13) rfl (p_move rfl rfl) ?_
      obtain ⟨q20, h21, h22⟩ := bind_some h15
      refine DL.cut [(1, ptr b1 0), (24, .bool q20)] [22, 23, 24, 25, 26, 27, 28, 29, 30, 31, 32, 33, 34, 35, 36, 37, 38, 39, 40] ?_ (fun J23 => ?_)
      · refine DL.pu 25 (.bool q20) rfl (p_move rfl rfl) ?_
        obtain ⟨q33, h34, h35⟩ := bind_some h22
        refine DL.cut [(1, ptr b1 0), (31, .bool q33)] [29, 30, 31, 32, 33, 34, 35, 36, 37, 38, 39, 40] ?_ (fun J36 => ?_)
        · refine DL.pu 32 (.bool q33) rfl (p_move rfl rfl) ?_
          obtain ⟨q43, h44, h45⟩ := bind_some h35
          refine DL.cut [(42, .bool q43)] [40] ?_ (fun J46 => ?_)
          · refine DL.pu 2 (.bool q43) rfl (p_assign rfl rfl) ?_
            refine DL.nil' hl2 ?_
            obtain rfl := Option.some.inj h45
            exact ret1 Try.func22 rfl (ResV.tmp rfl) rfl
          · by_cases c47 : q33 = true
            · have h48 := ite_true c47 h44
              refine DL.pure (v := ptr b1 1) rfl (Wn.yes c47 rfl rfl rfl rfl) rfl rfl rfl (p_fieldAddr ty_f26_1 rfl rfl) ?_
              refine DL.look (v := .int .i64 a0_1) (x := 0) (b := b1) (i := 31) rfl (Wn.yes c47 rfl rfl rfl rfl) rfl rfl rfl rfl rfl (List.mem_of_getElem? (i := 0) rfl) (b_load ty_a23 rfl rfl rfl) ?_
              refine DL.pure (v := .bool (a0_1 != 2)) rfl (Wn.yes c47 rfl rfl rfl rfl) rfl rfl rfl (p_neq rfl rfl rfl) ?_
              refine DL.pure (v := .bool (a0_1 != 2)) rfl (Wn.yes c47 rfl rfl rfl rfl) rfl rfl rfl (p_move rfl rfl) ?_
              obtain ⟨q49, h50, h51⟩ := bind_some h48
              refine DL.cut [(32, .bool q33), (41, .bool q49)] [39, 40] ?_ (fun J52 => ?_)
              · refine DL.pu 42 (.bool q49) rfl (p_pick_t c47 rfl rfl rfl) ?_
                obtain rfl := Option.some.inj h51
                exact DL.weak J46 (Sub.cons rfl (Sub.nil _))
              · by_cases c53 : (a0_1 != 2) = true
                · have h54 := ite_true c53 h50
                  refine DL.not (i := 34) rfl (Wn.yes c53 rfl rfl rfl rfl) rfl rfl ?_
                  refine DL.not (i := 35) rfl (Wn.yes c53 rfl rfl rfl rfl) rfl rfl ?_
                  refine DL.not (i := 36) rfl (Wn.yes c53 rfl rfl rfl rfl) rfl rfl ?_
                  refine DL.not (i := 37) rfl (Wn.yes c53 rfl rfl rfl rfl) rfl rfl ?_
                  refine DL.pure (v := .bool true) rfl (Wn.yes c47 rfl rfl rfl rfl) rfl rfl rfl (p_pick_t c53 rfl rfl rfl) ?_
                  obtain rfl := Option.some.inj h54
                  exact DL.weak J52 (Sub.cons rfl (Sub.cons rfl (Sub.nil _)))
                · replace c53 := Bool.eq_false_iff.mpr c53
                  have h55 := ite_false c53 h50
                  refine DL.pure (v := ptr b1 3) rfl (Wn.no c53 rfl rfl rfl rfl) rfl rfl rfl (p_fieldAddr ty_f26_3 rfl rfl) ?_
                  refine DL.look (v := .int .i64 a0_3) (x := 0) (b := b1) (i := 35) rfl (Wn.no c53 rfl rfl rfl rfl) rfl rfl rfl rfl rfl (List.mem_of_getElem? (i := 0) rfl) (b_load ty_a24 rfl rfl rfl) ?_
                  refine DL.pure (v := .int .i64 (iand .i64 a0_3 1)) rfl (Wn.no c53 rfl rfl rfl rfl) rfl rfl rfl (p_and rfl rfl rfl) ?_
                  refine DL.pure (v := .bool ((iand .i64 a0_3 1) != 0)) rfl (Wn.no c53 rfl rfl rfl rfl) rfl rfl rfl (p_neq rfl rfl rfl) ?_
                  refine DL.pure (v := .bool ((iand .i64 a0_3 1) != 0)) rfl (Wn.yes c47 rfl rfl rfl rfl) rfl rfl rfl (p_pick_f c53 rfl rfl rfl) ?_
                  obtain rfl := Option.some.inj h55
                  exact DL.weak J52 (Sub.cons rfl (Sub.cons rfl (Sub.nil _)))
            · replace c47 := Bool.eq_false_iff.mpr c47
              have h56 := ite_false c47 h44
              refine DL.not (i := 30) rfl (Wn.no c47 rfl rfl rfl rfl) rfl rfl ?_
              refine DL.not (i := 31) rfl (Wn.no c47 rfl rfl rfl rfl) rfl rfl ?_
              refine DL.not (i := 32) rfl (Wn.no c47 rfl rfl rfl rfl) rfl rfl ?_
              refine DL.not (i := 33) rfl (Wn.no c47 rfl rfl rfl rfl) rfl rfl ?_
              refine DL.not (i := 34) rfl (Wn.undef rfl rfl rfl) rfl rfl ?_
              refine DL.not (i := 35) rfl (Wn.undef rfl rfl rfl) rfl rfl ?_
              refine DL.not (i := 36) rfl (Wn.undef rfl rfl rfl) rfl rfl ?_
              refine DL.not (i := 37) rfl (Wn.undef rfl rfl rfl) rfl rfl ?_
              refine DL.not (i := 38) rfl (Wn.no c47 rfl rfl rfl rfl) rfl rfl ?_
              refine DL.pu 42 (.bool false) rfl (p_pick_f c47 rfl rfl rfl) ?_
              obtain rfl := Option.some.inj h56
              exact DL.weak J46 (Sub.cons rfl (Sub.nil _))
        · by_cases c37 : q20 = true
          · have h38 := ite_true c37 h34
            refine DL.pure (v := ptr b1 2) rfl (Wn.yes c37 rfl rfl rfl rfl) rfl rfl rfl (p_fieldAddr ty_f26_2 rfl rfl) ?_
            refine DL.look (v := .int .i64 a0_2) (x := 0) (b := b1) (i := 24) rfl (Wn.yes c37 rfl rfl rfl rfl) rfl rfl rfl rfl rfl (List.mem_of_getElem? (i := 0) rfl) (b_load ty_a24 rfl rfl rfl) ?_
            refine DL.pure (v := ptr b1 3) rfl (Wn.yes c37 rfl rfl rfl rfl) rfl rfl rfl (p_fieldAddr ty_f26_3 rfl rfl) ?_
            refine DL.look (v := .int .i64 a0_3) (x := 0) (b := b1) (i := 26) rfl (Wn.yes c37 rfl rfl rfl rfl) rfl rfl rfl rfl rfl (List.mem_of_getElem? (i := 0) rfl) (b_load ty_a24 rfl rfl rfl) ?_
            obtain ⟨t39, h40, h41⟩ := bind_some h38
            refine DL.quiet (v := .bool t39) rfl (Wn.yes c37 rfl rfl rfl rfl) rfl rfl rfl (f_call rfl rfl (args_val (vs := [.int .i64 a0_2, .int .i64 a0_3]) rfl) (fun w => enter31 _ w) (fun w => policy_in.val h40 w)) ?_
            refine DL.pu 31 (.bool t39) rfl (p_pick_t c37 rfl rfl rfl) ?_
            obtain rfl := Option.some.inj h41
            exact DL.weak J36 (Sub.cons rfl (Sub.cons rfl (Sub.nil _)))
          · replace c37 := Bool.eq_false_iff.mpr c37
            have h42 := ite_false c37 h34
            refine DL.not (i := 23) rfl (Wn.no c37 rfl rfl rfl rfl) rfl rfl ?_
            refine DL.not (i := 24) rfl (Wn.no c37 rfl rfl rfl rfl) rfl rfl ?_
            refine DL.not (i := 25) rfl (Wn.no c37 rfl rfl rfl rfl) rfl rfl ?_
            refine DL.not (i := 26) rfl (Wn.no c37 rfl rfl rfl rfl) rfl rfl ?_
            refine DL.not (i := 27) rfl (Wn.no c37 rfl rfl rfl rfl) rfl rfl ?_
            refine DL.pu 31 (.bool false) rfl (p_pick_f c37 rfl rfl rfl) ?_
            obtain rfl := Option.some.inj h42
            exact DL.weak J36 (Sub.cons rfl (Sub.cons rfl (Sub.nil _)))
      · by_cases c24 : q13 = true
        · have h25 := ite_true c24 h21
          refine DL.pure (v := ptr b1 3) rfl (Wn.yes c24 rfl rfl rfl rfl) rfl rfl rfl (p_fieldAddr ty_f26_3 rfl rfl) ?_
          refine DL.look (v := .int .i64 a0_3) (x := 0) (b := b1) (i := 16) rfl (Wn.yes c24 rfl rfl rfl rfl) rfl rfl rfl rfl rfl (List.mem_of_getElem? (i := 0) rfl) (b_load ty_a24 rfl rfl rfl) ?_
          refine DL.pure (v := ptr b1 0) rfl (Wn.yes c24 rfl rfl rfl rfl) rfl rfl rfl (p_fieldAddr ty_f26_0 rfl rfl) ?_
          refine DL.look (v := .int .i64 a0_0) (x := 0) (b := b1) (i := 18) rfl (Wn.yes c24 rfl rfl rfl rfl) rfl rfl rfl rfl rfl (List.mem_of_getElem? (i := 0) rfl) (b_load ty_a22 rfl rfl rfl) ?_
          obtain ⟨t26, h27, h28⟩ := bind_some h25
          refine DL.quiet (v := .int .i64 t26) rfl (Wn.yes c24 rfl rfl rfl rfl) rfl rfl rfl (f_call rfl rfl (args_val (vs := [.int .i64 a0_0]) rfl) (fun w => enter25 _ w) (fun w => policy_OfType.val h27 w)) ?_
          obtain ⟨t29, h30, h31⟩ := bind_some h28
          refine DL.quiet (v := .bool t29) rfl (Wn.yes c24 rfl rfl rfl rfl) rfl rfl rfl (f_call rfl rfl (args_val (vs := [.int .i64 a0_3, .int .i64 t26]) rfl) (fun w => enter31 _ w) (fun w => policy_in.val h30 w)) ?_
          refine DL.pu 24 (.bool t29) rfl (p_pick_t c24 rfl rfl rfl) ?_
          obtain rfl := Option.some.inj h31
          exact DL.weak J23 (Sub.cons rfl (Sub.cons rfl (Sub.nil _)))
        · replace c24 := Bool.eq_false_iff.mpr c24
          have h32 := ite_false c24 h21
          refine DL.not (i := 15) rfl (Wn.no c24 rfl rfl rfl rfl) rfl rfl ?_
          refine DL.not (i := 16) rfl (Wn.no c24 rfl rfl rfl rfl) rfl rfl ?_
          refine DL.not (i := 17) rfl (Wn.no c24 rfl rfl rfl rfl) rfl rfl ?_
          refine DL.not (i := 18) rfl (Wn.no c24 rfl rfl rfl rfl) rfl rfl ?_
          refine DL.not (i := 19) rfl (Wn.no c24 rfl rfl rfl rfl) rfl rfl ?_
          refine DL.not (i := 20) rfl (Wn.no c24 rfl rfl rfl rfl) rfl rfl ?_
          refine DL.pu 24 (.bool false) rfl (p_pick_f c24 rfl rfl rfl) ?_
          obtain rfl := Option.some.inj h32
          exact DL.weak J23 (Sub.cons rfl (Sub.cons rfl (Sub.nil _)))
    · by_cases c17 : q6 = true
      · have h18 := ite_true c17 h14
        refine DL.pure (v := ptr b1 1) rfl (Wn.yes c17 rfl rfl rfl rfl) rfl rfl rfl (p_fieldAddr ty_f26_1 rfl rfl) ?_
        refine DL.look (v := .int .i64 a0_1) (x := 0) (b := b1) (i := 11) rfl (Wn.yes c17 rfl rfl rfl rfl) rfl rfl rfl rfl rfl (List.mem_of_getElem? (i := 0) rfl) (b_load ty_a23 rfl rfl rfl) ?_
        refine DL.pure (v := .bool (decide (a0_1 ≤ 4))) rfl (Wn.yes c17 rfl rfl rfl rfl) rfl rfl rfl (p_leq rfl rfl rfl) ?_
        refine DL.pu 16 (.bool (decide (a0_1 ≤ 4))) rfl (p_pick_t c17 rfl rfl rfl) ?_
        obtain rfl := Option.some.inj h18
        exact DL.weak J16 (Sub.cons rfl (Sub.cons rfl (Sub.nil _)))
      · replace c17 := Bool.eq_false_iff.mpr c17
        have h19 := ite_false c17 h14
        refine DL.not (i := 10) rfl (Wn.no c17 rfl rfl rfl rfl) rfl rfl ?_
        refine DL.not (i := 11) rfl (Wn.no c17 rfl rfl rfl rfl) rfl rfl ?_
        refine DL.not (i := 12) rfl (Wn.no c17 rfl rfl rfl rfl) rfl rfl ?_
        refine DL.pu 16 (.bool false) rfl (p_pick_f c17 rfl rfl rfl) ?_
        obtain rfl := Option.some.inj h19
        exact DL.weak J16 (Sub.cons rfl (Sub.cons rfl (Sub.nil _)))
  · by_cases c10 : (t3 != 0) = true
    · have h11 := ite_true c10 h7
      refine DL.pure (v := ptr b1 1) rfl (Wn.yes c10 rfl rfl rfl rfl) rfl rfl rfl (p_fieldAddr ty_f26_1 rfl rfl) ?_
      refine DL.look (v := .int .i64 a0_1) (x := 0) (b := b1) (i := 6) rfl (Wn.yes c10 rfl rfl rfl rfl) rfl rfl rfl rfl rfl (List.mem_of_getElem? (i := 0) rfl) (b_load ty_a23 rfl rfl rfl) ?_
      refine DL.pure (v := .bool (decide (1 ≤ a0_1))) rfl (Wn.yes c10 rfl rfl rfl rfl) rfl rfl rfl (p_geq rfl rfl rfl) ?_
      refine DL.pu 11 (.bool (decide (1 ≤ a0_1))) rfl (p_pick_t c10 rfl rfl rfl) ?_
      obtain rfl := Option.some.inj h11
      exact DL.weak J9 (Sub.cons rfl (Sub.cons rfl (Sub.nil _)))
    · replace c10 := Bool.eq_false_iff.mpr c10
      have h12 := ite_false c10 h7
      refine DL.not (i := 5) rfl (Wn.no c10 rfl rfl rfl rfl) rfl rfl ?_
      refine DL.not (i := 6) rfl (Wn.no c10 rfl rfl rfl rfl) rfl rfl ?_
      refine DL.not (i := 7) rfl (Wn.no c10 rfl rfl rfl rfl) rfl rfl ?_
      refine DL.pu 11 (.bool false) rfl (p_pick_f c10 rfl rfl rfl) ?_
      obtain rfl := Option.some.inj h12
      exact DL.weak J9 (Sub.cons rfl (Sub.cons rfl (Sub.nil _)))
theorem policy_MayCard.val {a0_0 : Int} {a0_1 : Int} {a0_2 : Int} {a0_3 : Int} {r : Bool} (h : policy_MayCard.f a0_0 a0_1 a0_2 a0_3 = some r) (w : World) : Calls Try.prog 22 #[.agg #[.int .i64 a0_0, .int .i64 a0_1, .int .i64 a0_2, .int .i64 a0_3]] w fun e w' => e = .returned (.bool r) ∧ Below w.heap.size w w' :=
  calls_value (policy_MayCard.ok h w)

/-! ### escutcheon/escutcheonref21.MayCard: function 23 -/
noncomputable def B23 : Code := bodyOf Try.f23
def ref21_MayCard.f (a0_0 : Int) (a0_1 : Int) (a0_2 : Int) (a0_3 : Int) : Option (Bool) := (if (decide (1 ≤ a0_0)) = true then (some (decide (a0_0 ≤ 3))) else (some false)).bind fun q3 => (if q3 = true then (some (decide (1 ≤ a0_1))) else (some false)).bind fun q10 => (if q10 = true then (some (decide (a0_1 ≤ 4))) else (some false)).bind fun q17 => (if q17 = true then ((ref21_OfType.f a0_0).bind fun t30 => (ref21_In.f a0_3 t30).bind fun t33 => some t33) else (some false)).bind fun q24 => (if q24 = true then ((ref21_In.f a0_2 a0_3).bind fun t43 => some t43) else (some false)).bind fun q37 => (if q37 = true then ((if (a0_1 != 2) = true then (some true) else ((ref21_Has.f a0_3 1).bind fun t60 => some t60)).bind fun q53 => some q53) else (some false)).bind fun q47 => some q47
set_option maxRecDepth 20000 in
theorem ref21_MayCard.ok {a0_0 : Int} {a0_1 : Int} {a0_2 : Int} {a0_3 : Int} {r : Bool} (h : ref21_MayCard.f a0_0 a0_1 a0_2 a0_3 = some r) (w : World) : Calls Try.prog 23 #[.agg #[.int .i64 a0_0, .int .i64 a0_1, .int .i64 a0_2, .int .i64 a0_3]] w (Post (fun u => u = .bool r) w) := by
  unfold ref21_MayCard.f at h
  refine calls_of_TT (N := 46) (S := [(0, .agg #[.int .i64 a0_0, .int .i64 a0_1, .int .i64 a0_2, .int .i64 a0_3])]) (c := B23) Try.func23 rfl rfl rfl (by simp) ?_
  show TT _ _ _ _ _ _ [.code (sub [] B23)] _ _
  refine TT.seq (x := sub [0] B23) (y := sub [1] B23) ?_
  refine TT.region (id := 0) (n := 2) (ops := (opsOf (sub [0] B23))) [(.alloc, none), (.pure, none)] rfl ?_
  show DL _ _ _ _ _ _ _ _ _ _ [0, 1] _ _
  refine DL.new (ob := .cells (#[.int .i64 a0_0, .int .i64 a0_1, .int .i64 a0_2, .int .i64 a0_3]) 26) (mk := fun b => ptr b 0) (i := 0) rfl (Wn.none rfl) rfl rfl rfl (f_box (v := .agg #[.int .i64 a0_0, .int .i64 a0_1, .int .i64 a0_2, .int .i64 a0_3]) rfl rfl) ?_
  intro b1 hb1
  refine DL.pu 2 (.bool false) rfl (p_assign rfl rfl) ?_
  refine DL.nil ?_
  refine TT.seq (x := sub [1, 0] B23) (y := sub [1, 1] B23) ?_
  refine TT.regionD (id := 1) (ops := (opsOf (sub [1, 0] B23))) [0, 1, 2, 3, 4, 5, 6, 7, 8, 9, 10, 11, 12, 13, 14, 15, 16, 17, 18, 19, 20, 21, 22, 23, 24, 25, 26, 27, 28, 29, 30, 31, 32, 33, 34, 35, 36, 37, 38, 39, 40, 41, 42, 43] [0, 1, 3, 7, 15, 31, 63, 127, 255, 511, 1023, 2047, 4095, 8191, 16383, 32767, 65535, 131071, 262143, 524287, 1048575, 524287, 2621439, 6815743, 16777215, 33554431, 67108863, 134217727, 268435455, 134217727, 671088639, 2147483647, 4294967295, 8589934591, 17179869183, 34359738367, 68719476735, 137438953471, 274877906943, 549755813887, 1099511627775, 2199023255551, 4398046511103, 8796093022207] [(.pure, none), (.look, some 0), (.pure, none), (.pure, none), (.pure, none), (.look, some 0), (.pure, none), (.pure, none), (.pure, none), (.pure, none), (.look, some 0), (.pure, none), (.pure, none), (.pure, none), (.pure, none), (.look, some 0), (.pure, none), (.pure, none), (.pure, none), (.pure, none), (.look, some 0), (.pure, none), (.look, some 0), (.quiet, none), (.quiet, none), (.pure, none), (.pure, none), (.pure, none), (.look, some 0), (.pure, none), (.look, some 0), (.quiet, none), (.pure, none), (.pure, none), (.pure, none), (.look, some 0), (.pure, none), (.pure, none), (.pure, none), (.look, some 0), (.quiet, none), (.pure, none), (.pure, none), (.pure, none)] mixed (by kernel_rfl) ?_
  intro w2 hl2 hj2 hz2
  refine DL.pu 3 (ptr b1 0) rfl (p_fieldAddr ty_f26_0 rfl rfl) ?_
  refine DL.look (v := .int .i64 a0_0) (x := 0) (b := b1) (i := 1) rfl (Wn.none rfl) rfl rfl rfl rfl rfl (List.mem_of_getElem? (i := 0) rfl) (b_load ty_a22 rfl rfl rfl) ?_
  refine DL.pu 5 (.bool (decide (1 ≤ a0_0))) rfl (p_geq rfl rfl rfl) ?_
  refine DL.pu 6 (.bool (decide (1 ≤ a0_0))) rfl (p_move rfl rfl) ?_
  obtain ⟨q3, h4, h5⟩ := bind_some h
  refine DL.cut [(1, ptr b1 0), (10, .bool q3)] [8, 9, 10, 11, 12, 13, 14, 15, 16, 17, 18, 19, 20, 21, 22, 23, 24, 25, 26, 27, 28, 29, 30, 31, 32, 33, 34, 35, 36, 37, 38, 39, 40, 41, 42, 43] ?_ (fun J6 => ?_)
  · refine DL.pu 11 (.bool q3) rfl (p_move rfl rfl) ?_
    obtain ⟨q10, h11, h12⟩ := bind_some h5
    refine DL.cut [(1, ptr b1 0), (15, .bool q10)] [13, 14, 15, 16, 17, 18, 19, 20, 21, 22, 23, 24, 25, 26, 27, 28, 29, 30, 31, 32, 33, 34, 35, 36, 37, 38, 39, 40, 41, 42, 43] ?_ (fun J13 => ?_)
    · refine DL.pu 16 (.bool q10) rfl (p_move rfl rfl) ?_
      obtain ⟨q17, h18, h19⟩ := bind_some h12
      refine DL.cut [(1, ptr b1 0), (20, .bool q17)] [18, 19, 20, 21, 22, 23, 24, 25, 26, 27, 28, 29, 30, 31, 32, 33, 34, 35, 36, 37, 38, 39, 40, 41, 42, 43] ?_ (fun J20 => ?_)
      · refine DL.pu 21 (.bool q17) rfl (p_move rfl rfl) ?_
        obtain ⟨q24, h25, h26⟩ := bind_some h19
        refine DL.cut [(1, ptr b1 0), (28, .bool q24)] [26, 27, 28, 29, 30, 31, 32, 33, 34, 35, 36, 37, 38, 39, 40, 41, 42, 43] ?_ (fun J27 => ?_)
        · refine DL.pu 29 (.bool q24) rfl (p_move rfl rfl) ?_
          obtain ⟨q37, h38, h39⟩ := bind_some h26
          refine DL.cut [(1, ptr b1 0), (35, .bool q37)] [33, 34, 35, 36, 37, 38, 39, 40, 41, 42, 43] ?_ (fun J40 => ?_)
          · refine DL.pu 36 (.bool q37) rfl (p_move rfl rfl) ?_
            obtain ⟨q47, h48, h49⟩ := bind_some h39
            refine DL.cut [(45, .bool q47)] [43] ?_ (fun J50 => ?_)
            · refine DL.pu 2 (.bool q47) rfl (p_assign rfl rfl) ?_
              refine DL.nil' hl2 ?_
              obtain rfl := Option.some.inj h49
              exact ret1 Try.func23 rfl (ResV.tmp rfl) rfl
            · by_cases c51 : q37 = true
              · have h52 := ite_true c51 h48
                refine DL.pure (v := ptr b1 1) rfl (Wn.yes c51 rfl rfl rfl rfl) rfl rfl rfl (p_fieldAddr ty_f26_1 rfl rfl) ?_
                refine DL.look (v := .int .i64 a0_1) (x := 0) (b := b1) (i := 35) rfl (Wn.yes c51 rfl rfl rfl rfl) rfl rfl rfl rfl rfl (List.mem_of_getElem? (i := 0) rfl) (b_load ty_a23 rfl rfl rfl) ?_
                refine DL.pure (v := .bool (a0_1 != 2)) rfl (Wn.yes c51 rfl rfl rfl rfl) rfl rfl rfl (p_neq rfl rfl rfl) ?_
                refine DL.pure (v := .bool (a0_1 != 2)) rfl (Wn.yes c51 rfl rfl rfl rfl) rfl rfl rfl (p_move rfl rfl) ?_
                obtain ⟨q53, h54, h55⟩ := bind_some h52
                refine DL.cut [(36, .bool q37), (44, .bool q53)] [42, 43] ?_ (fun J56 => ?_)
                · refine DL.pu 45 (.bool q53) rfl (p_pick_t c51 rfl rfl rfl) ?_
                  obtain rfl := Option.some.inj h55
                  exact DL.weak J50 (Sub.cons rfl (Sub.nil _))
                · by_cases c57 : (a0_1 != 2) = true
                  · have h58 := ite_true c57 h54
                    refine DL.not (i := 38) rfl (Wn.yes c57 rfl rfl rfl rfl) rfl rfl ?_
                    refine DL.not (i := 39) rfl (Wn.yes c57 rfl rfl rfl rfl) rfl rfl ?_
                    refine DL.not (i := 40) rfl (Wn.yes c57 rfl rfl rfl rfl) rfl rfl ?_
                    refine DL.pure (v := .bool true) rfl (Wn.yes c51 rfl rfl rfl rfl) rfl rfl rfl (p_pick_t c57 rfl rfl rfl) ?_
                    obtain rfl := Option.some.inj h58
                    exact DL.weak J56 (Sub.cons rfl (Sub.cons rfl (Sub.nil _)))
                  · replace c57 := Bool.eq_false_iff.mpr c57
                    have h59 := ite_false c57 h54
                    refine DL.pure (v := ptr b1 3) rfl (Wn.no c57 rfl rfl rfl rfl) rfl rfl rfl (p_fieldAddr ty_f26_3 rfl rfl) ?_
                    refine DL.look (v := .int .i64 a0_3) (x := 0) (b := b1) (i := 39) rfl (Wn.no c57 rfl rfl rfl rfl) rfl rfl rfl rfl rfl (List.mem_of_getElem? (i := 0) rfl) (b_load ty_a24 rfl rfl rfl) ?_
                    obtain ⟨t60, h61, h62⟩ := bind_some h59
                    refine DL.quiet (v := .bool t60) rfl (Wn.no c57 rfl rfl rfl rfl) rfl rfl rfl (f_call rfl rfl (args_val (vs := [.int .i64 a0_3, .int .i64 1]) rfl) (fun w => enter34 _ w) (fun w => ref21_Has.val h61 w)) ?_
                    refine DL.pure (v := .bool t60) rfl (Wn.yes c51 rfl rfl rfl rfl) rfl rfl rfl (p_pick_f c57 rfl rfl rfl) ?_
                    obtain rfl := Option.some.inj h62
                    exact DL.weak J56 (Sub.cons rfl (Sub.cons rfl (Sub.nil _)))
              · replace c51 := Bool.eq_false_iff.mpr c51
                have h63 := ite_false c51 h48
                refine DL.not (i := 34) rfl (Wn.no c51 rfl rfl rfl rfl) rfl rfl ?_
                refine DL.not (i := 35) rfl (Wn.no c51 rfl rfl rfl rfl) rfl rfl ?_
                refine DL.not (i := 36) rfl (Wn.no c51 rfl rfl rfl rfl) rfl rfl ?_
                refine DL.not (i := 37) rfl (Wn.no c51 rfl rfl rfl rfl) rfl rfl ?_
                refine DL.not (i := 38) rfl (Wn.undef rfl rfl rfl) rfl rfl ?_
                refine DL.not (i := 39) rfl (Wn.undef rfl rfl rfl) rfl rfl ?_
                refine DL.not (i := 40) rfl (Wn.undef rfl rfl rfl) rfl rfl ?_
                refine DL.not (i := 41) rfl (Wn.no c51 rfl rfl rfl rfl) rfl rfl ?_
                refine DL.pu 45 (.bool false) rfl (p_pick_f c51 rfl rfl rfl) ?_
                obtain rfl := Option.some.inj h63
                exact DL.weak J50 (Sub.cons rfl (Sub.nil _))
          · by_cases c41 : q24 = true
            · have h42 := ite_true c41 h38
              refine DL.pure (v := ptr b1 2) rfl (Wn.yes c41 rfl rfl rfl rfl) rfl rfl rfl (p_fieldAddr ty_f26_2 rfl rfl) ?_
              refine DL.look (v := .int .i64 a0_2) (x := 0) (b := b1) (i := 28) rfl (Wn.yes c41 rfl rfl rfl rfl) rfl rfl rfl rfl rfl (List.mem_of_getElem? (i := 0) rfl) (b_load ty_a24 rfl rfl rfl) ?_
              refine DL.pure (v := ptr b1 3) rfl (Wn.yes c41 rfl rfl rfl rfl) rfl rfl rfl (p_fieldAddr ty_f26_3 rfl rfl) ?_
              refine DL.look (v := .int .i64 a0_3) (x := 0) (b := b1) (i := 30) rfl (Wn.yes c41 rfl rfl rfl rfl) rfl rfl rfl rfl rfl (List.mem_of_getElem? (i := 0) rfl) (b_load ty_a24 rfl rfl rfl) ?_
              obtain ⟨t43, h44, h45⟩ := bind_some h42
              refine DL.quiet (v := .bool t43) rfl (Wn.yes c41 rfl rfl rfl rfl) rfl rfl rfl (f_call rfl rfl (args_val (vs := [.int .i64 a0_2, .int .i64 a0_3]) rfl) (fun w => enter32 _ w) (fun w => ref21_In.val h44 w)) ?_
              refine DL.pu 35 (.bool t43) rfl (p_pick_t c41 rfl rfl rfl) ?_
              obtain rfl := Option.some.inj h45
              exact DL.weak J40 (Sub.cons rfl (Sub.cons rfl (Sub.nil _)))
            · replace c41 := Bool.eq_false_iff.mpr c41
              have h46 := ite_false c41 h38
              refine DL.not (i := 27) rfl (Wn.no c41 rfl rfl rfl rfl) rfl rfl ?_
              refine DL.not (i := 28) rfl (Wn.no c41 rfl rfl rfl rfl) rfl rfl ?_
              refine DL.not (i := 29) rfl (Wn.no c41 rfl rfl rfl rfl) rfl rfl ?_
              refine DL.not (i := 30) rfl (Wn.no c41 rfl rfl rfl rfl) rfl rfl ?_
              refine DL.not (i := 31) rfl (Wn.no c41 rfl rfl rfl rfl) rfl rfl ?_
              refine DL.pu 35 (.bool false) rfl (p_pick_f c41 rfl rfl rfl) ?_
              obtain rfl := Option.some.inj h46
              exact DL.weak J40 (Sub.cons rfl (Sub.cons rfl (Sub.nil _)))
        · by_cases c28 : q17 = true
          · have h29 := ite_true c28 h25
            refine DL.pure (v := ptr b1 3) rfl (Wn.yes c28 rfl rfl rfl rfl) rfl rfl rfl (p_fieldAddr ty_f26_3 rfl rfl) ?_
            refine DL.look (v := .int .i64 a0_3) (x := 0) (b := b1) (i := 20) rfl (Wn.yes c28 rfl rfl rfl rfl) rfl rfl rfl rfl rfl (List.mem_of_getElem? (i := 0) rfl) (b_load ty_a24 rfl rfl rfl) ?_
            refine DL.pure (v := ptr b1 0) rfl (Wn.yes c28 rfl rfl rfl rfl) rfl rfl rfl (p_fieldAddr ty_f26_0 rfl rfl) ?_
            refine DL.look (v := .int .i64 a0_0) (x := 0) (b := b1) (i := 22) rfl (Wn.yes c28 rfl rfl rfl rfl) rfl rfl rfl rfl rfl (List.mem_of_getElem? (i := 0) rfl) (b_load ty_a22 rfl rfl rfl) ?_
            obtain ⟨t30, h31, h32⟩ := bind_some h29
            refine DL.quiet (v := .int .i64 t30) rfl (Wn.yes c28 rfl rfl rfl rfl) rfl rfl rfl (f_call rfl rfl (args_val (vs := [.int .i64 a0_0]) rfl) (fun w => enter26 _ w) (fun w => ref21_OfType.val h31 w)) ?_
            obtain ⟨t33, h34, h35⟩ := bind_some h32
            refine DL.quiet (v := .bool t33) rfl (Wn.yes c28 rfl rfl rfl rfl) rfl rfl rfl (f_call rfl rfl (args_val (vs := [.int .i64 a0_3, .int .i64 t30]) rfl) (fun w => enter32 _ w) (fun w => ref21_In.val h34 w)) ?_
            refine DL.pu 28 (.bool t33) rfl (p_pick_t c28 rfl rfl rfl) ?_
            obtain rfl := Option.some.inj h35
            exact DL.weak J27 (Sub.cons rfl (Sub.cons rfl (Sub.nil _)))
          · replace c28 := Bool.eq_false_iff.mpr c28
            have h36 := ite_false c28 h25
            refine DL.not (i := 19) rfl (Wn.no c28 rfl rfl rfl rfl) rfl rfl ?_
            refine DL.not (i := 20) rfl (Wn.no c28 rfl rfl rfl rfl) rfl rfl ?_
            refine DL.not (i := 21) rfl (Wn.no c28 rfl rfl rfl rfl) rfl rfl ?_
            refine DL.not (i := 22) rfl (Wn.no c28 rfl rfl rfl rfl) rfl rfl ?_
            refine DL.not (i := 23) rfl (Wn.no c28 rfl rfl rfl rfl) rfl rfl ?_
            refine DL.not (i := 24) rfl (Wn.no c28 rfl rfl rfl rfl) rfl rfl ?_
            refine DL.pu 28 (.bool false) rfl (p_pick_f c28 rfl rfl rfl) ?_
            obtain rfl := Option.some.inj h36
            exact DL.weak J27 (Sub.cons rfl (Sub.cons rfl (Sub.nil _)))
      · by_cases c21 : q10 = true
        · have h22 := ite_true c21 h18
          refine DL.pure (v := ptr b1 1) rfl (Wn.yes c21 rfl rfl rfl rfl) rfl rfl rfl (p_fieldAddr ty_f26_1 rfl rfl) ?_
          refine DL.look (v := .int .i64 a0_1) (x := 0) (b := b1) (i := 15) rfl (Wn.yes c21 rfl rfl rfl rfl) rfl rfl rfl rfl rfl (List.mem_of_getElem? (i := 0) rfl) (b_load ty_a23 rfl rfl rfl) ?_
          refine DL.pure (v := .bool (decide (a0_1 ≤ 4))) rfl (Wn.yes c21 rfl rfl rfl rfl) rfl rfl rfl (p_leq rfl rfl rfl) ?_
          refine DL.pu 20 (.bool (decide (a0_1 ≤ 4))) rfl (p_pick_t c21 rfl rfl rfl) ?_
          obtain rfl := Option.some.inj h22
          exact DL.weak J20 (Sub.cons rfl (Sub.cons rfl (Sub.nil _)))
        · replace c21 := Bool.eq_false_iff.mpr c21
          have h23 := ite_false c21 h18
          refine DL.not (i := 14) rfl (Wn.no c21 rfl rfl rfl rfl) rfl rfl ?_
          refine DL.not (i := 15) rfl (Wn.no c21 rfl rfl rfl rfl) rfl rfl ?_
          refine DL.not (i := 16) rfl (Wn.no c21 rfl rfl rfl rfl) rfl rfl ?_
          refine DL.pu 20 (.bool false) rfl (p_pick_f c21 rfl rfl rfl) ?_
          obtain rfl := Option.some.inj h23
          exact DL.weak J20 (Sub.cons rfl (Sub.cons rfl (Sub.nil _)))
    · by_cases c14 : q3 = true
      · have h15 := ite_true c14 h11
        refine DL.pure (v := ptr b1 1) rfl (Wn.yes c14 rfl rfl rfl rfl) rfl rfl rfl (p_fieldAddr ty_f26_1 rfl rfl) ?_
        refine DL.look (v := .int .i64 a0_1) (x := 0) (b := b1) (i := 10) rfl (Wn.yes c14 rfl rfl rfl rfl) rfl rfl rfl rfl rfl (List.mem_of_getElem? (i := 0) rfl) (b_load ty_a23 rfl rfl rfl) ?_
        refine DL.pure (v := .bool (decide (1 ≤ a0_1))) rfl (Wn.yes c14 rfl rfl rfl rfl) rfl rfl rfl (p_geq rfl rfl rfl) ?_
        refine DL.pu 15 (.bool (decide (1 ≤ a0_1))) rfl (p_pick_t c14 rfl rfl rfl) ?_
        obtain rfl := Option.some.inj h15
        exact DL.weak J13 (Sub.cons rfl (Sub.cons rfl (Sub.nil _)))
      · replace c14 := Bool.eq_false_iff.mpr c14
        have h16 := ite_false c14 h11
        refine DL.not (i := 9) rfl (Wn.no c14 rfl rfl rfl rfl) rfl rfl ?_
        refine DL.not (i := 10) rfl (Wn.no c14 rfl rfl rfl rfl) rfl rfl ?_
        refine DL.not (i := 11) rfl (Wn.no c14 rfl rfl rfl rfl) rfl rfl ?_
        refine DL.pu 15 (.bool false) rfl (p_pick_f c14 rfl rfl rfl) ?_
        obtain rfl := Option.some.inj h16
        exact DL.weak J13 (Sub.cons rfl (Sub.cons rfl (Sub.nil _)))
  · by_cases c7 : (decide (1 ≤ a0_0)) = true
    · have h8 := ite_true c7 h4
      refine DL.pure (v := ptr b1 0) rfl (Wn.yes c7 rfl rfl rfl rfl) rfl rfl rfl (p_fieldAddr ty_f26_0 rfl rfl) ?_
      refine DL.look (v := .int .i64 a0_0) (x := 0) (b := b1) (i := 5) rfl (Wn.yes c7 rfl rfl rfl rfl) rfl rfl rfl rfl rfl (List.mem_of_getElem? (i := 0) rfl) (b_load ty_a22 rfl rfl rfl) ?_
      refine DL.pure (v := .bool (decide (a0_0 ≤ 3))) rfl (Wn.yes c7 rfl rfl rfl rfl) rfl rfl rfl (p_leq rfl rfl rfl) ?_
      refine DL.pu 10 (.bool (decide (a0_0 ≤ 3))) rfl (p_pick_t c7 rfl rfl rfl) ?_
      obtain rfl := Option.some.inj h8
      exact DL.weak J6 (Sub.cons rfl (Sub.cons rfl (Sub.nil _)))
    · replace c7 := Bool.eq_false_iff.mpr c7
      have h9 := ite_false c7 h4
      refine DL.not (i := 4) rfl (Wn.no c7 rfl rfl rfl rfl) rfl rfl ?_
      refine DL.not (i := 5) rfl (Wn.no c7 rfl rfl rfl rfl) rfl rfl ?_
      refine DL.not (i := 6) rfl (Wn.no c7 rfl rfl rfl rfl) rfl rfl ?_
      refine DL.pu 10 (.bool false) rfl (p_pick_f c7 rfl rfl rfl) ?_
      obtain rfl := Option.some.inj h9
      exact DL.weak J6 (Sub.cons rfl (Sub.cons rfl (Sub.nil _)))
theorem ref21_MayCard.val {a0_0 : Int} {a0_1 : Int} {a0_2 : Int} {a0_3 : Int} {r : Bool} (h : ref21_MayCard.f a0_0 a0_1 a0_2 a0_3 = some r) (w : World) : Calls Try.prog 23 #[.agg #[.int .i64 a0_0, .int .i64 a0_1, .int .i64 a0_2, .int .i64 a0_3]] w fun e w' => e = .returned (.bool r) ∧ Below w.heap.size w w' :=
  calls_value (ref21_MayCard.ok h w)

/-! ### escutcheon/policy.Kept: function 21 -/
noncomputable def B21 : Code := bodyOf Try.f21
def policy_Kept.f (a0_0 : Int) (a0_1 : Int) (a0_2 : Int) (a0_3 : Int) : Option (Bool) := (policy_MayCard.f a0_0 a0_1 a0_2 a0_3).bind fun t2 => (if t2 = true then (some ((iand .i64 a0_3 1) == 0)) else (some false)).bind fun q5 => some q5
set_option maxRecDepth 20000 in
theorem policy_Kept.ok {a0_0 : Int} {a0_1 : Int} {a0_2 : Int} {a0_3 : Int} {r : Bool} (h : policy_Kept.f a0_0 a0_1 a0_2 a0_3 = some r) (w : World) : Calls Try.prog 21 #[.agg #[.int .i64 a0_0, .int .i64 a0_1, .int .i64 a0_2, .int .i64 a0_3]] w (Post (fun u => u = .bool r) w) := by
  unfold policy_Kept.f at h
  refine calls_of_TT (N := 11) (S := [(0, .agg #[.int .i64 a0_0, .int .i64 a0_1, .int .i64 a0_2, .int .i64 a0_3])]) (c := B21) Try.func21 rfl rfl rfl (by simp) ?_
  show TT _ _ _ _ _ _ [.code (sub [] B21)] _ _
  refine TT.seq (x := sub [0] B21) (y := sub [1] B21) ?_
  refine TT.region (id := 0) (n := 2) (ops := (opsOf (sub [0] B21))) [(.alloc, none), (.pure, none)] rfl ?_
  show DL _ _ _ _ _ _ _ _ _ _ [0, 1] _ _
  refine DL.new (ob := .cells (#[.int .i64 a0_0, .int .i64 a0_1, .int .i64 a0_2, .int .i64 a0_3]) 26) (mk := fun b => ptr b 0) (i := 0) rfl (Wn.none rfl) rfl rfl rfl (f_box (v := .agg #[.int .i64 a0_0, .int .i64 a0_1, .int .i64 a0_2, .int .i64 a0_3]) rfl rfl) ?_
  intro b1 hb1
  refine DL.pu 2 (.bool false) rfl (p_assign rfl rfl) ?_
  refine DL.nil ?_
  refine TT.seq (x := sub [1, 0] B21) (y := sub [1, 1] B21) ?_
  refine TT.region (id := 1) (n := 9) (ops := (opsOf (sub [1, 0] B21))) [(.quiet, none), (.quiet, none), (.pure, none), (.pure, none), (.quiet, none), (.pure, none), (.pure, none), (.pure, none), (.pure, none)] rfl ?_
  show DL _ _ _ _ _ _ _ _ _ _ [0, 1, 2, 3, 4, 5, 6, 7, 8] _ _
  refine DL.qu 3 (.agg #[.int .i64 a0_0, .int .i64 a0_1, .int .i64 a0_2, .int .i64 a0_3]) rfl (f_loadA (j := 0) ty_a26 ty_s26 rfl rfl rfl rfl) ?_
  obtain ⟨t2, h3, h4⟩ := bind_some h
  refine DL.qu 4 (.bool t2) rfl (f_call rfl rfl (args_val (vs := [.agg #[.int .i64 a0_0, .int .i64 a0_1, .int .i64 a0_2, .int .i64 a0_3]]) rfl) (fun w => enter22 _ w) (fun w => policy_MayCard.val h3 w)) ?_
  refine DL.pu 5 (.bool t2) rfl (p_move rfl rfl) ?_
  obtain ⟨q5, h6, h7⟩ := bind_some h4
  refine DL.cut [(10, .bool q5)] [8] ?_ (fun J8 => ?_)
  · refine DL.pu 2 (.bool q5) rfl (p_assign rfl rfl) ?_
    refine DL.nil ?_
    obtain rfl := Option.some.inj h7
    exact ret1 Try.func21 rfl (ResV.tmp rfl) rfl
  · by_cases c9 : t2 = true
    · have h10 := ite_true c9 h6
      refine DL.pure (v := ptr b1 3) rfl (Wn.yes c9 rfl rfl rfl rfl) rfl rfl rfl (p_fieldAddr ty_f26_3 rfl rfl) ?_
      refine DL.quiet (v := .int .i64 a0_3) rfl (Wn.yes c9 rfl rfl rfl rfl) rfl rfl rfl (f_load (j := 0) ty_a24 rfl rfl rfl rfl) ?_
      refine DL.pure (v := .int .i64 (iand .i64 a0_3 1)) rfl (Wn.yes c9 rfl rfl rfl rfl) rfl rfl rfl (p_and rfl rfl rfl) ?_
      refine DL.pure (v := .bool ((iand .i64 a0_3 1) == 0)) rfl (Wn.yes c9 rfl rfl rfl rfl) rfl rfl rfl (p_eql rfl rfl rfl) ?_
      refine DL.pu 10 (.bool ((iand .i64 a0_3 1) == 0)) rfl (p_pick_t c9 rfl rfl rfl) ?_
      obtain rfl := Option.some.inj h10
      exact DL.weak J8 (Sub.cons rfl (Sub.nil _))
    · replace c9 := Bool.eq_false_iff.mpr c9
      have h11 := ite_false c9 h6
      refine DL.not (i := 3) rfl (Wn.no c9 rfl rfl rfl rfl) rfl rfl ?_
      refine DL.not (i := 4) rfl (Wn.no c9 rfl rfl rfl rfl) rfl rfl ?_
      refine DL.not (i := 5) rfl (Wn.no c9 rfl rfl rfl rfl) rfl rfl ?_
      refine DL.not (i := 6) rfl (Wn.no c9 rfl rfl rfl rfl) rfl rfl ?_
      refine DL.pu 10 (.bool false) rfl (p_pick_f c9 rfl rfl rfl) ?_
      obtain rfl := Option.some.inj h11
      exact DL.weak J8 (Sub.cons rfl (Sub.nil _))
theorem policy_Kept.val {a0_0 : Int} {a0_1 : Int} {a0_2 : Int} {a0_3 : Int} {r : Bool} (h : policy_Kept.f a0_0 a0_1 a0_2 a0_3 = some r) (w : World) : Calls Try.prog 21 #[.agg #[.int .i64 a0_0, .int .i64 a0_1, .int .i64 a0_2, .int .i64 a0_3]] w fun e w' => e = .returned (.bool r) ∧ Below w.heap.size w w' :=
  calls_value (policy_Kept.ok h w)

/-! ### escutcheon/escutcheonref21.Kept: function 24 -/
noncomputable def B24 : Code := bodyOf Try.f24
def ref21_Kept.f (a0_0 : Int) (a0_1 : Int) (a0_2 : Int) (a0_3 : Int) : Option (Bool) := (ref21_MayCard.f a0_0 a0_1 a0_2 a0_3).bind fun t2 => (if t2 = true then ((ref21_Has.f a0_3 1).bind fun t11 => some (!t11)) else (some false)).bind fun q5 => some q5
set_option maxRecDepth 20000 in
theorem ref21_Kept.ok {a0_0 : Int} {a0_1 : Int} {a0_2 : Int} {a0_3 : Int} {r : Bool} (h : ref21_Kept.f a0_0 a0_1 a0_2 a0_3 = some r) (w : World) : Calls Try.prog 24 #[.agg #[.int .i64 a0_0, .int .i64 a0_1, .int .i64 a0_2, .int .i64 a0_3]] w (Post (fun u => u = .bool r) w) := by
  unfold ref21_Kept.f at h
  refine calls_of_TT (N := 11) (S := [(0, .agg #[.int .i64 a0_0, .int .i64 a0_1, .int .i64 a0_2, .int .i64 a0_3])]) (c := B24) Try.func24 rfl rfl rfl (by simp) ?_
  show TT _ _ _ _ _ _ [.code (sub [] B24)] _ _
  refine TT.seq (x := sub [0] B24) (y := sub [1] B24) ?_
  refine TT.region (id := 0) (n := 2) (ops := (opsOf (sub [0] B24))) [(.alloc, none), (.pure, none)] rfl ?_
  show DL _ _ _ _ _ _ _ _ _ _ [0, 1] _ _
  refine DL.new (ob := .cells (#[.int .i64 a0_0, .int .i64 a0_1, .int .i64 a0_2, .int .i64 a0_3]) 26) (mk := fun b => ptr b 0) (i := 0) rfl (Wn.none rfl) rfl rfl rfl (f_box (v := .agg #[.int .i64 a0_0, .int .i64 a0_1, .int .i64 a0_2, .int .i64 a0_3]) rfl rfl) ?_
  intro b1 hb1
  refine DL.pu 2 (.bool false) rfl (p_assign rfl rfl) ?_
  refine DL.nil ?_
  refine TT.seq (x := sub [1, 0] B24) (y := sub [1, 1] B24) ?_
  refine TT.region (id := 1) (n := 9) (ops := (opsOf (sub [1, 0] B24))) [(.quiet, none), (.quiet, none), (.pure, none), (.pure, none), (.quiet, none), (.quiet, none), (.pure, none), (.pure, none), (.pure, none)] rfl ?_
  show DL _ _ _ _ _ _ _ _ _ _ [0, 1, 2, 3, 4, 5, 6, 7, 8] _ _
  refine DL.qu 3 (.agg #[.int .i64 a0_0, .int .i64 a0_1, .int .i64 a0_2, .int .i64 a0_3]) rfl (f_loadA (j := 0) ty_a26 ty_s26 rfl rfl rfl rfl) ?_
  obtain ⟨t2, h3, h4⟩ := bind_some h
  refine DL.qu 4 (.bool t2) rfl (f_call rfl rfl (args_val (vs := [.agg #[.int .i64 a0_0, .int .i64 a0_1, .int .i64 a0_2, .int .i64 a0_3]]) rfl) (fun w => enter23 _ w) (fun w => ref21_MayCard.val h3 w)) ?_
  refine DL.pu 5 (.bool t2) rfl (p_move rfl rfl) ?_
  obtain ⟨q5, h6, h7⟩ := bind_some h4
  refine DL.cut [(10, .bool q5)] [8] ?_ (fun J8 => ?_)
  · refine DL.pu 2 (.bool q5) rfl (p_assign rfl rfl) ?_
    refine DL.nil ?_
    obtain rfl := Option.some.inj h7
    exact ret1 Try.func24 rfl (ResV.tmp rfl) rfl
  · by_cases c9 : t2 = true
    · have h10 := ite_true c9 h6
      refine DL.pure (v := ptr b1 3) rfl (Wn.yes c9 rfl rfl rfl rfl) rfl rfl rfl (p_fieldAddr ty_f26_3 rfl rfl) ?_
      refine DL.quiet (v := .int .i64 a0_3) rfl (Wn.yes c9 rfl rfl rfl rfl) rfl rfl rfl (f_load (j := 0) ty_a24 rfl rfl rfl rfl) ?_
      obtain ⟨t11, h12, h13⟩ := bind_some h10
      refine DL.quiet (v := .bool t11) rfl (Wn.yes c9 rfl rfl rfl rfl) rfl rfl rfl (f_call rfl rfl (args_val (vs := [.int .i64 a0_3, .int .i64 1]) rfl) (fun w => enter34 _ w) (fun w => ref21_Has.val h12 w)) ?_
      refine DL.pure (v := .bool (!t11)) rfl (Wn.yes c9 rfl rfl rfl rfl) rfl rfl rfl (p_not rfl rfl) ?_
      refine DL.pu 10 (.bool (!t11)) rfl (p_pick_t c9 rfl rfl rfl) ?_
      obtain rfl := Option.some.inj h13
      exact DL.weak J8 (Sub.cons rfl (Sub.nil _))
    · replace c9 := Bool.eq_false_iff.mpr c9
      have h14 := ite_false c9 h6
      refine DL.not (i := 3) rfl (Wn.no c9 rfl rfl rfl rfl) rfl rfl ?_
      refine DL.not (i := 4) rfl (Wn.no c9 rfl rfl rfl rfl) rfl rfl ?_
      refine DL.not (i := 5) rfl (Wn.no c9 rfl rfl rfl rfl) rfl rfl ?_
      refine DL.not (i := 6) rfl (Wn.no c9 rfl rfl rfl rfl) rfl rfl ?_
      refine DL.pu 10 (.bool false) rfl (p_pick_f c9 rfl rfl rfl) ?_
      obtain rfl := Option.some.inj h14
      exact DL.weak J8 (Sub.cons rfl (Sub.nil _))
theorem ref21_Kept.val {a0_0 : Int} {a0_1 : Int} {a0_2 : Int} {a0_3 : Int} {r : Bool} (h : ref21_Kept.f a0_0 a0_1 a0_2 a0_3 = some r) (w : World) : Calls Try.prog 24 #[.agg #[.int .i64 a0_0, .int .i64 a0_1, .int .i64 a0_2, .int .i64 a0_3]] w fun e w' => e = .returned (.bool r) ∧ Below w.heap.size w w' :=
  calls_value (ref21_Kept.ok h w)

/-! ### escutcheon/policy.mayAsk: function 29 -/
noncomputable def B29 : Code := bodyOf Try.f29
def policy_mayAsk.f (a0 : Int) (a1 : Int) : Option (Bool) := (policy_OfType.f a0).bind fun t1 => (if (t1 != 0) = true then ((policy_in.f a1 63).bind fun t10 => some t10) else (some false)).bind fun q4 => some q4
set_option maxRecDepth 20000 in
theorem policy_mayAsk.ok {a0 : Int} {a1 : Int} {r : Bool} (h : policy_mayAsk.f a0 a1 = some r) (w : World) : Calls Try.prog 29 #[.int .i64 a0, .int .i64 a1] w (Post (fun u => u = .bool r) w) := by
  unfold policy_mayAsk.f at h
  refine calls_of_TT (N := 12) (S := [(0, .int .i64 a0), (1, .int .i64 a1)]) (c := B29) Try.func29 rfl rfl rfl (by simp) ?_
  show TT _ _ _ _ _ _ [.code (sub [] B29)] _ _
  refine TT.seq (x := sub [0] B29) (y := sub [1] B29) ?_
  refine TT.region (id := 0) (n := 1) (ops := (opsOf (sub [0] B29))) [(.pure, none)] rfl ?_
  show DL _ _ _ _ _ _ _ _ _ _ [0] _ _
  refine DL.pu 4 (.bool false) rfl (p_assign rfl rfl) ?_
  refine DL.nil ?_
  refine TT.seq (x := sub [1, 0] B29) (y := sub [1, 1] B29) ?_
  refine TT.region (id := 1) (n := 8) (ops := (opsOf (sub [1, 0] B29))) [(.pure, none), (.quiet, none), (.pure, none), (.pure, none), (.pure, none), (.quiet, none), (.pure, none), (.pure, none)] rfl ?_
  show DL _ _ _ _ _ _ _ _ _ _ [0, 1, 2, 3, 4, 5, 6, 7] _ _
  refine DL.pu 5 (.int .i64 a0) rfl (p_move rfl rfl) ?_
  obtain ⟨t1, h2, h3⟩ := bind_some h
  refine DL.qu 6 (.int .i64 t1) rfl (f_call rfl rfl (args_val (vs := [.int .i64 a0]) rfl) (fun w => enter25 _ w) (fun w => policy_OfType.val h2 w)) ?_
  refine DL.pu 7 (.bool (t1 != 0)) rfl (p_neq rfl rfl rfl) ?_
  refine DL.pu 8 (.bool (t1 != 0)) rfl (p_move rfl rfl) ?_
  obtain ⟨q4, h5, h6⟩ := bind_some h3
  refine DL.cut [(11, .bool q4)] [7] ?_ (fun J7 => ?_)
  · refine DL.pu 4 (.bool q4) rfl (p_assign rfl rfl) ?_
    refine DL.nil ?_
    obtain rfl := Option.some.inj h6
    exact ret1 Try.func29 rfl (ResV.tmp rfl) rfl
  · by_cases c8 : (t1 != 0) = true
    · have h9 := ite_true c8 h5
      refine DL.pure (v := .int .i64 a1) rfl (Wn.yes c8 rfl rfl rfl rfl) rfl rfl rfl (p_move rfl rfl) ?_
      obtain ⟨t10, h11, h12⟩ := bind_some h9
      refine DL.quiet (v := .bool t10) rfl (Wn.yes c8 rfl rfl rfl rfl) rfl rfl rfl (f_call rfl rfl (args_val (vs := [.int .i64 a1, .int .i64 63]) rfl) (fun w => enter31 _ w) (fun w => policy_in.val h11 w)) ?_
      refine DL.pu 11 (.bool t10) rfl (p_pick_t c8 rfl rfl rfl) ?_
      obtain rfl := Option.some.inj h12
      exact DL.weak J7 (Sub.cons rfl (Sub.nil _))
    · replace c8 := Bool.eq_false_iff.mpr c8
      have h13 := ite_false c8 h5
      refine DL.not (i := 4) rfl (Wn.no c8 rfl rfl rfl rfl) rfl rfl ?_
      refine DL.not (i := 5) rfl (Wn.no c8 rfl rfl rfl rfl) rfl rfl ?_
      refine DL.pu 11 (.bool false) rfl (p_pick_f c8 rfl rfl rfl) ?_
      obtain rfl := Option.some.inj h13
      exact DL.weak J7 (Sub.cons rfl (Sub.nil _))
theorem policy_mayAsk.val {a0 : Int} {a1 : Int} {r : Bool} (h : policy_mayAsk.f a0 a1 = some r) (w : World) : Calls Try.prog 29 #[.int .i64 a0, .int .i64 a1] w fun e w' => e = .returned (.bool r) ∧ Below w.heap.size w w' :=
  calls_value (policy_mayAsk.ok h w)

/-! ### escutcheon/policy.child: function 30 -/
noncomputable def B30 : Code := bodyOf Try.f30
def policy_child.f (a0 : Int) (a1 : Int) (a2 : Int) (a3 : Bool) : Option (Int × Int × Int × Int × Int) := (if a3 = true then (some (a1, a0, a2, ior .i64 a2 1)) else (some (a1, a0, a2, a2))).bind fun (j_b2_4_0, j_b2_4_1, j_b2_4_2, j_b2_4_3) => (policy_OfType.f a1).bind fun t10 => (policy_in.f a2 t10).bind fun t13 => if (!t13) = true then (some (0, 0, 0, 0, 12)) else (some (j_b2_4_0, j_b2_4_1, j_b2_4_2, j_b2_4_3, 0))
set_option maxRecDepth 20000 in
theorem policy_child.ok {a0 : Int} {a1 : Int} {a2 : Int} {a3 : Bool} {r_0_0 : Int} {r_0_1 : Int} {r_0_2 : Int} {r_0_3 : Int} {r_1 : Int} (h : policy_child.f a0 a1 a2 a3 = some (r_0_0, r_0_1, r_0_2, r_0_3, r_1)) (w : World) : Calls Try.prog 30 #[.int .i64 a0, .int .i64 a1, .int .i64 a2, .bool a3] w (Post (fun u => u = .tuple #[.agg #[.int .i64 r_0_0, .int .i64 r_0_1, .int .i64 r_0_2, .int .i64 r_0_3], .int .i64 r_1]) w) := by
  unfold policy_child.f at h
  refine calls_of_TT (N := 28) (S := [(0, .int .i64 a0), (1, .int .i64 a1), (2, .int .i64 a2), (3, .bool a3)]) (c := B30) Try.func30 rfl rfl rfl (by simp) ?_
  show TT _ _ _ _ _ _ [.code (sub [] B30)] _ _
  refine TT.seq (x := sub [0] B30) (y := sub [1] B30) ?_
  refine TT.region (id := 0) (n := 2) (ops := (opsOf (sub [0] B30))) [(.alloc, none), (.pure, none)] rfl ?_
  show DL _ _ _ _ _ _ _ _ _ _ [0, 1] _ _
  refine DL.new (ob := .cells (#[.int .i64 0, .int .i64 0, .int .i64 0, .int .i64 0]) 26) (mk := fun b => ptr b 0) (i := 0) rfl (Wn.none rfl) rfl rfl rfl (f_alloc ty_z26 rfl) ?_
  intro b1 hb1
  refine DL.pu 9 (.int .i64 0) rfl (p_assign rfl rfl) ?_
  refine DL.nil ?_
  refine TT.seq (x := sub [1, 0] B30) (y := sub [1, 1] B30) ?_
  refine TT.region (id := 1) (n := 7) (ops := (opsOf (sub [1, 0] B30))) [(.pure, none), (.pure, none), (.pure, none), (.pure, none), (.pure, none), (.alloc, none), (.store, none)] rfl ?_
  show DL _ _ _ _ _ _ _ _ _ _ [0, 1, 2, 3, 4, 5, 6] _ _
  refine DL.pu 11 (.int .i64 a1) rfl (p_move rfl rfl) ?_
  refine DL.pu 12 (.int .i64 a0) rfl (p_move rfl rfl) ?_
  refine DL.pu 13 (.int .i64 a2) rfl (p_move rfl rfl) ?_
  refine DL.pu 14 (.int .i64 a2) rfl (p_move rfl rfl) ?_
  refine DL.pu 15 (.agg #[.int .i64 a1, .int .i64 a0, .int .i64 a2, .int .i64 a2]) rfl (p_build (vs := [(0, .int .i64 a1), (1, .int .i64 a0), (2, .int .i64 a2), (3, .int .i64 a2)]) (fun w => by kernel_rfl) rfl rfl) ?_
  refine DL.new (ob := .cells (#[.int .i64 0, .int .i64 0, .int .i64 0, .int .i64 0]) 26) (mk := fun b => ptr b 0) (i := 5) rfl (Wn.none rfl) rfl rfl rfl (f_alloc ty_z26 rfl) ?_
  intro b2 hb2
  refine DL.put (H' := [(some b2, .cells (#[.int .i64 a1, .int .i64 a0, .int .i64 a2, .int .i64 a2]) 26 (0, 0)), (some b1, .cells (#[.int .i64 0, .int .i64 0, .int .i64 0, .int .i64 0]) 26 (0, 0))]) (i := 6) rfl (Wn.none rfl) rfl rfl (f_storeA (j := 0) ty_s26 rfl rfl rfl (by simp [OneCell]) rfl rfl rfl) (keep_none rfl) ?_
  refine DL.nil ?_
  refine TT.seq (x := sub [1, 1, 0] B30) (y := sub [1, 1, 1] B30) ?_
  refine TT.seq (x := sub [1, 1, 0, 0] B30) (y := sub [1, 1, 0, 1] B30) ?_
  refine TT.region (id := 2) (n := 1) (ops := (opsOf (sub [1, 1, 0, 0] B30))) [(.pure, none)] rfl ?_
  show DL _ _ _ _ _ _ _ _ _ _ [0] _ _
  refine DL.pu 16 (.bool a3) rfl (p_move rfl rfl) ?_
  refine DL.nil ?_
  obtain ⟨⟨j_b2_4_0, j_b2_4_1, j_b2_4_2, j_b2_4_3⟩, h5, h6⟩ := bind_some h
  refine TT.cutI (True) (.code (sub [1, 1, 1] B30) :: []) [(1, .int .i64 a1), (2, .int .i64 a2), (8, ptr b1 0), (10, ptr b2 0)] [(some b2, .cells (#[.int .i64 j_b2_4_0, .int .i64 j_b2_4_1, .int .i64 j_b2_4_2, .int .i64 j_b2_4_3]) 26 (0, 0)), (some b1, .cells (#[.int .i64 0, .int .i64 0, .int .i64 0, .int .i64 0]) 26 (0, 0))] ?_ (fun J7 => ?_)
  · intro _
    refine TT.seq (x := sub [1, 1, 1, 0] B30) (y := sub [1, 1, 1, 1] B30) ?_
    refine TT.seq (x := sub [1, 1, 1, 0, 0] B30) (y := sub [1, 1, 1, 0, 1] B30) ?_
    refine TT.region (id := 4) (n := 5) (ops := (opsOf (sub [1, 1, 1, 0, 0] B30))) [(.pure, none), (.pure, none), (.quiet, none), (.quiet, none), (.pure, none)] rfl ?_
    show DL _ _ _ _ _ _ _ _ _ _ [0, 1, 2, 3, 4] _ _
    refine DL.pu 21 (.int .i64 a2) rfl (p_move rfl rfl) ?_
    refine DL.pu 22 (.int .i64 a1) rfl (p_move rfl rfl) ?_
    obtain ⟨t10, h11, h12⟩ := bind_some h6
    refine DL.qu 23 (.int .i64 t10) rfl (f_call rfl rfl (args_val (vs := [.int .i64 a1]) rfl) (fun w => enter25 _ w) (fun w => policy_OfType.val h11 w)) ?_
    obtain ⟨t13, h14, h15⟩ := bind_some h12
    refine DL.qu 24 (.bool t13) rfl (f_call rfl rfl (args_val (vs := [.int .i64 a2, .int .i64 t10]) rfl) (fun w => enter31 _ w) (fun w => policy_in.val h14 w)) ?_
    refine DL.pu 25 (.bool (!t13)) rfl (p_not rfl rfl) ?_
    refine DL.nil ?_
    by_cases c16 : (!t13) = true
    · have h17 := ite_true c16 h15
      refine TT.cond_true (x := sub [1, 1, 1, 0, 1, 0] B30) (y := sub [1, 1, 1, 0, 1, 1] B30) rfl c16 ?_
      refine TT.seq (x := sub [1, 1, 1, 0, 1, 0, 0] B30) (y := sub [1, 1, 1, 0, 1, 0, 1] B30) ?_
      refine TT.region (id := 5) (n := 3) (ops := (opsOf (sub [1, 1, 1, 0, 1, 0, 0] B30))) [(.pure, none), (.store, none), (.pure, none)] rfl ?_
      show DL _ _ _ _ _ _ _ _ _ _ [0, 1, 2] _ _
      refine DL.pu 26 (.agg #[.int .i64 0, .int .i64 0, .int .i64 0, .int .i64 0]) rfl (p_build (vs := []) (fun w => by kernel_rfl) rfl rfl) ?_
      refine DL.put (H' := [(some b2, .cells (#[.int .i64 j_b2_4_0, .int .i64 j_b2_4_1, .int .i64 j_b2_4_2, .int .i64 j_b2_4_3]) 26 (0, 0)), (some b1, .cells (#[.int .i64 0, .int .i64 0, .int .i64 0, .int .i64 0]) 26 (0, 0))]) (i := 1) rfl (Wn.none rfl) rfl rfl (f_storeA (j := 1) ty_s26 rfl rfl rfl (by simp [OneCell]) rfl rfl rfl) (keep_none rfl) ?_
      refine DL.pu 9 (.int .i64 12) rfl (p_assign rfl rfl) ?_
      refine DL.nil ?_
      simp only [Option.some.injEq, Prod.mk.injEq] at h17
      obtain ⟨rfl, rfl, rfl, rfl, rfl⟩ := h17
      exact ret2 Try.func30 rfl (ResV.cell (j := 1) ty_a26 ty_s26 rfl rfl rfl) (ResV.tmp rfl) rfl
    · replace c16 := Bool.eq_false_iff.mpr c16
      have h18 := ite_false c16 h15
      refine TT.cond_false (x := sub [1, 1, 1, 0, 1, 0] B30) (y := sub [1, 1, 1, 0, 1, 1] B30) rfl c16 ?_
      refine TT.skip ?_
      refine TT.seq (x := sub [1, 1, 1, 1, 0] B30) (y := sub [1, 1, 1, 1, 1] B30) ?_
      refine TT.region (id := 6) (n := 3) (ops := (opsOf (sub [1, 1, 1, 1, 0] B30))) [(.quiet, none), (.store, none), (.pure, none)] rfl ?_
      show DL _ _ _ _ _ _ _ _ _ _ [0, 1, 2] _ _
      refine DL.qu 27 (.agg #[.int .i64 j_b2_4_0, .int .i64 j_b2_4_1, .int .i64 j_b2_4_2, .int .i64 j_b2_4_3]) rfl (f_loadA (j := 0) ty_a26 ty_s26 rfl rfl rfl rfl) ?_
      refine DL.put (H' := [(some b2, .cells (#[.int .i64 j_b2_4_0, .int .i64 j_b2_4_1, .int .i64 j_b2_4_2, .int .i64 j_b2_4_3]) 26 (0, 0)), (some b1, .cells (#[.int .i64 j_b2_4_0, .int .i64 j_b2_4_1, .int .i64 j_b2_4_2, .int .i64 j_b2_4_3]) 26 (0, 0))]) (i := 1) rfl (Wn.none rfl) rfl rfl (f_storeA (j := 1) ty_s26 rfl rfl rfl (by simp [OneCell]) rfl rfl rfl) (keep_none rfl) ?_
      refine DL.pu 9 (.int .i64 0) rfl (p_assign rfl rfl) ?_
      refine DL.nil ?_
      simp only [Option.some.injEq, Prod.mk.injEq] at h18
      obtain ⟨rfl, rfl, rfl, rfl, rfl⟩ := h18
      exact ret2 Try.func30 rfl (ResV.cell (j := 1) ty_a26 ty_s26 rfl rfl rfl) (ResV.tmp rfl) rfl
  · by_cases c3 : a3 = true
    · have h8 := ite_true c3 h5
      refine TT.cond_true (x := sub [1, 1, 0, 1, 0] B30) (y := sub [1, 1, 0, 1, 1] B30) rfl c3 ?_
      refine TT.region (id := 3) (n := 5) (ops := (opsOf (sub [1, 1, 0, 1, 0] B30))) [(.pure, none), (.quiet, none), (.pure, none), (.pure, none), (.store, none)] rfl ?_
      show DL _ _ _ _ _ _ _ _ _ _ [0, 1, 2, 3, 4] _ _
      refine DL.pu 17 (ptr b2 3) rfl (p_fieldAddr ty_f26_3 rfl rfl) ?_
      refine DL.qu 18 (.int .i64 a2) rfl (f_load (j := 0) ty_a24 rfl rfl rfl rfl) ?_
      refine DL.pu 19 (.int .i64 (ior .i64 a2 1)) rfl (p_or rfl rfl rfl) ?_
      refine DL.pu 20 (ptr b2 3) rfl (p_fieldAddr ty_f26_3 rfl rfl) ?_
      refine DL.put (H' := [(some b2, .cells (#[.int .i64 a1, .int .i64 a0, .int .i64 a2, .int .i64 (ior .i64 a2 1)]) 26 (0, 0)), (some b1, .cells (#[.int .i64 0, .int .i64 0, .int .i64 0, .int .i64 0]) 26 (0, 0))]) (i := 4) rfl (Wn.none rfl) rfl rfl (f_store (c := #[.int .i64 a1, .int .i64 a0, .int .i64 a2, .int .i64 a2]) (v := .int .i64 (ior .i64 a2 1)) (off := 3) (j := 0) ty_s24 rfl rfl (of_decide_eq_true rfl) trivial rfl rfl rfl) (keep_none rfl) ?_
      refine DL.nil ?_
      simp only [Option.some.injEq, Prod.mk.injEq] at h8
      obtain ⟨rfl, rfl, rfl, rfl⟩ := h8
      exact TT.weak (J7 trivial) (Sub.cons rfl (Sub.cons rfl (Sub.cons rfl (Sub.cons rfl (Sub.nil _)))))
    · replace c3 := Bool.eq_false_iff.mpr c3
      have h9 := ite_false c3 h5
      refine TT.cond_false (x := sub [1, 1, 0, 1, 0] B30) (y := sub [1, 1, 0, 1, 1] B30) rfl c3 ?_
      refine TT.skip ?_
      simp only [Option.some.injEq, Prod.mk.injEq] at h9
      obtain ⟨rfl, rfl, rfl, rfl⟩ := h9
      exact TT.weak (J7 trivial) (Sub.cons rfl (Sub.cons rfl (Sub.cons rfl (Sub.cons rfl (Sub.nil _)))))
theorem policy_child.val {a0 : Int} {a1 : Int} {a2 : Int} {a3 : Bool} {r_0_0 : Int} {r_0_1 : Int} {r_0_2 : Int} {r_0_3 : Int} {r_1 : Int} (h : policy_child.f a0 a1 a2 a3 = some (r_0_0, r_0_1, r_0_2, r_0_3, r_1)) (w : World) : Calls Try.prog 30 #[.int .i64 a0, .int .i64 a1, .int .i64 a2, .bool a3] w fun e w' => e = .returned (.tuple #[.agg #[.int .i64 r_0_0, .int .i64 r_0_1, .int .i64 r_0_2, .int .i64 r_0_3], .int .i64 r_1]) ∧ Below w.heap.size w w' :=
  calls_value (policy_child.ok h w)

/-! ### escutcheon/policy.New: function 7 -/
noncomputable def B7 : Code := bodyOf Try.f7
def policy_New.f (a0 : Int) (a1 : Int) (a2 : Int) : Option (Int × Int × Int × Int × Int) := (if (a0 != 1) = true then (some (a0 != 2)) else (some false)).bind fun q2 => (if q2 = true then (some true) else ((policy_mayAsk.f a1 a2).bind fun t16 => some (!t16))).bind fun q9 => if q9 = true then (some (0, 0, 0, 0, 2)) else ((policy_child.f a0 a1 a2 (a0 == 2)).bind fun (t22_0_0, t22_0_1, t22_0_2, t22_0_3, t22_1) => some (t22_0_0, t22_0_1, t22_0_2, t22_0_3, t22_1))
set_option maxRecDepth 20000 in
theorem policy_New.ok {a0 : Int} {a1 : Int} {a2 : Int} {r_0_0 : Int} {r_0_1 : Int} {r_0_2 : Int} {r_0_3 : Int} {r_1 : Int} (h : policy_New.f a0 a1 a2 = some (r_0_0, r_0_1, r_0_2, r_0_3, r_1)) (w : World) : Calls Try.prog 7 #[.int .i64 a0, .int .i64 a1, .int .i64 a2] w (Post (fun u => u = .tuple #[.agg #[.int .i64 r_0_0, .int .i64 r_0_1, .int .i64 r_0_2, .int .i64 r_0_3], .int .i64 r_1]) w) := by
  unfold policy_New.f at h
  refine calls_of_TT (N := 29) (S := [(0, .int .i64 a0), (1, .int .i64 a1), (2, .int .i64 a2)]) (c := B7) Try.func7 rfl rfl rfl (by simp) ?_
  show TT _ _ _ _ _ _ [.code (sub [] B7)] _ _
  refine TT.seq (x := sub [0] B7) (y := sub [1] B7) ?_
  refine TT.region (id := 0) (n := 2) (ops := (opsOf (sub [0] B7))) [(.alloc, none), (.pure, none)] rfl ?_
  show DL _ _ _ _ _ _ _ _ _ _ [0, 1] _ _
  refine DL.new (ob := .cells (#[.int .i64 0, .int .i64 0, .int .i64 0, .int .i64 0]) 26) (mk := fun b => ptr b 0) (i := 0) rfl (Wn.none rfl) rfl rfl rfl (f_alloc ty_z26 rfl) ?_
  intro b1 hb1
  refine DL.pu 7 (.int .i64 0) rfl (p_assign rfl rfl) ?_
  refine DL.nil ?_
  refine TT.seq (x := sub [1, 0] B7) (y := sub [1, 1] B7) ?_
  refine TT.seq (x := sub [1, 0, 0] B7) (y := sub [1, 0, 1] B7) ?_
  refine TT.region (id := 1) (n := 12) (ops := (opsOf (sub [1, 0, 0] B7))) [(.pure, none), (.pure, none), (.pure, none), (.pure, none), (.pure, none), (.pure, none), (.pure, none), (.pure, none), (.pure, none), (.quiet, none), (.pure, none), (.pure, none)] rfl ?_
  show DL _ _ _ _ _ _ _ _ _ _ [0, 1, 2, 3, 4, 5, 6, 7, 8, 9, 10, 11] _ _
  refine DL.pu 8 (.int .i64 a0) rfl (p_move rfl rfl) ?_
  refine DL.pu 9 (.bool (a0 != 1)) rfl (p_neq rfl rfl rfl) ?_
  refine DL.pu 10 (.bool (a0 != 1)) rfl (p_move rfl rfl) ?_
  obtain ⟨q2, h3, h4⟩ := bind_some h
  refine DL.cut [(0, .int .i64 a0), (1, .int .i64 a1), (2, .int .i64 a2), (6, ptr b1 0), (13, .bool q2)] [6, 7, 8, 9, 10, 11] ?_ (fun J5 => ?_)
  · refine DL.pu 14 (.bool q2) rfl (p_move rfl rfl) ?_
    obtain ⟨q9, h10, h11⟩ := bind_some h4
    refine DL.cut [(0, .int .i64 a0), (1, .int .i64 a1), (2, .int .i64 a2), (6, ptr b1 0), (19, .bool q9)] [] ?_ (fun J12 => ?_)
    · refine DL.nil ?_
      by_cases c19 : q9 = true
      · have h20 := ite_true c19 h11
        refine TT.cond_true (x := sub [1, 0, 1, 0] B7) (y := sub [1, 0, 1, 1] B7) rfl c19 ?_
        refine TT.seq (x := sub [1, 0, 1, 0, 0] B7) (y := sub [1, 0, 1, 0, 1] B7) ?_
        refine TT.region (id := 2) (n := 3) (ops := (opsOf (sub [1, 0, 1, 0, 0] B7))) [(.pure, none), (.store, none), (.pure, none)] rfl ?_
        show DL _ _ _ _ _ _ _ _ _ _ [0, 1, 2] _ _
        refine DL.pu 20 (.agg #[.int .i64 0, .int .i64 0, .int .i64 0, .int .i64 0]) rfl (p_build (vs := []) (fun w => by kernel_rfl) rfl rfl) ?_
        refine DL.put (H' := [(some b1, .cells (#[.int .i64 0, .int .i64 0, .int .i64 0, .int .i64 0]) 26 (0, 0))]) (i := 1) rfl (Wn.none rfl) rfl rfl (f_storeA (j := 0) ty_s26 rfl rfl rfl (by simp [OneCell]) rfl rfl rfl) (keep_none rfl) ?_
        refine DL.pu 7 (.int .i64 2) rfl (p_assign rfl rfl) ?_
        refine DL.nil ?_
        simp only [Option.some.injEq, Prod.mk.injEq] at h20
        obtain ⟨rfl, rfl, rfl, rfl, rfl⟩ := h20
        exact ret2 Try.func7 rfl (ResV.cell (j := 0) ty_a26 ty_s26 rfl rfl rfl) (ResV.tmp rfl) rfl
      · replace c19 := Bool.eq_false_iff.mpr c19
        have h21 := ite_false c19 h11
        refine TT.cond_false (x := sub [1, 0, 1, 0] B7) (y := sub [1, 0, 1, 1] B7) rfl c19 ?_
        refine TT.skip ?_
        refine TT.seq (x := sub [1, 1, 0] B7) (y := sub [1, 1, 1] B7) ?_
        refine TT.region (id := 3) (n := 10) (ops := (opsOf (sub [1, 1, 0] B7))) [(.pure, none), (.pure, none), (.pure, none), (.pure, none), (.pure, none), (.quiet, none), (.pure, none), (.pure, none), (.store, none), (.pure, none)] rfl ?_
        show DL _ _ _ _ _ _ _ _ _ _ [0, 1, 2, 3, 4, 5, 6, 7, 8, 9] _ _
        refine DL.pu 21 (.int .i64 a0) rfl (p_move rfl rfl) ?_
        refine DL.pu 22 (.int .i64 a1) rfl (p_move rfl rfl) ?_
        refine DL.pu 23 (.int .i64 a2) rfl (p_move rfl rfl) ?_
        refine DL.pu 24 (.int .i64 a0) rfl (p_move rfl rfl) ?_
        refine DL.pu 25 (.bool (a0 == 2)) rfl (p_eql rfl rfl rfl) ?_
        obtain ⟨⟨t22_0_0, t22_0_1, t22_0_2, t22_0_3, t22_1⟩, h23, h24⟩ := bind_some h21
        refine DL.qu 26 (.tuple #[.agg #[.int .i64 t22_0_0, .int .i64 t22_0_1, .int .i64 t22_0_2, .int .i64 t22_0_3], .int .i64 t22_1]) rfl (f_call rfl rfl (args_val (vs := [.int .i64 a0, .int .i64 a1, .int .i64 a2, .bool (a0 == 2)]) rfl) (fun w => enter30 _ w) (fun w => policy_child.val h23 w)) ?_
        refine DL.pu 27 (.agg #[.int .i64 t22_0_0, .int .i64 t22_0_1, .int .i64 t22_0_2, .int .i64 t22_0_3]) rfl (p_extract rfl rfl rfl) ?_
        refine DL.pu 28 (.int .i64 t22_1) rfl (p_extract rfl rfl rfl) ?_
        refine DL.put (H' := [(some b1, .cells (#[.int .i64 t22_0_0, .int .i64 t22_0_1, .int .i64 t22_0_2, .int .i64 t22_0_3]) 26 (0, 0))]) (i := 8) rfl (Wn.none rfl) rfl rfl (f_storeA (j := 0) ty_s26 rfl rfl rfl (by simp [OneCell]) rfl rfl rfl) (keep_none rfl) ?_
        refine DL.pu 7 (.int .i64 t22_1) rfl (p_assign rfl rfl) ?_
        refine DL.nil ?_
        simp only [Option.some.injEq, Prod.mk.injEq] at h24
        obtain ⟨rfl, rfl, rfl, rfl, rfl⟩ := h24
        exact ret2 Try.func7 rfl (ResV.cell (j := 0) ty_a26 ty_s26 rfl rfl rfl) (ResV.tmp rfl) rfl
    · by_cases c13 : q2 = true
      · have h14 := ite_true c13 h10
        refine DL.not (i := 7) rfl (Wn.yes c13 rfl rfl rfl rfl) rfl rfl ?_
        refine DL.not (i := 8) rfl (Wn.yes c13 rfl rfl rfl rfl) rfl rfl ?_
        refine DL.not (i := 9) rfl (Wn.yes c13 rfl rfl rfl rfl) rfl rfl ?_
        refine DL.not (i := 10) rfl (Wn.yes c13 rfl rfl rfl rfl) rfl rfl ?_
        refine DL.pu 19 (.bool true) rfl (p_pick_t c13 rfl rfl rfl) ?_
        obtain rfl := Option.some.inj h14
        exact DL.weak J12 (Sub.cons rfl (Sub.cons rfl (Sub.cons rfl (Sub.cons rfl (Sub.cons rfl (Sub.nil _))))))
      · replace c13 := Bool.eq_false_iff.mpr c13
        have h15 := ite_false c13 h10
        refine DL.pure (v := .int .i64 a1) rfl (Wn.no c13 rfl rfl rfl rfl) rfl rfl rfl (p_move rfl rfl) ?_
        refine DL.pure (v := .int .i64 a2) rfl (Wn.no c13 rfl rfl rfl rfl) rfl rfl rfl (p_move rfl rfl) ?_
        obtain ⟨t16, h17, h18⟩ := bind_some h15
        refine DL.quiet (v := .bool t16) rfl (Wn.no c13 rfl rfl rfl rfl) rfl rfl rfl (f_call rfl rfl (args_val (vs := [.int .i64 a1, .int .i64 a2]) rfl) (fun w => enter29 _ w) (fun w => policy_mayAsk.val h17 w)) ?_
        refine DL.pure (v := .bool (!t16)) rfl (Wn.no c13 rfl rfl rfl rfl) rfl rfl rfl (p_not rfl rfl) ?_
        refine DL.pu 19 (.bool (!t16)) rfl (p_pick_f c13 rfl rfl rfl) ?_
        obtain rfl := Option.some.inj h18
        exact DL.weak J12 (Sub.cons rfl (Sub.cons rfl (Sub.cons rfl (Sub.cons rfl (Sub.cons rfl (Sub.nil _))))))
  · by_cases c6 : (a0 != 1) = true
    · have h7 := ite_true c6 h3
      refine DL.pure (v := .int .i64 a0) rfl (Wn.yes c6 rfl rfl rfl rfl) rfl rfl rfl (p_move rfl rfl) ?_
      refine DL.pure (v := .bool (a0 != 2)) rfl (Wn.yes c6 rfl rfl rfl rfl) rfl rfl rfl (p_neq rfl rfl rfl) ?_
      refine DL.pu 13 (.bool (a0 != 2)) rfl (p_pick_t c6 rfl rfl rfl) ?_
      obtain rfl := Option.some.inj h7
      exact DL.weak J5 (Sub.cons rfl (Sub.cons rfl (Sub.cons rfl (Sub.cons rfl (Sub.cons rfl (Sub.nil _))))))
    · replace c6 := Bool.eq_false_iff.mpr c6
      have h8 := ite_false c6 h3
      refine DL.not (i := 3) rfl (Wn.no c6 rfl rfl rfl rfl) rfl rfl ?_
      refine DL.not (i := 4) rfl (Wn.no c6 rfl rfl rfl rfl) rfl rfl ?_
      refine DL.pu 13 (.bool false) rfl (p_pick_f c6 rfl rfl rfl) ?_
      obtain rfl := Option.some.inj h8
      exact DL.weak J5 (Sub.cons rfl (Sub.cons rfl (Sub.cons rfl (Sub.cons rfl (Sub.cons rfl (Sub.nil _))))))
theorem policy_New.val {a0 : Int} {a1 : Int} {a2 : Int} {r_0_0 : Int} {r_0_1 : Int} {r_0_2 : Int} {r_0_3 : Int} {r_1 : Int} (h : policy_New.f a0 a1 a2 = some (r_0_0, r_0_1, r_0_2, r_0_3, r_1)) (w : World) : Calls Try.prog 7 #[.int .i64 a0, .int .i64 a1, .int .i64 a2] w fun e w' => e = .returned (.tuple #[.agg #[.int .i64 r_0_0, .int .i64 r_0_1, .int .i64 r_0_2, .int .i64 r_0_3], .int .i64 r_1]) ∧ Below w.heap.size w w' :=
  calls_value (policy_New.ok h w)

/-! ### escutcheon/policy.Derived: function 8 -/
noncomputable def B8 : Code := bodyOf Try.f8
def policy_Derived.f (a0_0 : Int) (a0_1 : Int) (a0_2 : Int) (a0_3 : Int) (a1 : Int) (a2 : Int) : Option (Int × Int × Int × Int × Int) := (policy_MayCard.f a0_0 a0_1 a0_2 a0_3).bind fun t3 => (if (!t3) = true then (some true) else ((policy_mayAsk.f a1 a2).bind fun t13 => some (!t13))).bind fun q6 => if q6 = true then (some (0, 0, 0, 0, 2)) else (if ((iandn .i64 (iand .i64 a2 3) a0_2) != 0) = true then (some (0, 0, 0, 0, 12)) else ((policy_Kept.f a0_0 a0_1 a0_2 a0_3).bind fun t22 => (policy_child.f 3 a1 a2 (!t22)).bind fun (t25_0_0, t25_0_1, t25_0_2, t25_0_3, t25_1) => some (t25_0_0, t25_0_1, t25_0_2, t25_0_3, t25_1)))
set_option maxRecDepth 20000 in
theorem policy_Derived.ok {a0_0 : Int} {a0_1 : Int} {a0_2 : Int} {a0_3 : Int} {a1 : Int} {a2 : Int} {r_0_0 : Int} {r_0_1 : Int} {r_0_2 : Int} {r_0_3 : Int} {r_1 : Int} (h : policy_Derived.f a0_0 a0_1 a0_2 a0_3 a1 a2 = some (r_0_0, r_0_1, r_0_2, r_0_3, r_1)) (w : World) : Calls Try.prog 8 #[.agg #[.int .i64 a0_0, .int .i64 a0_1, .int .i64 a0_2, .int .i64 a0_3], .int .i64 a1, .int .i64 a2] w (Post (fun u => u = .tuple #[.agg #[.int .i64 r_0_0, .int .i64 r_0_1, .int .i64 r_0_2, .int .i64 r_0_3], .int .i64 r_1]) w) := by
  unfold policy_Derived.f at h
  refine calls_of_TT (N := 33) (S := [(0, .agg #[.int .i64 a0_0, .int .i64 a0_1, .int .i64 a0_2, .int .i64 a0_3]), (1, .int .i64 a1), (2, .int .i64 a2)]) (c := B8) Try.func8 rfl rfl rfl (by simp) ?_
  show TT _ _ _ _ _ _ [.code (sub [] B8)] _ _
  refine TT.seq (x := sub [0] B8) (y := sub [1] B8) ?_
  refine TT.region (id := 0) (n := 3) (ops := (opsOf (sub [0] B8))) [(.alloc, none), (.alloc, none), (.pure, none)] rfl ?_
  show DL _ _ _ _ _ _ _ _ _ _ [0, 1, 2] _ _
  refine DL.new (ob := .cells (#[.int .i64 a0_0, .int .i64 a0_1, .int .i64 a0_2, .int .i64 a0_3]) 26) (mk := fun b => ptr b 0) (i := 0) rfl (Wn.none rfl) rfl rfl rfl (f_box (v := .agg #[.int .i64 a0_0, .int .i64 a0_1, .int .i64 a0_2, .int .i64 a0_3]) rfl rfl) ?_
  intro b1 hb1
  refine DL.new (ob := .cells (#[.int .i64 0, .int .i64 0, .int .i64 0, .int .i64 0]) 26) (mk := fun b => ptr b 0) (i := 1) rfl (Wn.none rfl) rfl rfl rfl (f_alloc ty_z26 rfl) ?_
  intro b2 hb2
  refine DL.pu 7 (.int .i64 0) rfl (p_assign rfl rfl) ?_
  refine DL.nil ?_
  refine TT.seq (x := sub [1, 0] B8) (y := sub [1, 1] B8) ?_
  refine TT.seq (x := sub [1, 0, 0] B8) (y := sub [1, 0, 1] B8) ?_
  refine TT.region (id := 1) (n := 9) (ops := (opsOf (sub [1, 0, 0] B8))) [(.quiet, none), (.quiet, none), (.pure, none), (.pure, none), (.pure, none), (.pure, none), (.quiet, none), (.pure, none), (.pure, none)] rfl ?_
  show DL _ _ _ _ _ _ _ _ _ _ [0, 1, 2, 3, 4, 5, 6, 7, 8] _ _
  refine DL.qu 8 (.agg #[.int .i64 a0_0, .int .i64 a0_1, .int .i64 a0_2, .int .i64 a0_3]) rfl (f_loadA (j := 1) ty_a26 ty_s26 rfl rfl rfl rfl) ?_
  obtain ⟨t3, h4, h5⟩ := bind_some h
  refine DL.qu 9 (.bool t3) rfl (f_call rfl rfl (args_val (vs := [.agg #[.int .i64 a0_0, .int .i64 a0_1, .int .i64 a0_2, .int .i64 a0_3]]) rfl) (fun w => enter22 _ w) (fun w => policy_MayCard.val h4 w)) ?_
  refine DL.pu 10 (.bool (!t3)) rfl (p_not rfl rfl) ?_
  refine DL.pu 11 (.bool (!t3)) rfl (p_move rfl rfl) ?_
  obtain ⟨q6, h7, h8⟩ := bind_some h5
  refine DL.cut [(1, .int .i64 a1), (2, .int .i64 a2), (3, ptr b1 0), (6, ptr b2 0), (16, .bool q6)] [] ?_ (fun J9 => ?_)
  · refine DL.nil ?_
    by_cases c16 : q6 = true
    · have h17 := ite_true c16 h8
      refine TT.cond_true (x := sub [1, 0, 1, 0] B8) (y := sub [1, 0, 1, 1] B8) rfl c16 ?_
      refine TT.seq (x := sub [1, 0, 1, 0, 0] B8) (y := sub [1, 0, 1, 0, 1] B8) ?_
      refine TT.region (id := 2) (n := 3) (ops := (opsOf (sub [1, 0, 1, 0, 0] B8))) [(.pure, none), (.store, none), (.pure, none)] rfl ?_
      show DL _ _ _ _ _ _ _ _ _ _ [0, 1, 2] _ _
      refine DL.pu 17 (.agg #[.int .i64 0, .int .i64 0, .int .i64 0, .int .i64 0]) rfl (p_build (vs := []) (fun w => by kernel_rfl) rfl rfl) ?_
      refine DL.put (H' := [(some b2, .cells (#[.int .i64 0, .int .i64 0, .int .i64 0, .int .i64 0]) 26 (0, 0)), (some b1, .cells (#[.int .i64 a0_0, .int .i64 a0_1, .int .i64 a0_2, .int .i64 a0_3]) 26 (0, 0))]) (i := 1) rfl (Wn.none rfl) rfl rfl (f_storeA (j := 0) ty_s26 rfl rfl rfl (by simp [OneCell]) rfl rfl rfl) (keep_none rfl) ?_
      refine DL.pu 7 (.int .i64 2) rfl (p_assign rfl rfl) ?_
      refine DL.nil ?_
      simp only [Option.some.injEq, Prod.mk.injEq] at h17
      obtain ⟨rfl, rfl, rfl, rfl, rfl⟩ := h17
      exact ret2 Try.func8 rfl (ResV.cell (j := 0) ty_a26 ty_s26 rfl rfl rfl) (ResV.tmp rfl) rfl
    · replace c16 := Bool.eq_false_iff.mpr c16
      have h18 := ite_false c16 h8
      refine TT.cond_false (x := sub [1, 0, 1, 0] B8) (y := sub [1, 0, 1, 1] B8) rfl c16 ?_
      refine TT.skip ?_
      refine TT.seq (x := sub [1, 1, 0] B8) (y := sub [1, 1, 1] B8) ?_
      refine TT.seq (x := sub [1, 1, 0, 0] B8) (y := sub [1, 1, 0, 1] B8) ?_
      refine TT.region (id := 3) (n := 6) (ops := (opsOf (sub [1, 1, 0, 0] B8))) [(.pure, none), (.pure, none), (.pure, none), (.quiet, none), (.pure, none), (.pure, none)] rfl ?_
      show DL _ _ _ _ _ _ _ _ _ _ [0, 1, 2, 3, 4, 5] _ _
      refine DL.pu 18 (.int .i64 a2) rfl (p_move rfl rfl) ?_
      refine DL.pu 19 (.int .i64 (iand .i64 a2 3)) rfl (p_and rfl rfl rfl) ?_
      refine DL.pu 20 (ptr b1 2) rfl (p_fieldAddr ty_f26_2 rfl rfl) ?_
      refine DL.qu 21 (.int .i64 a0_2) rfl (f_load (j := 1) ty_a24 rfl rfl rfl rfl) ?_
      refine DL.pu 22 (.int .i64 (iandn .i64 (iand .i64 a2 3) a0_2)) rfl (p_andNot rfl rfl rfl) ?_
      refine DL.pu 23 (.bool ((iandn .i64 (iand .i64 a2 3) a0_2) != 0)) rfl (p_neq rfl rfl rfl) ?_
      refine DL.nil ?_
      by_cases c19 : ((iandn .i64 (iand .i64 a2 3) a0_2) != 0) = true
      · have h20 := ite_true c19 h18
        refine TT.cond_true (x := sub [1, 1, 0, 1, 0] B8) (y := sub [1, 1, 0, 1, 1] B8) rfl c19 ?_
        refine TT.seq (x := sub [1, 1, 0, 1, 0, 0] B8) (y := sub [1, 1, 0, 1, 0, 1] B8) ?_
        refine TT.region (id := 4) (n := 3) (ops := (opsOf (sub [1, 1, 0, 1, 0, 0] B8))) [(.pure, none), (.store, none), (.pure, none)] rfl ?_
        show DL _ _ _ _ _ _ _ _ _ _ [0, 1, 2] _ _
        refine DL.pu 24 (.agg #[.int .i64 0, .int .i64 0, .int .i64 0, .int .i64 0]) rfl (p_build (vs := []) (fun w => by kernel_rfl) rfl rfl) ?_
        refine DL.put (H' := [(some b2, .cells (#[.int .i64 0, .int .i64 0, .int .i64 0, .int .i64 0]) 26 (0, 0)), (some b1, .cells (#[.int .i64 a0_0, .int .i64 a0_1, .int .i64 a0_2, .int .i64 a0_3]) 26 (0, 0))]) (i := 1) rfl (Wn.none rfl) rfl rfl (f_storeA (j := 0) ty_s26 rfl rfl rfl (by simp [OneCell]) rfl rfl rfl) (keep_none rfl) ?_
        refine DL.pu 7 (.int .i64 12) rfl (p_assign rfl rfl) ?_
        refine DL.nil ?_
        simp only [Option.some.injEq, Prod.mk.injEq] at h20
        obtain ⟨rfl, rfl, rfl, rfl, rfl⟩ := h20
        exact ret2 Try.func8 rfl (ResV.cell (j := 0) ty_a26 ty_s26 rfl rfl rfl) (ResV.tmp rfl) rfl
      · replace c19 := Bool.eq_false_iff.mpr c19
        have h21 := ite_false c19 h18
        refine TT.cond_false (x := sub [1, 1, 0, 1, 0] B8) (y := sub [1, 1, 0, 1, 1] B8) rfl c19 ?_
        refine TT.skip ?_
        refine TT.seq (x := sub [1, 1, 1, 0] B8) (y := sub [1, 1, 1, 1] B8) ?_
        refine TT.region (id := 5) (n := 10) (ops := (opsOf (sub [1, 1, 1, 0] B8))) [(.pure, none), (.pure, none), (.quiet, none), (.quiet, none), (.pure, none), (.quiet, none), (.pure, none), (.pure, none), (.store, none), (.pure, none)] rfl ?_
        show DL _ _ _ _ _ _ _ _ _ _ [0, 1, 2, 3, 4, 5, 6, 7, 8, 9] _ _
        refine DL.pu 25 (.int .i64 a1) rfl (p_move rfl rfl) ?_
        refine DL.pu 26 (.int .i64 a2) rfl (p_move rfl rfl) ?_
        refine DL.qu 27 (.agg #[.int .i64 a0_0, .int .i64 a0_1, .int .i64 a0_2, .int .i64 a0_3]) rfl (f_loadA (j := 1) ty_a26 ty_s26 rfl rfl rfl rfl) ?_
        obtain ⟨t22, h23, h24⟩ := bind_some h21
        refine DL.qu 28 (.bool t22) rfl (f_call rfl rfl (args_val (vs := [.agg #[.int .i64 a0_0, .int .i64 a0_1, .int .i64 a0_2, .int .i64 a0_3]]) rfl) (fun w => enter21 _ w) (fun w => policy_Kept.val h23 w)) ?_
        refine DL.pu 29 (.bool (!t22)) rfl (p_not rfl rfl) ?_
        obtain ⟨⟨t25_0_0, t25_0_1, t25_0_2, t25_0_3, t25_1⟩, h26, h27⟩ := bind_some h24
        refine DL.qu 30 (.tuple #[.agg #[.int .i64 t25_0_0, .int .i64 t25_0_1, .int .i64 t25_0_2, .int .i64 t25_0_3], .int .i64 t25_1]) rfl (f_call rfl rfl (args_val (vs := [.int .i64 3, .int .i64 a1, .int .i64 a2, .bool (!t22)]) rfl) (fun w => enter30 _ w) (fun w => policy_child.val h26 w)) ?_
        refine DL.pu 31 (.agg #[.int .i64 t25_0_0, .int .i64 t25_0_1, .int .i64 t25_0_2, .int .i64 t25_0_3]) rfl (p_extract rfl rfl rfl) ?_
        refine DL.pu 32 (.int .i64 t25_1) rfl (p_extract rfl rfl rfl) ?_
        refine DL.put (H' := [(some b2, .cells (#[.int .i64 t25_0_0, .int .i64 t25_0_1, .int .i64 t25_0_2, .int .i64 t25_0_3]) 26 (0, 0)), (some b1, .cells (#[.int .i64 a0_0, .int .i64 a0_1, .int .i64 a0_2, .int .i64 a0_3]) 26 (0, 0))]) (i := 8) rfl (Wn.none rfl) rfl rfl (f_storeA (j := 0) ty_s26 rfl rfl rfl (by simp [OneCell]) rfl rfl rfl) (keep_none rfl) ?_
        refine DL.pu 7 (.int .i64 t25_1) rfl (p_assign rfl rfl) ?_
        refine DL.nil ?_
        simp only [Option.some.injEq, Prod.mk.injEq] at h27
        obtain ⟨rfl, rfl, rfl, rfl, rfl⟩ := h27
        exact ret2 Try.func8 rfl (ResV.cell (j := 0) ty_a26 ty_s26 rfl rfl rfl) (ResV.tmp rfl) rfl
  · by_cases c10 : (!t3) = true
    · have h11 := ite_true c10 h7
      refine DL.not (i := 4) rfl (Wn.yes c10 rfl rfl rfl rfl) rfl rfl ?_
      refine DL.not (i := 5) rfl (Wn.yes c10 rfl rfl rfl rfl) rfl rfl ?_
      refine DL.not (i := 6) rfl (Wn.yes c10 rfl rfl rfl rfl) rfl rfl ?_
      refine DL.not (i := 7) rfl (Wn.yes c10 rfl rfl rfl rfl) rfl rfl ?_
      refine DL.pu 16 (.bool true) rfl (p_pick_t c10 rfl rfl rfl) ?_
      obtain rfl := Option.some.inj h11
      exact DL.weak J9 (Sub.cons rfl (Sub.cons rfl (Sub.cons rfl (Sub.cons rfl (Sub.cons rfl (Sub.nil _))))))
    · replace c10 := Bool.eq_false_iff.mpr c10
      have h12 := ite_false c10 h7
      refine DL.pure (v := .int .i64 a1) rfl (Wn.no c10 rfl rfl rfl rfl) rfl rfl rfl (p_move rfl rfl) ?_
      refine DL.pure (v := .int .i64 a2) rfl (Wn.no c10 rfl rfl rfl rfl) rfl rfl rfl (p_move rfl rfl) ?_
      obtain ⟨t13, h14, h15⟩ := bind_some h12
      refine DL.quiet (v := .bool t13) rfl (Wn.no c10 rfl rfl rfl rfl) rfl rfl rfl (f_call rfl rfl (args_val (vs := [.int .i64 a1, .int .i64 a2]) rfl) (fun w => enter29 _ w) (fun w => policy_mayAsk.val h14 w)) ?_
      refine DL.pure (v := .bool (!t13)) rfl (Wn.no c10 rfl rfl rfl rfl) rfl rfl rfl (p_not rfl rfl) ?_
      refine DL.pu 16 (.bool (!t13)) rfl (p_pick_f c10 rfl rfl rfl) ?_
      obtain rfl := Option.some.inj h15
      exact DL.weak J9 (Sub.cons rfl (Sub.cons rfl (Sub.cons rfl (Sub.cons rfl (Sub.cons rfl (Sub.nil _))))))
theorem policy_Derived.val {a0_0 : Int} {a0_1 : Int} {a0_2 : Int} {a0_3 : Int} {a1 : Int} {a2 : Int} {r_0_0 : Int} {r_0_1 : Int} {r_0_2 : Int} {r_0_3 : Int} {r_1 : Int} (h : policy_Derived.f a0_0 a0_1 a0_2 a0_3 a1 a2 = some (r_0_0, r_0_1, r_0_2, r_0_3, r_1)) (w : World) : Calls Try.prog 8 #[.agg #[.int .i64 a0_0, .int .i64 a0_1, .int .i64 a0_2, .int .i64 a0_3], .int .i64 a1, .int .i64 a2] w fun e w' => e = .returned (.tuple #[.agg #[.int .i64 r_0_0, .int .i64 r_0_1, .int .i64 r_0_2, .int .i64 r_0_3], .int .i64 r_1]) ∧ Below w.heap.size w w' :=
  calls_value (policy_Derived.ok h w)

/-! ### escutcheon/policy.Unwrapped: function 9 -/
noncomputable def B9 : Code := bodyOf Try.f9
def policy_Unwrapped.f (a0_0 : Int) (a0_1 : Int) (a0_2 : Int) (a0_3 : Int) (a1_0 : Int) (a1_1 : Int) (a1_2 : Int) (a1_3 : Int) (a2 : Int) : Option (Int × Int × Int × Int × Int) := (policy_MayCard.f a0_0 a0_1 a0_2 a0_3).bind fun t4 => (if (!t4) = true then (some true) else ((policy_MayCard.f a1_0 a1_1 a1_2 a1_3).bind fun t14 => some (!t14))).bind fun q7 => (if q7 = true then (some true) else ((policy_in.f a2 63).bind fun t24 => some (!t24))).bind fun q17 => if q17 = true then (some (0, 0, 0, 0, 2)) else ((policy_in.f a2 a1_2).bind fun t30 => if (!t30) = true then (some (0, 0, 0, 0, 12)) else ((policy_Kept.f a0_0 a0_1 a0_2 a0_3).bind fun t37 => (if (!t37) = true then (some true) else ((policy_Kept.f a1_0 a1_1 a1_2 a1_3).bind fun t47 => some (!t47))).bind fun q40 => (policy_child.f 4 a1_0 a2 q40).bind fun (t50_0_0, t50_0_1, t50_0_2, t50_0_3, t50_1) => some (t50_0_0, t50_0_1, t50_0_2, t50_0_3, t50_1)))
set_option maxRecDepth 20000 in
theorem policy_Unwrapped.ok {a0_0 : Int} {a0_1 : Int} {a0_2 : Int} {a0_3 : Int} {a1_0 : Int} {a1_1 : Int} {a1_2 : Int} {a1_3 : Int} {a2 : Int} {r_0_0 : Int} {r_0_1 : Int} {r_0_2 : Int} {r_0_3 : Int} {r_1 : Int} (h : policy_Unwrapped.f a0_0 a0_1 a0_2 a0_3 a1_0 a1_1 a1_2 a1_3 a2 = some (r_0_0, r_0_1, r_0_2, r_0_3, r_1)) (w : World) : Calls Try.prog 9 #[.agg #[.int .i64 a0_0, .int .i64 a0_1, .int .i64 a0_2, .int .i64 a0_3], .agg #[.int .i64 a1_0, .int .i64 a1_1, .int .i64 a1_2, .int .i64 a1_3], .int .i64 a2] w (Post (fun u => u = .tuple #[.agg #[.int .i64 r_0_0, .int .i64 r_0_1, .int .i64 r_0_2, .int .i64 r_0_3], .int .i64 r_1]) w) := by
  unfold policy_Unwrapped.f at h
  refine calls_of_TT (N := 42) (S := [(0, .agg #[.int .i64 a0_0, .int .i64 a0_1, .int .i64 a0_2, .int .i64 a0_3]), (1, .agg #[.int .i64 a1_0, .int .i64 a1_1, .int .i64 a1_2, .int .i64 a1_3]), (2, .int .i64 a2)]) (c := B9) Try.func9 rfl rfl rfl (by simp) ?_
  show TT _ _ _ _ _ _ [.code (sub [] B9)] _ _
  refine TT.seq (x := sub [0] B9) (y := sub [1] B9) ?_
  refine TT.region (id := 0) (n := 4) (ops := (opsOf (sub [0] B9))) [(.alloc, none), (.alloc, none), (.alloc, none), (.pure, none)] rfl ?_
  show DL _ _ _ _ _ _ _ _ _ _ [0, 1, 2, 3] _ _
  refine DL.new (ob := .cells (#[.int .i64 a0_0, .int .i64 a0_1, .int .i64 a0_2, .int .i64 a0_3]) 26) (mk := fun b => ptr b 0) (i := 0) rfl (Wn.none rfl) rfl rfl rfl (f_box (v := .agg #[.int .i64 a0_0, .int .i64 a0_1, .int .i64 a0_2, .int .i64 a0_3]) rfl rfl) ?_
  intro b1 hb1
  refine DL.new (ob := .cells (#[.int .i64 a1_0, .int .i64 a1_1, .int .i64 a1_2, .int .i64 a1_3]) 26) (mk := fun b => ptr b 0) (i := 1) rfl (Wn.none rfl) rfl rfl rfl (f_box (v := .agg #[.int .i64 a1_0, .int .i64 a1_1, .int .i64 a1_2, .int .i64 a1_3]) rfl rfl) ?_
  intro b2 hb2
  refine DL.new (ob := .cells (#[.int .i64 0, .int .i64 0, .int .i64 0, .int .i64 0]) 26) (mk := fun b => ptr b 0) (i := 2) rfl (Wn.none rfl) rfl rfl rfl (f_alloc ty_z26 rfl) ?_
  intro b3 hb3
  refine DL.pu 7 (.int .i64 0) rfl (p_assign rfl rfl) ?_
  refine DL.nil ?_
  refine TT.seq (x := sub [1, 0] B9) (y := sub [1, 1] B9) ?_
  refine TT.seq (x := sub [1, 0, 0] B9) (y := sub [1, 0, 1] B9) ?_
  refine TT.region (id := 1) (n := 13) (ops := (opsOf (sub [1, 0, 0] B9))) [(.quiet, none), (.quiet, none), (.pure, none), (.pure, none), (.quiet, none), (.quiet, none), (.pure, none), (.pure, none), (.pure, none), (.pure, none), (.quiet, none), (.pure, none), (.pure, none)] rfl ?_
  show DL _ _ _ _ _ _ _ _ _ _ [0, 1, 2, 3, 4, 5, 6, 7, 8, 9, 10, 11, 12] _ _
  refine DL.qu 8 (.agg #[.int .i64 a0_0, .int .i64 a0_1, .int .i64 a0_2, .int .i64 a0_3]) rfl (f_loadA (j := 2) ty_a26 ty_s26 rfl rfl rfl rfl) ?_
  obtain ⟨t4, h5, h6⟩ := bind_some h
  refine DL.qu 9 (.bool t4) rfl (f_call rfl rfl (args_val (vs := [.agg #[.int .i64 a0_0, .int .i64 a0_1, .int .i64 a0_2, .int .i64 a0_3]]) rfl) (fun w => enter22 _ w) (fun w => policy_MayCard.val h5 w)) ?_
  refine DL.pu 10 (.bool (!t4)) rfl (p_not rfl rfl) ?_
  refine DL.pu 11 (.bool (!t4)) rfl (p_move rfl rfl) ?_
  obtain ⟨q7, h8, h9⟩ := bind_some h6
  refine DL.cut [(2, .int .i64 a2), (3, ptr b1 0), (4, ptr b2 0), (6, ptr b3 0), (15, .bool q7)] [8, 9, 10, 11, 12] ?_ (fun J10 => ?_)
  · refine DL.pu 16 (.bool q7) rfl (p_move rfl rfl) ?_
    obtain ⟨q17, h18, h19⟩ := bind_some h9
    refine DL.cut [(2, .int .i64 a2), (3, ptr b1 0), (4, ptr b2 0), (6, ptr b3 0), (20, .bool q17)] [] ?_ (fun J20 => ?_)
    · refine DL.nil ?_
      by_cases c27 : q17 = true
      · have h28 := ite_true c27 h19
        refine TT.cond_true (x := sub [1, 0, 1, 0] B9) (y := sub [1, 0, 1, 1] B9) rfl c27 ?_
        refine TT.seq (x := sub [1, 0, 1, 0, 0] B9) (y := sub [1, 0, 1, 0, 1] B9) ?_
        refine TT.region (id := 2) (n := 3) (ops := (opsOf (sub [1, 0, 1, 0, 0] B9))) [(.pure, none), (.store, none), (.pure, none)] rfl ?_
        show DL _ _ _ _ _ _ _ _ _ _ [0, 1, 2] _ _
        refine DL.pu 21 (.agg #[.int .i64 0, .int .i64 0, .int .i64 0, .int .i64 0]) rfl (p_build (vs := []) (fun w => by kernel_rfl) rfl rfl) ?_
        refine DL.put (H' := [(some b3, .cells (#[.int .i64 0, .int .i64 0, .int .i64 0, .int .i64 0]) 26 (0, 0)), (some b2, .cells (#[.int .i64 a1_0, .int .i64 a1_1, .int .i64 a1_2, .int .i64 a1_3]) 26 (0, 0)), (some b1, .cells (#[.int .i64 a0_0, .int .i64 a0_1, .int .i64 a0_2, .int .i64 a0_3]) 26 (0, 0))]) (i := 1) rfl (Wn.none rfl) rfl rfl (f_storeA (j := 0) ty_s26 rfl rfl rfl (by simp [OneCell]) rfl rfl rfl) (keep_none rfl) ?_
        refine DL.pu 7 (.int .i64 2) rfl (p_assign rfl rfl) ?_
        refine DL.nil ?_
        simp only [Option.some.injEq, Prod.mk.injEq] at h28
        obtain ⟨rfl, rfl, rfl, rfl, rfl⟩ := h28
        exact ret2 Try.func9 rfl (ResV.cell (j := 0) ty_a26 ty_s26 rfl rfl rfl) (ResV.tmp rfl) rfl
      · replace c27 := Bool.eq_false_iff.mpr c27
        have h29 := ite_false c27 h19
        refine TT.cond_false (x := sub [1, 0, 1, 0] B9) (y := sub [1, 0, 1, 1] B9) rfl c27 ?_
        refine TT.skip ?_
        refine TT.seq (x := sub [1, 1, 0] B9) (y := sub [1, 1, 1] B9) ?_
        refine TT.seq (x := sub [1, 1, 0, 0] B9) (y := sub [1, 1, 0, 1] B9) ?_
        refine TT.region (id := 3) (n := 5) (ops := (opsOf (sub [1, 1, 0, 0] B9))) [(.pure, none), (.pure, none), (.quiet, none), (.quiet, none), (.pure, none)] rfl ?_
        show DL _ _ _ _ _ _ _ _ _ _ [0, 1, 2, 3, 4] _ _
        refine DL.pu 22 (.int .i64 a2) rfl (p_move rfl rfl) ?_
        refine DL.pu 23 (ptr b2 2) rfl (p_fieldAddr ty_f26_2 rfl rfl) ?_
        refine DL.qu 24 (.int .i64 a1_2) rfl (f_load (j := 1) ty_a24 rfl rfl rfl rfl) ?_
        obtain ⟨t30, h31, h32⟩ := bind_some h29
        refine DL.qu 25 (.bool t30) rfl (f_call rfl rfl (args_val (vs := [.int .i64 a2, .int .i64 a1_2]) rfl) (fun w => enter31 _ w) (fun w => policy_in.val h31 w)) ?_
        refine DL.pu 26 (.bool (!t30)) rfl (p_not rfl rfl) ?_
        refine DL.nil ?_
        by_cases c33 : (!t30) = true
        · have h34 := ite_true c33 h32
          refine TT.cond_true (x := sub [1, 1, 0, 1, 0] B9) (y := sub [1, 1, 0, 1, 1] B9) rfl c33 ?_
          refine TT.seq (x := sub [1, 1, 0, 1, 0, 0] B9) (y := sub [1, 1, 0, 1, 0, 1] B9) ?_
          refine TT.region (id := 4) (n := 3) (ops := (opsOf (sub [1, 1, 0, 1, 0, 0] B9))) [(.pure, none), (.store, none), (.pure, none)] rfl ?_
          show DL _ _ _ _ _ _ _ _ _ _ [0, 1, 2] _ _
          refine DL.pu 27 (.agg #[.int .i64 0, .int .i64 0, .int .i64 0, .int .i64 0]) rfl (p_build (vs := []) (fun w => by kernel_rfl) rfl rfl) ?_
          refine DL.put (H' := [(some b3, .cells (#[.int .i64 0, .int .i64 0, .int .i64 0, .int .i64 0]) 26 (0, 0)), (some b2, .cells (#[.int .i64 a1_0, .int .i64 a1_1, .int .i64 a1_2, .int .i64 a1_3]) 26 (0, 0)), (some b1, .cells (#[.int .i64 a0_0, .int .i64 a0_1, .int .i64 a0_2, .int .i64 a0_3]) 26 (0, 0))]) (i := 1) rfl (Wn.none rfl) rfl rfl (f_storeA (j := 0) ty_s26 rfl rfl rfl (by simp [OneCell]) rfl rfl rfl) (keep_none rfl) ?_
          refine DL.pu 7 (.int .i64 12) rfl (p_assign rfl rfl) ?_
          refine DL.nil ?_
          simp only [Option.some.injEq, Prod.mk.injEq] at h34
          obtain ⟨rfl, rfl, rfl, rfl, rfl⟩ := h34
          exact ret2 Try.func9 rfl (ResV.cell (j := 0) ty_a26 ty_s26 rfl rfl rfl) (ResV.tmp rfl) rfl
        · replace c33 := Bool.eq_false_iff.mpr c33
          have h35 := ite_false c33 h32
          refine TT.cond_false (x := sub [1, 1, 0, 1, 0] B9) (y := sub [1, 1, 0, 1, 1] B9) rfl c33 ?_
          refine TT.skip ?_
          refine TT.seq (x := sub [1, 1, 1, 0] B9) (y := sub [1, 1, 1, 1] B9) ?_
          refine TT.regionD (id := 5) (ops := (opsOf (sub [1, 1, 1, 0] B9))) [0, 1, 2, 3, 4, 5, 6, 7, 8, 9, 10, 11, 12, 13, 14, 15] [0, 1, 0, 0, 8, 24, 56, 120, 248, 504, 1016, 2047, 4095, 4095, 16383, 32767] [(.pure, none), (.look, some 1), (.pure, none), (.look, some 2), (.quiet, none), (.pure, none), (.pure, none), (.look, some 1), (.quiet, none), (.pure, none), (.pure, none), (.quiet, none), (.pure, none), (.pure, none), (.store, some 0), (.pure, none)] mixed (by kernel_rfl) ?_
          intro w36 hl36 hj36 hz36
          refine DL.pu 28 (ptr b2 0) rfl (p_fieldAddr ty_f26_0 rfl rfl) ?_
          refine DL.look (v := .int .i64 a1_0) (x := 1) (b := b2) (i := 1) rfl (Wn.none rfl) rfl rfl rfl rfl rfl (List.mem_of_getElem? (i := 1) rfl) (b_load ty_a22 rfl rfl rfl) ?_
          refine DL.pu 30 (.int .i64 a2) rfl (p_move rfl rfl) ?_
          refine DL.look (v := .agg #[.int .i64 a0_0, .int .i64 a0_1, .int .i64 a0_2, .int .i64 a0_3]) (x := 2) (b := b1) (i := 3) rfl (Wn.none rfl) rfl rfl rfl rfl rfl (List.mem_of_getElem? (i := 2) rfl) (b_loadA ty_a26 ty_s26 rfl rfl rfl) ?_
          obtain ⟨t37, h38, h39⟩ := bind_some h35
          refine DL.qu 32 (.bool t37) rfl (f_call rfl rfl (args_val (vs := [.agg #[.int .i64 a0_0, .int .i64 a0_1, .int .i64 a0_2, .int .i64 a0_3]]) rfl) (fun w => enter21 _ w) (fun w => policy_Kept.val h38 w)) ?_
          refine DL.pu 33 (.bool (!t37)) rfl (p_not rfl rfl) ?_
          refine DL.pu 34 (.bool (!t37)) rfl (p_move rfl rfl) ?_
          obtain ⟨q40, h41, h42⟩ := bind_some h39
          refine DL.cut [(6, ptr b3 0), (29, .int .i64 a1_0), (30, .int .i64 a2), (38, .bool q40)] [11, 12, 13, 14, 15] ?_ (fun J43 => ?_)
          · obtain ⟨⟨t50_0_0, t50_0_1, t50_0_2, t50_0_3, t50_1⟩, h51, h52⟩ := bind_some h42
            refine DL.qu 39 (.tuple #[.agg #[.int .i64 t50_0_0, .int .i64 t50_0_1, .int .i64 t50_0_2, .int .i64 t50_0_3], .int .i64 t50_1]) rfl (f_call rfl rfl (args_val (vs := [.int .i64 4, .int .i64 a1_0, .int .i64 a2, .bool q40]) rfl) (fun w => enter30 _ w) (fun w => policy_child.val h51 w)) ?_
            refine DL.pu 40 (.agg #[.int .i64 t50_0_0, .int .i64 t50_0_1, .int .i64 t50_0_2, .int .i64 t50_0_3]) rfl (p_extract rfl rfl rfl) ?_
            refine DL.pu 41 (.int .i64 t50_1) rfl (p_extract rfl rfl rfl) ?_
            refine DL.put (H' := [(some b3, .cells (#[.int .i64 t50_0_0, .int .i64 t50_0_1, .int .i64 t50_0_2, .int .i64 t50_0_3]) 26 (0, 0)), (some b2, .cells (#[.int .i64 a1_0, .int .i64 a1_1, .int .i64 a1_2, .int .i64 a1_3]) 26 (0, 0)), (some b1, .cells (#[.int .i64 a0_0, .int .i64 a0_1, .int .i64 a0_2, .int .i64 a0_3]) 26 (0, 0))]) (i := 14) rfl (Wn.none rfl) rfl rfl (f_storeA (j := 0) ty_s26 rfl rfl rfl (by simp [OneCell]) rfl rfl rfl) (keep_set (j := 0) hj36 rfl rfl rfl) ?_
            refine DL.pu 7 (.int .i64 t50_1) rfl (p_assign rfl rfl) ?_
            refine DL.nil' hl36 ?_
            simp only [Option.some.injEq, Prod.mk.injEq] at h52
            obtain ⟨rfl, rfl, rfl, rfl, rfl⟩ := h52
            exact ret2 Try.func9 rfl (ResV.cell (j := 0) ty_a26 ty_s26 rfl rfl rfl) (ResV.tmp rfl) rfl
          · by_cases c44 : (!t37) = true
            · have h45 := ite_true c44 h41
              refine DL.not (i := 7) rfl (Wn.yes c44 rfl rfl rfl rfl) rfl rfl ?_
              refine DL.not (i := 8) rfl (Wn.yes c44 rfl rfl rfl rfl) rfl rfl ?_
              refine DL.not (i := 9) rfl (Wn.yes c44 rfl rfl rfl rfl) rfl rfl ?_
              refine DL.pu 38 (.bool true) rfl (p_pick_t c44 rfl rfl rfl) ?_
              obtain rfl := Option.some.inj h45
              exact DL.weak J43 (Sub.cons rfl (Sub.cons rfl (Sub.cons rfl (Sub.cons rfl (Sub.nil _)))))
            · replace c44 := Bool.eq_false_iff.mpr c44
              have h46 := ite_false c44 h41
              refine DL.look (v := .agg #[.int .i64 a1_0, .int .i64 a1_1, .int .i64 a1_2, .int .i64 a1_3]) (x := 1) (b := b2) (i := 7) rfl (Wn.no c44 rfl rfl rfl rfl) rfl rfl rfl rfl rfl (List.mem_of_getElem? (i := 1) rfl) (b_loadA ty_a26 ty_s26 rfl rfl rfl) ?_
              obtain ⟨t47, h48, h49⟩ := bind_some h46
              refine DL.quiet (v := .bool t47) rfl (Wn.no c44 rfl rfl rfl rfl) rfl rfl rfl (f_call rfl rfl (args_val (vs := [.agg #[.int .i64 a1_0, .int .i64 a1_1, .int .i64 a1_2, .int .i64 a1_3]]) rfl) (fun w => enter21 _ w) (fun w => policy_Kept.val h48 w)) ?_
              refine DL.pure (v := .bool (!t47)) rfl (Wn.no c44 rfl rfl rfl rfl) rfl rfl rfl (p_not rfl rfl) ?_
              refine DL.pu 38 (.bool (!t47)) rfl (p_pick_f c44 rfl rfl rfl) ?_
              obtain rfl := Option.some.inj h49
              exact DL.weak J43 (Sub.cons rfl (Sub.cons rfl (Sub.cons rfl (Sub.cons rfl (Sub.nil _)))))
    · by_cases c21 : q7 = true
      · have h22 := ite_true c21 h18
        refine DL.not (i := 9) rfl (Wn.yes c21 rfl rfl rfl rfl) rfl rfl ?_
        refine DL.not (i := 10) rfl (Wn.yes c21 rfl rfl rfl rfl) rfl rfl ?_
        refine DL.not (i := 11) rfl (Wn.yes c21 rfl rfl rfl rfl) rfl rfl ?_
        refine DL.pu 20 (.bool true) rfl (p_pick_t c21 rfl rfl rfl) ?_
        obtain rfl := Option.some.inj h22
        exact DL.weak J20 (Sub.cons rfl (Sub.cons rfl (Sub.cons rfl (Sub.cons rfl (Sub.cons rfl (Sub.nil _))))))
      · replace c21 := Bool.eq_false_iff.mpr c21
        have h23 := ite_false c21 h18
        refine DL.pure (v := .int .i64 a2) rfl (Wn.no c21 rfl rfl rfl rfl) rfl rfl rfl (p_move rfl rfl) ?_
        obtain ⟨t24, h25, h26⟩ := bind_some h23
        refine DL.quiet (v := .bool t24) rfl (Wn.no c21 rfl rfl rfl rfl) rfl rfl rfl (f_call rfl rfl (args_val (vs := [.int .i64 a2, .int .i64 63]) rfl) (fun w => enter31 _ w) (fun w => policy_in.val h25 w)) ?_
        refine DL.pure (v := .bool (!t24)) rfl (Wn.no c21 rfl rfl rfl rfl) rfl rfl rfl (p_not rfl rfl) ?_
        refine DL.pu 20 (.bool (!t24)) rfl (p_pick_f c21 rfl rfl rfl) ?_
        obtain rfl := Option.some.inj h26
        exact DL.weak J20 (Sub.cons rfl (Sub.cons rfl (Sub.cons rfl (Sub.cons rfl (Sub.cons rfl (Sub.nil _))))))
  · by_cases c11 : (!t4) = true
    · have h12 := ite_true c11 h8
      refine DL.not (i := 4) rfl (Wn.yes c11 rfl rfl rfl rfl) rfl rfl ?_
      refine DL.not (i := 5) rfl (Wn.yes c11 rfl rfl rfl rfl) rfl rfl ?_
      refine DL.not (i := 6) rfl (Wn.yes c11 rfl rfl rfl rfl) rfl rfl ?_
      refine DL.pu 15 (.bool true) rfl (p_pick_t c11 rfl rfl rfl) ?_
      obtain rfl := Option.some.inj h12
      exact DL.weak J10 (Sub.cons rfl (Sub.cons rfl (Sub.cons rfl (Sub.cons rfl (Sub.cons rfl (Sub.nil _))))))
    · replace c11 := Bool.eq_false_iff.mpr c11
      have h13 := ite_false c11 h8
      refine DL.quiet (v := .agg #[.int .i64 a1_0, .int .i64 a1_1, .int .i64 a1_2, .int .i64 a1_3]) rfl (Wn.no c11 rfl rfl rfl rfl) rfl rfl rfl (f_loadA (j := 1) ty_a26 ty_s26 rfl rfl rfl rfl) ?_
      obtain ⟨t14, h15, h16⟩ := bind_some h13
      refine DL.quiet (v := .bool t14) rfl (Wn.no c11 rfl rfl rfl rfl) rfl rfl rfl (f_call rfl rfl (args_val (vs := [.agg #[.int .i64 a1_0, .int .i64 a1_1, .int .i64 a1_2, .int .i64 a1_3]]) rfl) (fun w => enter22 _ w) (fun w => policy_MayCard.val h15 w)) ?_
      refine DL.pure (v := .bool (!t14)) rfl (Wn.no c11 rfl rfl rfl rfl) rfl rfl rfl (p_not rfl rfl) ?_
      refine DL.pu 15 (.bool (!t14)) rfl (p_pick_f c11 rfl rfl rfl) ?_
      obtain rfl := Option.some.inj h16
      exact DL.weak J10 (Sub.cons rfl (Sub.cons rfl (Sub.cons rfl (Sub.cons rfl (Sub.cons rfl (Sub.nil _))))))
theorem policy_Unwrapped.val {a0_0 : Int} {a0_1 : Int} {a0_2 : Int} {a0_3 : Int} {a1_0 : Int} {a1_1 : Int} {a1_2 : Int} {a1_3 : Int} {a2 : Int} {r_0_0 : Int} {r_0_1 : Int} {r_0_2 : Int} {r_0_3 : Int} {r_1 : Int} (h : policy_Unwrapped.f a0_0 a0_1 a0_2 a0_3 a1_0 a1_1 a1_2 a1_3 a2 = some (r_0_0, r_0_1, r_0_2, r_0_3, r_1)) (w : World) : Calls Try.prog 9 #[.agg #[.int .i64 a0_0, .int .i64 a0_1, .int .i64 a0_2, .int .i64 a0_3], .agg #[.int .i64 a1_0, .int .i64 a1_1, .int .i64 a1_2, .int .i64 a1_3], .int .i64 a2] w fun e w' => e = .returned (.tuple #[.agg #[.int .i64 r_0_0, .int .i64 r_0_1, .int .i64 r_0_2, .int .i64 r_0_3], .int .i64 r_1]) ∧ Below w.heap.size w w' :=
  calls_value (policy_Unwrapped.ok h w)

/-! ### escutcheon/policy.Lower: function 10 -/
noncomputable def B10 : Code := bodyOf Try.f10
def policy_Lower.f (a0_0 : Int) (a0_1 : Int) (a0_2 : Int) (a0_3 : Int) (a1 : Int) : Option (Int × Int × Int × Int × Int) := (policy_MayCard.f a0_0 a0_1 a0_2 a0_3).bind fun t3 => (if (!t3) = true then (some true) else ((policy_in.f a1 63).bind fun t13 => some (!t13))).bind fun q6 => if q6 = true then (some (0, 0, 0, 0, 2)) else (some (a0_0, a0_1, iandn .i64 a0_2 a1, a0_3, 0))
set_option maxRecDepth 20000 in
theorem policy_Lower.ok {a0_0 : Int} {a0_1 : Int} {a0_2 : Int} {a0_3 : Int} {a1 : Int} {r_0_0 : Int} {r_0_1 : Int} {r_0_2 : Int} {r_0_3 : Int} {r_1 : Int} (h : policy_Lower.f a0_0 a0_1 a0_2 a0_3 a1 = some (r_0_0, r_0_1, r_0_2, r_0_3, r_1)) (w : World) : Calls Try.prog 10 #[.agg #[.int .i64 a0_0, .int .i64 a0_1, .int .i64 a0_2, .int .i64 a0_3], .int .i64 a1] w (Post (fun u => u = .tuple #[.agg #[.int .i64 r_0_0, .int .i64 r_0_1, .int .i64 r_0_2, .int .i64 r_0_3], .int .i64 r_1]) w) := by
  unfold policy_Lower.f at h
  refine calls_of_TT (N := 21) (S := [(0, .agg #[.int .i64 a0_0, .int .i64 a0_1, .int .i64 a0_2, .int .i64 a0_3]), (1, .int .i64 a1)]) (c := B10) Try.func10 rfl rfl rfl (by simp) ?_
  show TT _ _ _ _ _ _ [.code (sub [] B10)] _ _
  refine TT.seq (x := sub [0] B10) (y := sub [1] B10) ?_
  refine TT.region (id := 0) (n := 3) (ops := (opsOf (sub [0] B10))) [(.alloc, none), (.alloc, none), (.pure, none)] rfl ?_
  show DL _ _ _ _ _ _ _ _ _ _ [0, 1, 2] _ _
  refine DL.new (ob := .cells (#[.int .i64 a0_0, .int .i64 a0_1, .int .i64 a0_2, .int .i64 a0_3]) 26) (mk := fun b => ptr b 0) (i := 0) rfl (Wn.none rfl) rfl rfl rfl (f_box (v := .agg #[.int .i64 a0_0, .int .i64 a0_1, .int .i64 a0_2, .int .i64 a0_3]) rfl rfl) ?_
  intro b1 hb1
  refine DL.new (ob := .cells (#[.int .i64 0, .int .i64 0, .int .i64 0, .int .i64 0]) 26) (mk := fun b => ptr b 0) (i := 1) rfl (Wn.none rfl) rfl rfl rfl (f_alloc ty_z26 rfl) ?_
  intro b2 hb2
  refine DL.pu 5 (.int .i64 0) rfl (p_assign rfl rfl) ?_
  refine DL.nil ?_
  refine TT.seq (x := sub [1, 0] B10) (y := sub [1, 1] B10) ?_
  refine TT.seq (x := sub [1, 0, 0] B10) (y := sub [1, 0, 1] B10) ?_
  refine TT.region (id := 1) (n := 8) (ops := (opsOf (sub [1, 0, 0] B10))) [(.quiet, none), (.quiet, none), (.pure, none), (.pure, none), (.pure, none), (.quiet, none), (.pure, none), (.pure, none)] rfl ?_
  show DL _ _ _ _ _ _ _ _ _ _ [0, 1, 2, 3, 4, 5, 6, 7] _ _
  refine DL.qu 6 (.agg #[.int .i64 a0_0, .int .i64 a0_1, .int .i64 a0_2, .int .i64 a0_3]) rfl (f_loadA (j := 1) ty_a26 ty_s26 rfl rfl rfl rfl) ?_
  obtain ⟨t3, h4, h5⟩ := bind_some h
  refine DL.qu 7 (.bool t3) rfl (f_call rfl rfl (args_val (vs := [.agg #[.int .i64 a0_0, .int .i64 a0_1, .int .i64 a0_2, .int .i64 a0_3]]) rfl) (fun w => enter22 _ w) (fun w => policy_MayCard.val h4 w)) ?_
  refine DL.pu 8 (.bool (!t3)) rfl (p_not rfl rfl) ?_
  refine DL.pu 9 (.bool (!t3)) rfl (p_move rfl rfl) ?_
  obtain ⟨q6, h7, h8⟩ := bind_some h5
  refine DL.cut [(1, .int .i64 a1), (2, ptr b1 0), (4, ptr b2 0), (13, .bool q6)] [] ?_ (fun J9 => ?_)
  · refine DL.nil ?_
    by_cases c16 : q6 = true
    · have h17 := ite_true c16 h8
      refine TT.cond_true (x := sub [1, 0, 1, 0] B10) (y := sub [1, 0, 1, 1] B10) rfl c16 ?_
      refine TT.seq (x := sub [1, 0, 1, 0, 0] B10) (y := sub [1, 0, 1, 0, 1] B10) ?_
      refine TT.region (id := 2) (n := 3) (ops := (opsOf (sub [1, 0, 1, 0, 0] B10))) [(.pure, none), (.store, none), (.pure, none)] rfl ?_
      show DL _ _ _ _ _ _ _ _ _ _ [0, 1, 2] _ _
      refine DL.pu 14 (.agg #[.int .i64 0, .int .i64 0, .int .i64 0, .int .i64 0]) rfl (p_build (vs := []) (fun w => by kernel_rfl) rfl rfl) ?_
      refine DL.put (H' := [(some b2, .cells (#[.int .i64 0, .int .i64 0, .int .i64 0, .int .i64 0]) 26 (0, 0)), (some b1, .cells (#[.int .i64 a0_0, .int .i64 a0_1, .int .i64 a0_2, .int .i64 a0_3]) 26 (0, 0))]) (i := 1) rfl (Wn.none rfl) rfl rfl (f_storeA (j := 0) ty_s26 rfl rfl rfl (by simp [OneCell]) rfl rfl rfl) (keep_none rfl) ?_
      refine DL.pu 5 (.int .i64 2) rfl (p_assign rfl rfl) ?_
      refine DL.nil ?_
      simp only [Option.some.injEq, Prod.mk.injEq] at h17
      obtain ⟨rfl, rfl, rfl, rfl, rfl⟩ := h17
      exact ret2 Try.func10 rfl (ResV.cell (j := 0) ty_a26 ty_s26 rfl rfl rfl) (ResV.tmp rfl) rfl
    · replace c16 := Bool.eq_false_iff.mpr c16
      have h18 := ite_false c16 h8
      refine TT.cond_false (x := sub [1, 0, 1, 0] B10) (y := sub [1, 0, 1, 1] B10) rfl c16 ?_
      refine TT.skip ?_
      refine TT.seq (x := sub [1, 1, 0] B10) (y := sub [1, 1, 1] B10) ?_
      refine TT.region (id := 3) (n := 6) (ops := (opsOf (sub [1, 1, 0] B10))) [(.pure, none), (.quiet, none), (.pure, none), (.pure, none), (.pure, none), (.store, none)] rfl ?_
      show DL _ _ _ _ _ _ _ _ _ _ [0, 1, 2, 3, 4, 5] _ _
      refine DL.pu 15 (ptr b1 2) rfl (p_fieldAddr ty_f26_2 rfl rfl) ?_
      refine DL.qu 16 (.int .i64 a0_2) rfl (f_load (j := 1) ty_a24 rfl rfl rfl rfl) ?_
      refine DL.pu 17 (.int .i64 a1) rfl (p_move rfl rfl) ?_
      refine DL.pu 18 (.int .i64 (iandn .i64 a0_2 a1)) rfl (p_andNot rfl rfl rfl) ?_
      refine DL.pu 19 (ptr b1 2) rfl (p_fieldAddr ty_f26_2 rfl rfl) ?_
      refine DL.put (H' := [(some b2, .cells (#[.int .i64 0, .int .i64 0, .int .i64 0, .int .i64 0]) 26 (0, 0)), (some b1, .cells (#[.int .i64 a0_0, .int .i64 a0_1, .int .i64 (iandn .i64 a0_2 a1), .int .i64 a0_3]) 26 (0, 0))]) (i := 5) rfl (Wn.none rfl) rfl rfl (f_store (c := #[.int .i64 a0_0, .int .i64 a0_1, .int .i64 a0_2, .int .i64 a0_3]) (v := .int .i64 (iandn .i64 a0_2 a1)) (off := 2) (j := 1) ty_s24 rfl rfl (of_decide_eq_true rfl) trivial rfl rfl rfl) (keep_none rfl) ?_
      refine DL.nil ?_
      refine TT.seq (x := sub [1, 1, 1, 0] B10) (y := sub [1, 1, 1, 1] B10) ?_
      refine TT.region (id := 4) (n := 3) (ops := (opsOf (sub [1, 1, 1, 0] B10))) [(.quiet, none), (.store, none), (.pure, none)] rfl ?_
      show DL _ _ _ _ _ _ _ _ _ _ [0, 1, 2] _ _
      refine DL.qu 20 (.agg #[.int .i64 a0_0, .int .i64 a0_1, .int .i64 (iandn .i64 a0_2 a1), .int .i64 a0_3]) rfl (f_loadA (j := 1) ty_a26 ty_s26 rfl rfl rfl rfl) ?_
      refine DL.put (H' := [(some b2, .cells (#[.int .i64 a0_0, .int .i64 a0_1, .int .i64 (iandn .i64 a0_2 a1), .int .i64 a0_3]) 26 (0, 0)), (some b1, .cells (#[.int .i64 a0_0, .int .i64 a0_1, .int .i64 (iandn .i64 a0_2 a1), .int .i64 a0_3]) 26 (0, 0))]) (i := 1) rfl (Wn.none rfl) rfl rfl (f_storeA (j := 0) ty_s26 rfl rfl rfl (by simp [OneCell]) rfl rfl rfl) (keep_none rfl) ?_
      refine DL.pu 5 (.int .i64 0) rfl (p_assign rfl rfl) ?_
      refine DL.nil ?_
      simp only [Option.some.injEq, Prod.mk.injEq] at h18
      obtain ⟨rfl, rfl, rfl, rfl, rfl⟩ := h18
      exact ret2 Try.func10 rfl (ResV.cell (j := 0) ty_a26 ty_s26 rfl rfl rfl) (ResV.tmp rfl) rfl
  · by_cases c10 : (!t3) = true
    · have h11 := ite_true c10 h7
      refine DL.not (i := 4) rfl (Wn.yes c10 rfl rfl rfl rfl) rfl rfl ?_
      refine DL.not (i := 5) rfl (Wn.yes c10 rfl rfl rfl rfl) rfl rfl ?_
      refine DL.not (i := 6) rfl (Wn.yes c10 rfl rfl rfl rfl) rfl rfl ?_
      refine DL.pu 13 (.bool true) rfl (p_pick_t c10 rfl rfl rfl) ?_
      obtain rfl := Option.some.inj h11
      exact DL.weak J9 (Sub.cons rfl (Sub.cons rfl (Sub.cons rfl (Sub.cons rfl (Sub.nil _)))))
    · replace c10 := Bool.eq_false_iff.mpr c10
      have h12 := ite_false c10 h7
      refine DL.pure (v := .int .i64 a1) rfl (Wn.no c10 rfl rfl rfl rfl) rfl rfl rfl (p_move rfl rfl) ?_
      obtain ⟨t13, h14, h15⟩ := bind_some h12
      refine DL.quiet (v := .bool t13) rfl (Wn.no c10 rfl rfl rfl rfl) rfl rfl rfl (f_call rfl rfl (args_val (vs := [.int .i64 a1, .int .i64 63]) rfl) (fun w => enter31 _ w) (fun w => policy_in.val h14 w)) ?_
      refine DL.pure (v := .bool (!t13)) rfl (Wn.no c10 rfl rfl rfl rfl) rfl rfl rfl (p_not rfl rfl) ?_
      refine DL.pu 13 (.bool (!t13)) rfl (p_pick_f c10 rfl rfl rfl) ?_
      obtain rfl := Option.some.inj h15
      exact DL.weak J9 (Sub.cons rfl (Sub.cons rfl (Sub.cons rfl (Sub.cons rfl (Sub.nil _)))))
theorem policy_Lower.val {a0_0 : Int} {a0_1 : Int} {a0_2 : Int} {a0_3 : Int} {a1 : Int} {r_0_0 : Int} {r_0_1 : Int} {r_0_2 : Int} {r_0_3 : Int} {r_1 : Int} (h : policy_Lower.f a0_0 a0_1 a0_2 a0_3 a1 = some (r_0_0, r_0_1, r_0_2, r_0_3, r_1)) (w : World) : Calls Try.prog 10 #[.agg #[.int .i64 a0_0, .int .i64 a0_1, .int .i64 a0_2, .int .i64 a0_3], .int .i64 a1] w fun e w' => e = .returned (.tuple #[.agg #[.int .i64 r_0_0, .int .i64 r_0_1, .int .i64 r_0_2, .int .i64 r_0_3], .int .i64 r_1]) ∧ Below w.heap.size w w' :=
  calls_value (policy_Lower.ok h w)

/-! ### escutcheon/escutcheonref21.more: function 33 -/
noncomputable def B33 : Code := bodyOf Try.f33
def ref21_more.f (a0 : Int) : Option (Int) := (ref21_Has.f a0 1).bind fun t1 => if t1 = true then (some a0) else (some (IntKind.i64.wrap (a0 + 1)))
set_option maxRecDepth 20000 in
theorem ref21_more.ok {a0 : Int} {r : Int} (h : ref21_more.f a0 = some r) (w : World) : Calls Try.prog 33 #[.int .i64 a0] w (Post (fun u => u = .int .i64 r) w) := by
  unfold ref21_more.f at h
  refine calls_of_TT (N := 8) (S := [(0, .int .i64 a0)]) (c := B33) Try.func33 rfl rfl rfl (by simp) ?_
  show TT _ _ _ _ _ _ [.code (sub [] B33)] _ _
  refine TT.seq (x := sub [0] B33) (y := sub [1] B33) ?_
  refine TT.region (id := 0) (n := 1) (ops := (opsOf (sub [0] B33))) [(.pure, none)] rfl ?_
  show DL _ _ _ _ _ _ _ _ _ _ [0] _ _
  refine DL.pu 2 (.int .i64 0) rfl (p_assign rfl rfl) ?_
  refine DL.nil ?_
  refine TT.seq (x := sub [1, 0] B33) (y := sub [1, 1] B33) ?_
  refine TT.seq (x := sub [1, 0, 0] B33) (y := sub [1, 0, 1] B33) ?_
  refine TT.region (id := 1) (n := 2) (ops := (opsOf (sub [1, 0, 0] B33))) [(.pure, none), (.quiet, none)] rfl ?_
  show DL _ _ _ _ _ _ _ _ _ _ [0, 1] _ _
  refine DL.pu 3 (.int .i64 a0) rfl (p_move rfl rfl) ?_
  obtain ⟨t1, h2, h3⟩ := bind_some h
  refine DL.qu 4 (.bool t1) rfl (f_call rfl rfl (args_val (vs := [.int .i64 a0, .int .i64 1]) rfl) (fun w => enter34 _ w) (fun w => ref21_Has.val h2 w)) ?_
  refine DL.nil ?_
  by_cases c4 : t1 = true
  · have h5 := ite_true c4 h3
    refine TT.cond_true (x := sub [1, 0, 1, 0] B33) (y := sub [1, 0, 1, 1] B33) rfl c4 ?_
    refine TT.seq (x := sub [1, 0, 1, 0, 0] B33) (y := sub [1, 0, 1, 0, 1] B33) ?_
    refine TT.region (id := 2) (n := 2) (ops := (opsOf (sub [1, 0, 1, 0, 0] B33))) [(.pure, none), (.pure, none)] rfl ?_
    show DL _ _ _ _ _ _ _ _ _ _ [0, 1] _ _
    refine DL.pu 5 (.int .i64 a0) rfl (p_move rfl rfl) ?_
    refine DL.pu 2 (.int .i64 a0) rfl (p_assign rfl rfl) ?_
    refine DL.nil ?_
    obtain rfl := Option.some.inj h5
    exact ret1 Try.func33 rfl (ResV.tmp rfl) rfl
  · replace c4 := Bool.eq_false_iff.mpr c4
    have h6 := ite_false c4 h3
    refine TT.cond_false (x := sub [1, 0, 1, 0] B33) (y := sub [1, 0, 1, 1] B33) rfl c4 ?_
    refine TT.skip ?_
    refine TT.seq (x := sub [1, 1, 0] B33) (y := sub [1, 1, 1] B33) ?_
    refine TT.region (id := 3) (n := 3) (ops := (opsOf (sub [1, 1, 0] B33))) [(.pure, none), (.pure, none), (.pure, none)] rfl ?_
    show DL _ _ _ _ _ _ _ _ _ _ [0, 1, 2] _ _
    refine DL.pu 6 (.int .i64 a0) rfl (p_move rfl rfl) ?_
    refine DL.pu 7 (.int .i64 (IntKind.i64.wrap (a0 + 1))) rfl (p_add rfl rfl rfl) ?_
    refine DL.pu 2 (.int .i64 (IntKind.i64.wrap (a0 + 1))) rfl (p_assign rfl rfl) ?_
    refine DL.nil ?_
    obtain rfl := Option.some.inj h6
    exact ret1 Try.func33 rfl (ResV.tmp rfl) rfl
theorem ref21_more.val {a0 : Int} {r : Int} (h : ref21_more.f a0 = some r) (w : World) : Calls Try.prog 33 #[.int .i64 a0] w fun e w' => e = .returned (.int .i64 r) ∧ Below w.heap.size w w' :=
  calls_value (ref21_more.ok h w)

/-! ### escutcheon/escutcheonref21.New: function 11 -/
noncomputable def B11 : Code := bodyOf Try.f11
def ref21_New.f (a0 : Int) (a1 : Int) (a2 : Int) : Option (Int × Int × Int × Int × Int) := (if (a0 != 1) = true then (some (a0 != 2)) else (some false)).bind fun q2 => (if q2 = true then (some true) else ((ref21_OfType.f a1).bind fun t16 => some (t16 == 0))).bind fun q9 => (if q9 = true then (some true) else (some (decide (a2 < 0)))).bind fun q19 => (if q19 = true then (some true) else (some (decide (63 < a2)))).bind fun q26 => if q26 = true then (some (0, 0, 0, 0, 2)) else ((ref21_OfType.f a1).bind fun t36 => (ref21_In.f a2 t36).bind fun t39 => if (!t39) = true then (some (0, 0, 0, 0, 12)) else (if (a0 == 2) = true then ((ref21_more.f a2).bind fun t47 => some (a1, a0, a2, t47, 0)) else (some (a1, a0, a2, a2, 0))))
set_option maxRecDepth 20000 in
theorem ref21_New.ok {a0 : Int} {a1 : Int} {a2 : Int} {r_0_0 : Int} {r_0_1 : Int} {r_0_2 : Int} {r_0_3 : Int} {r_1 : Int} (h : ref21_New.f a0 a1 a2 = some (r_0_0, r_0_1, r_0_2, r_0_3, r_1)) (w : World) : Calls Try.prog 11 #[.int .i64 a0, .int .i64 a1, .int .i64 a2] w (Post (fun u => u = .tuple #[.agg #[.int .i64 r_0_0, .int .i64 r_0_1, .int .i64 r_0_2, .int .i64 r_0_3], .int .i64 r_1]) w) := by
  unfold ref21_New.f at h
  refine calls_of_TT (N := 47) (S := [(0, .int .i64 a0), (1, .int .i64 a1), (2, .int .i64 a2)]) (c := B11) Try.func11 rfl rfl rfl (by simp) ?_
  show TT _ _ _ _ _ _ [.code (sub [] B11)] _ _
  refine TT.seq (x := sub [0] B11) (y := sub [1] B11) ?_
  refine TT.region (id := 0) (n := 2) (ops := (opsOf (sub [0] B11))) [(.alloc, none), (.pure, none)] rfl ?_
  show DL _ _ _ _ _ _ _ _ _ _ [0, 1] _ _
  refine DL.new (ob := .cells (#[.int .i64 0, .int .i64 0, .int .i64 0, .int .i64 0]) 26) (mk := fun b => ptr b 0) (i := 0) rfl (Wn.none rfl) rfl rfl rfl (f_alloc ty_z26 rfl) ?_
  intro b1 hb1
  refine DL.pu 7 (.int .i64 0) rfl (p_assign rfl rfl) ?_
  refine DL.nil ?_
  refine TT.seq (x := sub [1, 0] B11) (y := sub [1, 1] B11) ?_
  refine TT.seq (x := sub [1, 0, 0] B11) (y := sub [1, 0, 1] B11) ?_
  refine TT.region (id := 1) (n := 19) (ops := (opsOf (sub [1, 0, 0] B11))) [(.pure, none), (.pure, none), (.pure, none), (.pure, none), (.pure, none), (.pure, none), (.pure, none), (.pure, none), (.quiet, none), (.pure, none), (.pure, none), (.pure, none), (.pure, none), (.pure, none), (.pure, none), (.pure, none), (.pure, none), (.pure, none), (.pure, none)] rfl ?_
  show DL _ _ _ _ _ _ _ _ _ _ [0, 1, 2, 3, 4, 5, 6, 7, 8, 9, 10, 11, 12, 13, 14, 15, 16, 17, 18] _ _
  refine DL.pu 8 (.int .i64 a0) rfl (p_move rfl rfl) ?_
  refine DL.pu 9 (.bool (a0 != 1)) rfl (p_neq rfl rfl rfl) ?_
  refine DL.pu 10 (.bool (a0 != 1)) rfl (p_move rfl rfl) ?_
  obtain ⟨q2, h3, h4⟩ := bind_some h
  refine DL.cut [(0, .int .i64 a0), (1, .int .i64 a1), (2, .int .i64 a2), (6, ptr b1 0), (13, .bool q2)] [6, 7, 8, 9, 10, 11, 12, 13, 14, 15, 16, 17, 18] ?_ (fun J5 => ?_)
  · refine DL.pu 14 (.bool q2) rfl (p_move rfl rfl) ?_
    obtain ⟨q9, h10, h11⟩ := bind_some h4
    refine DL.cut [(0, .int .i64 a0), (1, .int .i64 a1), (2, .int .i64 a2), (6, ptr b1 0), (18, .bool q9)] [11, 12, 13, 14, 15, 16, 17, 18] ?_ (fun J12 => ?_)
    · refine DL.pu 19 (.bool q9) rfl (p_move rfl rfl) ?_
      obtain ⟨q19, h20, h21⟩ := bind_some h11
      refine DL.cut [(0, .int .i64 a0), (1, .int .i64 a1), (2, .int .i64 a2), (6, ptr b1 0), (22, .bool q19)] [15, 16, 17, 18] ?_ (fun J22 => ?_)
      · refine DL.pu 23 (.bool q19) rfl (p_move rfl rfl) ?_
        obtain ⟨q26, h27, h28⟩ := bind_some h21
        refine DL.cut [(0, .int .i64 a0), (1, .int .i64 a1), (2, .int .i64 a2), (6, ptr b1 0), (26, .bool q26)] [] ?_ (fun J29 => ?_)
        · refine DL.nil ?_
          by_cases c33 : q26 = true
          · have h34 := ite_true c33 h28
            refine TT.cond_true (x := sub [1, 0, 1, 0] B11) (y := sub [1, 0, 1, 1] B11) rfl c33 ?_
            refine TT.seq (x := sub [1, 0, 1, 0, 0] B11) (y := sub [1, 0, 1, 0, 1] B11) ?_
            refine TT.region (id := 2) (n := 3) (ops := (opsOf (sub [1, 0, 1, 0, 0] B11))) [(.pure, none), (.store, none), (.pure, none)] rfl ?_
            show DL _ _ _ _ _ _ _ _ _ _ [0, 1, 2] _ _
            refine DL.pu 27 (.agg #[.int .i64 0, .int .i64 0, .int .i64 0, .int .i64 0]) rfl (p_build (vs := []) (fun w => by kernel_rfl) rfl rfl) ?_
            refine DL.put (H' := [(some b1, .cells (#[.int .i64 0, .int .i64 0, .int .i64 0, .int .i64 0]) 26 (0, 0))]) (i := 1) rfl (Wn.none rfl) rfl rfl (f_storeA (j := 0) ty_s26 rfl rfl rfl (by simp [OneCell]) rfl rfl rfl) (keep_none rfl) ?_
            refine DL.pu 7 (.int .i64 2) rfl (p_assign rfl rfl) ?_
            refine DL.nil ?_
            simp only [Option.some.injEq, Prod.mk.injEq] at h34
            obtain ⟨rfl, rfl, rfl, rfl, rfl⟩ := h34
            exact ret2 Try.func11 rfl (ResV.cell (j := 0) ty_a26 ty_s26 rfl rfl rfl) (ResV.tmp rfl) rfl
          · replace c33 := Bool.eq_false_iff.mpr c33
            have h35 := ite_false c33 h28
            refine TT.cond_false (x := sub [1, 0, 1, 0] B11) (y := sub [1, 0, 1, 1] B11) rfl c33 ?_
            refine TT.skip ?_
            refine TT.seq (x := sub [1, 1, 0] B11) (y := sub [1, 1, 1] B11) ?_
            refine TT.seq (x := sub [1, 1, 0, 0] B11) (y := sub [1, 1, 0, 1] B11) ?_
            refine TT.region (id := 3) (n := 5) (ops := (opsOf (sub [1, 1, 0, 0] B11))) [(.pure, none), (.pure, none), (.quiet, none), (.quiet, none), (.pure, none)] rfl ?_
            show DL _ _ _ _ _ _ _ _ _ _ [0, 1, 2, 3, 4] _ _
            refine DL.pu 28 (.int .i64 a2) rfl (p_move rfl rfl) ?_
            refine DL.pu 29 (.int .i64 a1) rfl (p_move rfl rfl) ?_
            obtain ⟨t36, h37, h38⟩ := bind_some h35
            refine DL.qu 30 (.int .i64 t36) rfl (f_call rfl rfl (args_val (vs := [.int .i64 a1]) rfl) (fun w => enter26 _ w) (fun w => ref21_OfType.val h37 w)) ?_
            obtain ⟨t39, h40, h41⟩ := bind_some h38
            refine DL.qu 31 (.bool t39) rfl (f_call rfl rfl (args_val (vs := [.int .i64 a2, .int .i64 t36]) rfl) (fun w => enter32 _ w) (fun w => ref21_In.val h40 w)) ?_
            refine DL.pu 32 (.bool (!t39)) rfl (p_not rfl rfl) ?_
            refine DL.nil ?_
            by_cases c42 : (!t39) = true
            · have h43 := ite_true c42 h41
              refine TT.cond_true (x := sub [1, 1, 0, 1, 0] B11) (y := sub [1, 1, 0, 1, 1] B11) rfl c42 ?_
              refine TT.seq (x := sub [1, 1, 0, 1, 0, 0] B11) (y := sub [1, 1, 0, 1, 0, 1] B11) ?_
              refine TT.region (id := 4) (n := 3) (ops := (opsOf (sub [1, 1, 0, 1, 0, 0] B11))) [(.pure, none), (.store, none), (.pure, none)] rfl ?_
              show DL _ _ _ _ _ _ _ _ _ _ [0, 1, 2] _ _
              refine DL.pu 33 (.agg #[.int .i64 0, .int .i64 0, .int .i64 0, .int .i64 0]) rfl (p_build (vs := []) (fun w => by kernel_rfl) rfl rfl) ?_
              refine DL.put (H' := [(some b1, .cells (#[.int .i64 0, .int .i64 0, .int .i64 0, .int .i64 0]) 26 (0, 0))]) (i := 1) rfl (Wn.none rfl) rfl rfl (f_storeA (j := 0) ty_s26 rfl rfl rfl (by simp [OneCell]) rfl rfl rfl) (keep_none rfl) ?_
              refine DL.pu 7 (.int .i64 12) rfl (p_assign rfl rfl) ?_
              refine DL.nil ?_
              simp only [Option.some.injEq, Prod.mk.injEq] at h43
              obtain ⟨rfl, rfl, rfl, rfl, rfl⟩ := h43
              exact ret2 Try.func11 rfl (ResV.cell (j := 0) ty_a26 ty_s26 rfl rfl rfl) (ResV.tmp rfl) rfl
            · replace c42 := Bool.eq_false_iff.mpr c42
              have h44 := ite_false c42 h41
              refine TT.cond_false (x := sub [1, 1, 0, 1, 0] B11) (y := sub [1, 1, 0, 1, 1] B11) rfl c42 ?_
              refine TT.skip ?_
              refine TT.seq (x := sub [1, 1, 1, 0] B11) (y := sub [1, 1, 1, 1] B11) ?_
              refine TT.seq (x := sub [1, 1, 1, 0, 0] B11) (y := sub [1, 1, 1, 0, 1] B11) ?_
              refine TT.region (id := 5) (n := 2) (ops := (opsOf (sub [1, 1, 1, 0, 0] B11))) [(.pure, none), (.pure, none)] rfl ?_
              show DL _ _ _ _ _ _ _ _ _ _ [0, 1] _ _
              refine DL.pu 34 (.int .i64 a0) rfl (p_move rfl rfl) ?_
              refine DL.pu 35 (.bool (a0 == 2)) rfl (p_eql rfl rfl rfl) ?_
              refine DL.nil ?_
              by_cases c45 : (a0 == 2) = true
              · have h46 := ite_true c45 h44
                refine TT.cond_true (x := sub [1, 1, 1, 0, 1, 0] B11) (y := sub [1, 1, 1, 0, 1, 1] B11) rfl c45 ?_
                refine TT.seq (x := sub [1, 1, 1, 0, 1, 0, 0] B11) (y := sub [1, 1, 1, 0, 1, 0, 1] B11) ?_
                refine TT.region (id := 6) (n := 8) (ops := (opsOf (sub [1, 1, 1, 0, 1, 0, 0] B11))) [(.pure, none), (.pure, none), (.pure, none), (.pure, none), (.quiet, none), (.pure, none), (.store, none), (.pure, none)] rfl ?_
                show DL _ _ _ _ _ _ _ _ _ _ [0, 1, 2, 3, 4, 5, 6, 7] _ _
                refine DL.pu 36 (.int .i64 a1) rfl (p_move rfl rfl) ?_
                refine DL.pu 37 (.int .i64 a0) rfl (p_move rfl rfl) ?_
                refine DL.pu 38 (.int .i64 a2) rfl (p_move rfl rfl) ?_
                refine DL.pu 39 (.int .i64 a2) rfl (p_move rfl rfl) ?_
                obtain ⟨t47, h48, h49⟩ := bind_some h46
                refine DL.qu 40 (.int .i64 t47) rfl (f_call rfl rfl (args_val (vs := [.int .i64 a2]) rfl) (fun w => enter33 _ w) (fun w => ref21_more.val h48 w)) ?_
                refine DL.pu 41 (.agg #[.int .i64 a1, .int .i64 a0, .int .i64 a2, .int .i64 t47]) rfl (p_build (vs := [(0, .int .i64 a1), (1, .int .i64 a0), (2, .int .i64 a2), (3, .int .i64 t47)]) (fun w => by kernel_rfl) rfl rfl) ?_
                refine DL.put (H' := [(some b1, .cells (#[.int .i64 a1, .int .i64 a0, .int .i64 a2, .int .i64 t47]) 26 (0, 0))]) (i := 6) rfl (Wn.none rfl) rfl rfl (f_storeA (j := 0) ty_s26 rfl rfl rfl (by simp [OneCell]) rfl rfl rfl) (keep_none rfl) ?_
                refine DL.pu 7 (.int .i64 0) rfl (p_assign rfl rfl) ?_
                refine DL.nil ?_
                simp only [Option.some.injEq, Prod.mk.injEq] at h49
                obtain ⟨rfl, rfl, rfl, rfl, rfl⟩ := h49
                exact ret2 Try.func11 rfl (ResV.cell (j := 0) ty_a26 ty_s26 rfl rfl rfl) (ResV.tmp rfl) rfl
              · replace c45 := Bool.eq_false_iff.mpr c45
                have h50 := ite_false c45 h44
                refine TT.cond_false (x := sub [1, 1, 1, 0, 1, 0] B11) (y := sub [1, 1, 1, 0, 1, 1] B11) rfl c45 ?_
                refine TT.skip ?_
                refine TT.seq (x := sub [1, 1, 1, 1, 0] B11) (y := sub [1, 1, 1, 1, 1] B11) ?_
                refine TT.region (id := 7) (n := 7) (ops := (opsOf (sub [1, 1, 1, 1, 0] B11))) [(.pure, none), (.pure, none), (.pure, none), (.pure, none), (.pure, none), (.store, none), (.pure, none)] rfl ?_
                show DL _ _ _ _ _ _ _ _ _ _ [0, 1, 2, 3, 4, 5, 6] _ _
                refine DL.pu 42 (.int .i64 a1) rfl (p_move rfl rfl) ?_
                refine DL.pu 43 (.int .i64 a0) rfl (p_move rfl rfl) ?_
                refine DL.pu 44 (.int .i64 a2) rfl (p_move rfl rfl) ?_
                refine DL.pu 45 (.int .i64 a2) rfl (p_move rfl rfl) ?_
                refine DL.pu 46 (.agg #[.int .i64 a1, .int .i64 a0, .int .i64 a2, .int .i64 a2]) rfl (p_build (vs := [(0, .int .i64 a1), (1, .int .i64 a0), (2, .int .i64 a2), (3, .int .i64 a2)]) (fun w => by kernel_rfl) rfl rfl) ?_
                refine DL.put (H' := [(some b1, .cells (#[.int .i64 a1, .int .i64 a0, .int .i64 a2, .int .i64 a2]) 26 (0, 0))]) (i := 5) rfl (Wn.none rfl) rfl rfl (f_storeA (j := 0) ty_s26 rfl rfl rfl (by simp [OneCell]) rfl rfl rfl) (keep_none rfl) ?_
                refine DL.pu 7 (.int .i64 0) rfl (p_assign rfl rfl) ?_
                refine DL.nil ?_
                simp only [Option.some.injEq, Prod.mk.injEq] at h50
                obtain ⟨rfl, rfl, rfl, rfl, rfl⟩ := h50
                exact ret2 Try.func11 rfl (ResV.cell (j := 0) ty_a26 ty_s26 rfl rfl rfl) (ResV.tmp rfl) rfl
        · by_cases c30 : q19 = true
          · have h31 := ite_true c30 h27
            refine DL.not (i := 16) rfl (Wn.yes c30 rfl rfl rfl rfl) rfl rfl ?_
            refine DL.not (i := 17) rfl (Wn.yes c30 rfl rfl rfl rfl) rfl rfl ?_
            refine DL.pu 26 (.bool true) rfl (p_pick_t c30 rfl rfl rfl) ?_
            obtain rfl := Option.some.inj h31
            exact DL.weak J29 (Sub.cons rfl (Sub.cons rfl (Sub.cons rfl (Sub.cons rfl (Sub.cons rfl (Sub.nil _))))))
          · replace c30 := Bool.eq_false_iff.mpr c30
            have h32 := ite_false c30 h27
            refine DL.pure (v := .int .i64 a2) rfl (Wn.no c30 rfl rfl rfl rfl) rfl rfl rfl (p_move rfl rfl) ?_
            refine DL.pure (v := .bool (decide (63 < a2))) rfl (Wn.no c30 rfl rfl rfl rfl) rfl rfl rfl (p_gtr rfl rfl rfl) ?_
            refine DL.pu 26 (.bool (decide (63 < a2))) rfl (p_pick_f c30 rfl rfl rfl) ?_
            obtain rfl := Option.some.inj h32
            exact DL.weak J29 (Sub.cons rfl (Sub.cons rfl (Sub.cons rfl (Sub.cons rfl (Sub.cons rfl (Sub.nil _))))))
      · by_cases c23 : q9 = true
        · have h24 := ite_true c23 h20
          refine DL.not (i := 12) rfl (Wn.yes c23 rfl rfl rfl rfl) rfl rfl ?_
          refine DL.not (i := 13) rfl (Wn.yes c23 rfl rfl rfl rfl) rfl rfl ?_
          refine DL.pu 22 (.bool true) rfl (p_pick_t c23 rfl rfl rfl) ?_
          obtain rfl := Option.some.inj h24
          exact DL.weak J22 (Sub.cons rfl (Sub.cons rfl (Sub.cons rfl (Sub.cons rfl (Sub.cons rfl (Sub.nil _))))))
        · replace c23 := Bool.eq_false_iff.mpr c23
          have h25 := ite_false c23 h20
          refine DL.pure (v := .int .i64 a2) rfl (Wn.no c23 rfl rfl rfl rfl) rfl rfl rfl (p_move rfl rfl) ?_
          refine DL.pure (v := .bool (decide (a2 < 0))) rfl (Wn.no c23 rfl rfl rfl rfl) rfl rfl rfl (p_lss rfl rfl rfl) ?_
          refine DL.pu 22 (.bool (decide (a2 < 0))) rfl (p_pick_f c23 rfl rfl rfl) ?_
          obtain rfl := Option.some.inj h25
          exact DL.weak J22 (Sub.cons rfl (Sub.cons rfl (Sub.cons rfl (Sub.cons rfl (Sub.cons rfl (Sub.nil _))))))
    · by_cases c13 : q2 = true
      · have h14 := ite_true c13 h10
        refine DL.not (i := 7) rfl (Wn.yes c13 rfl rfl rfl rfl) rfl rfl ?_
        refine DL.not (i := 8) rfl (Wn.yes c13 rfl rfl rfl rfl) rfl rfl ?_
        refine DL.not (i := 9) rfl (Wn.yes c13 rfl rfl rfl rfl) rfl rfl ?_
        refine DL.pu 18 (.bool true) rfl (p_pick_t c13 rfl rfl rfl) ?_
        obtain rfl := Option.some.inj h14
        exact DL.weak J12 (Sub.cons rfl (Sub.cons rfl (Sub.cons rfl (Sub.cons rfl (Sub.cons rfl (Sub.nil _))))))
      · replace c13 := Bool.eq_false_iff.mpr c13
        have h15 := ite_false c13 h10
        refine DL.pure (v := .int .i64 a1) rfl (Wn.no c13 rfl rfl rfl rfl) rfl rfl rfl (p_move rfl rfl) ?_
        obtain ⟨t16, h17, h18⟩ := bind_some h15
        refine DL.quiet (v := .int .i64 t16) rfl (Wn.no c13 rfl rfl rfl rfl) rfl rfl rfl (f_call rfl rfl (args_val (vs := [.int .i64 a1]) rfl) (fun w => enter26 _ w) (fun w => ref21_OfType.val h17 w)) ?_
        refine DL.pure (v := .bool (t16 == 0)) rfl (Wn.no c13 rfl rfl rfl rfl) rfl rfl rfl (p_eql rfl rfl rfl) ?_
        refine DL.pu 18 (.bool (t16 == 0)) rfl (p_pick_f c13 rfl rfl rfl) ?_
        obtain rfl := Option.some.inj h18
        exact DL.weak J12 (Sub.cons rfl (Sub.cons rfl (Sub.cons rfl (Sub.cons rfl (Sub.cons rfl (Sub.nil _))))))
  · by_cases c6 : (a0 != 1) = true
    · have h7 := ite_true c6 h3
      refine DL.pure (v := .int .i64 a0) rfl (Wn.yes c6 rfl rfl rfl rfl) rfl rfl rfl (p_move rfl rfl) ?_
      refine DL.pure (v := .bool (a0 != 2)) rfl (Wn.yes c6 rfl rfl rfl rfl) rfl rfl rfl (p_neq rfl rfl rfl) ?_
      refine DL.pu 13 (.bool (a0 != 2)) rfl (p_pick_t c6 rfl rfl rfl) ?_
      obtain rfl := Option.some.inj h7
      exact DL.weak J5 (Sub.cons rfl (Sub.cons rfl (Sub.cons rfl (Sub.cons rfl (Sub.cons rfl (Sub.nil _))))))
    · replace c6 := Bool.eq_false_iff.mpr c6
      have h8 := ite_false c6 h3
      refine DL.not (i := 3) rfl (Wn.no c6 rfl rfl rfl rfl) rfl rfl ?_
      refine DL.not (i := 4) rfl (Wn.no c6 rfl rfl rfl rfl) rfl rfl ?_
      refine DL.pu 13 (.bool false) rfl (p_pick_f c6 rfl rfl rfl) ?_
      obtain rfl := Option.some.inj h8
      exact DL.weak J5 (Sub.cons rfl (Sub.cons rfl (Sub.cons rfl (Sub.cons rfl (Sub.cons rfl (Sub.nil _))))))
theorem ref21_New.val {a0 : Int} {a1 : Int} {a2 : Int} {r_0_0 : Int} {r_0_1 : Int} {r_0_2 : Int} {r_0_3 : Int} {r_1 : Int} (h : ref21_New.f a0 a1 a2 = some (r_0_0, r_0_1, r_0_2, r_0_3, r_1)) (w : World) : Calls Try.prog 11 #[.int .i64 a0, .int .i64 a1, .int .i64 a2] w fun e w' => e = .returned (.tuple #[.agg #[.int .i64 r_0_0, .int .i64 r_0_1, .int .i64 r_0_2, .int .i64 r_0_3], .int .i64 r_1]) ∧ Below w.heap.size w w' :=
  calls_value (ref21_New.ok h w)

/-! ### escutcheon/escutcheonref21.Derived: function 12 -/
noncomputable def B12 : Code := bodyOf Try.f12
def ref21_Derived.f (a0_0 : Int) (a0_1 : Int) (a0_2 : Int) (a0_3 : Int) (a1 : Int) (a2 : Int) : Option (Int × Int × Int × Int × Int) := (ref21_MayCard.f a0_0 a0_1 a0_2 a0_3).bind fun t3 => (if (!t3) = true then (some true) else ((ref21_OfType.f a1).bind fun t13 => some (t13 == 0))).bind fun q6 => (if q6 = true then (some true) else (some (decide (a2 < 0)))).bind fun q16 => (if q16 = true then (some true) else (some (decide (63 < a2)))).bind fun q23 => if q23 = true then (some (0, 0, 0, 0, 2)) else ((ref21_Has.f a2 1).bind fun t33 => (if t33 = true then ((ref21_Has.f a0_2 1).bind fun t42 => some (!t42)) else (some false)).bind fun q36 => (if q36 = true then (some true) else ((ref21_Has.f a2 2).bind fun t53 => (if t53 = true then ((ref21_Has.f a0_2 2).bind fun t62 => some (!t62)) else (some false)).bind fun q56 => some q56)).bind fun q46 => (if q46 = true then (some true) else ((ref21_OfType.f a1).bind fun t73 => (ref21_In.f a2 t73).bind fun t76 => some (!t76))).bind fun q66 => if q66 = true then (some (0, 0, 0, 0, 12)) else ((ref21_Kept.f a0_0 a0_1 a0_2 a0_3).bind fun t82 => if t82 = true then (some (a1, 3, a2, a2, 0)) else ((ref21_more.f a2).bind fun t88 => some (a1, 3, a2, t88, 0))))
set_option maxRecDepth 20000 in
theorem ref21_Derived.ok {a0_0 : Int} {a0_1 : Int} {a0_2 : Int} {a0_3 : Int} {a1 : Int} {a2 : Int} {r_0_0 : Int} {r_0_1 : Int} {r_0_2 : Int} {r_0_3 : Int} {r_1 : Int} (h : ref21_Derived.f a0_0 a0_1 a0_2 a0_3 a1 a2 = some (r_0_0, r_0_1, r_0_2, r_0_3, r_1)) (w : World) : Calls Try.prog 12 #[.agg #[.int .i64 a0_0, .int .i64 a0_1, .int .i64 a0_2, .int .i64 a0_3], .int .i64 a1, .int .i64 a2] w (Post (fun u => u = .tuple #[.agg #[.int .i64 r_0_0, .int .i64 r_0_1, .int .i64 r_0_2, .int .i64 r_0_3], .int .i64 r_1]) w) := by
  unfold ref21_Derived.f at h
  refine calls_of_TT (N := 62) (S := [(0, .agg #[.int .i64 a0_0, .int .i64 a0_1, .int .i64 a0_2, .int .i64 a0_3]), (1, .int .i64 a1), (2, .int .i64 a2)]) (c := B12) Try.func12 rfl rfl rfl (by simp) ?_
  show TT _ _ _ _ _ _ [.code (sub [] B12)] _ _
  refine TT.seq (x := sub [0] B12) (y := sub [1] B12) ?_
  refine TT.region (id := 0) (n := 3) (ops := (opsOf (sub [0] B12))) [(.alloc, none), (.alloc, none), (.pure, none)] rfl ?_
  show DL _ _ _ _ _ _ _ _ _ _ [0, 1, 2] _ _
  refine DL.new (ob := .cells (#[.int .i64 a0_0, .int .i64 a0_1, .int .i64 a0_2, .int .i64 a0_3]) 26) (mk := fun b => ptr b 0) (i := 0) rfl (Wn.none rfl) rfl rfl rfl (f_box (v := .agg #[.int .i64 a0_0, .int .i64 a0_1, .int .i64 a0_2, .int .i64 a0_3]) rfl rfl) ?_
  intro b1 hb1
  refine DL.new (ob := .cells (#[.int .i64 0, .int .i64 0, .int .i64 0, .int .i64 0]) 26) (mk := fun b => ptr b 0) (i := 1) rfl (Wn.none rfl) rfl rfl rfl (f_alloc ty_z26 rfl) ?_
  intro b2 hb2
  refine DL.pu 7 (.int .i64 0) rfl (p_assign rfl rfl) ?_
  refine DL.nil ?_
  refine TT.seq (x := sub [1, 0] B12) (y := sub [1, 1] B12) ?_
  refine TT.seq (x := sub [1, 0, 0] B12) (y := sub [1, 0, 1] B12) ?_
  refine TT.region (id := 1) (n := 16) (ops := (opsOf (sub [1, 0, 0] B12))) [(.quiet, none), (.quiet, none), (.pure, none), (.pure, none), (.pure, none), (.quiet, none), (.pure, none), (.pure, none), (.pure, none), (.pure, none), (.pure, none), (.pure, none), (.pure, none), (.pure, none), (.pure, none), (.pure, none)] rfl ?_
  show DL _ _ _ _ _ _ _ _ _ _ [0, 1, 2, 3, 4, 5, 6, 7, 8, 9, 10, 11, 12, 13, 14, 15] _ _
  refine DL.qu 8 (.agg #[.int .i64 a0_0, .int .i64 a0_1, .int .i64 a0_2, .int .i64 a0_3]) rfl (f_loadA (j := 1) ty_a26 ty_s26 rfl rfl rfl rfl) ?_
  obtain ⟨t3, h4, h5⟩ := bind_some h
  refine DL.qu 9 (.bool t3) rfl (f_call rfl rfl (args_val (vs := [.agg #[.int .i64 a0_0, .int .i64 a0_1, .int .i64 a0_2, .int .i64 a0_3]]) rfl) (fun w => enter23 _ w) (fun w => ref21_MayCard.val h4 w)) ?_
  refine DL.pu 10 (.bool (!t3)) rfl (p_not rfl rfl) ?_
  refine DL.pu 11 (.bool (!t3)) rfl (p_move rfl rfl) ?_
  obtain ⟨q6, h7, h8⟩ := bind_some h5
  refine DL.cut [(1, .int .i64 a1), (2, .int .i64 a2), (3, ptr b1 0), (6, ptr b2 0), (15, .bool q6)] [8, 9, 10, 11, 12, 13, 14, 15] ?_ (fun J9 => ?_)
  · refine DL.pu 16 (.bool q6) rfl (p_move rfl rfl) ?_
    obtain ⟨q16, h17, h18⟩ := bind_some h8
    refine DL.cut [(1, .int .i64 a1), (2, .int .i64 a2), (3, ptr b1 0), (6, ptr b2 0), (19, .bool q16)] [12, 13, 14, 15] ?_ (fun J19 => ?_)
    · refine DL.pu 20 (.bool q16) rfl (p_move rfl rfl) ?_
      obtain ⟨q23, h24, h25⟩ := bind_some h18
      refine DL.cut [(1, .int .i64 a1), (2, .int .i64 a2), (3, ptr b1 0), (6, ptr b2 0), (23, .bool q23)] [] ?_ (fun J26 => ?_)
      · refine DL.nil ?_
        by_cases c30 : q23 = true
        · have h31 := ite_true c30 h25
          refine TT.cond_true (x := sub [1, 0, 1, 0] B12) (y := sub [1, 0, 1, 1] B12) rfl c30 ?_
          refine TT.seq (x := sub [1, 0, 1, 0, 0] B12) (y := sub [1, 0, 1, 0, 1] B12) ?_
          refine TT.region (id := 2) (n := 3) (ops := (opsOf (sub [1, 0, 1, 0, 0] B12))) [(.pure, none), (.store, none), (.pure, none)] rfl ?_
          show DL _ _ _ _ _ _ _ _ _ _ [0, 1, 2] _ _
          refine DL.pu 24 (.agg #[.int .i64 0, .int .i64 0, .int .i64 0, .int .i64 0]) rfl (p_build (vs := []) (fun w => by kernel_rfl) rfl rfl) ?_
          refine DL.put (H' := [(some b2, .cells (#[.int .i64 0, .int .i64 0, .int .i64 0, .int .i64 0]) 26 (0, 0)), (some b1, .cells (#[.int .i64 a0_0, .int .i64 a0_1, .int .i64 a0_2, .int .i64 a0_3]) 26 (0, 0))]) (i := 1) rfl (Wn.none rfl) rfl rfl (f_storeA (j := 0) ty_s26 rfl rfl rfl (by simp [OneCell]) rfl rfl rfl) (keep_none rfl) ?_
          refine DL.pu 7 (.int .i64 2) rfl (p_assign rfl rfl) ?_
          refine DL.nil ?_
          simp only [Option.some.injEq, Prod.mk.injEq] at h31
          obtain ⟨rfl, rfl, rfl, rfl, rfl⟩ := h31
          exact ret2 Try.func12 rfl (ResV.cell (j := 0) ty_a26 ty_s26 rfl rfl rfl) (ResV.tmp rfl) rfl
        · replace c30 := Bool.eq_false_iff.mpr c30
          have h32 := ite_false c30 h25
          refine TT.cond_false (x := sub [1, 0, 1, 0] B12) (y := sub [1, 0, 1, 1] B12) rfl c30 ?_
          refine TT.skip ?_
          refine TT.seq (x := sub [1, 1, 0] B12) (y := sub [1, 1, 1] B12) ?_
          refine TT.seq (x := sub [1, 1, 0, 0] B12) (y := sub [1, 1, 0, 1] B12) ?_
          refine TT.region (id := 3) (n := 25) (ops := (opsOf (sub [1, 1, 0, 0] B12))) [(.pure, none), (.quiet, none), (.pure, none), (.pure, none), (.quiet, none), (.quiet, none), (.pure, none), (.pure, none), (.pure, none), (.pure, none), (.quiet, none), (.pure, none), (.pure, none), (.quiet, none), (.quiet, none), (.pure, none), (.pure, none), (.pure, none), (.pure, none), (.pure, none), (.pure, none), (.quiet, none), (.quiet, none), (.pure, none), (.pure, none)] rfl ?_
          show DL _ _ _ _ _ _ _ _ _ _ [0, 1, 2, 3, 4, 5, 6, 7, 8, 9, 10, 11, 12, 13, 14, 15, 16, 17, 18, 19, 20, 21, 22, 23, 24] _ _
          refine DL.pu 25 (.int .i64 a2) rfl (p_move rfl rfl) ?_
          obtain ⟨t33, h34, h35⟩ := bind_some h32
          refine DL.qu 26 (.bool t33) rfl (f_call rfl rfl (args_val (vs := [.int .i64 a2, .int .i64 1]) rfl) (fun w => enter34 _ w) (fun w => ref21_Has.val h34 w)) ?_
          refine DL.pu 27 (.bool t33) rfl (p_move rfl rfl) ?_
          obtain ⟨q36, h37, h38⟩ := bind_some h35
          refine DL.cut [(1, .int .i64 a1), (2, .int .i64 a2), (3, ptr b1 0), (6, ptr b2 0), (32, .bool q36)] [8, 9, 10, 11, 12, 13, 14, 15, 16, 17, 18, 19, 20, 21, 22, 23, 24] ?_ (fun J39 => ?_)
          · refine DL.pu 33 (.bool q36) rfl (p_move rfl rfl) ?_
            obtain ⟨q46, h47, h48⟩ := bind_some h38
            refine DL.cut [(1, .int .i64 a1), (2, .int .i64 a2), (3, ptr b1 0), (6, ptr b2 0), (42, .bool q46)] [18, 19, 20, 21, 22, 23, 24] ?_ (fun J49 => ?_)
            · refine DL.pu 43 (.bool q46) rfl (p_move rfl rfl) ?_
              obtain ⟨q66, h67, h68⟩ := bind_some h48
              refine DL.cut [(1, .int .i64 a1), (2, .int .i64 a2), (3, ptr b1 0), (6, ptr b2 0), (49, .bool q66)] [] ?_ (fun J69 => ?_)
              · refine DL.nil ?_
                by_cases c79 : q66 = true
                · have h80 := ite_true c79 h68
                  refine TT.cond_true (x := sub [1, 1, 0, 1, 0] B12) (y := sub [1, 1, 0, 1, 1] B12) rfl c79 ?_
                  refine TT.seq (x := sub [1, 1, 0, 1, 0, 0] B12) (y := sub [1, 1, 0, 1, 0, 1] B12) ?_
                  refine TT.region (id := 4) (n := 3) (ops := (opsOf (sub [1, 1, 0, 1, 0, 0] B12))) [(.pure, none), (.store, none), (.pure, none)] rfl ?_
                  show DL _ _ _ _ _ _ _ _ _ _ [0, 1, 2] _ _
                  refine DL.pu 50 (.agg #[.int .i64 0, .int .i64 0, .int .i64 0, .int .i64 0]) rfl (p_build (vs := []) (fun w => by kernel_rfl) rfl rfl) ?_
                  refine DL.put (H' := [(some b2, .cells (#[.int .i64 0, .int .i64 0, .int .i64 0, .int .i64 0]) 26 (0, 0)), (some b1, .cells (#[.int .i64 a0_0, .int .i64 a0_1, .int .i64 a0_2, .int .i64 a0_3]) 26 (0, 0))]) (i := 1) rfl (Wn.none rfl) rfl rfl (f_storeA (j := 0) ty_s26 rfl rfl rfl (by simp [OneCell]) rfl rfl rfl) (keep_none rfl) ?_
                  refine DL.pu 7 (.int .i64 12) rfl (p_assign rfl rfl) ?_
                  refine DL.nil ?_
                  simp only [Option.some.injEq, Prod.mk.injEq] at h80
                  obtain ⟨rfl, rfl, rfl, rfl, rfl⟩ := h80
                  exact ret2 Try.func12 rfl (ResV.cell (j := 0) ty_a26 ty_s26 rfl rfl rfl) (ResV.tmp rfl) rfl
                · replace c79 := Bool.eq_false_iff.mpr c79
                  have h81 := ite_false c79 h68
                  refine TT.cond_false (x := sub [1, 1, 0, 1, 0] B12) (y := sub [1, 1, 0, 1, 1] B12) rfl c79 ?_
                  refine TT.skip ?_
                  refine TT.seq (x := sub [1, 1, 1, 0] B12) (y := sub [1, 1, 1, 1] B12) ?_
                  refine TT.seq (x := sub [1, 1, 1, 0, 0] B12) (y := sub [1, 1, 1, 0, 1] B12) ?_
                  refine TT.region (id := 5) (n := 2) (ops := (opsOf (sub [1, 1, 1, 0, 0] B12))) [(.quiet, none), (.quiet, none)] rfl ?_
                  show DL _ _ _ _ _ _ _ _ _ _ [0, 1] _ _
                  refine DL.qu 51 (.agg #[.int .i64 a0_0, .int .i64 a0_1, .int .i64 a0_2, .int .i64 a0_3]) rfl (f_loadA (j := 1) ty_a26 ty_s26 rfl rfl rfl rfl) ?_
                  obtain ⟨t82, h83, h84⟩ := bind_some h81
                  refine DL.qu 52 (.bool t82) rfl (f_call rfl rfl (args_val (vs := [.agg #[.int .i64 a0_0, .int .i64 a0_1, .int .i64 a0_2, .int .i64 a0_3]]) rfl) (fun w => enter24 _ w) (fun w => ref21_Kept.val h83 w)) ?_
                  refine DL.nil ?_
                  by_cases c85 : t82 = true
                  · have h86 := ite_true c85 h84
                    refine TT.cond_true (x := sub [1, 1, 1, 0, 1, 0] B12) (y := sub [1, 1, 1, 0, 1, 1] B12) rfl c85 ?_
                    refine TT.seq (x := sub [1, 1, 1, 0, 1, 0, 0] B12) (y := sub [1, 1, 1, 0, 1, 0, 1] B12) ?_
                    refine TT.region (id := 6) (n := 6) (ops := (opsOf (sub [1, 1, 1, 0, 1, 0, 0] B12))) [(.pure, none), (.pure, none), (.pure, none), (.pure, none), (.store, none), (.pure, none)] rfl ?_
                    show DL _ _ _ _ _ _ _ _ _ _ [0, 1, 2, 3, 4, 5] _ _
                    refine DL.pu 53 (.int .i64 a1) rfl (p_move rfl rfl) ?_
                    refine DL.pu 54 (.int .i64 a2) rfl (p_move rfl rfl) ?_
                    refine DL.pu 55 (.int .i64 a2) rfl (p_move rfl rfl) ?_
                    refine DL.pu 56 (.agg #[.int .i64 a1, .int .i64 3, .int .i64 a2, .int .i64 a2]) rfl (p_build (vs := [(0, .int .i64 a1), (1, .int .i64 3), (2, .int .i64 a2), (3, .int .i64 a2)]) (fun w => by kernel_rfl) rfl rfl) ?_
                    refine DL.put (H' := [(some b2, .cells (#[.int .i64 a1, .int .i64 3, .int .i64 a2, .int .i64 a2]) 26 (0, 0)), (some b1, .cells (#[.int .i64 a0_0, .int .i64 a0_1, .int .i64 a0_2, .int .i64 a0_3]) 26 (0, 0))]) (i := 4) rfl (Wn.none rfl) rfl rfl (f_storeA (j := 0) ty_s26 rfl rfl rfl (by simp [OneCell]) rfl rfl rfl) (keep_none rfl) ?_
                    refine DL.pu 7 (.int .i64 0) rfl (p_assign rfl rfl) ?_
                    refine DL.nil ?_
                    simp only [Option.some.injEq, Prod.mk.injEq] at h86
                    obtain ⟨rfl, rfl, rfl, rfl, rfl⟩ := h86
                    exact ret2 Try.func12 rfl (ResV.cell (j := 0) ty_a26 ty_s26 rfl rfl rfl) (ResV.tmp rfl) rfl
                  · replace c85 := Bool.eq_false_iff.mpr c85
                    have h87 := ite_false c85 h84
                    refine TT.cond_false (x := sub [1, 1, 1, 0, 1, 0] B12) (y := sub [1, 1, 1, 0, 1, 1] B12) rfl c85 ?_
                    refine TT.skip ?_
                    refine TT.seq (x := sub [1, 1, 1, 1, 0] B12) (y := sub [1, 1, 1, 1, 1] B12) ?_
                    refine TT.region (id := 7) (n := 7) (ops := (opsOf (sub [1, 1, 1, 1, 0] B12))) [(.pure, none), (.pure, none), (.pure, none), (.quiet, none), (.pure, none), (.store, none), (.pure, none)] rfl ?_
                    show DL _ _ _ _ _ _ _ _ _ _ [0, 1, 2, 3, 4, 5, 6] _ _
                    refine DL.pu 57 (.int .i64 a1) rfl (p_move rfl rfl) ?_
                    refine DL.pu 58 (.int .i64 a2) rfl (p_move rfl rfl) ?_
                    refine DL.pu 59 (.int .i64 a2) rfl (p_move rfl rfl) ?_
                    obtain ⟨t88, h89, h90⟩ := bind_some h87
                    refine DL.qu 60 (.int .i64 t88) rfl (f_call rfl rfl (args_val (vs := [.int .i64 a2]) rfl) (fun w => enter33 _ w) (fun w => ref21_more.val h89 w)) ?_
                    refine DL.pu 61 (.agg #[.int .i64 a1, .int .i64 3, .int .i64 a2, .int .i64 t88]) rfl (p_build (vs := [(0, .int .i64 a1), (1, .int .i64 3), (2, .int .i64 a2), (3, .int .i64 t88)]) (fun w => by kernel_rfl) rfl rfl) ?_
                    refine DL.put (H' := [(some b2, .cells (#[.int .i64 a1, .int .i64 3, .int .i64 a2, .int .i64 t88]) 26 (0, 0)), (some b1, .cells (#[.int .i64 a0_0, .int .i64 a0_1, .int .i64 a0_2, .int .i64 a0_3]) 26 (0, 0))]) (i := 5) rfl (Wn.none rfl) rfl rfl (f_storeA (j := 0) ty_s26 rfl rfl rfl (by simp [OneCell]) rfl rfl rfl) (keep_none rfl) ?_
                    refine DL.pu 7 (.int .i64 0) rfl (p_assign rfl rfl) ?_
                    refine DL.nil ?_
                    simp only [Option.some.injEq, Prod.mk.injEq] at h90
                    obtain ⟨rfl, rfl, rfl, rfl, rfl⟩ := h90
                    exact ret2 Try.func12 rfl (ResV.cell (j := 0) ty_a26 ty_s26 rfl rfl rfl) (ResV.tmp rfl) rfl
              · by_cases c70 : q46 = true
                · have h71 := ite_true c70 h67
                  refine DL.not (i := 19) rfl (Wn.yes c70 rfl rfl rfl rfl) rfl rfl ?_
                  refine DL.not (i := 20) rfl (Wn.yes c70 rfl rfl rfl rfl) rfl rfl ?_
                  refine DL.not (i := 21) rfl (Wn.yes c70 rfl rfl rfl rfl) rfl rfl ?_
                  refine DL.not (i := 22) rfl (Wn.yes c70 rfl rfl rfl rfl) rfl rfl ?_
                  refine DL.not (i := 23) rfl (Wn.yes c70 rfl rfl rfl rfl) rfl rfl ?_
                  refine DL.pu 49 (.bool true) rfl (p_pick_t c70 rfl rfl rfl) ?_
                  obtain rfl := Option.some.inj h71
                  exact DL.weak J69 (Sub.cons rfl (Sub.cons rfl (Sub.cons rfl (Sub.cons rfl (Sub.cons rfl (Sub.nil _))))))
                · replace c70 := Bool.eq_false_iff.mpr c70
                  have h72 := ite_false c70 h67
                  refine DL.pure (v := .int .i64 a2) rfl (Wn.no c70 rfl rfl rfl rfl) rfl rfl rfl (p_move rfl rfl) ?_
                  refine DL.pure (v := .int .i64 a1) rfl (Wn.no c70 rfl rfl rfl rfl) rfl rfl rfl (p_move rfl rfl) ?_
                  obtain ⟨t73, h74, h75⟩ := bind_some h72
                  refine DL.quiet (v := .int .i64 t73) rfl (Wn.no c70 rfl rfl rfl rfl) rfl rfl rfl (f_call rfl rfl (args_val (vs := [.int .i64 a1]) rfl) (fun w => enter26 _ w) (fun w => ref21_OfType.val h74 w)) ?_
                  obtain ⟨t76, h77, h78⟩ := bind_some h75
                  refine DL.quiet (v := .bool t76) rfl (Wn.no c70 rfl rfl rfl rfl) rfl rfl rfl (f_call rfl rfl (args_val (vs := [.int .i64 a2, .int .i64 t73]) rfl) (fun w => enter32 _ w) (fun w => ref21_In.val h77 w)) ?_
                  refine DL.pure (v := .bool (!t76)) rfl (Wn.no c70 rfl rfl rfl rfl) rfl rfl rfl (p_not rfl rfl) ?_
                  refine DL.pu 49 (.bool (!t76)) rfl (p_pick_f c70 rfl rfl rfl) ?_
                  obtain rfl := Option.some.inj h78
                  exact DL.weak J69 (Sub.cons rfl (Sub.cons rfl (Sub.cons rfl (Sub.cons rfl (Sub.cons rfl (Sub.nil _))))))
            · by_cases c50 : q36 = true
              · have h51 := ite_true c50 h47
                refine DL.not (i := 9) rfl (Wn.yes c50 rfl rfl rfl rfl) rfl rfl ?_
                refine DL.not (i := 10) rfl (Wn.yes c50 rfl rfl rfl rfl) rfl rfl ?_
                refine DL.not (i := 11) rfl (Wn.yes c50 rfl rfl rfl rfl) rfl rfl ?_
                refine DL.not (i := 12) rfl (Wn.undef rfl rfl rfl) rfl rfl ?_
                refine DL.not (i := 13) rfl (Wn.undef rfl rfl rfl) rfl rfl ?_
                refine DL.not (i := 14) rfl (Wn.undef rfl rfl rfl) rfl rfl ?_
                refine DL.not (i := 15) rfl (Wn.undef rfl rfl rfl) rfl rfl ?_
                refine DL.not (i := 16) rfl (Wn.yes c50 rfl rfl rfl rfl) rfl rfl ?_
                refine DL.pu 42 (.bool true) rfl (p_pick_t c50 rfl rfl rfl) ?_
                obtain rfl := Option.some.inj h51
                exact DL.weak J49 (Sub.cons rfl (Sub.cons rfl (Sub.cons rfl (Sub.cons rfl (Sub.cons rfl (Sub.nil _))))))
              · replace c50 := Bool.eq_false_iff.mpr c50
                have h52 := ite_false c50 h47
                refine DL.pure (v := .int .i64 a2) rfl (Wn.no c50 rfl rfl rfl rfl) rfl rfl rfl (p_move rfl rfl) ?_
                obtain ⟨t53, h54, h55⟩ := bind_some h52
                refine DL.quiet (v := .bool t53) rfl (Wn.no c50 rfl rfl rfl rfl) rfl rfl rfl (f_call rfl rfl (args_val (vs := [.int .i64 a2, .int .i64 2]) rfl) (fun w => enter34 _ w) (fun w => ref21_Has.val h54 w)) ?_
                refine DL.pure (v := .bool t53) rfl (Wn.no c50 rfl rfl rfl rfl) rfl rfl rfl (p_move rfl rfl) ?_
                obtain ⟨q56, h57, h58⟩ := bind_some h55
                refine DL.cut [(1, .int .i64 a1), (2, .int .i64 a2), (3, ptr b1 0), (6, ptr b2 0), (33, .bool q36), (41, .bool q56)] [17, 18, 19, 20, 21, 22, 23, 24] ?_ (fun J59 => ?_)
                · refine DL.pu 42 (.bool q56) rfl (p_pick_f c50 rfl rfl rfl) ?_
                  obtain rfl := Option.some.inj h58
                  exact DL.weak J49 (Sub.cons rfl (Sub.cons rfl (Sub.cons rfl (Sub.cons rfl (Sub.cons rfl (Sub.nil _))))))
                · by_cases c60 : t53 = true
                  · have h61 := ite_true c60 h57
                    refine DL.pure (v := ptr b1 2) rfl (Wn.yes c60 rfl rfl rfl rfl) rfl rfl rfl (p_fieldAddr ty_f26_2 rfl rfl) ?_
                    refine DL.quiet (v := .int .i64 a0_2) rfl (Wn.yes c60 rfl rfl rfl rfl) rfl rfl rfl (f_load (j := 1) ty_a24 rfl rfl rfl rfl) ?_
                    obtain ⟨t62, h63, h64⟩ := bind_some h61
                    refine DL.quiet (v := .bool t62) rfl (Wn.yes c60 rfl rfl rfl rfl) rfl rfl rfl (f_call rfl rfl (args_val (vs := [.int .i64 a0_2, .int .i64 2]) rfl) (fun w => enter34 _ w) (fun w => ref21_Has.val h63 w)) ?_
                    refine DL.pure (v := .bool (!t62)) rfl (Wn.yes c60 rfl rfl rfl rfl) rfl rfl rfl (p_not rfl rfl) ?_
                    refine DL.pure (v := .bool (!t62)) rfl (Wn.no c50 rfl rfl rfl rfl) rfl rfl rfl (p_pick_t c60 rfl rfl rfl) ?_
                    obtain rfl := Option.some.inj h64
                    exact DL.weak J59 (Sub.cons rfl (Sub.cons rfl (Sub.cons rfl (Sub.cons rfl (Sub.cons rfl (Sub.cons rfl (Sub.nil _)))))))
                  · replace c60 := Bool.eq_false_iff.mpr c60
                    have h65 := ite_false c60 h57
                    refine DL.not (i := 12) rfl (Wn.no c60 rfl rfl rfl rfl) rfl rfl ?_
                    refine DL.not (i := 13) rfl (Wn.no c60 rfl rfl rfl rfl) rfl rfl ?_
                    refine DL.not (i := 14) rfl (Wn.no c60 rfl rfl rfl rfl) rfl rfl ?_
                    refine DL.not (i := 15) rfl (Wn.no c60 rfl rfl rfl rfl) rfl rfl ?_
                    refine DL.pure (v := .bool false) rfl (Wn.no c50 rfl rfl rfl rfl) rfl rfl rfl (p_pick_f c60 rfl rfl rfl) ?_
                    obtain rfl := Option.some.inj h65
                    exact DL.weak J59 (Sub.cons rfl (Sub.cons rfl (Sub.cons rfl (Sub.cons rfl (Sub.cons rfl (Sub.cons rfl (Sub.nil _)))))))
          · by_cases c40 : t33 = true
            · have h41 := ite_true c40 h37
              refine DL.pure (v := ptr b1 2) rfl (Wn.yes c40 rfl rfl rfl rfl) rfl rfl rfl (p_fieldAddr ty_f26_2 rfl rfl) ?_
              refine DL.quiet (v := .int .i64 a0_2) rfl (Wn.yes c40 rfl rfl rfl rfl) rfl rfl rfl (f_load (j := 1) ty_a24 rfl rfl rfl rfl) ?_
              obtain ⟨t42, h43, h44⟩ := bind_some h41
              refine DL.quiet (v := .bool t42) rfl (Wn.yes c40 rfl rfl rfl rfl) rfl rfl rfl (f_call rfl rfl (args_val (vs := [.int .i64 a0_2, .int .i64 1]) rfl) (fun w => enter34 _ w) (fun w => ref21_Has.val h43 w)) ?_
              refine DL.pure (v := .bool (!t42)) rfl (Wn.yes c40 rfl rfl rfl rfl) rfl rfl rfl (p_not rfl rfl) ?_
              refine DL.pu 32 (.bool (!t42)) rfl (p_pick_t c40 rfl rfl rfl) ?_
              obtain rfl := Option.some.inj h44
              exact DL.weak J39 (Sub.cons rfl (Sub.cons rfl (Sub.cons rfl (Sub.cons rfl (Sub.cons rfl (Sub.nil _))))))
            · replace c40 := Bool.eq_false_iff.mpr c40
              have h45 := ite_false c40 h37
              refine DL.not (i := 3) rfl (Wn.no c40 rfl rfl rfl rfl) rfl rfl ?_
              refine DL.not (i := 4) rfl (Wn.no c40 rfl rfl rfl rfl) rfl rfl ?_
              refine DL.not (i := 5) rfl (Wn.no c40 rfl rfl rfl rfl) rfl rfl ?_
              refine DL.not (i := 6) rfl (Wn.no c40 rfl rfl rfl rfl) rfl rfl ?_
              refine DL.pu 32 (.bool false) rfl (p_pick_f c40 rfl rfl rfl) ?_
              obtain rfl := Option.some.inj h45
              exact DL.weak J39 (Sub.cons rfl (Sub.cons rfl (Sub.cons rfl (Sub.cons rfl (Sub.cons rfl (Sub.nil _))))))
      · by_cases c27 : q16 = true
        · have h28 := ite_true c27 h24
          refine DL.not (i := 13) rfl (Wn.yes c27 rfl rfl rfl rfl) rfl rfl ?_
          refine DL.not (i := 14) rfl (Wn.yes c27 rfl rfl rfl rfl) rfl rfl ?_
          refine DL.pu 23 (.bool true) rfl (p_pick_t c27 rfl rfl rfl) ?_
          obtain rfl := Option.some.inj h28
          exact DL.weak J26 (Sub.cons rfl (Sub.cons rfl (Sub.cons rfl (Sub.cons rfl (Sub.cons rfl (Sub.nil _))))))
        · replace c27 := Bool.eq_false_iff.mpr c27
          have h29 := ite_false c27 h24
          refine DL.pure (v := .int .i64 a2) rfl (Wn.no c27 rfl rfl rfl rfl) rfl rfl rfl (p_move rfl rfl) ?_
          refine DL.pure (v := .bool (decide (63 < a2))) rfl (Wn.no c27 rfl rfl rfl rfl) rfl rfl rfl (p_gtr rfl rfl rfl) ?_
          refine DL.pu 23 (.bool (decide (63 < a2))) rfl (p_pick_f c27 rfl rfl rfl) ?_
          obtain rfl := Option.some.inj h29
          exact DL.weak J26 (Sub.cons rfl (Sub.cons rfl (Sub.cons rfl (Sub.cons rfl (Sub.cons rfl (Sub.nil _))))))
    · by_cases c20 : q6 = true
      · have h21 := ite_true c20 h17
        refine DL.not (i := 9) rfl (Wn.yes c20 rfl rfl rfl rfl) rfl rfl ?_
        refine DL.not (i := 10) rfl (Wn.yes c20 rfl rfl rfl rfl) rfl rfl ?_
        refine DL.pu 19 (.bool true) rfl (p_pick_t c20 rfl rfl rfl) ?_
        obtain rfl := Option.some.inj h21
        exact DL.weak J19 (Sub.cons rfl (Sub.cons rfl (Sub.cons rfl (Sub.cons rfl (Sub.cons rfl (Sub.nil _))))))
      · replace c20 := Bool.eq_false_iff.mpr c20
        have h22 := ite_false c20 h17
        refine DL.pure (v := .int .i64 a2) rfl (Wn.no c20 rfl rfl rfl rfl) rfl rfl rfl (p_move rfl rfl) ?_
        refine DL.pure (v := .bool (decide (a2 < 0))) rfl (Wn.no c20 rfl rfl rfl rfl) rfl rfl rfl (p_lss rfl rfl rfl) ?_
        refine DL.pu 19 (.bool (decide (a2 < 0))) rfl (p_pick_f c20 rfl rfl rfl) ?_
        obtain rfl := Option.some.inj h22
        exact DL.weak J19 (Sub.cons rfl (Sub.cons rfl (Sub.cons rfl (Sub.cons rfl (Sub.cons rfl (Sub.nil _))))))
  · by_cases c10 : (!t3) = true
    · have h11 := ite_true c10 h7
      refine DL.not (i := 4) rfl (Wn.yes c10 rfl rfl rfl rfl) rfl rfl ?_
      refine DL.not (i := 5) rfl (Wn.yes c10 rfl rfl rfl rfl) rfl rfl ?_
      refine DL.not (i := 6) rfl (Wn.yes c10 rfl rfl rfl rfl) rfl rfl ?_
      refine DL.pu 15 (.bool true) rfl (p_pick_t c10 rfl rfl rfl) ?_
      obtain rfl := Option.some.inj h11
      exact DL.weak J9 (Sub.cons rfl (Sub.cons rfl (Sub.cons rfl (Sub.cons rfl (Sub.cons rfl (Sub.nil _))))))
    · replace c10 := Bool.eq_false_iff.mpr c10
      have h12 := ite_false c10 h7
      refine DL.pure (v := .int .i64 a1) rfl (Wn.no c10 rfl rfl rfl rfl) rfl rfl rfl (p_move rfl rfl) ?_
      obtain ⟨t13, h14, h15⟩ := bind_some h12
      refine DL.quiet (v := .int .i64 t13) rfl (Wn.no c10 rfl rfl rfl rfl) rfl rfl rfl (f_call rfl rfl (args_val (vs := [.int .i64 a1]) rfl) (fun w => enter26 _ w) (fun w => ref21_OfType.val h14 w)) ?_
      refine DL.pure (v := .bool (t13 == 0)) rfl (Wn.no c10 rfl rfl rfl rfl) rfl rfl rfl (p_eql rfl rfl rfl) ?_
      refine DL.pu 15 (.bool (t13 == 0)) rfl (p_pick_f c10 rfl rfl rfl) ?_
      obtain rfl := Option.some.inj h15
      exact DL.weak J9 (Sub.cons rfl (Sub.cons rfl (Sub.cons rfl (Sub.cons rfl (Sub.cons rfl (Sub.nil _))))))
theorem ref21_Derived.val {a0_0 : Int} {a0_1 : Int} {a0_2 : Int} {a0_3 : Int} {a1 : Int} {a2 : Int} {r_0_0 : Int} {r_0_1 : Int} {r_0_2 : Int} {r_0_3 : Int} {r_1 : Int} (h : ref21_Derived.f a0_0 a0_1 a0_2 a0_3 a1 a2 = some (r_0_0, r_0_1, r_0_2, r_0_3, r_1)) (w : World) : Calls Try.prog 12 #[.agg #[.int .i64 a0_0, .int .i64 a0_1, .int .i64 a0_2, .int .i64 a0_3], .int .i64 a1, .int .i64 a2] w fun e w' => e = .returned (.tuple #[.agg #[.int .i64 r_0_0, .int .i64 r_0_1, .int .i64 r_0_2, .int .i64 r_0_3], .int .i64 r_1]) ∧ Below w.heap.size w w' :=
  calls_value (ref21_Derived.ok h w)

/-! ### escutcheon/escutcheonref21.Unwrapped: function 13 -/
noncomputable def B13 : Code := bodyOf Try.f13
def ref21_Unwrapped.f (a0_0 : Int) (a0_1 : Int) (a0_2 : Int) (a0_3 : Int) (a1_0 : Int) (a1_1 : Int) (a1_2 : Int) (a1_3 : Int) (a2 : Int) : Option (Int × Int × Int × Int × Int) := (ref21_MayCard.f a0_0 a0_1 a0_2 a0_3).bind fun t4 => (if (!t4) = true then (some true) else ((ref21_MayCard.f a1_0 a1_1 a1_2 a1_3).bind fun t14 => some (!t14))).bind fun q7 => (if q7 = true then (some true) else (some (decide (a2 < 0)))).bind fun q17 => (if q17 = true then (some true) else (some (decide (63 < a2)))).bind fun q24 => if q24 = true then (some (0, 0, 0, 0, 2)) else ((ref21_In.f a2 a1_2).bind fun t34 => if (!t34) = true then (some (0, 0, 0, 0, 12)) else ((ref21_Kept.f a0_0 a0_1 a0_2 a0_3).bind fun t40 => (if t40 = true then ((ref21_Kept.f a1_0 a1_1 a1_2 a1_3).bind fun t49 => some t49) else (some false)).bind fun q43 => if q43 = true then (some (a1_0, 4, a2, a2, 0)) else ((ref21_more.f a2).bind fun t57 => some (a1_0, 4, a2, t57, 0))))
set_option maxRecDepth 20000 in
theorem ref21_Unwrapped.ok {a0_0 : Int} {a0_1 : Int} {a0_2 : Int} {a0_3 : Int} {a1_0 : Int} {a1_1 : Int} {a1_2 : Int} {a1_3 : Int} {a2 : Int} {r_0_0 : Int} {r_0_1 : Int} {r_0_2 : Int} {r_0_3 : Int} {r_1 : Int} (h : ref21_Unwrapped.f a0_0 a0_1 a0_2 a0_3 a1_0 a1_1 a1_2 a1_3 a2 = some (r_0_0, r_0_1, r_0_2, r_0_3, r_1)) (w : World) : Calls Try.prog 13 #[.agg #[.int .i64 a0_0, .int .i64 a0_1, .int .i64 a0_2, .int .i64 a0_3], .agg #[.int .i64 a1_0, .int .i64 a1_1, .int .i64 a1_2, .int .i64 a1_3], .int .i64 a2] w (Post (fun u => u = .tuple #[.agg #[.int .i64 r_0_0, .int .i64 r_0_1, .int .i64 r_0_2, .int .i64 r_0_3], .int .i64 r_1]) w) := by
  unfold ref21_Unwrapped.f at h
  refine calls_of_TT (N := 48) (S := [(0, .agg #[.int .i64 a0_0, .int .i64 a0_1, .int .i64 a0_2, .int .i64 a0_3]), (1, .agg #[.int .i64 a1_0, .int .i64 a1_1, .int .i64 a1_2, .int .i64 a1_3]), (2, .int .i64 a2)]) (c := B13) Try.func13 rfl rfl rfl (by simp) ?_
  show TT _ _ _ _ _ _ [.code (sub [] B13)] _ _
  refine TT.seq (x := sub [0] B13) (y := sub [1] B13) ?_
  refine TT.region (id := 0) (n := 4) (ops := (opsOf (sub [0] B13))) [(.alloc, none), (.alloc, none), (.alloc, none), (.pure, none)] rfl ?_
  show DL _ _ _ _ _ _ _ _ _ _ [0, 1, 2, 3] _ _
  refine DL.new (ob := .cells (#[.int .i64 a0_0, .int .i64 a0_1, .int .i64 a0_2, .int .i64 a0_3]) 26) (mk := fun b => ptr b 0) (i := 0) rfl (Wn.none rfl) rfl rfl rfl (f_box (v := .agg #[.int .i64 a0_0, .int .i64 a0_1, .int .i64 a0_2, .int .i64 a0_3]) rfl rfl) ?_
  intro b1 hb1
  refine DL.new (ob := .cells (#[.int .i64 a1_0, .int .i64 a1_1, .int .i64 a1_2, .int .i64 a1_3]) 26) (mk := fun b => ptr b 0) (i := 1) rfl (Wn.none rfl) rfl rfl rfl (f_box (v := .agg #[.int .i64 a1_0, .int .i64 a1_1, .int .i64 a1_2, .int .i64 a1_3]) rfl rfl) ?_
  intro b2 hb2
  refine DL.new (ob := .cells (#[.int .i64 0, .int .i64 0, .int .i64 0, .int .i64 0]) 26) (mk := fun b => ptr b 0) (i := 2) rfl (Wn.none rfl) rfl rfl rfl (f_alloc ty_z26 rfl) ?_
  intro b3 hb3
  refine DL.pu 7 (.int .i64 0) rfl (p_assign rfl rfl) ?_
  refine DL.nil ?_
  refine TT.seq (x := sub [1, 0] B13) (y := sub [1, 1] B13) ?_
  refine TT.seq (x := sub [1, 0, 0] B13) (y := sub [1, 0, 1] B13) ?_
  refine TT.region (id := 1) (n := 16) (ops := (opsOf (sub [1, 0, 0] B13))) [(.quiet, none), (.quiet, none), (.pure, none), (.pure, none), (.quiet, none), (.quiet, none), (.pure, none), (.pure, none), (.pure, none), (.pure, none), (.pure, none), (.pure, none), (.pure, none), (.pure, none), (.pure, none), (.pure, none)] rfl ?_
  show DL _ _ _ _ _ _ _ _ _ _ [0, 1, 2, 3, 4, 5, 6, 7, 8, 9, 10, 11, 12, 13, 14, 15] _ _
  refine DL.qu 8 (.agg #[.int .i64 a0_0, .int .i64 a0_1, .int .i64 a0_2, .int .i64 a0_3]) rfl (f_loadA (j := 2) ty_a26 ty_s26 rfl rfl rfl rfl) ?_
  obtain ⟨t4, h5, h6⟩ := bind_some h
  refine DL.qu 9 (.bool t4) rfl (f_call rfl rfl (args_val (vs := [.agg #[.int .i64 a0_0, .int .i64 a0_1, .int .i64 a0_2, .int .i64 a0_3]]) rfl) (fun w => enter23 _ w) (fun w => ref21_MayCard.val h5 w)) ?_
  refine DL.pu 10 (.bool (!t4)) rfl (p_not rfl rfl) ?_
  refine DL.pu 11 (.bool (!t4)) rfl (p_move rfl rfl) ?_
  obtain ⟨q7, h8, h9⟩ := bind_some h6
  refine DL.cut [(2, .int .i64 a2), (3, ptr b1 0), (4, ptr b2 0), (6, ptr b3 0), (15, .bool q7)] [8, 9, 10, 11, 12, 13, 14, 15] ?_ (fun J10 => ?_)
  · refine DL.pu 16 (.bool q7) rfl (p_move rfl rfl) ?_
    obtain ⟨q17, h18, h19⟩ := bind_some h9
    refine DL.cut [(2, .int .i64 a2), (3, ptr b1 0), (4, ptr b2 0), (6, ptr b3 0), (19, .bool q17)] [12, 13, 14, 15] ?_ (fun J20 => ?_)
    · refine DL.pu 20 (.bool q17) rfl (p_move rfl rfl) ?_
      obtain ⟨q24, h25, h26⟩ := bind_some h19
      refine DL.cut [(2, .int .i64 a2), (3, ptr b1 0), (4, ptr b2 0), (6, ptr b3 0), (23, .bool q24)] [] ?_ (fun J27 => ?_)
      · refine DL.nil ?_
        by_cases c31 : q24 = true
        · have h32 := ite_true c31 h26
          refine TT.cond_true (x := sub [1, 0, 1, 0] B13) (y := sub [1, 0, 1, 1] B13) rfl c31 ?_
          refine TT.seq (x := sub [1, 0, 1, 0, 0] B13) (y := sub [1, 0, 1, 0, 1] B13) ?_
          refine TT.region (id := 2) (n := 3) (ops := (opsOf (sub [1, 0, 1, 0, 0] B13))) [(.pure, none), (.store, none), (.pure, none)] rfl ?_
          show DL _ _ _ _ _ _ _ _ _ _ [0, 1, 2] _ _
          refine DL.pu 24 (.agg #[.int .i64 0, .int .i64 0, .int .i64 0, .int .i64 0]) rfl (p_build (vs := []) (fun w => by kernel_rfl) rfl rfl) ?_
          refine DL.put (H' := [(some b3, .cells (#[.int .i64 0, .int .i64 0, .int .i64 0, .int .i64 0]) 26 (0, 0)), (some b2, .cells (#[.int .i64 a1_0, .int .i64 a1_1, .int .i64 a1_2, .int .i64 a1_3]) 26 (0, 0)), (some b1, .cells (#[.int .i64 a0_0, .int .i64 a0_1, .int .i64 a0_2, .int .i64 a0_3]) 26 (0, 0))]) (i := 1) rfl (Wn.none rfl) rfl rfl (f_storeA (j := 0) ty_s26 rfl rfl rfl (by simp [OneCell]) rfl rfl rfl) (keep_none rfl) ?_
          refine DL.pu 7 (.int .i64 2) rfl (p_assign rfl rfl) ?_
          refine DL.nil ?_
          simp only [Option.some.injEq, Prod.mk.injEq] at h32
          obtain ⟨rfl, rfl, rfl, rfl, rfl⟩ := h32
          exact ret2 Try.func13 rfl (ResV.cell (j := 0) ty_a26 ty_s26 rfl rfl rfl) (ResV.tmp rfl) rfl
        · replace c31 := Bool.eq_false_iff.mpr c31
          have h33 := ite_false c31 h26
          refine TT.cond_false (x := sub [1, 0, 1, 0] B13) (y := sub [1, 0, 1, 1] B13) rfl c31 ?_
          refine TT.skip ?_
          refine TT.seq (x := sub [1, 1, 0] B13) (y := sub [1, 1, 1] B13) ?_
          refine TT.seq (x := sub [1, 1, 0, 0] B13) (y := sub [1, 1, 0, 1] B13) ?_
          refine TT.region (id := 3) (n := 5) (ops := (opsOf (sub [1, 1, 0, 0] B13))) [(.pure, none), (.pure, none), (.quiet, none), (.quiet, none), (.pure, none)] rfl ?_
          show DL _ _ _ _ _ _ _ _ _ _ [0, 1, 2, 3, 4] _ _
          refine DL.pu 25 (.int .i64 a2) rfl (p_move rfl rfl) ?_
          refine DL.pu 26 (ptr b2 2) rfl (p_fieldAddr ty_f26_2 rfl rfl) ?_
          refine DL.qu 27 (.int .i64 a1_2) rfl (f_load (j := 1) ty_a24 rfl rfl rfl rfl) ?_
          obtain ⟨t34, h35, h36⟩ := bind_some h33
          refine DL.qu 28 (.bool t34) rfl (f_call rfl rfl (args_val (vs := [.int .i64 a2, .int .i64 a1_2]) rfl) (fun w => enter32 _ w) (fun w => ref21_In.val h35 w)) ?_
          refine DL.pu 29 (.bool (!t34)) rfl (p_not rfl rfl) ?_
          refine DL.nil ?_
          by_cases c37 : (!t34) = true
          · have h38 := ite_true c37 h36
            refine TT.cond_true (x := sub [1, 1, 0, 1, 0] B13) (y := sub [1, 1, 0, 1, 1] B13) rfl c37 ?_
            refine TT.seq (x := sub [1, 1, 0, 1, 0, 0] B13) (y := sub [1, 1, 0, 1, 0, 1] B13) ?_
            refine TT.region (id := 4) (n := 3) (ops := (opsOf (sub [1, 1, 0, 1, 0, 0] B13))) [(.pure, none), (.store, none), (.pure, none)] rfl ?_
            show DL _ _ _ _ _ _ _ _ _ _ [0, 1, 2] _ _
            refine DL.pu 30 (.agg #[.int .i64 0, .int .i64 0, .int .i64 0, .int .i64 0]) rfl (p_build (vs := []) (fun w => by kernel_rfl) rfl rfl) ?_
            refine DL.put (H' := [(some b3, .cells (#[.int .i64 0, .int .i64 0, .int .i64 0, .int .i64 0]) 26 (0, 0)), (some b2, .cells (#[.int .i64 a1_0, .int .i64 a1_1, .int .i64 a1_2, .int .i64 a1_3]) 26 (0, 0)), (some b1, .cells (#[.int .i64 a0_0, .int .i64 a0_1, .int .i64 a0_2, .int .i64 a0_3]) 26 (0, 0))]) (i := 1) rfl (Wn.none rfl) rfl rfl (f_storeA (j := 0) ty_s26 rfl rfl rfl (by simp [OneCell]) rfl rfl rfl) (keep_none rfl) ?_
            refine DL.pu 7 (.int .i64 12) rfl (p_assign rfl rfl) ?_
            refine DL.nil ?_
            simp only [Option.some.injEq, Prod.mk.injEq] at h38
            obtain ⟨rfl, rfl, rfl, rfl, rfl⟩ := h38
            exact ret2 Try.func13 rfl (ResV.cell (j := 0) ty_a26 ty_s26 rfl rfl rfl) (ResV.tmp rfl) rfl
          · replace c37 := Bool.eq_false_iff.mpr c37
            have h39 := ite_false c37 h36
            refine TT.cond_false (x := sub [1, 1, 0, 1, 0] B13) (y := sub [1, 1, 0, 1, 1] B13) rfl c37 ?_
            refine TT.skip ?_
            refine TT.seq (x := sub [1, 1, 1, 0] B13) (y := sub [1, 1, 1, 1] B13) ?_
            refine TT.seq (x := sub [1, 1, 1, 0, 0] B13) (y := sub [1, 1, 1, 0, 1] B13) ?_
            refine TT.region (id := 5) (n := 6) (ops := (opsOf (sub [1, 1, 1, 0, 0] B13))) [(.quiet, none), (.quiet, none), (.pure, none), (.quiet, none), (.quiet, none), (.pure, none)] rfl ?_
            show DL _ _ _ _ _ _ _ _ _ _ [0, 1, 2, 3, 4, 5] _ _
            refine DL.qu 31 (.agg #[.int .i64 a0_0, .int .i64 a0_1, .int .i64 a0_2, .int .i64 a0_3]) rfl (f_loadA (j := 2) ty_a26 ty_s26 rfl rfl rfl rfl) ?_
            obtain ⟨t40, h41, h42⟩ := bind_some h39
            refine DL.qu 32 (.bool t40) rfl (f_call rfl rfl (args_val (vs := [.agg #[.int .i64 a0_0, .int .i64 a0_1, .int .i64 a0_2, .int .i64 a0_3]]) rfl) (fun w => enter24 _ w) (fun w => ref21_Kept.val h41 w)) ?_
            refine DL.pu 33 (.bool t40) rfl (p_move rfl rfl) ?_
            obtain ⟨q43, h44, h45⟩ := bind_some h42
            refine DL.cut [(2, .int .i64 a2), (4, ptr b2 0), (6, ptr b3 0), (36, .bool q43)] [] ?_ (fun J46 => ?_)
            · refine DL.nil ?_
              by_cases c53 : q43 = true
              · have h54 := ite_true c53 h45
                refine TT.cond_true (x := sub [1, 1, 1, 0, 1, 0] B13) (y := sub [1, 1, 1, 0, 1, 1] B13) rfl c53 ?_
                refine TT.seq (x := sub [1, 1, 1, 0, 1, 0, 0] B13) (y := sub [1, 1, 1, 0, 1, 0, 1] B13) ?_
                refine TT.region (id := 6) (n := 7) (ops := (opsOf (sub [1, 1, 1, 0, 1, 0, 0] B13))) [(.pure, none), (.quiet, none), (.pure, none), (.pure, none), (.pure, none), (.store, none), (.pure, none)] rfl ?_
                show DL _ _ _ _ _ _ _ _ _ _ [0, 1, 2, 3, 4, 5, 6] _ _
                refine DL.pu 37 (ptr b2 0) rfl (p_fieldAddr ty_f26_0 rfl rfl) ?_
                refine DL.qu 38 (.int .i64 a1_0) rfl (f_load (j := 1) ty_a22 rfl rfl rfl rfl) ?_
                refine DL.pu 39 (.int .i64 a2) rfl (p_move rfl rfl) ?_
                refine DL.pu 40 (.int .i64 a2) rfl (p_move rfl rfl) ?_
                refine DL.pu 41 (.agg #[.int .i64 a1_0, .int .i64 4, .int .i64 a2, .int .i64 a2]) rfl (p_build (vs := [(0, .int .i64 a1_0), (1, .int .i64 4), (2, .int .i64 a2), (3, .int .i64 a2)]) (fun w => by kernel_rfl) rfl rfl) ?_
                refine DL.put (H' := [(some b3, .cells (#[.int .i64 a1_0, .int .i64 4, .int .i64 a2, .int .i64 a2]) 26 (0, 0)), (some b2, .cells (#[.int .i64 a1_0, .int .i64 a1_1, .int .i64 a1_2, .int .i64 a1_3]) 26 (0, 0)), (some b1, .cells (#[.int .i64 a0_0, .int .i64 a0_1, .int .i64 a0_2, .int .i64 a0_3]) 26 (0, 0))]) (i := 5) rfl (Wn.none rfl) rfl rfl (f_storeA (j := 0) ty_s26 rfl rfl rfl (by simp [OneCell]) rfl rfl rfl) (keep_none rfl) ?_
                refine DL.pu 7 (.int .i64 0) rfl (p_assign rfl rfl) ?_
                refine DL.nil ?_
                simp only [Option.some.injEq, Prod.mk.injEq] at h54
                obtain ⟨rfl, rfl, rfl, rfl, rfl⟩ := h54
                exact ret2 Try.func13 rfl (ResV.cell (j := 0) ty_a26 ty_s26 rfl rfl rfl) (ResV.tmp rfl) rfl
              · replace c53 := Bool.eq_false_iff.mpr c53
                have h55 := ite_false c53 h45
                refine TT.cond_false (x := sub [1, 1, 1, 0, 1, 0] B13) (y := sub [1, 1, 1, 0, 1, 1] B13) rfl c53 ?_
                refine TT.skip ?_
                refine TT.seq (x := sub [1, 1, 1, 1, 0] B13) (y := sub [1, 1, 1, 1, 1] B13) ?_
                refine TT.regionD (id := 7) (ops := (opsOf (sub [1, 1, 1, 1, 0] B13))) [0, 1, 2, 3, 4, 5, 6, 7] [0, 1, 0, 0, 8, 31, 63, 127] [(.pure, none), (.look, some 1), (.pure, none), (.pure, none), (.quiet, none), (.pure, none), (.store, some 0), (.pure, none)] mixed (by kernel_rfl) ?_
                intro w56 hl56 hj56 hz56
                refine DL.pu 42 (ptr b2 0) rfl (p_fieldAddr ty_f26_0 rfl rfl) ?_
                refine DL.look (v := .int .i64 a1_0) (x := 1) (b := b2) (i := 1) rfl (Wn.none rfl) rfl rfl rfl rfl rfl (List.mem_of_getElem? (i := 1) rfl) (b_load ty_a22 rfl rfl rfl) ?_
                refine DL.pu 44 (.int .i64 a2) rfl (p_move rfl rfl) ?_
                refine DL.pu 45 (.int .i64 a2) rfl (p_move rfl rfl) ?_
                obtain ⟨t57, h58, h59⟩ := bind_some h55
                refine DL.qu 46 (.int .i64 t57) rfl (f_call rfl rfl (args_val (vs := [.int .i64 a2]) rfl) (fun w => enter33 _ w) (fun w => ref21_more.val h58 w)) ?_
                refine DL.pu 47 (.agg #[.int .i64 a1_0, .int .i64 4, .int .i64 a2, .int .i64 t57]) rfl (p_build (vs := [(0, .int .i64 a1_0), (1, .int .i64 4), (2, .int .i64 a2), (3, .int .i64 t57)]) (fun w => by kernel_rfl) rfl rfl) ?_
                refine DL.put (H' := [(some b3, .cells (#[.int .i64 a1_0, .int .i64 4, .int .i64 a2, .int .i64 t57]) 26 (0, 0)), (some b2, .cells (#[.int .i64 a1_0, .int .i64 a1_1, .int .i64 a1_2, .int .i64 a1_3]) 26 (0, 0)), (some b1, .cells (#[.int .i64 a0_0, .int .i64 a0_1, .int .i64 a0_2, .int .i64 a0_3]) 26 (0, 0))]) (i := 6) rfl (Wn.none rfl) rfl rfl (f_storeA (j := 0) ty_s26 rfl rfl rfl (by simp [OneCell]) rfl rfl rfl) (keep_set (j := 0) hj56 rfl rfl rfl) ?_
                refine DL.pu 7 (.int .i64 0) rfl (p_assign rfl rfl) ?_
                refine DL.nil' hl56 ?_
                simp only [Option.some.injEq, Prod.mk.injEq] at h59
                obtain ⟨rfl, rfl, rfl, rfl, rfl⟩ := h59
                exact ret2 Try.func13 rfl (ResV.cell (j := 0) ty_a26 ty_s26 rfl rfl rfl) (ResV.tmp rfl) rfl
            · by_cases c47 : t40 = true
              · have h48 := ite_true c47 h44
                refine DL.quiet (v := .agg #[.int .i64 a1_0, .int .i64 a1_1, .int .i64 a1_2, .int .i64 a1_3]) rfl (Wn.yes c47 rfl rfl rfl rfl) rfl rfl rfl (f_loadA (j := 1) ty_a26 ty_s26 rfl rfl rfl rfl) ?_
                obtain ⟨t49, h50, h51⟩ := bind_some h48
                refine DL.quiet (v := .bool t49) rfl (Wn.yes c47 rfl rfl rfl rfl) rfl rfl rfl (f_call rfl rfl (args_val (vs := [.agg #[.int .i64 a1_0, .int .i64 a1_1, .int .i64 a1_2, .int .i64 a1_3]]) rfl) (fun w => enter24 _ w) (fun w => ref21_Kept.val h50 w)) ?_
                refine DL.pu 36 (.bool t49) rfl (p_pick_t c47 rfl rfl rfl) ?_
                obtain rfl := Option.some.inj h51
                exact DL.weak J46 (Sub.cons rfl (Sub.cons rfl (Sub.cons rfl (Sub.cons rfl (Sub.nil _)))))
              · replace c47 := Bool.eq_false_iff.mpr c47
                have h52 := ite_false c47 h44
                refine DL.not (i := 3) rfl (Wn.no c47 rfl rfl rfl rfl) rfl rfl ?_
                refine DL.not (i := 4) rfl (Wn.no c47 rfl rfl rfl rfl) rfl rfl ?_
                refine DL.pu 36 (.bool false) rfl (p_pick_f c47 rfl rfl rfl) ?_
                obtain rfl := Option.some.inj h52
                exact DL.weak J46 (Sub.cons rfl (Sub.cons rfl (Sub.cons rfl (Sub.cons rfl (Sub.nil _)))))
      · by_cases c28 : q17 = true
        · have h29 := ite_true c28 h25
          refine DL.not (i := 13) rfl (Wn.yes c28 rfl rfl rfl rfl) rfl rfl ?_
          refine DL.not (i := 14) rfl (Wn.yes c28 rfl rfl rfl rfl) rfl rfl ?_
          refine DL.pu 23 (.bool true) rfl (p_pick_t c28 rfl rfl rfl) ?_
          obtain rfl := Option.some.inj h29
          exact DL.weak J27 (Sub.cons rfl (Sub.cons rfl (Sub.cons rfl (Sub.cons rfl (Sub.cons rfl (Sub.nil _))))))
        · replace c28 := Bool.eq_false_iff.mpr c28
          have h30 := ite_false c28 h25
          refine DL.pure (v := .int .i64 a2) rfl (Wn.no c28 rfl rfl rfl rfl) rfl rfl rfl (p_move rfl rfl) ?_
          refine DL.pure (v := .bool (decide (63 < a2))) rfl (Wn.no c28 rfl rfl rfl rfl) rfl rfl rfl (p_gtr rfl rfl rfl) ?_
          refine DL.pu 23 (.bool (decide (63 < a2))) rfl (p_pick_f c28 rfl rfl rfl) ?_
          obtain rfl := Option.some.inj h30
          exact DL.weak J27 (Sub.cons rfl (Sub.cons rfl (Sub.cons rfl (Sub.cons rfl (Sub.cons rfl (Sub.nil _))))))
    · by_cases c21 : q7 = true
      · have h22 := ite_true c21 h18
        refine DL.not (i := 9) rfl (Wn.yes c21 rfl rfl rfl rfl) rfl rfl ?_
        refine DL.not (i := 10) rfl (Wn.yes c21 rfl rfl rfl rfl) rfl rfl ?_
        refine DL.pu 19 (.bool true) rfl (p_pick_t c21 rfl rfl rfl) ?_
        obtain rfl := Option.some.inj h22
        exact DL.weak J20 (Sub.cons rfl (Sub.cons rfl (Sub.cons rfl (Sub.cons rfl (Sub.cons rfl (Sub.nil _))))))
      · replace c21 := Bool.eq_false_iff.mpr c21
        have h23 := ite_false c21 h18
        refine DL.pure (v := .int .i64 a2) rfl (Wn.no c21 rfl rfl rfl rfl) rfl rfl rfl (p_move rfl rfl) ?_
        refine DL.pure (v := .bool (decide (a2 < 0))) rfl (Wn.no c21 rfl rfl rfl rfl) rfl rfl rfl (p_lss rfl rfl rfl) ?_
        refine DL.pu 19 (.bool (decide (a2 < 0))) rfl (p_pick_f c21 rfl rfl rfl) ?_
        obtain rfl := Option.some.inj h23
        exact DL.weak J20 (Sub.cons rfl (Sub.cons rfl (Sub.cons rfl (Sub.cons rfl (Sub.cons rfl (Sub.nil _))))))
  · by_cases c11 : (!t4) = true
    · have h12 := ite_true c11 h8
      refine DL.not (i := 4) rfl (Wn.yes c11 rfl rfl rfl rfl) rfl rfl ?_
      refine DL.not (i := 5) rfl (Wn.yes c11 rfl rfl rfl rfl) rfl rfl ?_
      refine DL.not (i := 6) rfl (Wn.yes c11 rfl rfl rfl rfl) rfl rfl ?_
      refine DL.pu 15 (.bool true) rfl (p_pick_t c11 rfl rfl rfl) ?_
      obtain rfl := Option.some.inj h12
      exact DL.weak J10 (Sub.cons rfl (Sub.cons rfl (Sub.cons rfl (Sub.cons rfl (Sub.cons rfl (Sub.nil _))))))
    · replace c11 := Bool.eq_false_iff.mpr c11
      have h13 := ite_false c11 h8
      refine DL.quiet (v := .agg #[.int .i64 a1_0, .int .i64 a1_1, .int .i64 a1_2, .int .i64 a1_3]) rfl (Wn.no c11 rfl rfl rfl rfl) rfl rfl rfl (f_loadA (j := 1) ty_a26 ty_s26 rfl rfl rfl rfl) ?_
      obtain ⟨t14, h15, h16⟩ := bind_some h13
      refine DL.quiet (v := .bool t14) rfl (Wn.no c11 rfl rfl rfl rfl) rfl rfl rfl (f_call rfl rfl (args_val (vs := [.agg #[.int .i64 a1_0, .int .i64 a1_1, .int .i64 a1_2, .int .i64 a1_3]]) rfl) (fun w => enter23 _ w) (fun w => ref21_MayCard.val h15 w)) ?_
      refine DL.pure (v := .bool (!t14)) rfl (Wn.no c11 rfl rfl rfl rfl) rfl rfl rfl (p_not rfl rfl) ?_
      refine DL.pu 15 (.bool (!t14)) rfl (p_pick_f c11 rfl rfl rfl) ?_
      obtain rfl := Option.some.inj h16
      exact DL.weak J10 (Sub.cons rfl (Sub.cons rfl (Sub.cons rfl (Sub.cons rfl (Sub.cons rfl (Sub.nil _))))))
theorem ref21_Unwrapped.val {a0_0 : Int} {a0_1 : Int} {a0_2 : Int} {a0_3 : Int} {a1_0 : Int} {a1_1 : Int} {a1_2 : Int} {a1_3 : Int} {a2 : Int} {r_0_0 : Int} {r_0_1 : Int} {r_0_2 : Int} {r_0_3 : Int} {r_1 : Int} (h : ref21_Unwrapped.f a0_0 a0_1 a0_2 a0_3 a1_0 a1_1 a1_2 a1_3 a2 = some (r_0_0, r_0_1, r_0_2, r_0_3, r_1)) (w : World) : Calls Try.prog 13 #[.agg #[.int .i64 a0_0, .int .i64 a0_1, .int .i64 a0_2, .int .i64 a0_3], .agg #[.int .i64 a1_0, .int .i64 a1_1, .int .i64 a1_2, .int .i64 a1_3], .int .i64 a2] w fun e w' => e = .returned (.tuple #[.agg #[.int .i64 r_0_0, .int .i64 r_0_1, .int .i64 r_0_2, .int .i64 r_0_3], .int .i64 r_1]) ∧ Below w.heap.size w w' :=
  calls_value (ref21_Unwrapped.ok h w)

/-! ### escutcheon/escutcheonref21.Lower: function 14 -/
noncomputable def B14 : Code := bodyOf Try.f14
def ref21_Lower.L0 (a1 : Int) : Nat → Int → Int → Int → Int → Int → Option (Int × Int × Int × Int)
  | 0, _, _, _, _, _ => none
  | k + 1, x6_23, y_24_0, y_24_1, y_24_2, y_24_3 => if (decide (x6_23 < 64)) = true then ((ref21_Has.f a1 x6_23).bind fun t101 => (if t101 = true then ((ref21_Has.f y_24_2 x6_23).bind fun t110 => some t110) else (some false)).bind fun q104 => (if q104 = true then (some (y_24_0, y_24_1, IntKind.i64.wrap (y_24_2 - x6_23), y_24_3)) else (some (y_24_0, y_24_1, y_24_2, y_24_3))).bind fun (j_b1_115_0, j_b1_115_1, j_b1_115_2, j_b1_115_3) => ref21_Lower.L0 a1 k (IntKind.i64.wrap (2 * x6_23)) j_b1_115_0 j_b1_115_1 j_b1_115_2 j_b1_115_3) else (some (y_24_0, y_24_1, y_24_2, y_24_3))
set_option maxRecDepth 20000 in
theorem ref21_Lower.L0_ok (a1 : Int) (b1 : Nat) (b2 : Nat) {R : Ending → World → Prop} {w0 : World} {I : Nat → Option Obj} {K : List Item} :
    ∀ (k : Nat) (x6_23 : Int) (y_24_0 : Int) (y_24_1 : Int) (y_24_2 : Int) (y_24_3 : Int) (r0 : Int) (r1 : Int) (r2 : Int) (r3 : Int) (h : ref21_Lower.L0 a1 k x6_23 y_24_0 y_24_1 y_24_2 y_24_3 = some (r0, r1, r2, r3)) (hk : TT Try.prog 14 R 38 w0 I K [(2, ptr b1 0), (4, ptr b2 0)] [(some b2, .cells (#[.int .i64 0, .int .i64 0, .int .i64 0, .int .i64 0]) 26 (0, 0)), (some b1, .cells (#[.int .i64 r0, .int .i64 r1, .int .i64 r2, .int .i64 r3]) 26 (0, 0))]),
      TT Try.prog 14 R 38 w0 I (.code (sub [1, 1, 0, 1, 0, 0] B14) :: .inLoop (sub [1, 1, 0, 1, 0, 0] B14) :: .inBlock 0 :: K) [(1, .int .i64 a1), (2, ptr b1 0), (4, ptr b2 0), (6, .int .i64 x6_23)] [(some b2, .cells (#[.int .i64 0, .int .i64 0, .int .i64 0, .int .i64 0]) 26 (0, 0)), (some b1, .cells (#[.int .i64 y_24_0, .int .i64 y_24_1, .int .i64 y_24_2, .int .i64 y_24_3]) 26 (0, 0))] := by
  intro k
  induction k with
  | zero => intro x6_23 y_24_0 y_24_1 y_24_2 y_24_3 r0 r1 r2 r3 h; simp [ref21_Lower.L0] at h
  | succ k ih =>
    intro x6_23 y_24_0 y_24_1 y_24_2 y_24_3 r0 r1 r2 r3 h hk
    unfold ref21_Lower.L0 at h
    refine TT.seq (x := sub [1, 1, 0, 1, 0, 0, 0] B14) (y := sub [1, 1, 0, 1, 0, 0, 1] B14) ?_
    refine TT.seq (x := sub [1, 1, 0, 1, 0, 0, 0, 0] B14) (y := sub [1, 1, 0, 1, 0, 0, 0, 1] B14) ?_
    refine TT.region (id := 4) (n := 2) (ops := (opsOf (sub [1, 1, 0, 1, 0, 0, 0, 0] B14))) [(.pure, none), (.pure, none)] rfl ?_
    show DL _ _ _ _ _ _ _ _ _ _ [0, 1] _ _
    refine DL.pu 19 (.int .i64 x6_23) rfl (p_move rfl rfl) ?_
    refine DL.pu 20 (.bool (decide (x6_23 < 64))) rfl (p_lss rfl rfl rfl) ?_
    refine DL.nil ?_
    by_cases c99 : (decide (x6_23 < 64)) = true
    · have h100 := ite_true c99 h
      refine TT.cond_true (x := sub [1, 1, 0, 1, 0, 0, 0, 1, 0] B14) (y := sub [1, 1, 0, 1, 0, 0, 0, 1, 1] B14) rfl c99 ?_
      refine TT.skip ?_
      refine TT.seq (x := sub [1, 1, 0, 1, 0, 0, 1, 0] B14) (y := sub [1, 1, 0, 1, 0, 0, 1, 1] B14) ?_
      refine TT.block (c := sub [1, 1, 0, 1, 0, 0, 1, 0, 0] B14) ?_
      refine TT.seq (x := sub [1, 1, 0, 1, 0, 0, 1, 0, 0, 0] B14) (y := sub [1, 1, 0, 1, 0, 0, 1, 0, 0, 1] B14) ?_
      refine TT.region (id := 6) (n := 9) (ops := (opsOf (sub [1, 1, 0, 1, 0, 0, 1, 0, 0, 0] B14))) [(.pure, none), (.pure, none), (.quiet, none), (.pure, none), (.pure, none), (.quiet, none), (.pure, none), (.quiet, none), (.pure, none)] rfl ?_
      show DL _ _ _ _ _ _ _ _ _ _ [0, 1, 2, 3, 4, 5, 6, 7, 8] _ _
      refine DL.pu 23 (.int .i64 a1) rfl (p_move rfl rfl) ?_
      refine DL.pu 24 (.int .i64 x6_23) rfl (p_move rfl rfl) ?_
      obtain ⟨t101, h102, h103⟩ := bind_some h100
      refine DL.qu 25 (.bool t101) rfl (f_call rfl rfl (args_val (vs := [.int .i64 a1, .int .i64 x6_23]) rfl) (fun w => enter34 _ w) (fun w => ref21_Has.val h102 w)) ?_
      refine DL.pu 26 (.bool t101) rfl (p_move rfl rfl) ?_
      obtain ⟨q104, h105, h106⟩ := bind_some h103
      refine DL.cut [(1, .int .i64 a1), (2, ptr b1 0), (4, ptr b2 0), (6, .int .i64 x6_23), (31, .bool q104)] [] ?_ (fun J107 => ?_)
      · refine DL.nil ?_
        obtain ⟨⟨j_b1_115_0, j_b1_115_1, j_b1_115_2, j_b1_115_3⟩, h116, h117⟩ := bind_some h106
        refine TT.cutI (True) (.inBlock 1 :: .code (sub [1, 1, 0, 1, 0, 0, 1, 1] B14) :: .inLoop (sub [1, 1, 0, 1, 0, 0] B14) :: .inBlock 0 :: K) [(1, .int .i64 a1), (2, ptr b1 0), (4, ptr b2 0), (6, .int .i64 x6_23)] [(some b2, .cells (#[.int .i64 0, .int .i64 0, .int .i64 0, .int .i64 0]) 26 (0, 0)), (some b1, .cells (#[.int .i64 j_b1_115_0, .int .i64 j_b1_115_1, .int .i64 j_b1_115_2, .int .i64 j_b1_115_3]) 26 (0, 0))] ?_ (fun J118 => ?_)
        · intro _
          refine TT.inBlock ?_
          refine TT.region (id := 5) (n := 3) (ops := (opsOf (sub [1, 1, 0, 1, 0, 0, 1, 1] B14))) [(.pure, none), (.pure, none), (.pure, none)] rfl ?_
          show DL _ _ _ _ _ _ _ _ _ _ [0, 1, 2] _ _
          refine DL.pu 21 (.int .i64 x6_23) rfl (p_move rfl rfl) ?_
          refine DL.pu 22 (.int .i64 (IntKind.i64.wrap (2 * x6_23))) rfl (p_mul rfl rfl rfl) ?_
          refine DL.pu 6 (.int .i64 (IntKind.i64.wrap (2 * x6_23))) rfl (p_assign rfl rfl) ?_
          refine DL.nil ?_
          refine TT.inLoop ?_
          exact TT.weak (ih (IntKind.i64.wrap (2 * x6_23)) j_b1_115_0 j_b1_115_1 j_b1_115_2 j_b1_115_3 r0 r1 r2 r3 h117 hk) (Sub.cons rfl (Sub.cons rfl (Sub.cons rfl (Sub.cons rfl (Sub.nil _)))))
        · by_cases c114 : q104 = true
          · have h119 := ite_true c114 h116
            refine TT.cond_true (x := sub [1, 1, 0, 1, 0, 0, 1, 0, 0, 1, 0] B14) (y := sub [1, 1, 0, 1, 0, 0, 1, 0, 0, 1, 1] B14) rfl c114 ?_
            refine TT.region (id := 7) (n := 6) (ops := (opsOf (sub [1, 1, 0, 1, 0, 0, 1, 0, 0, 1, 0] B14))) [(.pure, none), (.quiet, none), (.pure, none), (.pure, none), (.pure, none), (.store, none)] rfl ?_
            show DL _ _ _ _ _ _ _ _ _ _ [0, 1, 2, 3, 4, 5] _ _
            refine DL.pu 32 (ptr b1 2) rfl (p_fieldAddr ty_f26_2 rfl rfl) ?_
            refine DL.qu 33 (.int .i64 y_24_2) rfl (f_load (j := 1) ty_a24 rfl rfl rfl rfl) ?_
            refine DL.pu 34 (.int .i64 x6_23) rfl (p_move rfl rfl) ?_
            refine DL.pu 35 (.int .i64 (IntKind.i64.wrap (y_24_2 - x6_23))) rfl (p_sub rfl rfl rfl) ?_
            refine DL.pu 36 (ptr b1 2) rfl (p_fieldAddr ty_f26_2 rfl rfl) ?_
            refine DL.put (H' := [(some b2, .cells (#[.int .i64 0, .int .i64 0, .int .i64 0, .int .i64 0]) 26 (0, 0)), (some b1, .cells (#[.int .i64 y_24_0, .int .i64 y_24_1, .int .i64 (IntKind.i64.wrap (y_24_2 - x6_23)), .int .i64 y_24_3]) 26 (0, 0))]) (i := 5) rfl (Wn.none rfl) rfl rfl (f_store (c := #[.int .i64 y_24_0, .int .i64 y_24_1, .int .i64 y_24_2, .int .i64 y_24_3]) (v := .int .i64 (IntKind.i64.wrap (y_24_2 - x6_23))) (off := 2) (j := 1) ty_s24 rfl rfl (of_decide_eq_true rfl) trivial rfl rfl rfl) (keep_none rfl) ?_
            refine DL.nil ?_
            simp only [Option.some.injEq, Prod.mk.injEq] at h119
            obtain ⟨rfl, rfl, rfl, rfl⟩ := h119
            exact TT.weak (J118 trivial) (Sub.cons rfl (Sub.cons rfl (Sub.cons rfl (Sub.cons rfl (Sub.nil _)))))
          · replace c114 := Bool.eq_false_iff.mpr c114
            have h120 := ite_false c114 h116
            refine TT.cond_false (x := sub [1, 1, 0, 1, 0, 0, 1, 0, 0, 1, 0] B14) (y := sub [1, 1, 0, 1, 0, 0, 1, 0, 0, 1, 1] B14) rfl c114 ?_
            refine TT.skip ?_
            simp only [Option.some.injEq, Prod.mk.injEq] at h120
            obtain ⟨rfl, rfl, rfl, rfl⟩ := h120
            exact TT.weak (J118 trivial) (Sub.cons rfl (Sub.cons rfl (Sub.cons rfl (Sub.cons rfl (Sub.nil _)))))
      · by_cases c108 : t101 = true
        · have h109 := ite_true c108 h105
          refine DL.pure (v := ptr b1 2) rfl (Wn.yes c108 rfl rfl rfl rfl) rfl rfl rfl (p_fieldAddr ty_f26_2 rfl rfl) ?_
          refine DL.quiet (v := .int .i64 y_24_2) rfl (Wn.yes c108 rfl rfl rfl rfl) rfl rfl rfl (f_load (j := 1) ty_a24 rfl rfl rfl rfl) ?_
          refine DL.pure (v := .int .i64 x6_23) rfl (Wn.yes c108 rfl rfl rfl rfl) rfl rfl rfl (p_move rfl rfl) ?_
          obtain ⟨t110, h111, h112⟩ := bind_some h109
          refine DL.quiet (v := .bool t110) rfl (Wn.yes c108 rfl rfl rfl rfl) rfl rfl rfl (f_call rfl rfl (args_val (vs := [.int .i64 y_24_2, .int .i64 x6_23]) rfl) (fun w => enter34 _ w) (fun w => ref21_Has.val h111 w)) ?_
          refine DL.pu 31 (.bool t110) rfl (p_pick_t c108 rfl rfl rfl) ?_
          obtain rfl := Option.some.inj h112
          exact DL.weak J107 (Sub.cons rfl (Sub.cons rfl (Sub.cons rfl (Sub.cons rfl (Sub.cons rfl (Sub.nil _))))))
        · replace c108 := Bool.eq_false_iff.mpr c108
          have h113 := ite_false c108 h105
          refine DL.not (i := 4) rfl (Wn.no c108 rfl rfl rfl rfl) rfl rfl ?_
          refine DL.not (i := 5) rfl (Wn.no c108 rfl rfl rfl rfl) rfl rfl ?_
          refine DL.not (i := 6) rfl (Wn.no c108 rfl rfl rfl rfl) rfl rfl ?_
          refine DL.not (i := 7) rfl (Wn.no c108 rfl rfl rfl rfl) rfl rfl ?_
          refine DL.pu 31 (.bool false) rfl (p_pick_f c108 rfl rfl rfl) ?_
          obtain rfl := Option.some.inj h113
          exact DL.weak J107 (Sub.cons rfl (Sub.cons rfl (Sub.cons rfl (Sub.cons rfl (Sub.cons rfl (Sub.nil _))))))
    · replace c99 := Bool.eq_false_iff.mpr c99
      have h121 := ite_false c99 h
      refine TT.cond_false (x := sub [1, 1, 0, 1, 0, 0, 0, 1, 0] B14) (y := sub [1, 1, 0, 1, 0, 0, 0, 1, 1] B14) rfl c99 ?_
      refine TT.exit rfl ?_
      simp only [Option.some.injEq, Prod.mk.injEq] at h121
      obtain ⟨rfl, rfl, rfl, rfl⟩ := h121
      exact TT.weak (hk) (Sub.cons rfl (Sub.cons rfl (Sub.nil _)))

def ref21_Lower.f (a0_0 : Int) (a0_1 : Int) (a0_2 : Int) (a0_3 : Int) (a1 : Int) : Option (Int × Int × Int × Int × Int) := (ref21_MayCard.f a0_0 a0_1 a0_2 a0_3).bind fun t3 => (if (!t3) = true then (some true) else (some (decide (a1 < 0)))).bind fun q6 => (if q6 = true then (some true) else (some (decide (63 < a1)))).bind fun q13 => if q13 = true then (some (0, 0, 0, 0, 2)) else ((ref21_Lower.L0 a1 8 1 a0_0 a0_1 a0_2 a0_3).bind fun (z_b1_98_0, z_b1_98_1, z_b1_98_2, z_b1_98_3) => some (z_b1_98_0, z_b1_98_1, z_b1_98_2, z_b1_98_3, 0))
set_option maxRecDepth 20000 in
theorem ref21_Lower.ok {a0_0 : Int} {a0_1 : Int} {a0_2 : Int} {a0_3 : Int} {a1 : Int} {r_0_0 : Int} {r_0_1 : Int} {r_0_2 : Int} {r_0_3 : Int} {r_1 : Int} (h : ref21_Lower.f a0_0 a0_1 a0_2 a0_3 a1 = some (r_0_0, r_0_1, r_0_2, r_0_3, r_1)) (w : World) : Calls Try.prog 14 #[.agg #[.int .i64 a0_0, .int .i64 a0_1, .int .i64 a0_2, .int .i64 a0_3], .int .i64 a1] w (Post (fun u => u = .tuple #[.agg #[.int .i64 r_0_0, .int .i64 r_0_1, .int .i64 r_0_2, .int .i64 r_0_3], .int .i64 r_1]) w) := by
  unfold ref21_Lower.f at h
  refine calls_of_TT (N := 38) (S := [(0, .agg #[.int .i64 a0_0, .int .i64 a0_1, .int .i64 a0_2, .int .i64 a0_3]), (1, .int .i64 a1)]) (c := B14) Try.func14 rfl rfl rfl (by simp) ?_
  show TT _ _ _ _ _ _ [.code (sub [] B14)] _ _
  refine TT.seq (x := sub [0] B14) (y := sub [1] B14) ?_
  refine TT.region (id := 0) (n := 3) (ops := (opsOf (sub [0] B14))) [(.alloc, none), (.alloc, none), (.pure, none)] rfl ?_
  show DL _ _ _ _ _ _ _ _ _ _ [0, 1, 2] _ _
  refine DL.new (ob := .cells (#[.int .i64 a0_0, .int .i64 a0_1, .int .i64 a0_2, .int .i64 a0_3]) 26) (mk := fun b => ptr b 0) (i := 0) rfl (Wn.none rfl) rfl rfl rfl (f_box (v := .agg #[.int .i64 a0_0, .int .i64 a0_1, .int .i64 a0_2, .int .i64 a0_3]) rfl rfl) ?_
  intro b1 hb1
  refine DL.new (ob := .cells (#[.int .i64 0, .int .i64 0, .int .i64 0, .int .i64 0]) 26) (mk := fun b => ptr b 0) (i := 1) rfl (Wn.none rfl) rfl rfl rfl (f_alloc ty_z26 rfl) ?_
  intro b2 hb2
  refine DL.pu 5 (.int .i64 0) rfl (p_assign rfl rfl) ?_
  refine DL.nil ?_
  refine TT.seq (x := sub [1, 0] B14) (y := sub [1, 1] B14) ?_
  refine TT.seq (x := sub [1, 0, 0] B14) (y := sub [1, 0, 1] B14) ?_
  refine TT.region (id := 1) (n := 11) (ops := (opsOf (sub [1, 0, 0] B14))) [(.quiet, none), (.quiet, none), (.pure, none), (.pure, none), (.pure, none), (.pure, none), (.pure, none), (.pure, none), (.pure, none), (.pure, none), (.pure, none)] rfl ?_
  show DL _ _ _ _ _ _ _ _ _ _ [0, 1, 2, 3, 4, 5, 6, 7, 8, 9, 10] _ _
  refine DL.qu 7 (.agg #[.int .i64 a0_0, .int .i64 a0_1, .int .i64 a0_2, .int .i64 a0_3]) rfl (f_loadA (j := 1) ty_a26 ty_s26 rfl rfl rfl rfl) ?_
  obtain ⟨t3, h4, h5⟩ := bind_some h
  refine DL.qu 8 (.bool t3) rfl (f_call rfl rfl (args_val (vs := [.agg #[.int .i64 a0_0, .int .i64 a0_1, .int .i64 a0_2, .int .i64 a0_3]]) rfl) (fun w => enter23 _ w) (fun w => ref21_MayCard.val h4 w)) ?_
  refine DL.pu 9 (.bool (!t3)) rfl (p_not rfl rfl) ?_
  refine DL.pu 10 (.bool (!t3)) rfl (p_move rfl rfl) ?_
  obtain ⟨q6, h7, h8⟩ := bind_some h5
  refine DL.cut [(1, .int .i64 a1), (2, ptr b1 0), (4, ptr b2 0), (13, .bool q6)] [7, 8, 9, 10] ?_ (fun J9 => ?_)
  · refine DL.pu 14 (.bool q6) rfl (p_move rfl rfl) ?_
    obtain ⟨q13, h14, h15⟩ := bind_some h8
    refine DL.cut [(1, .int .i64 a1), (2, ptr b1 0), (4, ptr b2 0), (17, .bool q13)] [] ?_ (fun J16 => ?_)
    · refine DL.nil ?_
      by_cases c20 : q13 = true
      · have h21 := ite_true c20 h15
        refine TT.cond_true (x := sub [1, 0, 1, 0] B14) (y := sub [1, 0, 1, 1] B14) rfl c20 ?_
        refine TT.seq (x := sub [1, 0, 1, 0, 0] B14) (y := sub [1, 0, 1, 0, 1] B14) ?_
        refine TT.region (id := 2) (n := 3) (ops := (opsOf (sub [1, 0, 1, 0, 0] B14))) [(.pure, none), (.store, none), (.pure, none)] rfl ?_
        show DL _ _ _ _ _ _ _ _ _ _ [0, 1, 2] _ _
        refine DL.pu 18 (.agg #[.int .i64 0, .int .i64 0, .int .i64 0, .int .i64 0]) rfl (p_build (vs := []) (fun w => by kernel_rfl) rfl rfl) ?_
        refine DL.put (H' := [(some b2, .cells (#[.int .i64 0, .int .i64 0, .int .i64 0, .int .i64 0]) 26 (0, 0)), (some b1, .cells (#[.int .i64 a0_0, .int .i64 a0_1, .int .i64 a0_2, .int .i64 a0_3]) 26 (0, 0))]) (i := 1) rfl (Wn.none rfl) rfl rfl (f_storeA (j := 0) ty_s26 rfl rfl rfl (by simp [OneCell]) rfl rfl rfl) (keep_none rfl) ?_
        refine DL.pu 5 (.int .i64 2) rfl (p_assign rfl rfl) ?_
        refine DL.nil ?_
        simp only [Option.some.injEq, Prod.mk.injEq] at h21
        obtain ⟨rfl, rfl, rfl, rfl, rfl⟩ := h21
        exact ret2 Try.func14 rfl (ResV.cell (j := 0) ty_a26 ty_s26 rfl rfl rfl) (ResV.tmp rfl) rfl
      · replace c20 := Bool.eq_false_iff.mpr c20
        have h22 := ite_false c20 h15
        refine TT.cond_false (x := sub [1, 0, 1, 0] B14) (y := sub [1, 0, 1, 1] B14) rfl c20 ?_
        refine TT.skip ?_
        refine TT.seq (x := sub [1, 1, 0] B14) (y := sub [1, 1, 1] B14) ?_
        refine TT.seq (x := sub [1, 1, 0, 0] B14) (y := sub [1, 1, 0, 1] B14) ?_
        refine TT.region (id := 3) (n := 1) (ops := (opsOf (sub [1, 1, 0, 0] B14))) [(.pure, none)] rfl ?_
        show DL _ _ _ _ _ _ _ _ _ _ [0] _ _
        refine DL.pu 6 (.int .i64 1) rfl (p_assign rfl rfl) ?_
        refine DL.nil ?_
        refine TT.block (c := sub [1, 1, 0, 1, 0] B14) ?_
        refine TT.loop (c := sub [1, 1, 0, 1, 0, 0] B14) ?_
        obtain ⟨⟨z_b1_98_0, z_b1_98_1, z_b1_98_2, z_b1_98_3⟩, h122, h123⟩ := bind_some h22
        refine TT.weak (ref21_Lower.L0_ok a1 b1 b2 8 1 a0_0 a0_1 a0_2 a0_3 z_b1_98_0 z_b1_98_1 z_b1_98_2 z_b1_98_3 h122 ( ?_)) (Sub.cons rfl (Sub.cons rfl (Sub.cons rfl (Sub.cons rfl (Sub.nil _)))))
        refine TT.seq (x := sub [1, 1, 1, 0] B14) (y := sub [1, 1, 1, 1] B14) ?_
        refine TT.region (id := 8) (n := 3) (ops := (opsOf (sub [1, 1, 1, 0] B14))) [(.quiet, none), (.store, none), (.pure, none)] rfl ?_
        show DL _ _ _ _ _ _ _ _ _ _ [0, 1, 2] _ _
        refine DL.qu 37 (.agg #[.int .i64 z_b1_98_0, .int .i64 z_b1_98_1, .int .i64 z_b1_98_2, .int .i64 z_b1_98_3]) rfl (f_loadA (j := 1) ty_a26 ty_s26 rfl rfl rfl rfl) ?_
        refine DL.put (H' := [(some b2, .cells (#[.int .i64 z_b1_98_0, .int .i64 z_b1_98_1, .int .i64 z_b1_98_2, .int .i64 z_b1_98_3]) 26 (0, 0)), (some b1, .cells (#[.int .i64 z_b1_98_0, .int .i64 z_b1_98_1, .int .i64 z_b1_98_2, .int .i64 z_b1_98_3]) 26 (0, 0))]) (i := 1) rfl (Wn.none rfl) rfl rfl (f_storeA (j := 0) ty_s26 rfl rfl rfl (by simp [OneCell]) rfl rfl rfl) (keep_none rfl) ?_
        refine DL.pu 5 (.int .i64 0) rfl (p_assign rfl rfl) ?_
        refine DL.nil ?_
        simp only [Option.some.injEq, Prod.mk.injEq] at h123
        obtain ⟨rfl, rfl, rfl, rfl, rfl⟩ := h123
        exact ret2 Try.func14 rfl (ResV.cell (j := 0) ty_a26 ty_s26 rfl rfl rfl) (ResV.tmp rfl) rfl
    · by_cases c17 : q6 = true
      · have h18 := ite_true c17 h14
        refine DL.not (i := 8) rfl (Wn.yes c17 rfl rfl rfl rfl) rfl rfl ?_
        refine DL.not (i := 9) rfl (Wn.yes c17 rfl rfl rfl rfl) rfl rfl ?_
        refine DL.pu 17 (.bool true) rfl (p_pick_t c17 rfl rfl rfl) ?_
        obtain rfl := Option.some.inj h18
        exact DL.weak J16 (Sub.cons rfl (Sub.cons rfl (Sub.cons rfl (Sub.cons rfl (Sub.nil _)))))
      · replace c17 := Bool.eq_false_iff.mpr c17
        have h19 := ite_false c17 h14
        refine DL.pure (v := .int .i64 a1) rfl (Wn.no c17 rfl rfl rfl rfl) rfl rfl rfl (p_move rfl rfl) ?_
        refine DL.pure (v := .bool (decide (63 < a1))) rfl (Wn.no c17 rfl rfl rfl rfl) rfl rfl rfl (p_gtr rfl rfl rfl) ?_
        refine DL.pu 17 (.bool (decide (63 < a1))) rfl (p_pick_f c17 rfl rfl rfl) ?_
        obtain rfl := Option.some.inj h19
        exact DL.weak J16 (Sub.cons rfl (Sub.cons rfl (Sub.cons rfl (Sub.cons rfl (Sub.nil _)))))
  · by_cases c10 : (!t3) = true
    · have h11 := ite_true c10 h7
      refine DL.not (i := 4) rfl (Wn.yes c10 rfl rfl rfl rfl) rfl rfl ?_
      refine DL.not (i := 5) rfl (Wn.yes c10 rfl rfl rfl rfl) rfl rfl ?_
      refine DL.pu 13 (.bool true) rfl (p_pick_t c10 rfl rfl rfl) ?_
      obtain rfl := Option.some.inj h11
      exact DL.weak J9 (Sub.cons rfl (Sub.cons rfl (Sub.cons rfl (Sub.cons rfl (Sub.nil _)))))
    · replace c10 := Bool.eq_false_iff.mpr c10
      have h12 := ite_false c10 h7
      refine DL.pure (v := .int .i64 a1) rfl (Wn.no c10 rfl rfl rfl rfl) rfl rfl rfl (p_move rfl rfl) ?_
      refine DL.pure (v := .bool (decide (a1 < 0))) rfl (Wn.no c10 rfl rfl rfl rfl) rfl rfl rfl (p_lss rfl rfl rfl) ?_
      refine DL.pu 13 (.bool (decide (a1 < 0))) rfl (p_pick_f c10 rfl rfl rfl) ?_
      obtain rfl := Option.some.inj h12
      exact DL.weak J9 (Sub.cons rfl (Sub.cons rfl (Sub.cons rfl (Sub.cons rfl (Sub.nil _)))))
theorem ref21_Lower.val {a0_0 : Int} {a0_1 : Int} {a0_2 : Int} {a0_3 : Int} {a1 : Int} {r_0_0 : Int} {r_0_1 : Int} {r_0_2 : Int} {r_0_3 : Int} {r_1 : Int} (h : ref21_Lower.f a0_0 a0_1 a0_2 a0_3 a1 = some (r_0_0, r_0_1, r_0_2, r_0_3, r_1)) (w : World) : Calls Try.prog 14 #[.agg #[.int .i64 a0_0, .int .i64 a0_1, .int .i64 a0_2, .int .i64 a0_3], .int .i64 a1] w fun e w' => e = .returned (.tuple #[.agg #[.int .i64 r_0_0, .int .i64 r_0_1, .int .i64 r_0_2, .int .i64 r_0_3], .int .i64 r_1]) ∧ Below w.heap.size w w' :=
  calls_value (ref21_Lower.ok h w)

/-! ### escutcheon/escutcheonlaw21.num: function 15 -/
noncomputable def B15 : Code := bodyOf Try.f15
def law21_num.f (a0 : Int) : Option (Int) := some a0
set_option maxRecDepth 20000 in
theorem law21_num.ok {a0 : Int} {r : Int} (h : law21_num.f a0 = some r) (w : World) : Calls Try.prog 15 #[.int .i64 a0] w (Post (fun u => u = .int .i64 r) w) := by
  unfold law21_num.f at h
  refine calls_of_TT (N := 4) (S := [(0, .int .i64 a0)]) (c := B15) Try.func15 rfl rfl rfl (by simp) ?_
  show TT _ _ _ _ _ _ [.code (sub [] B15)] _ _
  refine TT.seq (x := sub [0] B15) (y := sub [1] B15) ?_
  refine TT.region (id := 0) (n := 1) (ops := (opsOf (sub [0] B15))) [(.pure, none)] rfl ?_
  show DL _ _ _ _ _ _ _ _ _ _ [0] _ _
  refine DL.pu 2 (.int .i64 0) rfl (p_assign rfl rfl) ?_
  refine DL.nil ?_
  refine TT.seq (x := sub [1, 0] B15) (y := sub [1, 1] B15) ?_
  refine TT.region (id := 1) (n := 2) (ops := (opsOf (sub [1, 0] B15))) [(.pure, none), (.pure, none)] rfl ?_
  show DL _ _ _ _ _ _ _ _ _ _ [0, 1] _ _
  refine DL.pu 3 (.int .i64 a0) rfl (p_move rfl rfl) ?_
  refine DL.pu 2 (.int .i64 a0) rfl (p_assign rfl rfl) ?_
  refine DL.nil ?_
  obtain rfl := Option.some.inj h
  exact ret1 Try.func15 rfl (ResV.tmp rfl) rfl
theorem law21_num.val {a0 : Int} {r : Int} (h : law21_num.f a0 = some r) (w : World) : Calls Try.prog 15 #[.int .i64 a0] w fun e w' => e = .returned (.int .i64 r) ∧ Below w.heap.size w w' :=
  calls_value (law21_num.ok h w)

/-! ### escutcheon/escutcheonlaw21.known: function 16 -/
noncomputable def B16 : Code := bodyOf Try.f16
def law21_known.f : Option (Bool) := (policy_New.f 1 1 36).bind fun (t1_0_0, t1_0_1, t1_0_2, t1_0_3, t1_1) => (policy_New.f 1 1 8).bind fun (t5_0_0, t5_0_1, t5_0_2, t5_0_3, t5_1) => (law21_num.f t1_1).bind fun t9 => (if (t9 == 0) = true then (nm (t1_0_0 == 1 && (t1_0_1 == 1 && (t1_0_2 == 36 && (t1_0_3 == 36 && true)))) fun t18 => some t18) else (some false)).bind fun q12 => (if q12 = true then ((policy_Kept.f t1_0_0 t1_0_1 t1_0_2 t1_0_3).bind fun t28 => some t28) else (some false)).bind fun q22 => (if q22 = true then ((law21_num.f t5_1).bind fun t38 => some (t38 == 12)) else (some false)).bind fun q32 => some q32
set_option maxRecDepth 20000 in
theorem law21_known.ok {r : Bool} (h : law21_known.f = some r) (w : World) : Calls Try.prog 16 #[] w (Post (fun u => u = .bool r) w) := by
  unfold law21_known.f at h
  refine calls_of_TT (N := 30) (S := []) (c := B16) Try.func16 rfl rfl rfl (by simp) ?_
  show TT _ _ _ _ _ _ [.code (sub [] B16)] _ _
  refine TT.seq (x := sub [0] B16) (y := sub [1] B16) ?_
  refine TT.region (id := 0) (n := 1) (ops := (opsOf (sub [0] B16))) [(.pure, none)] rfl ?_
  show DL _ _ _ _ _ _ _ _ _ _ [0] _ _
  refine DL.pu 0 (.bool false) rfl (p_assign rfl rfl) ?_
  refine DL.nil ?_
  refine TT.seq (x := sub [1, 0] B16) (y := sub [1, 1] B16) ?_
  refine TT.region (id := 1) (n := 7) (ops := (opsOf (sub [1, 0] B16))) [(.quiet, none), (.pure, none), (.pure, none), (.pure, none), (.alloc, none), (.store, none), (.pure, none)] rfl ?_
  show DL _ _ _ _ _ _ _ _ _ _ [0, 1, 2, 3, 4, 5, 6] _ _
  obtain ⟨⟨t1_0_0, t1_0_1, t1_0_2, t1_0_3, t1_1⟩, h2, h3⟩ := bind_some h
  refine DL.qu 6 (.tuple #[.agg #[.int .i64 t1_0_0, .int .i64 t1_0_1, .int .i64 t1_0_2, .int .i64 t1_0_3], .int .i64 t1_1]) rfl (f_call rfl rfl (args_val (vs := [.int .i64 1, .int .i64 1, .int .i64 36]) rfl) (fun w => enter7 _ w) (fun w => policy_New.val h2 w)) ?_
  refine DL.pu 5 (.tuple #[.agg #[.int .i64 t1_0_0, .int .i64 t1_0_1, .int .i64 t1_0_2, .int .i64 t1_0_3], .int .i64 t1_1]) rfl (p_move rfl rfl) ?_
  refine DL.pu 7 (.agg #[.int .i64 t1_0_0, .int .i64 t1_0_1, .int .i64 t1_0_2, .int .i64 t1_0_3]) rfl (p_extract rfl rfl rfl) ?_
  refine DL.pu 8 (.int .i64 t1_1) rfl (p_extract rfl rfl rfl) ?_
  refine DL.new (ob := .cells (#[.int .i64 0, .int .i64 0, .int .i64 0, .int .i64 0]) 26) (mk := fun b => ptr b 0) (i := 4) rfl (Wn.none rfl) rfl rfl rfl (f_alloc ty_z26 rfl) ?_
  intro b4 hb4
  refine DL.put (H' := [(some b4, .cells (#[.int .i64 t1_0_0, .int .i64 t1_0_1, .int .i64 t1_0_2, .int .i64 t1_0_3]) 26 (0, 0))]) (i := 5) rfl (Wn.none rfl) rfl rfl (f_storeA (j := 0) ty_s26 rfl rfl rfl (by simp [OneCell]) rfl rfl rfl) (keep_none rfl) ?_
  refine DL.pu 2 (.int .i64 t1_1) rfl (p_assign rfl rfl) ?_
  refine DL.nil ?_
  refine TT.seq (x := sub [1, 1, 0] B16) (y := sub [1, 1, 1] B16) ?_
  refine TT.region (id := 2) (n := 7) (ops := (opsOf (sub [1, 1, 0] B16))) [(.quiet, none), (.pure, none), (.pure, none), (.pure, none), (.alloc, none), (.store, none), (.pure, none)] rfl ?_
  show DL _ _ _ _ _ _ _ _ _ _ [0, 1, 2, 3, 4, 5, 6] _ _
  obtain ⟨⟨t5_0_0, t5_0_1, t5_0_2, t5_0_3, t5_1⟩, h6, h7⟩ := bind_some h3
  refine DL.qu 10 (.tuple #[.agg #[.int .i64 t5_0_0, .int .i64 t5_0_1, .int .i64 t5_0_2, .int .i64 t5_0_3], .int .i64 t5_1]) rfl (f_call rfl rfl (args_val (vs := [.int .i64 1, .int .i64 1, .int .i64 8]) rfl) (fun w => enter7 _ w) (fun w => policy_New.val h6 w)) ?_
  refine DL.pu 9 (.tuple #[.agg #[.int .i64 t5_0_0, .int .i64 t5_0_1, .int .i64 t5_0_2, .int .i64 t5_0_3], .int .i64 t5_1]) rfl (p_move rfl rfl) ?_
  refine DL.pu 11 (.agg #[.int .i64 t5_0_0, .int .i64 t5_0_1, .int .i64 t5_0_2, .int .i64 t5_0_3]) rfl (p_extract rfl rfl rfl) ?_
  refine DL.pu 12 (.int .i64 t5_1) rfl (p_extract rfl rfl rfl) ?_
  refine DL.new (ob := .cells (#[.int .i64 0, .int .i64 0, .int .i64 0, .int .i64 0]) 26) (mk := fun b => ptr b 0) (i := 4) rfl (Wn.none rfl) rfl rfl rfl (f_alloc ty_z26 rfl) ?_
  intro b8 hb8
  refine DL.put (H' := [(some b8, .cells (#[.int .i64 t5_0_0, .int .i64 t5_0_1, .int .i64 t5_0_2, .int .i64 t5_0_3]) 26 (0, 0)), (some b4, .cells (#[.int .i64 t1_0_0, .int .i64 t1_0_1, .int .i64 t1_0_2, .int .i64 t1_0_3]) 26 (0, 0))]) (i := 5) rfl (Wn.none rfl) rfl rfl (f_storeA (j := 0) ty_s26 rfl rfl rfl (by simp [OneCell]) rfl rfl rfl) (keep_none rfl) ?_
  refine DL.pu 4 (.int .i64 t5_1) rfl (p_assign rfl rfl) ?_
  refine DL.nil ?_
  refine TT.seq (x := sub [1, 1, 1, 0] B16) (y := sub [1, 1, 1, 1] B16) ?_
  refine TT.region (id := 3) (n := 18) (ops := (opsOf (sub [1, 1, 1, 0] B16))) [(.pure, none), (.quiet, none), (.pure, none), (.pure, none), (.quiet, none), (.pure, none), (.pure, none), (.pure, none), (.pure, none), (.quiet, none), (.quiet, none), (.pure, none), (.pure, none), (.pure, none), (.quiet, none), (.pure, none), (.pure, none), (.pure, none)] rfl ?_
  show DL _ _ _ _ _ _ _ _ _ _ [0, 1, 2, 3, 4, 5, 6, 7, 8, 9, 10, 11, 12, 13, 14, 15, 16, 17] _ _
  refine DL.pu 13 (.int .i64 t1_1) rfl (p_move rfl rfl) ?_
  obtain ⟨t9, h10, h11⟩ := bind_some h7
  refine DL.qu 14 (.int .i64 t9) rfl (f_call rfl rfl (args_val (vs := [.int .i64 t1_1]) rfl) (fun w => enter15 _ w) (fun w => law21_num.val h10 w)) ?_
  refine DL.pu 15 (.bool (t9 == 0)) rfl (p_eql rfl rfl rfl) ?_
  refine DL.pu 16 (.bool (t9 == 0)) rfl (p_move rfl rfl) ?_
  obtain ⟨q12, h13, h14⟩ := bind_some h11
  refine DL.cut [(1, ptr b4 0), (4, .int .i64 t5_1), (20, .bool q12)] [8, 9, 10, 11, 12, 13, 14, 15, 16, 17] ?_ (fun J15 => ?_)
  · refine DL.pu 21 (.bool q12) rfl (p_move rfl rfl) ?_
    obtain ⟨q22, h23, h24⟩ := bind_some h14
    refine DL.cut [(4, .int .i64 t5_1), (24, .bool q22)] [12, 13, 14, 15, 16, 17] ?_ (fun J25 => ?_)
    · refine DL.pu 25 (.bool q22) rfl (p_move rfl rfl) ?_
      obtain ⟨q32, h33, h34⟩ := bind_some h24
      refine DL.cut [(29, .bool q32)] [17] ?_ (fun J35 => ?_)
      · refine DL.pu 0 (.bool q32) rfl (p_assign rfl rfl) ?_
        refine DL.nil ?_
        obtain rfl := Option.some.inj h34
        exact ret1 Try.func16 rfl (ResV.tmp rfl) rfl
      · by_cases c36 : q22 = true
        · have h37 := ite_true c36 h33
          refine DL.pure (v := .int .i64 t5_1) rfl (Wn.yes c36 rfl rfl rfl rfl) rfl rfl rfl (p_move rfl rfl) ?_
          obtain ⟨t38, h39, h40⟩ := bind_some h37
          refine DL.quiet (v := .int .i64 t38) rfl (Wn.yes c36 rfl rfl rfl rfl) rfl rfl rfl (f_call rfl rfl (args_val (vs := [.int .i64 t5_1]) rfl) (fun w => enter15 _ w) (fun w => law21_num.val h39 w)) ?_
          refine DL.pure (v := .bool (t38 == 12)) rfl (Wn.yes c36 rfl rfl rfl rfl) rfl rfl rfl (p_eql rfl rfl rfl) ?_
          refine DL.pu 29 (.bool (t38 == 12)) rfl (p_pick_t c36 rfl rfl rfl) ?_
          obtain rfl := Option.some.inj h40
          exact DL.weak J35 (Sub.cons rfl (Sub.nil _))
        · replace c36 := Bool.eq_false_iff.mpr c36
          have h41 := ite_false c36 h33
          refine DL.not (i := 13) rfl (Wn.no c36 rfl rfl rfl rfl) rfl rfl ?_
          refine DL.not (i := 14) rfl (Wn.no c36 rfl rfl rfl rfl) rfl rfl ?_
          refine DL.not (i := 15) rfl (Wn.no c36 rfl rfl rfl rfl) rfl rfl ?_
          refine DL.pu 29 (.bool false) rfl (p_pick_f c36 rfl rfl rfl) ?_
          obtain rfl := Option.some.inj h41
          exact DL.weak J35 (Sub.cons rfl (Sub.nil _))
    · by_cases c26 : q12 = true
      · have h27 := ite_true c26 h23
        refine DL.quiet (v := .agg #[.int .i64 t1_0_0, .int .i64 t1_0_1, .int .i64 t1_0_2, .int .i64 t1_0_3]) rfl (Wn.yes c26 rfl rfl rfl rfl) rfl rfl rfl (f_loadA (j := 1) ty_a26 ty_s26 rfl rfl rfl rfl) ?_
        obtain ⟨t28, h29, h30⟩ := bind_some h27
        refine DL.quiet (v := .bool t28) rfl (Wn.yes c26 rfl rfl rfl rfl) rfl rfl rfl (f_call rfl rfl (args_val (vs := [.agg #[.int .i64 t1_0_0, .int .i64 t1_0_1, .int .i64 t1_0_2, .int .i64 t1_0_3]]) rfl) (fun w => enter21 _ w) (fun w => policy_Kept.val h29 w)) ?_
        refine DL.pu 24 (.bool t28) rfl (p_pick_t c26 rfl rfl rfl) ?_
        obtain rfl := Option.some.inj h30
        exact DL.weak J25 (Sub.cons rfl (Sub.cons rfl (Sub.nil _)))
      · replace c26 := Bool.eq_false_iff.mpr c26
        have h31 := ite_false c26 h23
        refine DL.not (i := 9) rfl (Wn.no c26 rfl rfl rfl rfl) rfl rfl ?_
        refine DL.not (i := 10) rfl (Wn.no c26 rfl rfl rfl rfl) rfl rfl ?_
        refine DL.pu 24 (.bool false) rfl (p_pick_f c26 rfl rfl rfl) ?_
        obtain rfl := Option.some.inj h31
        exact DL.weak J25 (Sub.cons rfl (Sub.cons rfl (Sub.nil _)))
  · by_cases c16 : (t9 == 0) = true
    · have h17 := ite_true c16 h13
      refine DL.quiet (v := .agg #[.int .i64 t1_0_0, .int .i64 t1_0_1, .int .i64 t1_0_2, .int .i64 t1_0_3]) rfl (Wn.yes c16 rfl rfl rfl rfl) rfl rfl rfl (f_loadA (j := 1) ty_a26 ty_s26 rfl rfl rfl rfl) ?_
      refine DL.pure (v := .agg #[.int .i64 1, .int .i64 1, .int .i64 36, .int .i64 36]) rfl (Wn.yes c16 rfl rfl rfl rfl) rfl rfl rfl (p_build (vs := [(0, .int .i64 1), (1, .int .i64 1), (2, .int .i64 36), (3, .int .i64 36)]) (fun w => by kernel_rfl) rfl rfl) ?_
      obtain ⟨t18, e19, h20⟩ := nm_some h17
      refine DL.pure (v := .bool t18) rfl (Wn.yes c16 rfl rfl rfl rfl) rfl rfl rfl (by rw [e19]; exact p_eqAgg ty_g26 (fun w => eqs26 (d := 9998) t1_0_0 t1_0_1 t1_0_2 t1_0_3 1 1 36 36 w) rfl rfl rfl) ?_
      refine DL.pu 20 (.bool t18) rfl (p_pick_t c16 rfl rfl rfl) ?_
      obtain rfl := Option.some.inj h20
      exact DL.weak J15 (Sub.cons rfl (Sub.cons rfl (Sub.cons rfl (Sub.nil _))))
    · replace c16 := Bool.eq_false_iff.mpr c16
      have h21 := ite_false c16 h13
      refine DL.not (i := 4) rfl (Wn.no c16 rfl rfl rfl rfl) rfl rfl ?_
      refine DL.not (i := 5) rfl (Wn.no c16 rfl rfl rfl rfl) rfl rfl ?_
      refine DL.not (i := 6) rfl (Wn.no c16 rfl rfl rfl rfl) rfl rfl ?_
      refine DL.pu 20 (.bool false) rfl (p_pick_f c16 rfl rfl rfl) ?_
      obtain rfl := Option.some.inj h21
      exact DL.weak J15 (Sub.cons rfl (Sub.cons rfl (Sub.cons rfl (Sub.nil _))))
theorem law21_known.val {r : Bool} (h : law21_known.f = some r) (w : World) : Calls Try.prog 16 #[] w fun e w' => e = .returned (.bool r) ∧ Below w.heap.size w w' :=
  calls_value (law21_known.ok h w)

end Go.Proofs.Ytbnmoonelaolcaa
