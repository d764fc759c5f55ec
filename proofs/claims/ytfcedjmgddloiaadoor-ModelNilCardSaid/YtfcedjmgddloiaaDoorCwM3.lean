import Derived.Test.YtfcedjmgddloiaaDoorCwM2
namespace Go.Proofs.YtfcedjmgddloiaaDoor
open Go Go.HW Go.RowKit
set_option linter.unusedVariables false
set_option linter.unusedSimpArgs false
set_option maxRecDepth 20000

set_option maxHeartbeats 20000000 in
theorem cw21_42 {I : Mem} : Turn I 21 #[.agg #[.int .i64 1, .int .i64 1, .int .i64 4, .int .i64 4]] [] (fun _ : Unit => .bool true) (fun _ => []) := fun I' he w0 w hc => by
  refine calls_of_CW (N := 11) Tryd.func21 (show _ = some B21 by kernel_rfl) (by kernel_rfl) rfl (S := [(0, .agg #[.int .i64 1, .int .i64 1, .int .i64 4, .int .i64 4])]) (by simp) hc ?_
  show CW _ _ _ (sub [] B21) _ _ _
  refine C.seq (x := sub [0] B21) (y := sub [1] B21) ?_
  refine C.region (id := 0) (m := 2) (ops := opsOf (sub [0] B21)) rfl ?_
  refine W.new rfl (wo rfl) rfl rfl (f_box (v := .agg #[.int .i64 1, .int .i64 1, .int .i64 4, .int .i64 4]) rfl rfl) (nf rfl) ?_
  intro b1 _
  refine W.heapIs (H2 := [(some b1, .cells (#[.int .i64 1, .int .i64 1, .int .i64 4, .int .i64 4]) 34 (0, 0))]) rfl ?_
  refine W.pure (v := .bool false) rfl (wo rfl) rfl rfl (p_assign rfl rfl) (nf rfl) ?_
  refine W.doneQ (y := sub [1] B21) rfl ?_
  refine C.seq (x := sub [1, 0] B21) (y := sub [1, 1] B21) ?_
  refine C.region (id := 1) (m := 9) (ops := opsOf (sub [1, 0] B21)) rfl ?_
  refine W.quiet (v := .agg #[.int .i64 1, .int .i64 1, .int .i64 4, .int .i64 4]) rfl (wo rfl) rfl rfl (f_loadA (j := 0) ta34 ts34 rfl rfl rfl rfl) (nf rfl) ?_
  refine W.cP (E := []) (R := [(some b1, .cells (#[.int .i64 1, .int .i64 1, .int .i64 4, .int .i64 4]) 34 (0, 0))]) (caps := #[]) rfl (wo rfl) rfl rfl [0] rfl rfl (cw39_43) rfl (en39 _) rfl rfl rfl (args_val rfl) ?_
  intro _
  refine W.heapIs (H2 := [(some b1, .cells (#[.int .i64 1, .int .i64 1, .int .i64 4, .int .i64 4]) 34 (0, 0))]) rfl ?_
  refine W.pure (v := .bool true) rfl (wo rfl) rfl rfl (p_move rfl rfl) (nf rfl) ?_
  refine W.pure (v := ptr b1 3) rfl (wo rfl) rfl rfl (p_fieldAddr tf34_3 rfl rfl) (nf rfl) ?_
  refine W.quiet (v := .int .i64 4) rfl (wo rfl) rfl rfl (f_load (j := 0) (off := 3) ta32 rfl rfl rfl rfl) (nf rfl) ?_
  refine W.pure (v := .int .i64 0) rfl (wo rfl) rfl rfl (p_bin (fun w => by kernel_rfl) (fun w => by kernel_rfl) rfl rfl rfl) (nf rfl) ?_
  refine W.pure (v := .bool true) rfl (wo rfl) rfl rfl (p_bin (fun w => by kernel_rfl) (fun w => by kernel_rfl) rfl rfl rfl) (nf rfl) ?_
  refine W.pure (v := .bool true) rfl (wo rfl) rfl rfl (p_pick_true rfl rfl rfl) (nf rfl) ?_
  refine W.pure (v := .bool true) rfl (wo rfl) rfl rfl (p_assign rfl rfl) (nf rfl) ?_
  refine W.doneQ (y := sub [1, 1] B21) rfl ?_
  exact C.ret (R := fun e w' => ∃ _x : Unit, e = .returned (.bool true) ∧ Cls w0 I' [] w') (rs := [.tmp 2]) (vs := [.bool true]) rfl Tryd.func21 rfl rfl rfl (res_cons (ResV.tmp rfl) res_nil) fun w1 hc1 => ⟨(), rfl, hc1.pick [] (by decide)⟩
theorem en21 (args : Array Value) (w : World) : (callFunc 21 args).run Tryd.prog w = .ok (.enter 21 args) w := by kernel_rfl
theorem ts24 (w : World) : (sizeOf 24).run Tryd.prog w = .ok 1 w := by kernel_rfl
set_option maxHeartbeats 20000000 in
theorem cw7_19 (p1 p2 p3 p4 p5 : Nat) {I : Mem} : Turn I 7 #[ptr p1 0, .agg kc2, .agg #[.int .u64 0, .int .i64 0, .int .u32 1, .slice none 0 0], .agg #[.int .i64 1, .int .i64 1, .int .i64 4, .int .i64 4]] [(some p1, .cells (#[.map (some p2), .int .u32 1, .int .i64 0, .map (some p3), .map (some p4), .map (some p5)]) 29 (0, 0)), (some p2, mobj .u32 []), (some p3, mobj .i64 []), (some p4, mobj .i64 []), (some p5, mobj .i64 [])] (fun _ : Unit => .int .i64 0) (fun _ => [(some p1, .cells (#[.map (some p2), .int .u32 2, .int .i64 1, .map (some p3), .map (some p4), .map (some p5)]) 29 (0, 0)), (some p2, mobj .u32 [(1, .agg #[.int .i64 1, .int .i64 1, .int .i64 4, .int .i64 4, .int .i64 1])]), (some p3, mobj .i64 []), (some p4, mobj .i64 []), (some p5, mobj .i64 [])]) := fun I' he w0 w hc => by
  refine calls_of_CW (N := 139) Tryd.func7 (show _ = some B7 by kernel_rfl) (by kernel_rfl) rfl (S := [(0, ptr p1 0), (1, .agg kc2), (2, .agg #[.int .u64 0, .int .i64 0, .int .u32 1, .slice none 0 0]), (3, .agg #[.int .i64 1, .int .i64 1, .int .i64 4, .int .i64 4])]) (by simp) hc ?_
  show CW _ _ _ (sub [] B7) _ _ _
  refine C.seq (x := sub [0] B7) (y := sub [1] B7) ?_
  refine C.region (id := 0) (m := 4) (ops := opsOf (sub [0] B7)) rfl ?_
  refine W.new rfl (wo rfl) rfl rfl (f_box (v := .agg kc2) rfl rfl) (nf rfl) ?_
  intro b1 _
  refine W.heapIs (H2 := [(some b1, .cells kc2 49 (0, 0)), (some p1, .cells (#[.map (some p2), .int .u32 1, .int .i64 0, .map (some p3), .map (some p4), .map (some p5)]) 29 (0, 0)), (some p2, mobj .u32 []), (some p3, mobj .i64 []), (some p4, mobj .i64 []), (some p5, mobj .i64 [])]) rfl ?_
  refine W.new rfl (wo rfl) rfl rfl (f_box (v := .agg #[.int .u64 0, .int .i64 0, .int .u32 1, .slice none 0 0]) rfl rfl) (nf rfl) ?_
  intro b2 _
  refine W.heapIs (H2 := [(some b2, .cells (#[.int .u64 0, .int .i64 0, .int .u32 1, .slice none 0 0]) 52 (0, 0)), (some b1, .cells kc2 49 (0, 0)), (some p1, .cells (#[.map (some p2), .int .u32 1, .int .i64 0, .map (some p3), .map (some p4), .map (some p5)]) 29 (0, 0)), (some p2, mobj .u32 []), (some p3, mobj .i64 []), (some p4, mobj .i64 []), (some p5, mobj .i64 [])]) rfl ?_
  refine W.new rfl (wo rfl) rfl rfl (f_box (v := .agg #[.int .i64 1, .int .i64 1, .int .i64 4, .int .i64 4]) rfl rfl) (nf rfl) ?_
  intro b3 _
  refine W.heapIs (H2 := [(some b3, .cells (#[.int .i64 1, .int .i64 1, .int .i64 4, .int .i64 4]) 34 (0, 0)), (some b2, .cells (#[.int .u64 0, .int .i64 0, .int .u32 1, .slice none 0 0]) 52 (0, 0)), (some b1, .cells kc2 49 (0, 0)), (some p1, .cells (#[.map (some p2), .int .u32 1, .int .i64 0, .map (some p3), .map (some p4), .map (some p5)]) 29 (0, 0)), (some p2, mobj .u32 []), (some p3, mobj .i64 []), (some p4, mobj .i64 []), (some p5, mobj .i64 [])]) rfl ?_
  refine W.pure (v := .int .i64 0) rfl (wo rfl) rfl rfl (p_assign rfl rfl) (nf rfl) ?_
  refine W.doneQ (y := sub [1] B7) rfl ?_
  refine C.seq (x := sub [1, 0] B7) (y := sub [1, 1] B7) ?_
  refine C.block (id := 0) (c := sub [1, 0, 0] B7) ?_
  refine C.seq (x := sub [1, 0, 0, 0] B7) (y := sub [1, 0, 0, 1] B7) ?_
  refine C.region (id := 1) (m := 4) (ops := opsOf (sub [1, 0, 0, 0] B7)) rfl ?_
  refine W.pure (v := ptr p1 0) rfl (wo rfl) rfl rfl (p_move rfl rfl) (nf rfl) ?_
  refine W.cP (E := [(some p1, .cells (#[.map (some p2), .int .u32 1, .int .i64 0, .map (some p3), .map (some p4), .map (some p5)]) 29 (0, 0)), (some p2, mobj .u32 []), (some p3, mobj .i64 []), (some p4, mobj .i64 []), (some p5, mobj .i64 [])]) (R := [(some b3, .cells (#[.int .i64 1, .int .i64 1, .int .i64 4, .int .i64 4]) 34 (0, 0)), (some b2, .cells (#[.int .u64 0, .int .i64 0, .int .u32 1, .slice none 0 0]) 52 (0, 0)), (some b1, .cells kc2 49 (0, 0))]) (caps := #[]) rfl (wo rfl) rfl rfl [3, 4, 5, 6, 7, 0, 1, 2] rfl rfl (cw16_17 p1 p2 p3 p4 p5) rfl (en16 _) rfl rfl rfl (args_val rfl) ?_
  intro _
  refine W.heapIs (H2 := [(some p1, .cells (#[.map (some p2), .int .u32 1, .int .i64 0, .map (some p3), .map (some p4), .map (some p5)]) 29 (0, 0)), (some p2, mobj .u32 []), (some p3, mobj .i64 []), (some p4, mobj .i64 []), (some p5, mobj .i64 []), (some b3, .cells (#[.int .i64 1, .int .i64 1, .int .i64 4, .int .i64 4]) 34 (0, 0)), (some b2, .cells (#[.int .u64 0, .int .i64 0, .int .u32 1, .slice none 0 0]) 52 (0, 0)), (some b1, .cells kc2 49 (0, 0))]) rfl ?_
  refine W.pure (v := .bool false) rfl (wo rfl) rfl rfl (p_not (p := true) rfl rfl) (nf rfl) ?_
  refine W.pure (v := .bool false) rfl (wo rfl) rfl rfl (p_assign rfl rfl) (nf rfl) ?_
  refine W.doneQ (y := sub [1, 0, 0, 1] B7) rfl ?_
  refine C.cond_false (x := sub [1, 0, 0, 1, 0] B7) (y := sub [1, 0, 0, 1, 1] B7) rfl rfl ?_
  refine C.seq (x := sub [1, 0, 0, 1, 1, 0] B7) (y := sub [1, 0, 0, 1, 1, 1] B7) ?_
  refine C.region (id := 3) (m := 7) (ops := opsOf (sub [1, 0, 0, 1, 1, 0] B7)) rfl ?_
  refine W.pure (v := ptr p1 0) rfl (wo rfl) rfl rfl (p_move rfl rfl) (nf rfl) ?_
  refine W.quiet (v := .agg kc2) rfl (wo rfl) rfl rfl (f_loadA (j := 7) ta49 ts49 rfl rfl rfl rfl) (nf rfl) ?_
  refine W.quiet (v := .agg #[.int .u64 0, .int .i64 0, .int .u32 1, .slice none 0 0]) rfl (wo rfl) rfl rfl (f_loadA (j := 6) ta52 ts52 rfl rfl rfl rfl) (nf rfl) ?_
  refine W.quiet (v := .agg #[.int .i64 1, .int .i64 1, .int .i64 4, .int .i64 4]) rfl (wo rfl) rfl rfl (f_loadA (j := 5) ta34 ts34 rfl rfl rfl rfl) (nf rfl) ?_
  refine W.cP (E := [(some p1, .cells (#[.map (some p2), .int .u32 1, .int .i64 0, .map (some p3), .map (some p4), .map (some p5)]) 29 (0, 0)), (some p2, mobj .u32 []), (some p3, mobj .i64 []), (some p4, mobj .i64 []), (some p5, mobj .i64 [])]) (R := [(some b3, .cells (#[.int .i64 1, .int .i64 1, .int .i64 4, .int .i64 4]) 34 (0, 0)), (some b2, .cells (#[.int .u64 0, .int .i64 0, .int .u32 1, .slice none 0 0]) 52 (0, 0)), (some b1, .cells kc2 49 (0, 0))]) (caps := #[]) rfl (wo rfl) rfl rfl [0, 1, 2, 3, 4, 5, 6, 7] rfl rfl (cw8_20 p1 p2 p3 p4 p5) rfl (en8 _) rfl rfl rfl (args_val rfl) ?_
  intro _
  refine W.heapIs (H2 := [(some p1, .cells (#[.map (some p2), .int .u32 1, .int .i64 0, .map (some p3), .map (some p4), .map (some p5)]) 29 (0, 0)), (some p2, mobj .u32 []), (some p3, mobj .i64 []), (some p4, mobj .i64 []), (some p5, mobj .i64 []), (some b3, .cells (#[.int .i64 1, .int .i64 1, .int .i64 4, .int .i64 4]) 34 (0, 0)), (some b2, .cells (#[.int .u64 0, .int .i64 0, .int .u32 1, .slice none 0 0]) 52 (0, 0)), (some b1, .cells kc2 49 (0, 0))]) rfl ?_
  refine W.pure (v := .bool false) rfl (wo rfl) rfl rfl (p_not (p := true) rfl rfl) (nf rfl) ?_
  refine W.pure (v := .bool false) rfl (wo rfl) rfl rfl (p_assign rfl rfl) (nf rfl) ?_
  refine W.doneQ (y := sub [1, 0, 0, 1, 1, 1] B7) rfl ?_
  refine C.cond_false (x := sub [1, 0, 0, 1, 1, 1, 0] B7) (y := sub [1, 0, 0, 1, 1, 1, 1] B7) rfl rfl ?_
  refine C.seq (x := sub [1, 0, 0, 1, 1, 1, 1, 0] B7) (y := sub [1, 0, 0, 1, 1, 1, 1, 1] B7) ?_
  refine C.region (id := 5) (m := 4) (ops := opsOf (sub [1, 0, 0, 1, 1, 1, 1, 0] B7)) rfl ?_
  refine W.pure (v := ptr b2 1) rfl (wo rfl) rfl rfl (p_fieldAddr tf52_1 rfl rfl) (nf rfl) ?_
  refine W.quiet (v := .int .i64 0) rfl (wo rfl) rfl rfl (f_load (j := 6) (off := 1) ta3 rfl rfl rfl rfl) (nf rfl) ?_
  refine W.pure (v := .bool false) rfl (wo rfl) rfl rfl (p_bin (fun w => by kernel_rfl) (fun w => by kernel_rfl) rfl rfl rfl) (nf rfl) ?_
  refine W.pure (v := .bool false) rfl (wo rfl) rfl rfl (p_assign rfl rfl) (nf rfl) ?_
  refine W.doneQ (y := sub [1, 0, 0, 1, 1, 1, 1, 1] B7) rfl ?_
  refine C.cond_false (x := sub [1, 0, 0, 1, 1, 1, 1, 1, 0] B7) (y := sub [1, 0, 0, 1, 1, 1, 1, 1, 1] B7) rfl rfl ?_
  refine C.skipQ (y := sub [1, 1] B7) rfl ?_
  refine C.seq (x := sub [1, 1, 0] B7) (y := sub [1, 1, 1] B7) ?_
  refine C.seq (x := sub [1, 1, 0, 0] B7) (y := sub [1, 1, 0, 1] B7) ?_
  refine C.region (id := 7) (m := 2) (ops := opsOf (sub [1, 1, 0, 0] B7)) rfl ?_
  refine W.pure (v := ptr b1 1) rfl (wo rfl) rfl rfl (p_fieldAddr tf49_1 rfl rfl) (nf rfl) ?_
  refine W.quiet (v := .int .i64 1) rfl (wo rfl) rfl rfl (f_load (j := 7) (off := 1) ta44 rfl rfl rfl rfl) (nf rfl) ?_
  refine W.doneQ (y := sub [1, 1, 0, 1] B7) rfl ?_
  refine C.block (id := 1) (c := sub [1, 1, 0, 1, 0] B7) ?_
  refine C.seq (x := sub [1, 1, 0, 1, 0, 0] B7) (y := sub [1, 1, 0, 1, 0, 1] B7) ?_
  refine C.seq (x := sub [1, 1, 0, 1, 0, 0, 0] B7) (y := sub [1, 1, 0, 1, 0, 0, 1] B7) ?_
  refine C.region (id := 8) (m := 2) (ops := opsOf (sub [1, 1, 0, 1, 0, 0, 0] B7)) rfl ?_
  refine W.pure (v := .bool true) rfl (wo rfl) rfl rfl (p_bin (fun w => by kernel_rfl) (fun w => by kernel_rfl) rfl rfl rfl) (nf rfl) ?_
  refine W.pure (v := .bool true) rfl (wo rfl) rfl rfl (p_assign rfl rfl) (nf rfl) ?_
  refine W.doneQ (y := sub [1, 1, 0, 1, 0, 0, 1] B7) rfl ?_
  refine C.cond_true (x := sub [1, 1, 0, 1, 0, 0, 1, 0] B7) (y := sub [1, 1, 0, 1, 0, 0, 1, 1] B7) rfl rfl ?_
  refine C.skipQ (y := sub [1, 1, 0, 1, 0, 1] B7) rfl ?_
  refine C.cond_true (x := sub [1, 1, 0, 1, 0, 1, 0] B7) (y := sub [1, 1, 0, 1, 0, 1, 1] B7) rfl rfl ?_
  refine C.seq (x := sub [1, 1, 0, 1, 0, 1, 0, 0] B7) (y := sub [1, 1, 0, 1, 0, 1, 0, 1] B7) ?_
  refine C.region (id := 12) (m := 4) (ops := opsOf (sub [1, 1, 0, 1, 0, 1, 0, 0] B7)) rfl ?_
  refine W.pure (v := ptr p1 0) rfl (wo rfl) rfl rfl (p_move rfl rfl) (nf rfl) ?_
  refine W.quiet (v := .agg kc2) rfl (wo rfl) rfl rfl (f_loadA (j := 7) ta49 ts49 rfl rfl rfl rfl) (nf rfl) ?_
  refine W.cP (E := [(some p1, .cells (#[.map (some p2), .int .u32 1, .int .i64 0, .map (some p3), .map (some p4), .map (some p5)]) 29 (0, 0)), (some p2, mobj .u32 []), (some p3, mobj .i64 []), (some p4, mobj .i64 []), (some p5, mobj .i64 [])]) (R := [(some b3, .cells (#[.int .i64 1, .int .i64 1, .int .i64 4, .int .i64 4]) 34 (0, 0)), (some b2, .cells (#[.int .u64 0, .int .i64 0, .int .u32 1, .slice none 0 0]) 52 (0, 0)), (some b1, .cells kc2 49 (0, 0))]) (caps := #[]) rfl (wo rfl) rfl rfl [0, 1, 2, 3, 4, 5, 6, 7] rfl rfl (cw20_40 p1 p2 p3 p4 p5) rfl (en20 _) rfl rfl rfl (args_val rfl) ?_
  intro _
  refine W.heapIs (H2 := [(some p1, .cells (#[.map (some p2), .int .u32 1, .int .i64 1, .map (some p3), .map (some p4), .map (some p5)]) 29 (0, 0)), (some p2, mobj .u32 []), (some p3, mobj .i64 []), (some p4, mobj .i64 []), (some p5, mobj .i64 []), (some b3, .cells (#[.int .i64 1, .int .i64 1, .int .i64 4, .int .i64 4]) 34 (0, 0)), (some b2, .cells (#[.int .u64 0, .int .i64 0, .int .u32 1, .slice none 0 0]) 52 (0, 0)), (some b1, .cells kc2 49 (0, 0))]) rfl ?_
  refine W.pure (v := .int .i64 1) rfl (wo rfl) rfl rfl (p_assign rfl rfl) (nf rfl) ?_
  refine W.doneQ (y := sub [1, 1, 0, 1, 0, 1, 0, 1] B7) rfl ?_
  refine C.seq (x := sub [1, 1, 0, 1, 0, 1, 0, 1, 0] B7) (y := sub [1, 1, 0, 1, 0, 1, 0, 1, 1] B7) ?_
  refine C.seq (x := sub [1, 1, 0, 1, 0, 1, 0, 1, 0, 0] B7) (y := sub [1, 1, 0, 1, 0, 1, 0, 1, 0, 1] B7) ?_
  refine C.region (id := 13) (m := 3) (ops := opsOf (sub [1, 1, 0, 1, 0, 1, 0, 1, 0, 0] B7)) rfl ?_
  refine W.quiet (v := .agg #[.int .i64 1, .int .i64 1, .int .i64 4, .int .i64 4]) rfl (wo rfl) rfl rfl (f_loadA (j := 5) ta34 ts34 rfl rfl rfl rfl) (nf rfl) ?_
  refine W.cP (E := []) (R := [(some p1, .cells (#[.map (some p2), .int .u32 1, .int .i64 1, .map (some p3), .map (some p4), .map (some p5)]) 29 (0, 0)), (some p2, mobj .u32 []), (some p3, mobj .i64 []), (some p4, mobj .i64 []), (some p5, mobj .i64 []), (some b3, .cells (#[.int .i64 1, .int .i64 1, .int .i64 4, .int .i64 4]) 34 (0, 0)), (some b2, .cells (#[.int .u64 0, .int .i64 0, .int .u32 1, .slice none 0 0]) 52 (0, 0)), (some b1, .cells kc2 49 (0, 0))]) (caps := #[]) rfl (wo rfl) rfl rfl [0, 1, 2, 3, 4, 5, 6, 7] rfl rfl (cw21_42) rfl (en21 _) rfl rfl rfl (args_val rfl) ?_
  intro _
  refine W.heapIs (H2 := [(some p1, .cells (#[.map (some p2), .int .u32 1, .int .i64 1, .map (some p3), .map (some p4), .map (some p5)]) 29 (0, 0)), (some p2, mobj .u32 []), (some p3, mobj .i64 []), (some p4, mobj .i64 []), (some p5, mobj .i64 []), (some b3, .cells (#[.int .i64 1, .int .i64 1, .int .i64 4, .int .i64 4]) 34 (0, 0)), (some b2, .cells (#[.int .u64 0, .int .i64 0, .int .u32 1, .slice none 0 0]) 52 (0, 0)), (some b1, .cells kc2 49 (0, 0))]) rfl ?_
  refine W.pure (v := .bool false) rfl (wo rfl) rfl rfl (p_not (p := true) rfl rfl) (nf rfl) ?_
  refine W.doneQ (y := sub [1, 1, 0, 1, 0, 1, 0, 1, 0, 1] B7) rfl ?_
  refine C.cond_false (x := sub [1, 1, 0, 1, 0, 1, 0, 1, 0, 1, 0] B7) (y := sub [1, 1, 0, 1, 0, 1, 0, 1, 0, 1, 1] B7) rfl rfl ?_
  refine C.skipQ (y := sub [1, 1, 0, 1, 0, 1, 0, 1, 1] B7) rfl ?_
  refine C.seq (x := sub [1, 1, 0, 1, 0, 1, 0, 1, 1, 0] B7) (y := sub [1, 1, 0, 1, 0, 1, 0, 1, 1, 1] B7) ?_
  refine C.regionD (id := 15) (ops := opsOf (sub [1, 1, 0, 1, 0, 1, 0, 1, 1, 0] B7)) [0, 1, 2, 3, 4, 5, 6, 7, 8, 9, 10, 11] [0, 1, 3, 7, 0, 16, 48, 112, 0, 0, 768, 2047] [(.pure, none), (.pure, none), (.pure, none), (.quiet, none), (.pure, none), (.pure, none), (.pure, none), (.quiet, none), (.quiet, none), (.pure, none), (.pure, none), (.store, none)] (by kernel_rfl) ?_
  intro wD15 hl15
  refine DV.pure (v := ptr p1 0) rfl (wo rfl) rfl rfl rfl (p_move rfl rfl) ?_
  refine DV.pure (v := ptr p1 0) rfl (wo rfl) rfl rfl rfl (p_nilCheck rfl rfl) ?_
  refine DV.pure (v := ptr p1 0) rfl (wo rfl) rfl rfl rfl (p_fieldAddr tf29_0 rfl rfl) ?_
  refine DV.quiet (v := .map (some p2)) rfl (wo rfl) rfl rfl rfl (f_load (j := 0) (off := 0) ta23 rfl rfl rfl rfl) ?_
  refine DV.pure (v := ptr p1 0) rfl (wo rfl) rfl rfl rfl (p_move rfl rfl) ?_
  refine DV.pure (v := ptr p1 0) rfl (wo rfl) rfl rfl rfl (p_nilCheck rfl rfl) ?_
  refine DV.pure (v := ptr p1 1) rfl (wo rfl) rfl rfl rfl (p_fieldAddr tf29_1 rfl rfl) ?_
  refine DV.quiet (v := .int .u32 1) rfl (wo rfl) rfl rfl rfl (f_load (j := 0) (off := 1) ta24 rfl rfl rfl rfl) ?_
  refine DV.quiet (v := .agg #[.int .i64 1, .int .i64 1, .int .i64 4, .int .i64 4]) rfl (wo rfl) rfl rfl rfl (f_loadA (j := 5) ta34 ts34 rfl rfl rfl rfl) ?_
  refine DV.pure (v := .int .i64 1) rfl (wo rfl) rfl rfl rfl (p_move rfl rfl) ?_
  refine DV.pure (v := .agg #[.int .i64 1, .int .i64 1, .int .i64 4, .int .i64 4, .int .i64 1]) rfl (wo rfl) rfl rfl rfl (p_build (vs := [(0, .agg #[.int .i64 1, .int .i64 1, .int .i64 4, .int .i64 4]), (1, .int .i64 1)]) (fun w => by kernel_rfl) rfl rfl) ?_
  refine DW.put (H' := [(some p1, .cells (#[.map (some p2), .int .u32 1, .int .i64 1, .map (some p3), .map (some p4), .map (some p5)]) 29 (0, 0)), (some p2, mobj .u32 [(1, .agg #[.int .i64 1, .int .i64 1, .int .i64 4, .int .i64 4, .int .i64 1])]), (some p3, mobj .i64 []), (some p4, mobj .i64 []), (some p5, mobj .i64 []), (some b3, .cells (#[.int .i64 1, .int .i64 1, .int .i64 4, .int .i64 4]) 34 (0, 0)), (some b2, .cells (#[.int .u64 0, .int .i64 0, .int .u32 1, .slice none 0 0]) 52 (0, 0)), (some b1, .cells kc2 49 (0, 0))]) rfl rfl rfl rfl rfl (f_upd (j := 1) (l := []) (v := .agg #[.int .i64 1, .int .i64 1, .int .i64 4, .int .i64 4, .int .i64 1]) tu23 tu24 rfl rfl rfl rfl rfl rfl) ?_
  refine DW.doneQ (y := sub [1, 1, 0, 1, 0, 1, 0, 1, 1, 1] B7) hl15 rfl ?_
  refine C.region (id := 16) (m := 8) (ops := opsOf (sub [1, 1, 0, 1, 0, 1, 0, 1, 1, 1] B7)) rfl ?_
  refine W.pure (v := ptr p1 0) rfl (wo rfl) rfl rfl (p_move rfl rfl) (nf rfl) ?_
  refine W.pure (v := ptr p1 0) rfl (wo rfl) rfl rfl (p_nilCheck rfl rfl) (nf rfl) ?_
  refine W.pure (v := ptr p1 1) rfl (wo rfl) rfl rfl (p_fieldAddr tf29_1 rfl rfl) (nf rfl) ?_
  refine W.quiet (v := .int .u32 1) rfl (wo rfl) rfl rfl (f_load (j := 0) (off := 1) ta24 rfl rfl rfl rfl) (nf rfl) ?_
  refine W.pure (v := .int .u32 2) rfl (wo rfl) rfl rfl (p_bin (fun w => by kernel_rfl) (fun w => by kernel_rfl) rfl rfl rfl) (nf rfl) ?_
  refine W.pure (v := ptr p1 0) rfl (wo rfl) rfl rfl (p_nilCheck rfl rfl) (nf rfl) ?_
  refine W.pure (v := ptr p1 1) rfl (wo rfl) rfl rfl (p_fieldAddr tf29_1 rfl rfl) (nf rfl) ?_
  refine W.put (H' := [(some p1, .cells (#[.map (some p2), .int .u32 2, .int .i64 1, .map (some p3), .map (some p4), .map (some p5)]) 29 (0, 0)), (some p2, mobj .u32 [(1, .agg #[.int .i64 1, .int .i64 1, .int .i64 4, .int .i64 4, .int .i64 1])]), (some p3, mobj .i64 []), (some p4, mobj .i64 []), (some p5, mobj .i64 []), (some b3, .cells (#[.int .i64 1, .int .i64 1, .int .i64 4, .int .i64 4]) 34 (0, 0)), (some b2, .cells (#[.int .u64 0, .int .i64 0, .int .u32 1, .slice none 0 0]) 52 (0, 0)), (some b1, .cells kc2 49 (0, 0))]) rfl (wo rfl) rfl (f_store (c := #[.map (some p2), .int .u32 1, .int .i64 1, .map (some p3), .map (some p4), .map (some p5)]) (j := 0) (off := 1) (v := .int .u32 2) ts24 rfl rfl (Nat.le_of_ble_eq_true rfl) trivial rfl rfl rfl) (nf rfl) ?_
  refine W.doneQ (y := sub [1, 1, 1] B7) rfl ?_
  refine C.seq (x := sub [1, 1, 1, 0] B7) (y := sub [1, 1, 1, 1] B7) ?_
  refine C.region (id := 27) (m := 1) (ops := opsOf (sub [1, 1, 1, 0] B7)) rfl ?_
  refine W.pure (v := .int .i64 0) rfl (wo rfl) rfl rfl (p_assign rfl rfl) (nf rfl) ?_
  refine W.doneQ (y := sub [1, 1, 1, 1] B7) rfl ?_
  exact C.ret (R := fun e w' => ∃ _x : Unit, e = .returned (.int .i64 0) ∧ Cls w0 I' [(some p1, .cells (#[.map (some p2), .int .u32 2, .int .i64 1, .map (some p3), .map (some p4), .map (some p5)]) 29 (0, 0)), (some p2, mobj .u32 [(1, .agg #[.int .i64 1, .int .i64 1, .int .i64 4, .int .i64 4, .int .i64 1])]), (some p3, mobj .i64 []), (some p4, mobj .i64 []), (some p5, mobj .i64 [])] w') (rs := [.tmp 8]) (vs := [.int .i64 0]) rfl Tryd.func7 rfl rfl rfl (res_cons (ResV.tmp rfl) res_nil) fun w1 hc1 => ⟨(), rfl, hc1.pick [0, 1, 2, 3, 4] (by decide)⟩
set_option maxHeartbeats 20000000 in
theorem cw6_45 {I : Mem} : Turn I 6 #[.int .i64 0] [] (fun _ : Unit => .int .i64 0) (fun _ => []) := fun I' he w0 w hc => by
  refine calls_of_CW (N := 4) Tryd.func6 (show _ = some B6 by kernel_rfl) (by kernel_rfl) rfl (S := [(0, .int .i64 0)]) (by simp) hc ?_
  show CW _ _ _ (sub [] B6) _ _ _
  refine C.seq (x := sub [0] B6) (y := sub [1] B6) ?_
  refine C.region (id := 0) (m := 1) (ops := opsOf (sub [0] B6)) rfl ?_
  refine W.pure (v := .int .i64 0) rfl (wo rfl) rfl rfl (p_assign rfl rfl) (nf rfl) ?_
  refine W.doneQ (y := sub [1] B6) rfl ?_
  refine C.seq (x := sub [1, 0] B6) (y := sub [1, 1] B6) ?_
  refine C.region (id := 1) (m := 2) (ops := opsOf (sub [1, 0] B6)) rfl ?_
  refine W.pure (v := .int .i64 0) rfl (wo rfl) rfl rfl (p_move rfl rfl) (nf rfl) ?_
  refine W.pure (v := .int .i64 0) rfl (wo rfl) rfl rfl (p_assign rfl rfl) (nf rfl) ?_
  refine W.doneQ (y := sub [1, 1] B6) rfl ?_
  exact C.ret (R := fun e w' => ∃ _x : Unit, e = .returned (.int .i64 0) ∧ Cls w0 I' [] w') (rs := [.tmp 2]) (vs := [.int .i64 0]) rfl Tryd.func6 rfl rfl rfl (res_cons (ResV.tmp rfl) res_nil) fun w1 hc1 => ⟨(), rfl, hc1.pick [] (by decide)⟩
def kc9 : Array Value := #[.int .u64 0, .int .i64 9, .int .u32 1, .int .u32 0, .int .i64 0, .int .i64 0, .int .u8 0, .int .u8 0, .int .u8 0, .int .u8 0, .int .u8 0, .int .u8 0, .int .u8 0, .int .u8 0, .int .u8 0, .int .u8 0, .int .u8 0, .int .u8 0, .int .u8 0, .int .u8 0, .int .u8 0, .int .u8 0, .int .u8 0, .int .u8 0, .int .u8 0, .int .u8 0, .int .u8 0, .int .u8 0, .int .u8 0, .int .u8 0, .int .u8 0, .int .u8 0, .int .u8 0, .int .u8 0, .int .u8 0, .int .u8 0, .int .u8 0, .int .u8 0, .slice none 0 0]
theorem elem47 : Elem Tryd.prog 47 5 1 1 (.int .u8 0) := Elem.of (by kernel_rfl) (by kernel_rfl) rfl (by decide)
theorem elem50 : Elem Tryd.prog 50 47 1 24 (.slice none 0 0) := Elem.of (by kernel_rfl) (by kernel_rfl) rfl (by decide)
set_option maxHeartbeats 20000000 in
theorem cw16_47 (p1 p2 p3 p4 p5 : Nat) {I : Mem} : Turn I 16 #[ptr p1 0] [(some p1, .cells (#[.map (some p2), .int .u32 2, .int .i64 1, .map (some p3), .map (some p4), .map (some p5)]) 29 (0, 0)), (some p2, mobj .u32 [(1, .agg #[.int .i64 1, .int .i64 1, .int .i64 4, .int .i64 4, .int .i64 1])]), (some p3, mobj .i64 []), (some p4, mobj .i64 []), (some p5, mobj .i64 [])] (fun _ : Unit => .bool true) (fun _ => [(some p1, .cells (#[.map (some p2), .int .u32 2, .int .i64 1, .map (some p3), .map (some p4), .map (some p5)]) 29 (0, 0)), (some p2, mobj .u32 [(1, .agg #[.int .i64 1, .int .i64 1, .int .i64 4, .int .i64 4, .int .i64 1])]), (some p3, mobj .i64 []), (some p4, mobj .i64 []), (some p5, mobj .i64 [])]) := fun I' he w0 w hc => by
  refine calls_of_CW (N := 12) Tryd.func16 (show _ = some B16 by kernel_rfl) (by kernel_rfl) rfl (S := [(0, ptr p1 0)]) (by simp) hc ?_
  show CW _ _ _ (sub [] B16) _ _ _
  refine C.seq (x := sub [0] B16) (y := sub [1] B16) ?_
  refine C.region (id := 0) (m := 1) (ops := opsOf (sub [0] B16)) rfl ?_
  refine W.pure (v := .bool false) rfl (wo rfl) rfl rfl (p_assign rfl rfl) (nf rfl) ?_
  refine W.doneQ (y := sub [1] B16) rfl ?_
  refine C.seq (x := sub [1, 0] B16) (y := sub [1, 1] B16) ?_
  refine C.region (id := 1) (m := 10) (ops := opsOf (sub [1, 0] B16)) rfl ?_
  refine W.pure (v := ptr p1 0) rfl (wo rfl) rfl rfl (p_move rfl rfl) (nf rfl) ?_
  refine W.pure (v := .bool true) rfl (wo rfl) rfl rfl (p_bin (fun w => by kernel_rfl) (fun w => by kernel_rfl) rfl rfl rfl) (nf rfl) ?_
  refine W.pure (v := .bool true) rfl (wo rfl) rfl rfl (p_move rfl rfl) (nf rfl) ?_
  refine W.pure (v := ptr p1 0) rfl (wo rfl) rfl rfl (p_move rfl rfl) (nf rfl) ?_
  refine W.pure (v := ptr p1 0) rfl (wo rfl) rfl rfl (p_nilCheck rfl rfl) (nf rfl) ?_
  refine W.pure (v := ptr p1 0) rfl (wo rfl) rfl rfl (p_fieldAddr tf29_0 rfl rfl) (nf rfl) ?_
  refine W.quiet (v := .map (some p2)) rfl (wo rfl) rfl rfl (f_load (j := 0) (off := 0) ta23 rfl rfl rfl rfl) (nf rfl) ?_
  refine W.pure (v := .bool true) rfl (wo rfl) rfl rfl (p_bin (fun w => by kernel_rfl) (fun w => by kernel_rfl) rfl rfl rfl) (nf rfl) ?_
  refine W.pure (v := .bool true) rfl (wo rfl) rfl rfl (p_pick_true rfl rfl rfl) (nf rfl) ?_
  refine W.pure (v := .bool true) rfl (wo rfl) rfl rfl (p_assign rfl rfl) (nf rfl) ?_
  refine W.doneQ (y := sub [1, 1] B16) rfl ?_
  exact C.ret (R := fun e w' => ∃ _x : Unit, e = .returned (.bool true) ∧ Cls w0 I' [(some p1, .cells (#[.map (some p2), .int .u32 2, .int .i64 1, .map (some p3), .map (some p4), .map (some p5)]) 29 (0, 0)), (some p2, mobj .u32 [(1, .agg #[.int .i64 1, .int .i64 1, .int .i64 4, .int .i64 4, .int .i64 1])]), (some p3, mobj .i64 []), (some p4, mobj .i64 []), (some p5, mobj .i64 [])] w') (rs := [.tmp 2]) (vs := [.bool true]) rfl Tryd.func16 rfl rfl rfl (res_cons (ResV.tmp rfl) res_nil) fun w1 hc1 => ⟨(), rfl, hc1.pick [0, 1, 2, 3, 4] (by decide)⟩
set_option maxHeartbeats 20000000 in
theorem cw24_48 (p1 p2 : Nat) {I : Mem} : Turn I 24 #[.agg #[.int .u64 0, .int .i64 0, .int .u32 0, .slice (some ⟨p1, 0, none⟩) 1 1]] [(some p1, .cells (#[.slice (some ⟨p2, 0, none⟩) 32 32]) 47 (0, 0)), (some p2, .cells kc7 5 (0, 0))] (fun _ : Unit => .bool true) (fun _ => [(some p1, .cells (#[.slice (some ⟨p2, 0, none⟩) 32 32]) 47 (0, 0)), (some p2, .cells kc7 5 (0, 0))]) := fun I' he w0 w hc => by
  refine calls_of_CW (N := 53) Tryd.func24 (show _ = some B24 by kernel_rfl) (by kernel_rfl) rfl (S := [(0, .agg #[.int .u64 0, .int .i64 0, .int .u32 0, .slice (some ⟨p1, 0, none⟩) 1 1])]) (by simp) hc ?_
  show CW _ _ _ (sub [] B24) _ _ _
  refine C.seq (x := sub [0] B24) (y := sub [1] B24) ?_
  refine C.region (id := 0) (m := 2) (ops := opsOf (sub [0] B24)) rfl ?_
  refine W.new rfl (wo rfl) rfl rfl (f_box (v := .agg #[.int .u64 0, .int .i64 0, .int .u32 0, .slice (some ⟨p1, 0, none⟩) 1 1]) rfl rfl) (nf rfl) ?_
  intro b1 _
  refine W.heapIs (H2 := [(some b1, .cells (#[.int .u64 0, .int .i64 0, .int .u32 0, .slice (some ⟨p1, 0, none⟩) 1 1]) 52 (0, 0)), (some p1, .cells (#[.slice (some ⟨p2, 0, none⟩) 32 32]) 47 (0, 0)), (some p2, .cells kc7 5 (0, 0))]) rfl ?_
  refine W.pure (v := .bool false) rfl (wo rfl) rfl rfl (p_assign rfl rfl) (nf rfl) ?_
  refine W.doneQ (y := sub [1] B24) rfl ?_
  refine C.seq (x := sub [1, 0] B24) (y := sub [1, 1] B24) ?_
  refine C.region (id := 1) (m := 1) (ops := opsOf (sub [1, 0] B24)) rfl ?_
  refine W.pure (v := .int .i64 0) rfl (wo rfl) rfl rfl (p_assign rfl rfl) (nf rfl) ?_
  refine W.doneQ (y := sub [1, 1] B24) rfl ?_
  refine C.seq (x := sub [1, 1, 0] B24) (y := sub [1, 1, 1] B24) ?_
  refine C.seq (x := sub [1, 1, 0, 0] B24) (y := sub [1, 1, 0, 1] B24) ?_
  refine C.region (id := 2) (m := 4) (ops := opsOf (sub [1, 1, 0, 0] B24)) rfl ?_
  refine W.pure (v := ptr b1 3) rfl (wo rfl) rfl rfl (p_fieldAddr tf52_3 rfl rfl) (nf rfl) ?_
  refine W.quiet (v := .slice (some ⟨p1, 0, none⟩) 1 1) rfl (wo rfl) rfl rfl (f_load (j := 0) (off := 3) ta50 rfl rfl rfl rfl) (nf rfl) ?_
  refine W.pure (v := .int .i64 1) rfl (wo rfl) rfl rfl (p_slLen tu50 ⟨_, _, rfl⟩ rfl rfl) (nf rfl) ?_
  refine W.pure (v := .int .i64 0) rfl (wo rfl) rfl rfl (p_move rfl rfl) (nf rfl) ?_
  refine W.doneQ (y := sub [1, 1, 0, 1] B24) rfl ?_
  refine C.loopB (id := 0) (c := sub [1, 1, 0, 1, 0, 0] B24) (y := sub [1, 1, 1] B24) (fun q : Nat => 1 - q) (fun q : Nat => match q with | 0 => [(0, .agg #[.int .u64 0, .int .i64 0, .int .u32 0, .slice (some ⟨p1, 0, none⟩) 1 1]), (1, ptr b1 0), (3, .int .i64 0), (6, ptr b1 3), (7, .slice (some ⟨p1, 0, none⟩) 1 1), (8, .int .i64 1), (9, .int .i64 0)] | _ => [(0, .agg #[.int .u64 0, .int .i64 0, .int .u32 0, .slice (some ⟨p1, 0, none⟩) 1 1]), (1, ptr b1 0), (3, .int .i64 32), (6, ptr b1 3), (7, .slice (some ⟨p1, 0, none⟩) 1 1), (8, .int .i64 1), (9, .int .i64 1)]) (fun q : Nat => match q with | 0 => [(some b1, .cells (#[.int .u64 0, .int .i64 0, .int .u32 0, .slice (some ⟨p1, 0, none⟩) 1 1]) 52 (0, 0)), (some p1, .cells (#[.slice (some ⟨p2, 0, none⟩) 32 32]) 47 (0, 0)), (some p2, .cells kc7 5 (0, 0))] | _ => [(some b1, .cells (#[.int .u64 0, .int .i64 0, .int .u32 0, .slice (some ⟨p1, 0, none⟩) 1 1]) 52 (0, 0)), (some p1, .cells (#[.slice (some ⟨p2, 0, none⟩) 32 32]) 47 (0, 0)), (some p2, .cells kc7 5 (0, 0))]) (fun q => q ≤ 1) 0 (Nat.zero_le _) (Sub.cons rfl (Sub.cons rfl (Sub.cons rfl (Sub.cons rfl (Sub.cons rfl (Sub.cons rfl (Sub.cons rfl (Sub.nil _)))))))) rfl rfl (fun q => q = 1) ?_ ?_
  · intro q hq Q' hN hE hR
    have hq2 : q = 0 ∨ q = 1 := by omega
    rcases hq2 with rfl | rfl
    · show CW _ _ _ _ _ [(0, .agg #[.int .u64 0, .int .i64 0, .int .u32 0, .slice (some ⟨p1, 0, none⟩) 1 1]), (1, ptr b1 0), (3, .int .i64 0), (6, ptr b1 3), (7, .slice (some ⟨p1, 0, none⟩) 1 1), (8, .int .i64 1), (9, .int .i64 0)] ([(some b1, .cells (#[.int .u64 0, .int .i64 0, .int .u32 0, .slice (some ⟨p1, 0, none⟩) 1 1]) 52 (0, 0)), (some p1, .cells (#[.slice (some ⟨p2, 0, none⟩) 32 32]) 47 (0, 0)), (some p2, .cells kc7 5 (0, 0))])
      refine C.seq (x := sub [1, 1, 0, 1, 0, 0, 0] B24) (y := sub [1, 1, 0, 1, 0, 0, 1] B24) ?_
      refine C.region (id := 3) (m := 1) (ops := opsOf (sub [1, 1, 0, 1, 0, 0, 0] B24)) rfl ?_
      refine W.pure (v := .bool true) rfl (wo rfl) rfl rfl (p_bin (fun w => by kernel_rfl) (fun w => by kernel_rfl) rfl rfl rfl) (nf rfl) ?_
      refine W.doneQ (y := sub [1, 1, 0, 1, 0, 0, 1] B24) rfl ?_
      refine C.seq (x := sub [1, 1, 0, 1, 0, 0, 1, 0] B24) (y := sub [1, 1, 0, 1, 0, 0, 1, 1] B24) ?_
      refine C.cond_true (x := sub [1, 1, 0, 1, 0, 0, 1, 0, 0] B24) (y := sub [1, 1, 0, 1, 0, 0, 1, 0, 1] B24) rfl rfl ?_
      refine C.skipQ (y := sub [1, 1, 0, 1, 0, 0, 1, 1] B24) rfl ?_
      refine C.seq (x := sub [1, 1, 0, 1, 0, 0, 1, 1, 0] B24) (y := sub [1, 1, 0, 1, 0, 0, 1, 1, 1] B24) ?_
      refine C.block (id := 1) (c := sub [1, 1, 0, 1, 0, 0, 1, 1, 0, 0] B24) ?_
      refine C.seq (x := sub [1, 1, 0, 1, 0, 0, 1, 1, 0, 0, 0] B24) (y := sub [1, 1, 0, 1, 0, 0, 1, 1, 0, 0, 1] B24) ?_
      refine C.region (id := 4) (m := 3) (ops := opsOf (sub [1, 1, 0, 1, 0, 0, 1, 1, 0, 0, 0] B24)) rfl ?_
      refine W.pure (v := ptr p1 0) rfl (wo rfl) rfl rfl (p_ixU (fun w => by kernel_rfl) rfl rfl rfl) (nf rfl) ?_
      refine W.quiet (v := .slice (some ⟨p2, 0, none⟩) 32 32) rfl (wo rfl) rfl rfl (f_load (j := 1) (off := 0) ta47 rfl rfl rfl rfl) (nf rfl) ?_
      refine W.pure (v := .slice (some ⟨p2, 0, none⟩) 32 32) rfl (wo rfl) rfl rfl (p_assign rfl rfl) (nf rfl) ?_
      refine W.doneQ (y := sub [1, 1, 0, 1, 0, 0, 1, 1, 0, 0, 1] B24) rfl ?_
      refine C.region (id := 5) (m := 6) (ops := opsOf (sub [1, 1, 0, 1, 0, 0, 1, 1, 0, 0, 1] B24)) rfl ?_
      refine W.pure (v := .int .i64 0) rfl (wo rfl) rfl rfl (p_move rfl rfl) (nf rfl) ?_
      refine W.pure (v := .slice (some ⟨p2, 0, none⟩) 32 32) rfl (wo rfl) rfl rfl (p_move rfl rfl) (nf rfl) ?_
      refine W.pure (v := .int .i64 32) rfl (wo rfl) rfl rfl (p_slLen tu47 ⟨_, _, rfl⟩ rfl rfl) (nf rfl) ?_
      refine W.pure (v := .int .i64 32) rfl (wo rfl) rfl rfl (p_min2 (p := 32) (q := 5000) rfl rfl rfl) (nf rfl) ?_
      refine W.pure (v := .int .i64 32) rfl (wo rfl) rfl rfl (p_bin (fun w => by kernel_rfl) (fun w => by kernel_rfl) rfl rfl rfl) (nf rfl) ?_
      refine W.pure (v := .int .i64 32) rfl (wo rfl) rfl rfl (p_assign rfl rfl) (nf rfl) ?_
      refine W.doneQ (y := sub [1, 1, 0, 1, 0, 0, 1, 1, 1] B24) rfl ?_
      refine C.region (id := 6) (m := 2) (ops := opsOf (sub [1, 1, 0, 1, 0, 0, 1, 1, 1] B24)) rfl ?_
      refine W.pure (v := .int .i64 1) rfl (wo rfl) rfl rfl (p_bin (fun w => by kernel_rfl) (fun w => by kernel_rfl) rfl rfl rfl) (nf rfl) ?_
      refine W.pure (v := .int .i64 1) rfl (wo rfl) rfl rfl (p_move rfl rfl) (nf rfl) ?_
      exact W.end' fun a1 w1 ha1 hc1 => hN 1 (by decide) (by decide) a1 w1 (ha1.sub (Sub.cons rfl (Sub.cons rfl (Sub.cons rfl (Sub.cons rfl (Sub.cons rfl (Sub.cons rfl (Sub.cons rfl (Sub.nil _))))))))) (hc1.pick [0, 1, 2] (by decide))
    · show CW _ _ _ _ _ [(0, .agg #[.int .u64 0, .int .i64 0, .int .u32 0, .slice (some ⟨p1, 0, none⟩) 1 1]), (1, ptr b1 0), (3, .int .i64 32), (6, ptr b1 3), (7, .slice (some ⟨p1, 0, none⟩) 1 1), (8, .int .i64 1), (9, .int .i64 1)] ([(some b1, .cells (#[.int .u64 0, .int .i64 0, .int .u32 0, .slice (some ⟨p1, 0, none⟩) 1 1]) 52 (0, 0)), (some p1, .cells (#[.slice (some ⟨p2, 0, none⟩) 32 32]) 47 (0, 0)), (some p2, .cells kc7 5 (0, 0))])
      refine C.seq (x := sub [1, 1, 0, 1, 0, 0, 0] B24) (y := sub [1, 1, 0, 1, 0, 0, 1] B24) ?_
      refine C.region (id := 3) (m := 1) (ops := opsOf (sub [1, 1, 0, 1, 0, 0, 0] B24)) rfl ?_
      refine W.pure (v := .bool false) rfl (wo rfl) rfl rfl (p_bin (fun w => by kernel_rfl) (fun w => by kernel_rfl) rfl rfl rfl) (nf rfl) ?_
      refine W.doneQ (y := sub [1, 1, 0, 1, 0, 0, 1] B24) rfl ?_
      refine C.seq (x := sub [1, 1, 0, 1, 0, 0, 1, 0] B24) (y := sub [1, 1, 0, 1, 0, 0, 1, 1] B24) ?_
      refine C.cond_false (x := sub [1, 1, 0, 1, 0, 0, 1, 0, 0] B24) (y := sub [1, 1, 0, 1, 0, 0, 1, 0, 1] B24) rfl rfl ?_
      exact C.exit fun a1 w1 ha1 hc1 => hE rfl a1 w1 (ha1.sub (Sub.cons rfl (Sub.cons rfl (Sub.cons rfl (Sub.cons rfl (Sub.cons rfl (Sub.cons rfl (Sub.cons rfl (Sub.nil _))))))))) hc1
  intro q hq hqe
  subst hqe
  show CW _ _ _ _ _ [(0, .agg #[.int .u64 0, .int .i64 0, .int .u32 0, .slice (some ⟨p1, 0, none⟩) 1 1]), (1, ptr b1 0), (3, .int .i64 32), (6, ptr b1 3), (7, .slice (some ⟨p1, 0, none⟩) 1 1), (8, .int .i64 1), (9, .int .i64 1)] ([(some b1, .cells (#[.int .u64 0, .int .i64 0, .int .u32 0, .slice (some ⟨p1, 0, none⟩) 1 1]) 52 (0, 0)), (some p1, .cells (#[.slice (some ⟨p2, 0, none⟩) 32 32]) 47 (0, 0)), (some p2, .cells kc7 5 (0, 0))])
  refine C.seq (x := sub [1, 1, 1, 0] B24) (y := sub [1, 1, 1, 1] B24) ?_
  refine C.region (id := 7) (m := 35) (ops := opsOf (sub [1, 1, 1, 0] B24)) rfl ?_
  refine W.pure (v := ptr b1 1) rfl (wo rfl) rfl rfl (p_fieldAddr tf52_1 rfl rfl) (nf rfl) ?_
  refine W.quiet (v := .int .i64 0) rfl (wo rfl) rfl rfl (f_load (j := 0) (off := 1) ta3 rfl rfl rfl rfl) (nf rfl) ?_
  refine W.pure (v := .bool true) rfl (wo rfl) rfl rfl (p_bin (fun w => by kernel_rfl) (fun w => by kernel_rfl) rfl rfl rfl) (nf rfl) ?_
  refine W.pure (v := .bool true) rfl (wo rfl) rfl rfl (p_move rfl rfl) (nf rfl) ?_
  refine W.pure (v := ptr b1 1) rfl (wo rfl) rfl rfl (p_fieldAddr tf52_1 rfl rfl) (nf rfl) ?_
  refine W.quiet (v := .int .i64 0) rfl (wo rfl) rfl rfl (f_load (j := 0) (off := 1) ta3 rfl rfl rfl rfl) (nf rfl) ?_
  refine W.pure (v := .bool true) rfl (wo rfl) rfl rfl (p_bin (fun w => by kernel_rfl) (fun w => by kernel_rfl) rfl rfl rfl) (nf rfl) ?_
  refine W.pure (v := .bool true) rfl (wo rfl) rfl rfl (p_pick_true rfl rfl rfl) (nf rfl) ?_
  refine W.pure (v := .bool true) rfl (wo rfl) rfl rfl (p_move rfl rfl) (nf rfl) ?_
  refine W.pure (v := ptr b1 3) rfl (wo rfl) rfl rfl (p_fieldAddr tf52_3 rfl rfl) (nf rfl) ?_
  refine W.quiet (v := .slice (some ⟨p1, 0, none⟩) 1 1) rfl (wo rfl) rfl rfl (f_load (j := 0) (off := 3) ta50 rfl rfl rfl rfl) (nf rfl) ?_
  refine W.pure (v := .int .i64 1) rfl (wo rfl) rfl rfl (p_slLen tu50 ⟨_, _, rfl⟩ rfl rfl) (nf rfl) ?_
  refine W.pure (v := .bool true) rfl (wo rfl) rfl rfl (p_bin (fun w => by kernel_rfl) (fun w => by kernel_rfl) rfl rfl rfl) (nf rfl) ?_
  refine W.pure (v := .bool true) rfl (wo rfl) rfl rfl (p_pick_true rfl rfl rfl) (nf rfl) ?_
  refine W.pure (v := .bool true) rfl (wo rfl) rfl rfl (p_move rfl rfl) (nf rfl) ?_
  refine W.pure (v := .int .i64 32) rfl (wo rfl) rfl rfl (p_move rfl rfl) (nf rfl) ?_
  refine W.pure (v := .bool true) rfl (wo rfl) rfl rfl (p_bin (fun w => by kernel_rfl) (fun w => by kernel_rfl) rfl rfl rfl) (nf rfl) ?_
  refine W.pure (v := .bool true) rfl (wo rfl) rfl rfl (p_pick_true rfl rfl rfl) (nf rfl) ?_
  refine W.pure (v := .bool true) rfl (wo rfl) rfl rfl (p_move rfl rfl) (nf rfl) ?_
  refine W.pure (v := ptr b1 1) rfl (wo rfl) rfl rfl (p_fieldAddr tf52_1 rfl rfl) (nf rfl) ?_
  refine W.quiet (v := .int .i64 0) rfl (wo rfl) rfl rfl (f_load (j := 0) (off := 1) ta3 rfl rfl rfl rfl) (nf rfl) ?_
  refine W.pure (v := .bool true) rfl (wo rfl) rfl rfl (p_bin (fun w => by kernel_rfl) (fun w => by kernel_rfl) rfl rfl rfl) (nf rfl) ?_
  refine W.pure (v := .bool true) rfl (wo rfl) rfl rfl (p_move rfl rfl) (nf rfl) ?_
  refine W.not rfl (wo rfl) rfl rfl ?_
  refine W.not rfl (wo rfl) rfl rfl ?_
  refine W.not rfl (wo rfl) rfl rfl ?_
  refine W.not rfl (wo rfl) rfl rfl ?_
  refine W.not rfl (Wn.undef rfl rfl rfl) rfl rfl ?_
  refine W.not rfl (Wn.undef rfl rfl rfl) rfl rfl ?_
  refine W.not rfl (Wn.undef rfl rfl rfl) rfl rfl ?_
  refine W.not rfl (Wn.undef rfl rfl rfl) rfl rfl ?_
  refine W.not rfl (wo rfl) rfl rfl ?_
  refine W.pure (v := .bool true) rfl (wo rfl) rfl rfl (p_pick_true rfl rfl rfl) (nf rfl) ?_
  refine W.pure (v := .bool true) rfl (wo rfl) rfl rfl (p_pick_true rfl rfl rfl) (nf rfl) ?_
  refine W.pure (v := .bool true) rfl (wo rfl) rfl rfl (p_assign rfl rfl) (nf rfl) ?_
  refine W.doneQ (y := sub [1, 1, 1, 1] B24) rfl ?_
  exact C.ret (R := fun e w' => ∃ _x : Unit, e = .returned (.bool true) ∧ Cls w0 I' [(some p1, .cells (#[.slice (some ⟨p2, 0, none⟩) 32 32]) 47 (0, 0)), (some p2, .cells kc7 5 (0, 0))] w') (rs := [.tmp 2]) (vs := [.bool true]) rfl Tryd.func24 rfl rfl rfl (res_cons (ResV.tmp rfl) res_nil) fun w1 hc1 => ⟨(), rfl, hc1.pick [1, 2] (by decide)⟩
def kc10 : Array Value := #[.int .u64 0, .int .i64 9, .int .u32 0, .int .u32 0, .int .i64 0, .int .i64 0, .int .u8 0, .int .u8 0, .int .u8 0, .int .u8 0, .int .u8 0, .int .u8 0, .int .u8 0, .int .u8 0, .int .u8 0, .int .u8 0, .int .u8 0, .int .u8 0, .int .u8 0, .int .u8 0, .int .u8 0, .int .u8 0, .int .u8 0, .int .u8 0, .int .u8 0, .int .u8 0, .int .u8 0, .int .u8 0, .int .u8 0, .int .u8 0, .int .u8 0, .int .u8 0, .int .u8 0, .int .u8 0, .int .u8 0, .int .u8 0, .int .u8 0, .int .u8 0, .slice none 0 0]
set_option maxHeartbeats 20000000 in
theorem cw43_51 {I : Mem} : Turn I 43 #[.int .i64 9] [] (fun _ : Unit => str [104]) (fun _ => []) := fun I' he w0 w hc => by
  refine calls_of_CW (N := 7) Tryd.func43 (show _ = some B43 by kernel_rfl) (by kernel_rfl) rfl (S := [(0, .int .i64 9)]) (by simp) hc ?_
  show CW _ _ _ (sub [] B43) _ _ _
  refine C.seq (x := sub [0] B43) (y := sub [1] B43) ?_
  refine C.region (id := 0) (m := 1) (ops := opsOf (sub [0] B43)) rfl ?_
  refine W.pure (v := str []) rfl (wo rfl) rfl rfl (p_assign rfl rfl) (nf rfl) ?_
  refine W.doneQ (y := sub [1] B43) rfl ?_
  refine C.seq (x := sub [1, 0] B43) (y := sub [1, 1] B43) ?_
  refine C.region (id := 1) (m := 5) (ops := opsOf (sub [1, 0] B43)) rfl ?_
  refine W.cP (E := []) (R := []) (caps := #[]) rfl (wo rfl) rfl rfl [] rfl rfl (cw65_26) rfl (en65 _) rfl rfl rfl (args_val rfl) ?_
  intro b1
  refine W.heapIs (H2 := [(some b1, mobj .i64 [(1, .agg #[str [116, 97]]), (2, .agg #[str [116, 97, 107]]), (3, .agg #[str [104]]), (4, .agg #[str [104]]), (5, .agg #[str [104, 100]]), (6, .agg #[str [104, 111]]), (7, .agg #[str [104, 97, 100]]), (8, .agg #[str [104, 116, 97, 100]]), (9, .agg #[str [104]]), (10, .agg #[str [104, 97]]), (11, .agg #[str [104]]), (12, .agg #[str [104, 100]]), (13, .agg #[str [104, 100]])])]) rfl ?_
  refine W.pure (v := .int .i64 9) rfl (wo rfl) rfl rfl (p_move rfl rfl) (nf rfl) ?_
  refine W.quiet (v := .agg #[str [104]]) rfl (wo rfl) rfl rfl (f_lookup (j := 0) (a := 9) (l := [(1, .agg #[str [116, 97]]), (2, .agg #[str [116, 97, 107]]), (3, .agg #[str [104]]), (4, .agg #[str [104]]), (5, .agg #[str [104, 100]]), (6, .agg #[str [104, 111]]), (7, .agg #[str [104, 97, 100]]), (8, .agg #[str [104, 116, 97, 100]]), (9, .agg #[str [104]]), (10, .agg #[str [104, 97]]), (11, .agg #[str [104]]), (12, .agg #[str [104, 100]]), (13, .agg #[str [104, 100]])]) tu118 tu44 tz117 rfl rfl rfl rfl) (nf rfl) ?_
  refine W.pure (v := str [104]) rfl (wo rfl) rfl rfl (p_fieldU (fun w => by kernel_rfl) rfl rfl) (nf rfl) ?_
  refine W.pure (v := str [104]) rfl (wo rfl) rfl rfl (p_assign rfl rfl) (nf rfl) ?_
  refine W.doneQ (y := sub [1, 1] B43) rfl ?_
  exact C.ret (R := fun e w' => ∃ _x : Unit, e = .returned (str [104]) ∧ Cls w0 I' [] w') (rs := [.tmp 2]) (vs := [str [104]]) rfl Tryd.func43 rfl rfl rfl (res_cons (ResV.tmp rfl) res_nil) fun w1 hc1 => ⟨(), rfl, hc1.pick [] (by decide)⟩
noncomputable def B59 : Code := bodyOf Tryd.f59
set_option maxHeartbeats 20000000 in
theorem cw59_52 (p1 p2 : Nat) {I : Mem} : Turn I 59 #[ptr p1 0, ptr p2 0] [(some p1, .cells kc9 49 (0, 0)), (some p2, .cells kc10 49 (0, 0))] (fun _ : Unit => .tuple #[]) (fun _ => [(some p1, .cells kc9 49 (0, 0)), (some p2, .cells kc9 49 (0, 0))]) := fun I' he w0 w hc => by
  refine calls_of_CW (N := 5) Tryd.func59 (show _ = some B59 by kernel_rfl) (by kernel_rfl) rfl (S := [(0, ptr p1 0), (1, ptr p2 0)]) (by simp) hc ?_
  show CW _ _ _ (sub [] B59) _ _ _
  refine C.region (id := 0) (m := 4) (ops := opsOf (sub [] B59)) rfl ?_
  refine W.pure (v := ptr p1 2) rfl (wo rfl) rfl rfl (p_fieldAddr tf49_2 rfl rfl) (nf rfl) ?_
  refine W.quiet (v := .int .u32 1) rfl (wo rfl) rfl rfl (f_load (j := 0) (off := 2) ta24 rfl rfl rfl rfl) (nf rfl) ?_
  refine W.pure (v := ptr p2 2) rfl (wo rfl) rfl rfl (p_fieldAddr tf49_2 rfl rfl) (nf rfl) ?_
  refine W.put (H' := [(some p1, .cells kc9 49 (0, 0)), (some p2, .cells kc9 49 (0, 0))]) rfl (wo rfl) rfl (f_store (c := kc10) (j := 1) (off := 2) (v := .int .u32 1) ts24 rfl rfl (Nat.le_of_ble_eq_true rfl) trivial rfl rfl rfl) (nf rfl) ?_
  exact W.endRet (R := fun e w' => ∃ _x : Unit, e = .returned (.tuple #[]) ∧ Cls w0 I' [(some p1, .cells kc9 49 (0, 0)), (some p2, .cells kc9 49 (0, 0))] w') (rs := []) (vs := []) rfl Tryd.func59 rfl rfl rfl res_nil fun w1 hc1 => ⟨(), rfl, hc1.pick [0, 1] (by decide)⟩
theorem en59 (args : Array Value) (w : World) : (callFunc 59 args).run Tryd.prog w = .ok (.enter 59 args) w := by kernel_rfl
set_option maxHeartbeats 20000000 in
theorem cw42_50 {I : Mem} : Turn I 42 #[.agg kc9] [] (fun _ : Unit => .agg kc9) (fun _ => []) := fun I' he w0 w hc => by
  refine calls_of_CW (N := 32) Tryd.func42 (show _ = some B42 by kernel_rfl) (by kernel_rfl) rfl (S := [(0, .agg kc9)]) (by simp) hc ?_
  show CW _ _ _ (sub [] B42) _ _ _
  refine C.seq (x := sub [0] B42) (y := sub [1] B42) ?_
  refine C.region (id := 0) (m := 2) (ops := opsOf (sub [0] B42)) rfl ?_
  refine W.new rfl (wo rfl) rfl rfl (f_box (v := .agg kc9) rfl rfl) (nf rfl) ?_
  intro b1 _
  refine W.heapIs (H2 := [(some b1, .cells kc9 49 (0, 0))]) rfl ?_
  refine W.new rfl (wo rfl) rfl rfl (f_alloc tz49 rfl) (nf rfl) ?_
  intro b2 _
  refine W.heapIs (H2 := [(some b2, .cells kc1 49 (0, 0)), (some b1, .cells kc9 49 (0, 0))]) rfl ?_
  refine W.doneQ (y := sub [1] B42) rfl ?_
  refine C.seq (x := sub [1, 0] B42) (y := sub [1, 1] B42) ?_
  refine C.region (id := 1) (m := 7) (ops := opsOf (sub [1, 0] B42)) rfl ?_
  refine W.pure (v := ptr b1 0) rfl (wo rfl) rfl rfl (p_fieldAddr tf49_0 rfl rfl) (nf rfl) ?_
  refine W.quiet (v := .int .u64 0) rfl (wo rfl) rfl rfl (f_load (j := 1) (off := 0) ta43 rfl rfl rfl rfl) (nf rfl) ?_
  refine W.pure (v := ptr b1 1) rfl (wo rfl) rfl rfl (p_fieldAddr tf49_1 rfl rfl) (nf rfl) ?_
  refine W.quiet (v := .int .i64 9) rfl (wo rfl) rfl rfl (f_load (j := 1) (off := 1) ta44 rfl rfl rfl rfl) (nf rfl) ?_
  refine W.pure (v := .agg kc10) rfl (wo rfl) rfl rfl (p_build (vs := [(0, .int .u64 0), (1, .int .i64 9)]) (fun w => by kernel_rfl) rfl rfl) (nf rfl) ?_
  refine W.new rfl (wo rfl) rfl rfl (f_alloc tz49 rfl) (nf rfl) ?_
  intro b3 _
  refine W.heapIs (H2 := [(some b3, .cells kc1 49 (0, 0)), (some b2, .cells kc1 49 (0, 0)), (some b1, .cells kc9 49 (0, 0))]) rfl ?_
  refine W.put (H' := [(some b3, .cells kc10 49 (0, 0)), (some b2, .cells kc1 49 (0, 0)), (some b1, .cells kc9 49 (0, 0))]) rfl (wo rfl) rfl (f_storeA (j := 0) (c2 := kc10) ts49 rfl rfl rfl (one_all rfl) rfl rfl rfl) (nf rfl) ?_
  refine W.doneQ (y := sub [1, 1] B42) rfl ?_
  refine C.seq (x := sub [1, 1, 0] B42) (y := sub [1, 1, 1] B42) ?_
  refine C.region (id := 2) (m := 15) (ops := opsOf (sub [1, 1, 0] B42)) rfl ?_
  refine W.new rfl (wo rfl) rfl rfl (f_makeMap (k := .i32) rfl) (nf rfl) ?_
  intro b4 _
  refine W.heapIs (H2 := [(some b4, mobj .i32 []), (some b3, .cells kc10 49 (0, 0)), (some b2, .cells kc1 49 (0, 0)), (some b1, .cells kc9 49 (0, 0))]) rfl ?_
  refine W.pure (v := .func (.func 59) #[] #[ptr b1 0, ptr b3 0]) rfl (wo rfl) rfl rfl (p_makeFunc rfl (args_val rfl)) (nf rfl) ?_
  refine W.put (H' := [(some b4, mobj .i32 [(104, .func (.func 59) #[] #[ptr b1 0, ptr b3 0])]), (some b3, .cells kc10 49 (0, 0)), (some b2, .cells kc1 49 (0, 0)), (some b1, .cells kc9 49 (0, 0))]) rfl (wo rfl) rfl (f_insert (j := 0) (l := []) (v := .func (.func 59) #[] #[ptr b1 0, ptr b3 0]) tu116 tu21 rfl rfl rfl rfl rfl rfl) (nf rfl) ?_
  refine W.pure (v := .func (.func 60) #[] #[ptr b1 0, ptr b3 0]) rfl (wo rfl) rfl rfl (p_makeFunc rfl (args_val rfl)) (nf rfl) ?_
  refine W.put (H' := [(some b4, mobj .i32 [(104, .func (.func 59) #[] #[ptr b1 0, ptr b3 0]), (111, .func (.func 60) #[] #[ptr b1 0, ptr b3 0])]), (some b3, .cells kc10 49 (0, 0)), (some b2, .cells kc1 49 (0, 0)), (some b1, .cells kc9 49 (0, 0))]) rfl (wo rfl) rfl (f_insert (j := 0) (l := [(104, .func (.func 59) #[] #[ptr b1 0, ptr b3 0])]) (v := .func (.func 60) #[] #[ptr b1 0, ptr b3 0]) tu116 tu21 rfl rfl rfl rfl rfl rfl) (nf rfl) ?_
  refine W.pure (v := .func (.func 61) #[] #[ptr b1 0, ptr b3 0]) rfl (wo rfl) rfl rfl (p_makeFunc rfl (args_val rfl)) (nf rfl) ?_
  refine W.put (H' := [(some b4, mobj .i32 [(104, .func (.func 59) #[] #[ptr b1 0, ptr b3 0]), (111, .func (.func 60) #[] #[ptr b1 0, ptr b3 0]), (116, .func (.func 61) #[] #[ptr b1 0, ptr b3 0])]), (some b3, .cells kc10 49 (0, 0)), (some b2, .cells kc1 49 (0, 0)), (some b1, .cells kc9 49 (0, 0))]) rfl (wo rfl) rfl (f_insert (j := 0) (l := [(104, .func (.func 59) #[] #[ptr b1 0, ptr b3 0]), (111, .func (.func 60) #[] #[ptr b1 0, ptr b3 0])]) (v := .func (.func 61) #[] #[ptr b1 0, ptr b3 0]) tu116 tu21 rfl rfl rfl rfl rfl rfl) (nf rfl) ?_
  refine W.pure (v := .func (.func 62) #[] #[ptr b1 0, ptr b3 0]) rfl (wo rfl) rfl rfl (p_makeFunc rfl (args_val rfl)) (nf rfl) ?_
  refine W.put (H' := [(some b4, mobj .i32 [(104, .func (.func 59) #[] #[ptr b1 0, ptr b3 0]), (111, .func (.func 60) #[] #[ptr b1 0, ptr b3 0]), (116, .func (.func 61) #[] #[ptr b1 0, ptr b3 0]), (97, .func (.func 62) #[] #[ptr b1 0, ptr b3 0])]), (some b3, .cells kc10 49 (0, 0)), (some b2, .cells kc1 49 (0, 0)), (some b1, .cells kc9 49 (0, 0))]) rfl (wo rfl) rfl (f_insert (j := 0) (l := [(104, .func (.func 59) #[] #[ptr b1 0, ptr b3 0]), (111, .func (.func 60) #[] #[ptr b1 0, ptr b3 0]), (116, .func (.func 61) #[] #[ptr b1 0, ptr b3 0])]) (v := .func (.func 62) #[] #[ptr b1 0, ptr b3 0]) tu116 tu21 rfl rfl rfl rfl rfl rfl) (nf rfl) ?_
  refine W.pure (v := .func (.func 63) #[] #[ptr b1 0, ptr b3 0]) rfl (wo rfl) rfl rfl (p_makeFunc rfl (args_val rfl)) (nf rfl) ?_
  refine W.put (H' := [(some b4, mobj .i32 [(104, .func (.func 59) #[] #[ptr b1 0, ptr b3 0]), (111, .func (.func 60) #[] #[ptr b1 0, ptr b3 0]), (116, .func (.func 61) #[] #[ptr b1 0, ptr b3 0]), (97, .func (.func 62) #[] #[ptr b1 0, ptr b3 0]), (107, .func (.func 63) #[] #[ptr b1 0, ptr b3 0])]), (some b3, .cells kc10 49 (0, 0)), (some b2, .cells kc1 49 (0, 0)), (some b1, .cells kc9 49 (0, 0))]) rfl (wo rfl) rfl (f_insert (j := 0) (l := [(104, .func (.func 59) #[] #[ptr b1 0, ptr b3 0]), (111, .func (.func 60) #[] #[ptr b1 0, ptr b3 0]), (116, .func (.func 61) #[] #[ptr b1 0, ptr b3 0]), (97, .func (.func 62) #[] #[ptr b1 0, ptr b3 0])]) (v := .func (.func 63) #[] #[ptr b1 0, ptr b3 0]) tu116 tu21 rfl rfl rfl rfl rfl rfl) (nf rfl) ?_
  refine W.pure (v := .func (.func 64) #[] #[ptr b1 0, ptr b3 0]) rfl (wo rfl) rfl rfl (p_makeFunc rfl (args_val rfl)) (nf rfl) ?_
  refine W.put (H' := [(some b4, mobj .i32 [(104, .func (.func 59) #[] #[ptr b1 0, ptr b3 0]), (111, .func (.func 60) #[] #[ptr b1 0, ptr b3 0]), (116, .func (.func 61) #[] #[ptr b1 0, ptr b3 0]), (97, .func (.func 62) #[] #[ptr b1 0, ptr b3 0]), (107, .func (.func 63) #[] #[ptr b1 0, ptr b3 0]), (100, .func (.func 64) #[] #[ptr b1 0, ptr b3 0])]), (some b3, .cells kc10 49 (0, 0)), (some b2, .cells kc1 49 (0, 0)), (some b1, .cells kc9 49 (0, 0))]) rfl (wo rfl) rfl (f_insert (j := 0) (l := [(104, .func (.func 59) #[] #[ptr b1 0, ptr b3 0]), (111, .func (.func 60) #[] #[ptr b1 0, ptr b3 0]), (116, .func (.func 61) #[] #[ptr b1 0, ptr b3 0]), (97, .func (.func 62) #[] #[ptr b1 0, ptr b3 0]), (107, .func (.func 63) #[] #[ptr b1 0, ptr b3 0])]) (v := .func (.func 64) #[] #[ptr b1 0, ptr b3 0]) tu116 tu21 rfl rfl rfl rfl rfl rfl) (nf rfl) ?_
  refine W.pure (v := .map (some b4)) rfl (wo rfl) rfl rfl (p_move rfl rfl) (nf rfl) ?_
  refine W.pure (v := .map (some b4)) rfl (wo rfl) rfl rfl (p_assign rfl rfl) (nf rfl) ?_
  refine W.doneQ (y := sub [1, 1, 1] B42) rfl ?_
  refine C.seq (x := sub [1, 1, 1, 0] B42) (y := sub [1, 1, 1, 1] B42) ?_
  refine C.seq (x := sub [1, 1, 1, 0, 0] B42) (y := sub [1, 1, 1, 0, 1] B42) ?_
  refine C.region (id := 3) (m := 4) (ops := opsOf (sub [1, 1, 1, 0, 0] B42)) rfl ?_
  refine W.pure (v := ptr b1 1) rfl (wo rfl) rfl rfl (p_fieldAddr tf49_1 rfl rfl) (nf rfl) ?_
  refine W.quiet (v := .int .i64 9) rfl (wo rfl) rfl rfl (f_load (j := 3) (off := 1) ta44 rfl rfl rfl rfl) (nf rfl) ?_
  refine W.cP (E := []) (R := [(some b4, mobj .i32 [(104, .func (.func 59) #[] #[ptr b1 0, ptr b3 0]), (111, .func (.func 60) #[] #[ptr b1 0, ptr b3 0]), (116, .func (.func 61) #[] #[ptr b1 0, ptr b3 0]), (97, .func (.func 62) #[] #[ptr b1 0, ptr b3 0]), (107, .func (.func 63) #[] #[ptr b1 0, ptr b3 0]), (100, .func (.func 64) #[] #[ptr b1 0, ptr b3 0])]), (some b3, .cells kc10 49 (0, 0)), (some b2, .cells kc1 49 (0, 0)), (some b1, .cells kc9 49 (0, 0))]) (caps := #[]) rfl (wo rfl) rfl rfl [0, 1, 2, 3] rfl rfl (cw43_51) rfl (en43 _) rfl rfl rfl (args_val rfl) ?_
  intro _
  refine W.heapIs (H2 := [(some b4, mobj .i32 [(104, .func (.func 59) #[] #[ptr b1 0, ptr b3 0]), (111, .func (.func 60) #[] #[ptr b1 0, ptr b3 0]), (116, .func (.func 61) #[] #[ptr b1 0, ptr b3 0]), (97, .func (.func 62) #[] #[ptr b1 0, ptr b3 0]), (107, .func (.func 63) #[] #[ptr b1 0, ptr b3 0]), (100, .func (.func 64) #[] #[ptr b1 0, ptr b3 0])]), (some b3, .cells kc10 49 (0, 0)), (some b2, .cells kc1 49 (0, 0)), (some b1, .cells kc9 49 (0, 0))]) rfl ?_
  refine W.new rfl (wo rfl) rfl rfl (f_rangeStr (s := ⟨#[104]⟩) us9 rfl rfl) (nf rfl) ?_
  intro b5 _
  refine W.heapIs (H2 := [(some b5, .stringIter ⟨#[104]⟩ 0), (some b4, mobj .i32 [(104, .func (.func 59) #[] #[ptr b1 0, ptr b3 0]), (111, .func (.func 60) #[] #[ptr b1 0, ptr b3 0]), (116, .func (.func 61) #[] #[ptr b1 0, ptr b3 0]), (97, .func (.func 62) #[] #[ptr b1 0, ptr b3 0]), (107, .func (.func 63) #[] #[ptr b1 0, ptr b3 0]), (100, .func (.func 64) #[] #[ptr b1 0, ptr b3 0])]), (some b3, .cells kc10 49 (0, 0)), (some b2, .cells kc1 49 (0, 0)), (some b1, .cells kc9 49 (0, 0))]) rfl ?_
  refine W.doneQ (y := sub [1, 1, 1, 0, 1] B42) rfl ?_
  refine C.loopB (id := 0) (c := sub [1, 1, 1, 0, 1, 0, 0] B42) (y := sub [1, 1, 1, 1] B42) (fun q : Nat => 1 - q) (fun q : Nat => match q with | 0 => [(0, .agg kc9), (1, ptr b1 0), (2, ptr b2 0), (3, ptr b3 0), (4, .map (some b4)), (7, ptr b1 0), (8, .int .u64 0), (9, ptr b1 1), (10, .int .i64 9), (11, .agg kc10), (12, .map (some b4)), (13, .func (.func 59) #[] #[ptr b1 0, ptr b3 0]), (14, .func (.func 60) #[] #[ptr b1 0, ptr b3 0]), (15, .func (.func 61) #[] #[ptr b1 0, ptr b3 0]), (16, .func (.func 62) #[] #[ptr b1 0, ptr b3 0]), (17, .func (.func 63) #[] #[ptr b1 0, ptr b3 0]), (18, .func (.func 64) #[] #[ptr b1 0, ptr b3 0]), (19, .map (some b4)), (20, ptr b1 1), (21, .int .i64 9), (22, str [104]), (23, ptr b5 0)] | _ => [(0, .agg kc9), (1, ptr b1 0), (2, ptr b2 0), (3, ptr b3 0), (4, .map (some b4)), (7, ptr b1 0), (8, .int .u64 0), (9, ptr b1 1), (10, .int .i64 9), (11, .agg kc10), (12, .map (some b4)), (13, .func (.func 59) #[] #[ptr b1 0, ptr b3 0]), (14, .func (.func 60) #[] #[ptr b1 0, ptr b3 0]), (15, .func (.func 61) #[] #[ptr b1 0, ptr b3 0]), (16, .func (.func 62) #[] #[ptr b1 0, ptr b3 0]), (17, .func (.func 63) #[] #[ptr b1 0, ptr b3 0]), (18, .func (.func 64) #[] #[ptr b1 0, ptr b3 0]), (19, .map (some b4)), (20, ptr b1 1), (21, .int .i64 9), (22, str [104]), (23, ptr b5 0)]) (fun q : Nat => match q with | 0 => [(some b5, .stringIter ⟨#[104]⟩ 0), (some b4, mobj .i32 [(104, .func (.func 59) #[] #[ptr b1 0, ptr b3 0]), (111, .func (.func 60) #[] #[ptr b1 0, ptr b3 0]), (116, .func (.func 61) #[] #[ptr b1 0, ptr b3 0]), (97, .func (.func 62) #[] #[ptr b1 0, ptr b3 0]), (107, .func (.func 63) #[] #[ptr b1 0, ptr b3 0]), (100, .func (.func 64) #[] #[ptr b1 0, ptr b3 0])]), (some b3, .cells kc10 49 (0, 0)), (some b2, .cells kc1 49 (0, 0)), (some b1, .cells kc9 49 (0, 0))] | _ => [(some b5, .stringIter ⟨#[104]⟩ 1), (some b4, mobj .i32 [(104, .func (.func 59) #[] #[ptr b1 0, ptr b3 0]), (111, .func (.func 60) #[] #[ptr b1 0, ptr b3 0]), (116, .func (.func 61) #[] #[ptr b1 0, ptr b3 0]), (97, .func (.func 62) #[] #[ptr b1 0, ptr b3 0]), (107, .func (.func 63) #[] #[ptr b1 0, ptr b3 0]), (100, .func (.func 64) #[] #[ptr b1 0, ptr b3 0])]), (some b3, .cells kc9 49 (0, 0)), (some b2, .cells kc1 49 (0, 0)), (some b1, .cells kc9 49 (0, 0))]) (fun q => q ≤ 1) 0 (Nat.zero_le _) (Sub.cons rfl (Sub.cons rfl (Sub.cons rfl (Sub.cons rfl (Sub.cons rfl (Sub.cons rfl (Sub.cons rfl (Sub.cons rfl (Sub.cons rfl (Sub.cons rfl (Sub.cons rfl (Sub.cons rfl (Sub.cons rfl (Sub.cons rfl (Sub.cons rfl (Sub.cons rfl (Sub.cons rfl (Sub.cons rfl (Sub.cons rfl (Sub.cons rfl (Sub.cons rfl (Sub.cons rfl (Sub.nil _))))))))))))))))))))))) rfl rfl (fun q => q = 1) ?_ ?_
  · intro q hq Q' hN hE hR
    have hq2 : q = 0 ∨ q = 1 := by omega
    rcases hq2 with rfl | rfl
    · show CW _ _ _ _ _ [(0, .agg kc9), (1, ptr b1 0), (2, ptr b2 0), (3, ptr b3 0), (4, .map (some b4)), (7, ptr b1 0), (8, .int .u64 0), (9, ptr b1 1), (10, .int .i64 9), (11, .agg kc10), (12, .map (some b4)), (13, .func (.func 59) #[] #[ptr b1 0, ptr b3 0]), (14, .func (.func 60) #[] #[ptr b1 0, ptr b3 0]), (15, .func (.func 61) #[] #[ptr b1 0, ptr b3 0]), (16, .func (.func 62) #[] #[ptr b1 0, ptr b3 0]), (17, .func (.func 63) #[] #[ptr b1 0, ptr b3 0]), (18, .func (.func 64) #[] #[ptr b1 0, ptr b3 0]), (19, .map (some b4)), (20, ptr b1 1), (21, .int .i64 9), (22, str [104]), (23, ptr b5 0)] ([(some b5, .stringIter ⟨#[104]⟩ 0), (some b4, mobj .i32 [(104, .func (.func 59) #[] #[ptr b1 0, ptr b3 0]), (111, .func (.func 60) #[] #[ptr b1 0, ptr b3 0]), (116, .func (.func 61) #[] #[ptr b1 0, ptr b3 0]), (97, .func (.func 62) #[] #[ptr b1 0, ptr b3 0]), (107, .func (.func 63) #[] #[ptr b1 0, ptr b3 0]), (100, .func (.func 64) #[] #[ptr b1 0, ptr b3 0])]), (some b3, .cells kc10 49 (0, 0)), (some b2, .cells kc1 49 (0, 0)), (some b1, .cells kc9 49 (0, 0))])
      refine C.seq (x := sub [1, 1, 1, 0, 1, 0, 0, 0] B42) (y := sub [1, 1, 1, 0, 1, 0, 0, 1] B42) ?_
      refine C.region (id := 4) (m := 2) (ops := opsOf (sub [1, 1, 1, 0, 1, 0, 0, 0] B42)) rfl ?_
      refine W.act (X := Unit) (u := fun _ => .tuple #[.bool true, .int .i64 0, .int .i32 104]) (H' := fun _ => [(some b5, .stringIter ⟨#[104]⟩ 1), (some b4, mobj .i32 [(104, .func (.func 59) #[] #[ptr b1 0, ptr b3 0]), (111, .func (.func 60) #[] #[ptr b1 0, ptr b3 0]), (116, .func (.func 61) #[] #[ptr b1 0, ptr b3 0]), (97, .func (.func 62) #[] #[ptr b1 0, ptr b3 0]), (107, .func (.func 63) #[] #[ptr b1 0, ptr b3 0]), (100, .func (.func 64) #[] #[ptr b1 0, ptr b3 0])]), (some b3, .cells kc10 49 (0, 0)), (some b2, .cells kc1 49 (0, 0)), (some b1, .cells kc9 49 (0, 0))]) rfl (wo rfl) rfl rfl (f_nextStr (j := 0) (pos := 0) (c := 104) (wd := 1) rfl (by decide) (by kernel_rfl) rfl rfl) (nf rfl) ?_
      intro _
      refine W.pure (v := .bool true) rfl (wo rfl) rfl rfl (p_extract rfl rfl rfl) (nf rfl) ?_
      refine W.doneQ (y := sub [1, 1, 1, 0, 1, 0, 0, 1] B42) rfl ?_
      refine C.seq (x := sub [1, 1, 1, 0, 1, 0, 0, 1, 0] B42) (y := sub [1, 1, 1, 0, 1, 0, 0, 1, 1] B42) ?_
      refine C.cond_true (x := sub [1, 1, 1, 0, 1, 0, 0, 1, 0, 0] B42) (y := sub [1, 1, 1, 0, 1, 0, 0, 1, 0, 1] B42) rfl rfl ?_
      refine C.skipQ (y := sub [1, 1, 1, 0, 1, 0, 0, 1, 1] B42) rfl ?_
      refine C.block (id := 1) (c := sub [1, 1, 1, 0, 1, 0, 0, 1, 1, 0] B42) ?_
      refine C.seq (x := sub [1, 1, 1, 0, 1, 0, 0, 1, 1, 0, 0] B42) (y := sub [1, 1, 1, 0, 1, 0, 0, 1, 1, 0, 1] B42) ?_
      refine C.region (id := 5) (m := 2) (ops := opsOf (sub [1, 1, 1, 0, 1, 0, 0, 1, 1, 0, 0] B42)) rfl ?_
      refine W.pure (v := .int .i32 104) rfl (wo rfl) rfl rfl (p_extract rfl rfl rfl) (nf rfl) ?_
      refine W.pure (v := .int .i32 104) rfl (wo rfl) rfl rfl (p_assign rfl rfl) (nf rfl) ?_
      refine W.doneQ (y := sub [1, 1, 1, 0, 1, 0, 0, 1, 1, 0, 1] B42) rfl ?_
      refine C.region (id := 6) (m := 4) (ops := opsOf (sub [1, 1, 1, 0, 1, 0, 0, 1, 1, 0, 1] B42)) rfl ?_
      refine W.pure (v := .map (some b4)) rfl (wo rfl) rfl rfl (p_move rfl rfl) (nf rfl) ?_
      refine W.pure (v := .int .i32 104) rfl (wo rfl) rfl rfl (p_move rfl rfl) (nf rfl) ?_
      refine W.quiet (v := .func (.func 59) #[] #[ptr b1 0, ptr b3 0]) rfl (wo rfl) rfl rfl (f_lookup (j := 1) (a := 104) (l := [(104, .func (.func 59) #[] #[ptr b1 0, ptr b3 0]), (111, .func (.func 60) #[] #[ptr b1 0, ptr b3 0]), (116, .func (.func 61) #[] #[ptr b1 0, ptr b3 0]), (97, .func (.func 62) #[] #[ptr b1 0, ptr b3 0]), (107, .func (.func 63) #[] #[ptr b1 0, ptr b3 0]), (100, .func (.func 64) #[] #[ptr b1 0, ptr b3 0])]) tu116 tu21 tz1 rfl rfl rfl rfl) (nf rfl) ?_
      refine W.cP (E := [(some b1, .cells kc9 49 (0, 0)), (some b3, .cells kc10 49 (0, 0))]) (R := [(some b5, .stringIter ⟨#[104]⟩ 1), (some b4, mobj .i32 [(104, .func (.func 59) #[] #[ptr b1 0, ptr b3 0]), (111, .func (.func 60) #[] #[ptr b1 0, ptr b3 0]), (116, .func (.func 61) #[] #[ptr b1 0, ptr b3 0]), (97, .func (.func 62) #[] #[ptr b1 0, ptr b3 0]), (107, .func (.func 63) #[] #[ptr b1 0, ptr b3 0]), (100, .func (.func 64) #[] #[ptr b1 0, ptr b3 0])]), (some b2, .cells kc1 49 (0, 0))]) (caps := #[ptr b1 0, ptr b3 0]) rfl (wo rfl) rfl rfl [4, 2, 0, 1, 3] rfl rfl (cw59_52 b1 b3) rfl (en59 _) rfl rfl rfl (args_val rfl) ?_
      intro _
      refine W.heapIs (H2 := [(some b1, .cells kc9 49 (0, 0)), (some b3, .cells kc9 49 (0, 0)), (some b5, .stringIter ⟨#[104]⟩ 1), (some b4, mobj .i32 [(104, .func (.func 59) #[] #[ptr b1 0, ptr b3 0]), (111, .func (.func 60) #[] #[ptr b1 0, ptr b3 0]), (116, .func (.func 61) #[] #[ptr b1 0, ptr b3 0]), (97, .func (.func 62) #[] #[ptr b1 0, ptr b3 0]), (107, .func (.func 63) #[] #[ptr b1 0, ptr b3 0]), (100, .func (.func 64) #[] #[ptr b1 0, ptr b3 0])]), (some b2, .cells kc1 49 (0, 0))]) rfl ?_
      exact W.end' fun a1 w1 ha1 hc1 => hN 1 (by decide) (by decide) a1 w1 (ha1.sub (Sub.cons rfl (Sub.cons rfl (Sub.cons rfl (Sub.cons rfl (Sub.cons rfl (Sub.cons rfl (Sub.cons rfl (Sub.cons rfl (Sub.cons rfl (Sub.cons rfl (Sub.cons rfl (Sub.cons rfl (Sub.cons rfl (Sub.cons rfl (Sub.cons rfl (Sub.cons rfl (Sub.cons rfl (Sub.cons rfl (Sub.cons rfl (Sub.cons rfl (Sub.cons rfl (Sub.cons rfl (Sub.nil _)))))))))))))))))))))))) (hc1.pick [2, 3, 1, 4, 0] (by decide))
    · show CW _ _ _ _ _ [(0, .agg kc9), (1, ptr b1 0), (2, ptr b2 0), (3, ptr b3 0), (4, .map (some b4)), (7, ptr b1 0), (8, .int .u64 0), (9, ptr b1 1), (10, .int .i64 9), (11, .agg kc10), (12, .map (some b4)), (13, .func (.func 59) #[] #[ptr b1 0, ptr b3 0]), (14, .func (.func 60) #[] #[ptr b1 0, ptr b3 0]), (15, .func (.func 61) #[] #[ptr b1 0, ptr b3 0]), (16, .func (.func 62) #[] #[ptr b1 0, ptr b3 0]), (17, .func (.func 63) #[] #[ptr b1 0, ptr b3 0]), (18, .func (.func 64) #[] #[ptr b1 0, ptr b3 0]), (19, .map (some b4)), (20, ptr b1 1), (21, .int .i64 9), (22, str [104]), (23, ptr b5 0)] ([(some b5, .stringIter ⟨#[104]⟩ 1), (some b4, mobj .i32 [(104, .func (.func 59) #[] #[ptr b1 0, ptr b3 0]), (111, .func (.func 60) #[] #[ptr b1 0, ptr b3 0]), (116, .func (.func 61) #[] #[ptr b1 0, ptr b3 0]), (97, .func (.func 62) #[] #[ptr b1 0, ptr b3 0]), (107, .func (.func 63) #[] #[ptr b1 0, ptr b3 0]), (100, .func (.func 64) #[] #[ptr b1 0, ptr b3 0])]), (some b3, .cells kc9 49 (0, 0)), (some b2, .cells kc1 49 (0, 0)), (some b1, .cells kc9 49 (0, 0))])
      refine C.seq (x := sub [1, 1, 1, 0, 1, 0, 0, 0] B42) (y := sub [1, 1, 1, 0, 1, 0, 0, 1] B42) ?_
      refine C.region (id := 4) (m := 2) (ops := opsOf (sub [1, 1, 1, 0, 1, 0, 0, 0] B42)) rfl ?_
      refine W.quiet (v := .tuple #[.bool false]) rfl (wo rfl) rfl rfl (f_nextEnd (j := 0) rfl (by decide) rfl rfl) (nf rfl) ?_
      refine W.pure (v := .bool false) rfl (wo rfl) rfl rfl (p_extract rfl rfl rfl) (nf rfl) ?_
      refine W.doneQ (y := sub [1, 1, 1, 0, 1, 0, 0, 1] B42) rfl ?_
      refine C.seq (x := sub [1, 1, 1, 0, 1, 0, 0, 1, 0] B42) (y := sub [1, 1, 1, 0, 1, 0, 0, 1, 1] B42) ?_
      refine C.cond_false (x := sub [1, 1, 1, 0, 1, 0, 0, 1, 0, 0] B42) (y := sub [1, 1, 1, 0, 1, 0, 0, 1, 0, 1] B42) rfl rfl ?_
      exact C.exit fun a1 w1 ha1 hc1 => hE rfl a1 w1 (ha1.sub (Sub.cons rfl (Sub.cons rfl (Sub.cons rfl (Sub.cons rfl (Sub.cons rfl (Sub.cons rfl (Sub.cons rfl (Sub.cons rfl (Sub.cons rfl (Sub.cons rfl (Sub.cons rfl (Sub.cons rfl (Sub.cons rfl (Sub.cons rfl (Sub.cons rfl (Sub.cons rfl (Sub.cons rfl (Sub.cons rfl (Sub.cons rfl (Sub.cons rfl (Sub.cons rfl (Sub.cons rfl (Sub.nil _)))))))))))))))))))))))) hc1
  intro q hq hqe
  subst hqe
  show CW _ _ _ _ _ [(0, .agg kc9), (1, ptr b1 0), (2, ptr b2 0), (3, ptr b3 0), (4, .map (some b4)), (7, ptr b1 0), (8, .int .u64 0), (9, ptr b1 1), (10, .int .i64 9), (11, .agg kc10), (12, .map (some b4)), (13, .func (.func 59) #[] #[ptr b1 0, ptr b3 0]), (14, .func (.func 60) #[] #[ptr b1 0, ptr b3 0]), (15, .func (.func 61) #[] #[ptr b1 0, ptr b3 0]), (16, .func (.func 62) #[] #[ptr b1 0, ptr b3 0]), (17, .func (.func 63) #[] #[ptr b1 0, ptr b3 0]), (18, .func (.func 64) #[] #[ptr b1 0, ptr b3 0]), (19, .map (some b4)), (20, ptr b1 1), (21, .int .i64 9), (22, str [104]), (23, ptr b5 0)] ([(some b5, .stringIter ⟨#[104]⟩ 1), (some b4, mobj .i32 [(104, .func (.func 59) #[] #[ptr b1 0, ptr b3 0]), (111, .func (.func 60) #[] #[ptr b1 0, ptr b3 0]), (116, .func (.func 61) #[] #[ptr b1 0, ptr b3 0]), (97, .func (.func 62) #[] #[ptr b1 0, ptr b3 0]), (107, .func (.func 63) #[] #[ptr b1 0, ptr b3 0]), (100, .func (.func 64) #[] #[ptr b1 0, ptr b3 0])]), (some b3, .cells kc9 49 (0, 0)), (some b2, .cells kc1 49 (0, 0)), (some b1, .cells kc9 49 (0, 0))])
  refine C.seq (x := sub [1, 1, 1, 1, 0] B42) (y := sub [1, 1, 1, 1, 1] B42) ?_
  refine C.region (id := 7) (m := 2) (ops := opsOf (sub [1, 1, 1, 1, 0] B42)) rfl ?_
  refine W.quiet (v := .agg kc9) rfl (wo rfl) rfl rfl (f_loadA (j := 2) ta49 ts49 rfl rfl rfl rfl) (nf rfl) ?_
  refine W.put (H' := [(some b5, .stringIter ⟨#[104]⟩ 1), (some b4, mobj .i32 [(104, .func (.func 59) #[] #[ptr b1 0, ptr b3 0]), (111, .func (.func 60) #[] #[ptr b1 0, ptr b3 0]), (116, .func (.func 61) #[] #[ptr b1 0, ptr b3 0]), (97, .func (.func 62) #[] #[ptr b1 0, ptr b3 0]), (107, .func (.func 63) #[] #[ptr b1 0, ptr b3 0]), (100, .func (.func 64) #[] #[ptr b1 0, ptr b3 0])]), (some b3, .cells kc9 49 (0, 0)), (some b2, .cells kc9 49 (0, 0)), (some b1, .cells kc9 49 (0, 0))]) rfl (wo rfl) rfl (f_storeA (j := 3) (c2 := kc9) ts49 rfl rfl rfl (one_all rfl) rfl rfl rfl) (nf rfl) ?_
  refine W.doneQ (y := sub [1, 1, 1, 1, 1] B42) rfl ?_
  exact C.ret (R := fun e w' => ∃ _x : Unit, e = .returned (.agg kc9) ∧ Cls w0 I' [] w') (rs := [.cell 2 49]) (vs := [.agg kc9]) rfl Tryd.func42 rfl rfl rfl (res_cons (ResV.cell (j := 3) ta49 ts49 rfl rfl rfl) res_nil) fun w1 hc1 => ⟨(), rfl, hc1.pick [] (by decide)⟩
set_option maxHeartbeats 20000000 in
theorem cw41_53 {I : Mem} : Turn I 41 #[.agg kc9, .agg kc9] [] (fun _ : Unit => .bool true) (fun _ => []) := fun I' he w0 w hc => by
  refine calls_of_CW (N := 59) Tryd.func41 (show _ = some B41 by kernel_rfl) (by kernel_rfl) rfl (S := [(0, .agg kc9), (1, .agg kc9)]) (by simp) hc ?_
  show CW _ _ _ (sub [] B41) _ _ _
  refine C.seq (x := sub [0] B41) (y := sub [1] B41) ?_
  refine C.region (id := 0) (m := 3) (ops := opsOf (sub [0] B41)) rfl ?_
  refine W.new rfl (wo rfl) rfl rfl (f_box (v := .agg kc9) rfl rfl) (nf rfl) ?_
  intro b1 _
  refine W.heapIs (H2 := [(some b1, .cells kc9 49 (0, 0))]) rfl ?_
  refine W.new rfl (wo rfl) rfl rfl (f_box (v := .agg kc9) rfl rfl) (nf rfl) ?_
  intro b2 _
  refine W.heapIs (H2 := [(some b2, .cells kc9 49 (0, 0)), (some b1, .cells kc9 49 (0, 0))]) rfl ?_
  refine W.pure (v := .bool false) rfl (wo rfl) rfl rfl (p_assign rfl rfl) (nf rfl) ?_
  refine W.doneQ (y := sub [1] B41) rfl ?_
  refine C.seq (x := sub [1, 0] B41) (y := sub [1, 1] B41) ?_
  refine C.region (id := 1) (m := 55) (ops := opsOf (sub [1, 0] B41)) rfl ?_
  refine W.pure (v := ptr b1 0) rfl (wo rfl) rfl rfl (p_fieldAddr tf49_0 rfl rfl) (nf rfl) ?_
  refine W.quiet (v := .int .u64 0) rfl (wo rfl) rfl rfl (f_load (j := 1) (off := 0) ta43 rfl rfl rfl rfl) (nf rfl) ?_
  refine W.pure (v := ptr b2 0) rfl (wo rfl) rfl rfl (p_fieldAddr tf49_0 rfl rfl) (nf rfl) ?_
  refine W.quiet (v := .int .u64 0) rfl (wo rfl) rfl rfl (f_load (j := 0) (off := 0) ta43 rfl rfl rfl rfl) (nf rfl) ?_
  refine W.pure (v := .bool true) rfl (wo rfl) rfl rfl (p_bin (fun w => by kernel_rfl) (fun w => by kernel_rfl) rfl rfl rfl) (nf rfl) ?_
  refine W.pure (v := .bool true) rfl (wo rfl) rfl rfl (p_move rfl rfl) (nf rfl) ?_
  refine W.pure (v := ptr b1 1) rfl (wo rfl) rfl rfl (p_fieldAddr tf49_1 rfl rfl) (nf rfl) ?_
  refine W.quiet (v := .int .i64 9) rfl (wo rfl) rfl rfl (f_load (j := 1) (off := 1) ta44 rfl rfl rfl rfl) (nf rfl) ?_
  refine W.pure (v := ptr b2 1) rfl (wo rfl) rfl rfl (p_fieldAddr tf49_1 rfl rfl) (nf rfl) ?_
  refine W.quiet (v := .int .i64 9) rfl (wo rfl) rfl rfl (f_load (j := 0) (off := 1) ta44 rfl rfl rfl rfl) (nf rfl) ?_
  refine W.pure (v := .bool true) rfl (wo rfl) rfl rfl (p_bin (fun w => by kernel_rfl) (fun w => by kernel_rfl) rfl rfl rfl) (nf rfl) ?_
  refine W.pure (v := .bool true) rfl (wo rfl) rfl rfl (p_pick_true rfl rfl rfl) (nf rfl) ?_
  refine W.pure (v := .bool true) rfl (wo rfl) rfl rfl (p_move rfl rfl) (nf rfl) ?_
  refine W.pure (v := ptr b1 2) rfl (wo rfl) rfl rfl (p_fieldAddr tf49_2 rfl rfl) (nf rfl) ?_
  refine W.quiet (v := .int .u32 1) rfl (wo rfl) rfl rfl (f_load (j := 1) (off := 2) ta24 rfl rfl rfl rfl) (nf rfl) ?_
  refine W.pure (v := ptr b2 2) rfl (wo rfl) rfl rfl (p_fieldAddr tf49_2 rfl rfl) (nf rfl) ?_
  refine W.quiet (v := .int .u32 1) rfl (wo rfl) rfl rfl (f_load (j := 0) (off := 2) ta24 rfl rfl rfl rfl) (nf rfl) ?_
  refine W.pure (v := .bool true) rfl (wo rfl) rfl rfl (p_bin (fun w => by kernel_rfl) (fun w => by kernel_rfl) rfl rfl rfl) (nf rfl) ?_
  refine W.pure (v := .bool true) rfl (wo rfl) rfl rfl (p_pick_true rfl rfl rfl) (nf rfl) ?_
  refine W.pure (v := .bool true) rfl (wo rfl) rfl rfl (p_move rfl rfl) (nf rfl) ?_
  refine W.pure (v := ptr b1 3) rfl (wo rfl) rfl rfl (p_fieldAddr tf49_3 rfl rfl) (nf rfl) ?_
  refine W.quiet (v := .int .u32 0) rfl (wo rfl) rfl rfl (f_load (j := 1) (off := 3) ta24 rfl rfl rfl rfl) (nf rfl) ?_
  refine W.pure (v := ptr b2 3) rfl (wo rfl) rfl rfl (p_fieldAddr tf49_3 rfl rfl) (nf rfl) ?_
  refine W.quiet (v := .int .u32 0) rfl (wo rfl) rfl rfl (f_load (j := 0) (off := 3) ta24 rfl rfl rfl rfl) (nf rfl) ?_
  refine W.pure (v := .bool true) rfl (wo rfl) rfl rfl (p_bin (fun w => by kernel_rfl) (fun w => by kernel_rfl) rfl rfl rfl) (nf rfl) ?_
  refine W.pure (v := .bool true) rfl (wo rfl) rfl rfl (p_pick_true rfl rfl rfl) (nf rfl) ?_
  refine W.pure (v := .bool true) rfl (wo rfl) rfl rfl (p_move rfl rfl) (nf rfl) ?_
  refine W.pure (v := ptr b1 4) rfl (wo rfl) rfl rfl (p_fieldAddr tf49_4 rfl rfl) (nf rfl) ?_
  refine W.quiet (v := .int .i64 0) rfl (wo rfl) rfl rfl (f_load (j := 1) (off := 4) ta30 rfl rfl rfl rfl) (nf rfl) ?_
  refine W.pure (v := ptr b2 4) rfl (wo rfl) rfl rfl (p_fieldAddr tf49_4 rfl rfl) (nf rfl) ?_
  refine W.quiet (v := .int .i64 0) rfl (wo rfl) rfl rfl (f_load (j := 0) (off := 4) ta30 rfl rfl rfl rfl) (nf rfl) ?_
  refine W.pure (v := .bool true) rfl (wo rfl) rfl rfl (p_bin (fun w => by kernel_rfl) (fun w => by kernel_rfl) rfl rfl rfl) (nf rfl) ?_
  refine W.pure (v := .bool true) rfl (wo rfl) rfl rfl (p_pick_true rfl rfl rfl) (nf rfl) ?_
  refine W.pure (v := .bool true) rfl (wo rfl) rfl rfl (p_move rfl rfl) (nf rfl) ?_
  refine W.pure (v := ptr b1 5) rfl (wo rfl) rfl rfl (p_fieldAddr tf49_5 rfl rfl) (nf rfl) ?_
  refine W.quiet (v := .int .i64 0) rfl (wo rfl) rfl rfl (f_load (j := 1) (off := 5) ta32 rfl rfl rfl rfl) (nf rfl) ?_
  refine W.pure (v := ptr b2 5) rfl (wo rfl) rfl rfl (p_fieldAddr tf49_5 rfl rfl) (nf rfl) ?_
  refine W.quiet (v := .int .i64 0) rfl (wo rfl) rfl rfl (f_load (j := 0) (off := 5) ta32 rfl rfl rfl rfl) (nf rfl) ?_
  refine W.pure (v := .bool true) rfl (wo rfl) rfl rfl (p_bin (fun w => by kernel_rfl) (fun w => by kernel_rfl) rfl rfl rfl) (nf rfl) ?_
  refine W.pure (v := .bool true) rfl (wo rfl) rfl rfl (p_pick_true rfl rfl rfl) (nf rfl) ?_
  refine W.pure (v := .bool true) rfl (wo rfl) rfl rfl (p_move rfl rfl) (nf rfl) ?_
  refine W.pure (v := ptr b1 6) rfl (wo rfl) rfl rfl (p_fieldAddr tf49_6 rfl rfl) (nf rfl) ?_
  refine W.quiet (v := .agg kc7) rfl (wo rfl) rfl rfl (f_loadSubA (j := 1) (off := 6) (vs := [.int .u8 0, .int .u8 0, .int .u8 0, .int .u8 0, .int .u8 0, .int .u8 0, .int .u8 0, .int .u8 0, .int .u8 0, .int .u8 0, .int .u8 0, .int .u8 0, .int .u8 0, .int .u8 0, .int .u8 0, .int .u8 0, .int .u8 0, .int .u8 0, .int .u8 0, .int .u8 0, .int .u8 0, .int .u8 0, .int .u8 0, .int .u8 0, .int .u8 0, .int .u8 0, .int .u8 0, .int .u8 0, .int .u8 0, .int .u8 0, .int .u8 0, .int .u8 0]) ta46 ts46 rfl rfl rfl rfl rfl) (nf rfl) ?_
  refine W.pure (v := ptr b2 6) rfl (wo rfl) rfl rfl (p_fieldAddr tf49_6 rfl rfl) (nf rfl) ?_
  refine W.quiet (v := .agg kc7) rfl (wo rfl) rfl rfl (f_loadSubA (j := 0) (off := 6) (vs := [.int .u8 0, .int .u8 0, .int .u8 0, .int .u8 0, .int .u8 0, .int .u8 0, .int .u8 0, .int .u8 0, .int .u8 0, .int .u8 0, .int .u8 0, .int .u8 0, .int .u8 0, .int .u8 0, .int .u8 0, .int .u8 0, .int .u8 0, .int .u8 0, .int .u8 0, .int .u8 0, .int .u8 0, .int .u8 0, .int .u8 0, .int .u8 0, .int .u8 0, .int .u8 0, .int .u8 0, .int .u8 0, .int .u8 0, .int .u8 0, .int .u8 0, .int .u8 0]) ta46 ts46 rfl rfl rfl rfl rfl) (nf rfl) ?_
  refine W.pure (v := .bool true) rfl (wo rfl) rfl rfl (p_bin (fun w => by kernel_rfl) (fun w => by kernel_rfl) rfl rfl rfl) (nf rfl) ?_
  refine W.pure (v := .bool true) rfl (wo rfl) rfl rfl (p_pick_true rfl rfl rfl) (nf rfl) ?_
  refine W.pure (v := .bool true) rfl (wo rfl) rfl rfl (p_move rfl rfl) (nf rfl) ?_
  refine W.pure (v := ptr b1 38) rfl (wo rfl) rfl rfl (p_fieldAddr tf49_7 rfl rfl) (nf rfl) ?_
  refine W.quiet (v := .slice none 0 0) rfl (wo rfl) rfl rfl (f_load (j := 1) (off := 38) ta47 rfl rfl rfl rfl) (nf rfl) ?_
  refine W.pure (v := ptr b2 38) rfl (wo rfl) rfl rfl (p_fieldAddr tf49_7 rfl rfl) (nf rfl) ?_
  refine W.quiet (v := .slice none 0 0) rfl (wo rfl) rfl rfl (f_load (j := 0) (off := 38) ta47 rfl rfl rfl rfl) (nf rfl) ?_
  refine W.cP (E := []) (R := [(some b2, .cells kc9 49 (0, 0)), (some b1, .cells kc9 49 (0, 0))]) (caps := #[]) rfl (wo rfl) rfl rfl [0, 1] rfl rfl (cw58_30) rfl (en58 _) rfl rfl rfl (args_val rfl) ?_
  intro _
  refine W.heapIs (H2 := [(some b2, .cells kc9 49 (0, 0)), (some b1, .cells kc9 49 (0, 0))]) rfl ?_
  refine W.pure (v := .bool true) rfl (wo rfl) rfl rfl (p_pick_true rfl rfl rfl) (nf rfl) ?_
  refine W.pure (v := .bool true) rfl (wo rfl) rfl rfl (p_assign rfl rfl) (nf rfl) ?_
  refine W.doneQ (y := sub [1, 1] B41) rfl ?_
  exact C.ret (R := fun e w' => ∃ _x : Unit, e = .returned (.bool true) ∧ Cls w0 I' [] w') (rs := [.tmp 4]) (vs := [.bool true]) rfl Tryd.func41 rfl rfl rfl (res_cons (ResV.tmp rfl) res_nil) fun w1 hc1 => ⟨(), rfl, hc1.pick [] (by decide)⟩
set_option maxHeartbeats 20000000 in
theorem cw26_49 {I : Mem} : Turn I 26 #[.agg kc9] [] (fun _ : Unit => .bool true) (fun _ => []) := fun I' he w0 w hc => by
  refine calls_of_CW (N := 69) Tryd.func26 (show _ = some B26 by kernel_rfl) (by kernel_rfl) rfl (S := [(0, .agg kc9)]) (by simp) hc ?_
  show CW _ _ _ (sub [] B26) _ _ _
  refine C.seq (x := sub [0] B26) (y := sub [1] B26) ?_
  refine C.region (id := 0) (m := 2) (ops := opsOf (sub [0] B26)) rfl ?_
  refine W.new rfl (wo rfl) rfl rfl (f_box (v := .agg kc9) rfl rfl) (nf rfl) ?_
  intro b1 _
  refine W.heapIs (H2 := [(some b1, .cells kc9 49 (0, 0))]) rfl ?_
  refine W.pure (v := .bool false) rfl (wo rfl) rfl rfl (p_assign rfl rfl) (nf rfl) ?_
  refine W.doneQ (y := sub [1] B26) rfl ?_
  refine C.seq (x := sub [1, 0] B26) (y := sub [1, 1] B26) ?_
  refine C.seq (x := sub [1, 0, 0] B26) (y := sub [1, 0, 1] B26) ?_
  refine C.regionD (id := 1) (ops := opsOf (sub [1, 0, 0] B26)) [0, 1, 2, 3, 4, 5, 6, 7, 8, 9, 10] [0, 0, 2, 7, 15, 31, 63, 127, 255, 511, 1023] [(.quiet, none), (.quiet, none), (.keep, none), (.keep, none), (.pure, none), (.pure, none), (.pure, none), (.quiet, none), (.keep, none), (.pure, none), (.pure, none)] (by kernel_rfl) ?_
  intro wD1 hl1
  refine DV.quiet (v := .agg kc9) rfl (wo rfl) rfl rfl rfl (f_loadA (j := 0) ta49 ts49 rfl rfl rfl rfl) ?_
  refine DV.quiet (v := .agg kc9) rfl (wo rfl) rfl rfl rfl (f_loadA (j := 0) ta49 ts49 rfl rfl rfl rfl) ?_
  refine DV.cPk (E := []) (R := [(some b1, .cells kc9 49 (0, 0))]) (caps := #[]) rfl (wo rfl) rfl rfl rfl [0] rfl rfl (cw42_50) (fun x p hp => hp) rfl (en42 _) rfl rfl rfl (args_val rfl) ?_
  intro _
  refine DV.cPk (E := []) (R := [(some b1, .cells kc9 49 (0, 0))]) (caps := #[]) rfl (wo rfl) rfl rfl rfl [0] rfl rfl (cw41_53) (fun x p hp => hp) rfl (en41 _) rfl rfl rfl (args_val rfl) ?_
  intro _
  refine DV.pure (v := .bool false) rfl (wo rfl) rfl rfl rfl (p_not (p := true) rfl rfl) ?_
  refine DV.pure (v := .bool false) rfl (wo rfl) rfl rfl rfl (p_move rfl rfl) ?_
  refine DV.pure (v := ptr b1 1) rfl (wo rfl) rfl rfl rfl (p_fieldAddr tf49_1 rfl rfl) ?_
  refine DV.quiet (v := .int .i64 9) rfl (wo rfl) rfl rfl rfl (f_load (j := 0) (off := 1) ta44 rfl rfl rfl rfl) ?_
  refine DV.cPk (E := []) (R := [(some b1, .cells kc9 49 (0, 0))]) (caps := #[]) rfl (wo rfl) rfl rfl rfl [0] rfl rfl (cw43_51) (fun x p hp => hp) rfl (en43 _) rfl rfl rfl (args_val rfl) ?_
  intro _
  refine DV.pure (v := .bool false) rfl (wo rfl) rfl rfl rfl (p_bin (fun w => by kernel_rfl) (fun w => by kernel_rfl) rfl rfl rfl) ?_
  refine DV.pure (v := .bool false) rfl (wo rfl) rfl rfl rfl (p_pick_false rfl rfl rfl) ?_
  refine DW.doneQ (y := sub [1, 0, 1] B26) hl1 rfl ?_
  refine C.cond_false (x := sub [1, 0, 1, 0] B26) (y := sub [1, 0, 1, 1] B26) rfl rfl ?_
  refine C.skipQ (y := sub [1, 1] B26) rfl ?_
  refine C.seq (x := sub [1, 1, 0] B26) (y := sub [1, 1, 1] B26) ?_
  refine C.region (id := 3) (m := 1) (ops := opsOf (sub [1, 1, 0] B26)) rfl ?_
  refine W.pure (v := .int .i64 1024) rfl (wo rfl) rfl rfl (p_assign rfl rfl) (nf rfl) ?_
  refine W.doneQ (y := sub [1, 1, 1] B26) rfl ?_
  refine C.seq (x := sub [1, 1, 1, 0] B26) (y := sub [1, 1, 1, 1] B26) ?_
  refine C.seq (x := sub [1, 1, 1, 0, 0] B26) (y := sub [1, 1, 1, 0, 1] B26) ?_
  refine C.region (id := 4) (m := 8) (ops := opsOf (sub [1, 1, 1, 0, 0] B26)) rfl ?_
  refine W.pure (v := ptr b1 1) rfl (wo rfl) rfl rfl (p_fieldAddr tf49_1 rfl rfl) (nf rfl) ?_
  refine W.quiet (v := .int .i64 9) rfl (wo rfl) rfl rfl (f_load (j := 0) (off := 1) ta44 rfl rfl rfl rfl) (nf rfl) ?_
  refine W.pure (v := .bool false) rfl (wo rfl) rfl rfl (p_bin (fun w => by kernel_rfl) (fun w => by kernel_rfl) rfl rfl rfl) (nf rfl) ?_
  refine W.pure (v := .bool false) rfl (wo rfl) rfl rfl (p_move rfl rfl) (nf rfl) ?_
  refine W.pure (v := ptr b1 1) rfl (wo rfl) rfl rfl (p_fieldAddr tf49_1 rfl rfl) (nf rfl) ?_
  refine W.quiet (v := .int .i64 9) rfl (wo rfl) rfl rfl (f_load (j := 0) (off := 1) ta44 rfl rfl rfl rfl) (nf rfl) ?_
  refine W.pure (v := .bool false) rfl (wo rfl) rfl rfl (p_bin (fun w => by kernel_rfl) (fun w => by kernel_rfl) rfl rfl rfl) (nf rfl) ?_
  refine W.pure (v := .bool false) rfl (wo rfl) rfl rfl (p_pick_false rfl rfl rfl) (nf rfl) ?_
  refine W.doneQ (y := sub [1, 1, 1, 0, 1] B26) rfl ?_
  refine C.cond_false (x := sub [1, 1, 1, 0, 1, 0] B26) (y := sub [1, 1, 1, 0, 1, 1] B26) rfl rfl ?_
  refine C.skipQ (y := sub [1, 1, 1, 1] B26) rfl ?_
  refine C.seq (x := sub [1, 1, 1, 1, 0] B26) (y := sub [1, 1, 1, 1, 1] B26) ?_
  refine C.seq (x := sub [1, 1, 1, 1, 0, 0] B26) (y := sub [1, 1, 1, 1, 0, 1] B26) ?_
  refine C.region (id := 6) (m := 4) (ops := opsOf (sub [1, 1, 1, 1, 0, 0] B26)) rfl ?_
  refine W.pure (v := ptr b1 1) rfl (wo rfl) rfl rfl (p_fieldAddr tf49_1 rfl rfl) (nf rfl) ?_
  refine W.quiet (v := .int .i64 9) rfl (wo rfl) rfl rfl (f_load (j := 0) (off := 1) ta44 rfl rfl rfl rfl) (nf rfl) ?_
  refine W.cP (E := []) (R := [(some b1, .cells kc9 49 (0, 0))]) (caps := #[]) rfl (wo rfl) rfl rfl [0] rfl rfl (cw43_51) rfl (en43 _) rfl rfl rfl (args_val rfl) ?_
  intro _
  refine W.heapIs (H2 := [(some b1, .cells kc9 49 (0, 0))]) rfl ?_
  refine W.new rfl (wo rfl) rfl rfl (f_rangeStr (s := ⟨#[104]⟩) us9 rfl rfl) (nf rfl) ?_
  intro b2 _
  refine W.heapIs (H2 := [(some b2, .stringIter ⟨#[104]⟩ 0), (some b1, .cells kc9 49 (0, 0))]) rfl ?_
  refine W.doneQ (y := sub [1, 1, 1, 1, 0, 1] B26) rfl ?_
  refine C.loopB (id := 0) (c := sub [1, 1, 1, 1, 0, 1, 0, 0] B26) (y := sub [1, 1, 1, 1, 1] B26) (fun q : Nat => 1 - q) (fun q : Nat => match q with | 0 => [(0, .agg kc9), (1, ptr b1 0), (3, .int .i64 1024), (6, .agg kc9), (7, .agg kc9), (8, .agg kc9), (9, .bool true), (10, .bool false), (11, .bool false), (12, ptr b1 1), (13, .int .i64 9), (14, str [104]), (15, .bool false), (16, .bool false), (17, ptr b1 1), (18, .int .i64 9), (19, .bool false), (20, .bool false), (21, ptr b1 1), (22, .int .i64 9), (23, .bool false), (24, .bool false), (25, ptr b1 1), (26, .int .i64 9), (27, str [104]), (28, ptr b2 0)] | _ => [(0, .agg kc9), (1, ptr b1 0), (3, .int .i64 1024), (6, .agg kc9), (7, .agg kc9), (8, .agg kc9), (9, .bool true), (10, .bool false), (11, .bool false), (12, ptr b1 1), (13, .int .i64 9), (14, str [104]), (15, .bool false), (16, .bool false), (17, ptr b1 1), (18, .int .i64 9), (19, .bool false), (20, .bool false), (21, ptr b1 1), (22, .int .i64 9), (23, .bool false), (24, .bool false), (25, ptr b1 1), (26, .int .i64 9), (27, str [104]), (28, ptr b2 0)]) (fun q : Nat => match q with | 0 => [(some b2, .stringIter ⟨#[104]⟩ 0), (some b1, .cells kc9 49 (0, 0))] | _ => [(some b2, .stringIter ⟨#[104]⟩ 1), (some b1, .cells kc9 49 (0, 0))]) (fun q => q ≤ 1) 0 (Nat.zero_le _) (Sub.cons rfl (Sub.cons rfl (Sub.cons rfl (Sub.cons rfl (Sub.cons rfl (Sub.cons rfl (Sub.cons rfl (Sub.cons rfl (Sub.cons rfl (Sub.cons rfl (Sub.cons rfl (Sub.cons rfl (Sub.cons rfl (Sub.cons rfl (Sub.cons rfl (Sub.cons rfl (Sub.cons rfl (Sub.cons rfl (Sub.cons rfl (Sub.cons rfl (Sub.cons rfl (Sub.cons rfl (Sub.cons rfl (Sub.cons rfl (Sub.cons rfl (Sub.cons rfl (Sub.nil _))))))))))))))))))))))))))) rfl rfl (fun q => q = 1) ?_ ?_
  · intro q hq Q' hN hE hR
    have hq2 : q = 0 ∨ q = 1 := by omega
    rcases hq2 with rfl | rfl
    · show CW _ _ _ _ _ [(0, .agg kc9), (1, ptr b1 0), (3, .int .i64 1024), (6, .agg kc9), (7, .agg kc9), (8, .agg kc9), (9, .bool true), (10, .bool false), (11, .bool false), (12, ptr b1 1), (13, .int .i64 9), (14, str [104]), (15, .bool false), (16, .bool false), (17, ptr b1 1), (18, .int .i64 9), (19, .bool false), (20, .bool false), (21, ptr b1 1), (22, .int .i64 9), (23, .bool false), (24, .bool false), (25, ptr b1 1), (26, .int .i64 9), (27, str [104]), (28, ptr b2 0)] ([(some b2, .stringIter ⟨#[104]⟩ 0), (some b1, .cells kc9 49 (0, 0))])
      refine C.seq (x := sub [1, 1, 1, 1, 0, 1, 0, 0, 0] B26) (y := sub [1, 1, 1, 1, 0, 1, 0, 0, 1] B26) ?_
      refine C.region (id := 7) (m := 2) (ops := opsOf (sub [1, 1, 1, 1, 0, 1, 0, 0, 0] B26)) rfl ?_
      refine W.act (X := Unit) (u := fun _ => .tuple #[.bool true, .int .i64 0, .int .i32 104]) (H' := fun _ => [(some b2, .stringIter ⟨#[104]⟩ 1), (some b1, .cells kc9 49 (0, 0))]) rfl (wo rfl) rfl rfl (f_nextStr (j := 0) (pos := 0) (c := 104) (wd := 1) rfl (by decide) (by kernel_rfl) rfl rfl) (nf rfl) ?_
      intro _
      refine W.pure (v := .bool true) rfl (wo rfl) rfl rfl (p_extract rfl rfl rfl) (nf rfl) ?_
      refine W.doneQ (y := sub [1, 1, 1, 1, 0, 1, 0, 0, 1] B26) rfl ?_
      refine C.seq (x := sub [1, 1, 1, 1, 0, 1, 0, 0, 1, 0] B26) (y := sub [1, 1, 1, 1, 0, 1, 0, 0, 1, 1] B26) ?_
      refine C.cond_true (x := sub [1, 1, 1, 1, 0, 1, 0, 0, 1, 0, 0] B26) (y := sub [1, 1, 1, 1, 0, 1, 0, 0, 1, 0, 1] B26) rfl rfl ?_
      refine C.skipQ (y := sub [1, 1, 1, 1, 0, 1, 0, 0, 1, 1] B26) rfl ?_
      refine C.block (id := 1) (c := sub [1, 1, 1, 1, 0, 1, 0, 0, 1, 1, 0] B26) ?_
      refine C.seq (x := sub [1, 1, 1, 1, 0, 1, 0, 0, 1, 1, 0, 0] B26) (y := sub [1, 1, 1, 1, 0, 1, 0, 0, 1, 1, 0, 1] B26) ?_
      refine C.region (id := 8) (m := 2) (ops := opsOf (sub [1, 1, 1, 1, 0, 1, 0, 0, 1, 1, 0, 0] B26)) rfl ?_
      refine W.pure (v := .int .i32 104) rfl (wo rfl) rfl rfl (p_extract rfl rfl rfl) (nf rfl) ?_
      refine W.pure (v := .int .i32 104) rfl (wo rfl) rfl rfl (p_assign rfl rfl) (nf rfl) ?_
      refine W.doneQ (y := sub [1, 1, 1, 1, 0, 1, 0, 0, 1, 1, 0, 1] B26) rfl ?_
      refine C.seq (x := sub [1, 1, 1, 1, 0, 1, 0, 0, 1, 1, 0, 1, 0] B26) (y := sub [1, 1, 1, 1, 0, 1, 0, 0, 1, 1, 0, 1, 1] B26) ?_
      refine C.region (id := 9) (m := 37) (ops := opsOf (sub [1, 1, 1, 1, 0, 1, 0, 0, 1, 1, 0, 1, 0] B26)) rfl ?_
      refine W.pure (v := .int .i32 104) rfl (wo rfl) rfl rfl (p_move rfl rfl) (nf rfl) ?_
      refine W.pure (v := .bool false) rfl (wo rfl) rfl rfl (p_bin (fun w => by kernel_rfl) (fun w => by kernel_rfl) rfl rfl rfl) (nf rfl) ?_
      refine W.pure (v := .bool false) rfl (wo rfl) rfl rfl (p_move rfl rfl) (nf rfl) ?_
      refine W.not rfl (wo rfl) rfl rfl ?_
      refine W.not rfl (wo rfl) rfl rfl ?_
      refine W.not rfl (wo rfl) rfl rfl ?_
      refine W.not rfl (wo rfl) rfl rfl ?_
      refine W.not rfl (Wn.undef rfl rfl rfl) rfl rfl ?_
      refine W.not rfl (Wn.undef rfl rfl rfl) rfl rfl ?_
      refine W.not rfl (Wn.undef rfl rfl rfl) rfl rfl ?_
      refine W.not rfl (wo rfl) rfl rfl ?_
      refine W.pure (v := .bool false) rfl (wo rfl) rfl rfl (p_pick_false rfl rfl rfl) (nf rfl) ?_
      refine W.pure (v := .bool false) rfl (wo rfl) rfl rfl (p_move rfl rfl) (nf rfl) ?_
      refine W.pure (v := .int .i32 104) rfl (wo rfl) rfl rfl (p_move rfl rfl) (nf rfl) ?_
      refine W.pure (v := .bool false) rfl (wo rfl) rfl rfl (p_bin (fun w => by kernel_rfl) (fun w => by kernel_rfl) rfl rfl rfl) (nf rfl) ?_
      refine W.pure (v := .bool false) rfl (wo rfl) rfl rfl (p_move rfl rfl) (nf rfl) ?_
      refine W.not rfl (wo rfl) rfl rfl ?_
      refine W.not rfl (wo rfl) rfl rfl ?_
      refine W.not rfl (wo rfl) rfl rfl ?_
      refine W.not rfl (wo rfl) rfl rfl ?_
      refine W.not rfl (Wn.undef rfl rfl rfl) rfl rfl ?_
      refine W.not rfl (Wn.undef rfl rfl rfl) rfl rfl ?_
      refine W.not rfl (Wn.undef rfl rfl rfl) rfl rfl ?_
      refine W.not rfl (wo rfl) rfl rfl ?_
      refine W.pure (v := .bool false) rfl (wo rfl) rfl rfl (p_pick_false rfl rfl rfl) (nf rfl) ?_
      refine W.pure (v := .bool false) rfl (wo rfl) rfl rfl (p_pick_false rfl rfl rfl) (nf rfl) ?_
      refine W.pure (v := .bool false) rfl (wo rfl) rfl rfl (p_move rfl rfl) (nf rfl) ?_
      refine W.pure (v := .int .i32 104) rfl (wo rfl) rfl rfl (p_move rfl rfl) (nf rfl) ?_
      refine W.pure (v := .bool false) rfl (wo rfl) rfl rfl (p_bin (fun w => by kernel_rfl) (fun w => by kernel_rfl) rfl rfl rfl) (nf rfl) ?_
      refine W.pure (v := .bool false) rfl (wo rfl) rfl rfl (p_move rfl rfl) (nf rfl) ?_
      refine W.not rfl (wo rfl) rfl rfl ?_
      refine W.not rfl (wo rfl) rfl rfl ?_
      refine W.not rfl (wo rfl) rfl rfl ?_
      refine W.not rfl (wo rfl) rfl rfl ?_
      refine W.not rfl (wo rfl) rfl rfl ?_
      refine W.pure (v := .bool false) rfl (wo rfl) rfl rfl (p_pick_false rfl rfl rfl) (nf rfl) ?_
      refine W.pure (v := .bool false) rfl (wo rfl) rfl rfl (p_pick_false rfl rfl rfl) (nf rfl) ?_
      refine W.doneQ (y := sub [1, 1, 1, 1, 0, 1, 0, 0, 1, 1, 0, 1, 1] B26) rfl ?_
      refine C.cond_false (x := sub [1, 1, 1, 1, 0, 1, 0, 0, 1, 1, 0, 1, 1, 0] B26) (y := sub [1, 1, 1, 1, 0, 1, 0, 0, 1, 1, 0, 1, 1, 1] B26) rfl rfl ?_
      exact C.skipE fun a1 w1 ha1 hc1 => hN 1 (by decide) (by decide) a1 w1 (ha1.sub (Sub.cons rfl (Sub.cons rfl (Sub.cons rfl (Sub.cons rfl (Sub.cons rfl (Sub.cons rfl (Sub.cons rfl (Sub.cons rfl (Sub.cons rfl (Sub.cons rfl (Sub.cons rfl (Sub.cons rfl (Sub.cons rfl (Sub.cons rfl (Sub.cons rfl (Sub.cons rfl (Sub.cons rfl (Sub.cons rfl (Sub.cons rfl (Sub.cons rfl (Sub.cons rfl (Sub.cons rfl (Sub.cons rfl (Sub.cons rfl (Sub.cons rfl (Sub.cons rfl (Sub.nil _)))))))))))))))))))))))))))) (hc1.pick [0, 1] (by decide))
    · show CW _ _ _ _ _ [(0, .agg kc9), (1, ptr b1 0), (3, .int .i64 1024), (6, .agg kc9), (7, .agg kc9), (8, .agg kc9), (9, .bool true), (10, .bool false), (11, .bool false), (12, ptr b1 1), (13, .int .i64 9), (14, str [104]), (15, .bool false), (16, .bool false), (17, ptr b1 1), (18, .int .i64 9), (19, .bool false), (20, .bool false), (21, ptr b1 1), (22, .int .i64 9), (23, .bool false), (24, .bool false), (25, ptr b1 1), (26, .int .i64 9), (27, str [104]), (28, ptr b2 0)] ([(some b2, .stringIter ⟨#[104]⟩ 1), (some b1, .cells kc9 49 (0, 0))])
      refine C.seq (x := sub [1, 1, 1, 1, 0, 1, 0, 0, 0] B26) (y := sub [1, 1, 1, 1, 0, 1, 0, 0, 1] B26) ?_
      refine C.region (id := 7) (m := 2) (ops := opsOf (sub [1, 1, 1, 1, 0, 1, 0, 0, 0] B26)) rfl ?_
      refine W.quiet (v := .tuple #[.bool false]) rfl (wo rfl) rfl rfl (f_nextEnd (j := 0) rfl (by decide) rfl rfl) (nf rfl) ?_
      refine W.pure (v := .bool false) rfl (wo rfl) rfl rfl (p_extract rfl rfl rfl) (nf rfl) ?_
      refine W.doneQ (y := sub [1, 1, 1, 1, 0, 1, 0, 0, 1] B26) rfl ?_
      refine C.seq (x := sub [1, 1, 1, 1, 0, 1, 0, 0, 1, 0] B26) (y := sub [1, 1, 1, 1, 0, 1, 0, 0, 1, 1] B26) ?_
      refine C.cond_false (x := sub [1, 1, 1, 1, 0, 1, 0, 0, 1, 0, 0] B26) (y := sub [1, 1, 1, 1, 0, 1, 0, 0, 1, 0, 1] B26) rfl rfl ?_
      exact C.exit fun a1 w1 ha1 hc1 => hE rfl a1 w1 (ha1.sub (Sub.cons rfl (Sub.cons rfl (Sub.cons rfl (Sub.cons rfl (Sub.cons rfl (Sub.cons rfl (Sub.cons rfl (Sub.cons rfl (Sub.cons rfl (Sub.cons rfl (Sub.cons rfl (Sub.cons rfl (Sub.cons rfl (Sub.cons rfl (Sub.cons rfl (Sub.cons rfl (Sub.cons rfl (Sub.cons rfl (Sub.cons rfl (Sub.cons rfl (Sub.cons rfl (Sub.cons rfl (Sub.cons rfl (Sub.cons rfl (Sub.cons rfl (Sub.cons rfl (Sub.nil _)))))))))))))))))))))))))))) hc1
  intro q hq hqe
  subst hqe
  show CW _ _ _ _ _ [(0, .agg kc9), (1, ptr b1 0), (3, .int .i64 1024), (6, .agg kc9), (7, .agg kc9), (8, .agg kc9), (9, .bool true), (10, .bool false), (11, .bool false), (12, ptr b1 1), (13, .int .i64 9), (14, str [104]), (15, .bool false), (16, .bool false), (17, ptr b1 1), (18, .int .i64 9), (19, .bool false), (20, .bool false), (21, ptr b1 1), (22, .int .i64 9), (23, .bool false), (24, .bool false), (25, ptr b1 1), (26, .int .i64 9), (27, str [104]), (28, ptr b2 0)] ([(some b2, .stringIter ⟨#[104]⟩ 1), (some b1, .cells kc9 49 (0, 0))])
  refine C.seq (x := sub [1, 1, 1, 1, 1, 0] B26) (y := sub [1, 1, 1, 1, 1, 1] B26) ?_
  refine C.region (id := 11) (m := 1) (ops := opsOf (sub [1, 1, 1, 1, 1, 0] B26)) rfl ?_
  refine W.pure (v := .bool true) rfl (wo rfl) rfl rfl (p_assign rfl rfl) (nf rfl) ?_
  refine W.doneQ (y := sub [1, 1, 1, 1, 1, 1] B26) rfl ?_
  exact C.ret (R := fun e w' => ∃ _x : Unit, e = .returned (.bool true) ∧ Cls w0 I' [] w') (rs := [.tmp 2]) (vs := [.bool true]) rfl Tryd.func26 rfl rfl rfl (res_cons (ResV.tmp rfl) res_nil) fun w1 hc1 => ⟨(), rfl, hc1.pick [] (by decide)⟩
theorem ts61 (w : World) : (sizeOf 61).run Tryd.prog w = .ok 5 w := by kernel_rfl
theorem tf61_0 (a : Addr) (w : World) : (Instr.fieldAt 61 (.pointer (some a)) 0).run Tryd.prog w = .ok (.pointer (some (a.add 0))) w := by kernel_rfl
noncomputable def B47 : Code := bodyOf Tryd.f47
noncomputable def B69 : Code := bodyOf Tryd.f69
theorem tu123 (w : World) : (underlying 123).run Tryd.prog w = .ok (.map 44 71) w := by kernel_rfl
noncomputable def B84 : Code := bodyOf Tryd.f84
set_option maxHeartbeats 20000000 in
theorem cw84_57 {I : Mem} : Turn I 84 #[.int .i64 4] [] (fun x : Nat => .func (.func 85) #[] #[ptr x 0]) (fun x => [(some x, .cells (#[.int .i64 4]) 32 (0, 0))]) := fun I' he w0 w hc => by
  refine calls_of_CW (N := 4) Tryd.func84 (show _ = some B84 by kernel_rfl) (by kernel_rfl) rfl (S := [(0, .int .i64 4)]) (by simp) hc ?_
  show CW _ _ _ (sub [] B84) _ _ _
  refine C.seq (x := sub [0] B84) (y := sub [1] B84) ?_
  refine C.region (id := 0) (m := 2) (ops := opsOf (sub [0] B84)) rfl ?_
  refine W.new rfl (wo rfl) rfl rfl (f_box (v := .int .i64 4) rfl rfl) (nf rfl) ?_
  intro b1 _
  refine W.heapIs (H2 := [(some b1, .cells (#[.int .i64 4]) 32 (0, 0))]) rfl ?_
  refine W.pure (v := .nilFunc) rfl (wo rfl) rfl rfl (p_assign rfl rfl) (nf rfl) ?_
  refine W.doneQ (y := sub [1] B84) rfl ?_
  refine C.seq (x := sub [1, 0] B84) (y := sub [1, 1] B84) ?_
  refine C.region (id := 1) (m := 2) (ops := opsOf (sub [1, 0] B84)) rfl ?_
  refine W.pure (v := .func (.func 85) #[] #[ptr b1 0]) rfl (wo rfl) rfl rfl (p_makeFunc rfl (args_val rfl)) (nf rfl) ?_
  refine W.pure (v := .func (.func 85) #[] #[ptr b1 0]) rfl (wo rfl) rfl rfl (p_assign rfl rfl) (nf rfl) ?_
  refine W.doneQ (y := sub [1, 1] B84) rfl ?_
  exact C.ret (R := fun e w' => ∃ x : Nat, e = .returned (.func (.func 85) #[] #[ptr x 0]) ∧ Cls w0 I' [(some x, .cells (#[.int .i64 4]) 32 (0, 0))] w') (rs := [.tmp 2]) (vs := [.func (.func 85) #[] #[ptr b1 0]]) rfl Tryd.func84 rfl rfl rfl (res_cons (ResV.tmp rfl) res_nil) fun w1 hc1 => ⟨b1, rfl, hc1.pick [0] (by decide)⟩
theorem en84 (args : Array Value) (w : World) : (callFunc 84 args).run Tryd.prog w = .ok (.enter 84 args) w := by kernel_rfl
set_option maxHeartbeats 20000000 in
theorem cw84_58 {I : Mem} : Turn I 84 #[.int .i64 8] [] (fun x : Nat => .func (.func 85) #[] #[ptr x 0]) (fun x => [(some x, .cells (#[.int .i64 8]) 32 (0, 0))]) := fun I' he w0 w hc => by
  refine calls_of_CW (N := 4) Tryd.func84 (show _ = some B84 by kernel_rfl) (by kernel_rfl) rfl (S := [(0, .int .i64 8)]) (by simp) hc ?_
  show CW _ _ _ (sub [] B84) _ _ _
  refine C.seq (x := sub [0] B84) (y := sub [1] B84) ?_
  refine C.region (id := 0) (m := 2) (ops := opsOf (sub [0] B84)) rfl ?_
  refine W.new rfl (wo rfl) rfl rfl (f_box (v := .int .i64 8) rfl rfl) (nf rfl) ?_
  intro b1 _
  refine W.heapIs (H2 := [(some b1, .cells (#[.int .i64 8]) 32 (0, 0))]) rfl ?_
  refine W.pure (v := .nilFunc) rfl (wo rfl) rfl rfl (p_assign rfl rfl) (nf rfl) ?_
  refine W.doneQ (y := sub [1] B84) rfl ?_
  refine C.seq (x := sub [1, 0] B84) (y := sub [1, 1] B84) ?_
  refine C.region (id := 1) (m := 2) (ops := opsOf (sub [1, 0] B84)) rfl ?_
  refine W.pure (v := .func (.func 85) #[] #[ptr b1 0]) rfl (wo rfl) rfl rfl (p_makeFunc rfl (args_val rfl)) (nf rfl) ?_
  refine W.pure (v := .func (.func 85) #[] #[ptr b1 0]) rfl (wo rfl) rfl rfl (p_assign rfl rfl) (nf rfl) ?_
  refine W.doneQ (y := sub [1, 1] B84) rfl ?_
  exact C.ret (R := fun e w' => ∃ x : Nat, e = .returned (.func (.func 85) #[] #[ptr x 0]) ∧ Cls w0 I' [(some x, .cells (#[.int .i64 8]) 32 (0, 0))] w') (rs := [.tmp 2]) (vs := [.func (.func 85) #[] #[ptr b1 0]]) rfl Tryd.func84 rfl rfl rfl (res_cons (ResV.tmp rfl) res_nil) fun w1 hc1 => ⟨b1, rfl, hc1.pick [0] (by decide)⟩
set_option maxHeartbeats 20000000 in
theorem cw84_59 {I : Mem} : Turn I 84 #[.int .i64 16] [] (fun x : Nat => .func (.func 85) #[] #[ptr x 0]) (fun x => [(some x, .cells (#[.int .i64 16]) 32 (0, 0))]) := fun I' he w0 w hc => by
  refine calls_of_CW (N := 4) Tryd.func84 (show _ = some B84 by kernel_rfl) (by kernel_rfl) rfl (S := [(0, .int .i64 16)]) (by simp) hc ?_
  show CW _ _ _ (sub [] B84) _ _ _
  refine C.seq (x := sub [0] B84) (y := sub [1] B84) ?_
  refine C.region (id := 0) (m := 2) (ops := opsOf (sub [0] B84)) rfl ?_
  refine W.new rfl (wo rfl) rfl rfl (f_box (v := .int .i64 16) rfl rfl) (nf rfl) ?_
  intro b1 _
  refine W.heapIs (H2 := [(some b1, .cells (#[.int .i64 16]) 32 (0, 0))]) rfl ?_
  refine W.pure (v := .nilFunc) rfl (wo rfl) rfl rfl (p_assign rfl rfl) (nf rfl) ?_
  refine W.doneQ (y := sub [1] B84) rfl ?_
  refine C.seq (x := sub [1, 0] B84) (y := sub [1, 1] B84) ?_
  refine C.region (id := 1) (m := 2) (ops := opsOf (sub [1, 0] B84)) rfl ?_
  refine W.pure (v := .func (.func 85) #[] #[ptr b1 0]) rfl (wo rfl) rfl rfl (p_makeFunc rfl (args_val rfl)) (nf rfl) ?_
  refine W.pure (v := .func (.func 85) #[] #[ptr b1 0]) rfl (wo rfl) rfl rfl (p_assign rfl rfl) (nf rfl) ?_
  refine W.doneQ (y := sub [1, 1] B84) rfl ?_
  exact C.ret (R := fun e w' => ∃ x : Nat, e = .returned (.func (.func 85) #[] #[ptr x 0]) ∧ Cls w0 I' [(some x, .cells (#[.int .i64 16]) 32 (0, 0))] w') (rs := [.tmp 2]) (vs := [.func (.func 85) #[] #[ptr b1 0]]) rfl Tryd.func84 rfl rfl rfl (res_cons (ResV.tmp rfl) res_nil) fun w1 hc1 => ⟨b1, rfl, hc1.pick [0] (by decide)⟩
set_option maxHeartbeats 20000000 in
theorem cw84_60 {I : Mem} : Turn I 84 #[.int .i64 1] [] (fun x : Nat => .func (.func 85) #[] #[ptr x 0]) (fun x => [(some x, .cells (#[.int .i64 1]) 32 (0, 0))]) := fun I' he w0 w hc => by
  refine calls_of_CW (N := 4) Tryd.func84 (show _ = some B84 by kernel_rfl) (by kernel_rfl) rfl (S := [(0, .int .i64 1)]) (by simp) hc ?_
  show CW _ _ _ (sub [] B84) _ _ _
  refine C.seq (x := sub [0] B84) (y := sub [1] B84) ?_
  refine C.region (id := 0) (m := 2) (ops := opsOf (sub [0] B84)) rfl ?_
  refine W.new rfl (wo rfl) rfl rfl (f_box (v := .int .i64 1) rfl rfl) (nf rfl) ?_
  intro b1 _
  refine W.heapIs (H2 := [(some b1, .cells (#[.int .i64 1]) 32 (0, 0))]) rfl ?_
  refine W.pure (v := .nilFunc) rfl (wo rfl) rfl rfl (p_assign rfl rfl) (nf rfl) ?_
  refine W.doneQ (y := sub [1] B84) rfl ?_
  refine C.seq (x := sub [1, 0] B84) (y := sub [1, 1] B84) ?_
  refine C.region (id := 1) (m := 2) (ops := opsOf (sub [1, 0] B84)) rfl ?_
  refine W.pure (v := .func (.func 85) #[] #[ptr b1 0]) rfl (wo rfl) rfl rfl (p_makeFunc rfl (args_val rfl)) (nf rfl) ?_
  refine W.pure (v := .func (.func 85) #[] #[ptr b1 0]) rfl (wo rfl) rfl rfl (p_assign rfl rfl) (nf rfl) ?_
  refine W.doneQ (y := sub [1, 1] B84) rfl ?_
  exact C.ret (R := fun e w' => ∃ x : Nat, e = .returned (.func (.func 85) #[] #[ptr x 0]) ∧ Cls w0 I' [(some x, .cells (#[.int .i64 1]) 32 (0, 0))] w') (rs := [.tmp 2]) (vs := [.func (.func 85) #[] #[ptr b1 0]]) rfl Tryd.func84 rfl rfl rfl (res_cons (ResV.tmp rfl) res_nil) fun w1 hc1 => ⟨b1, rfl, hc1.pick [0] (by decide)⟩
set_option maxHeartbeats 20000000 in
theorem cw84_61 {I : Mem} : Turn I 84 #[.int .i64 32] [] (fun x : Nat => .func (.func 85) #[] #[ptr x 0]) (fun x => [(some x, .cells (#[.int .i64 32]) 32 (0, 0))]) := fun I' he w0 w hc => by
  refine calls_of_CW (N := 4) Tryd.func84 (show _ = some B84 by kernel_rfl) (by kernel_rfl) rfl (S := [(0, .int .i64 32)]) (by simp) hc ?_
  show CW _ _ _ (sub [] B84) _ _ _
  refine C.seq (x := sub [0] B84) (y := sub [1] B84) ?_
  refine C.region (id := 0) (m := 2) (ops := opsOf (sub [0] B84)) rfl ?_
  refine W.new rfl (wo rfl) rfl rfl (f_box (v := .int .i64 32) rfl rfl) (nf rfl) ?_
  intro b1 _
  refine W.heapIs (H2 := [(some b1, .cells (#[.int .i64 32]) 32 (0, 0))]) rfl ?_
  refine W.pure (v := .nilFunc) rfl (wo rfl) rfl rfl (p_assign rfl rfl) (nf rfl) ?_
  refine W.doneQ (y := sub [1] B84) rfl ?_
  refine C.seq (x := sub [1, 0] B84) (y := sub [1, 1] B84) ?_
  refine C.region (id := 1) (m := 2) (ops := opsOf (sub [1, 0] B84)) rfl ?_
  refine W.pure (v := .func (.func 85) #[] #[ptr b1 0]) rfl (wo rfl) rfl rfl (p_makeFunc rfl (args_val rfl)) (nf rfl) ?_
  refine W.pure (v := .func (.func 85) #[] #[ptr b1 0]) rfl (wo rfl) rfl rfl (p_assign rfl rfl) (nf rfl) ?_
  refine W.doneQ (y := sub [1, 1] B84) rfl ?_
  exact C.ret (R := fun e w' => ∃ x : Nat, e = .returned (.func (.func 85) #[] #[ptr x 0]) ∧ Cls w0 I' [(some x, .cells (#[.int .i64 32]) 32 (0, 0))] w') (rs := [.tmp 2]) (vs := [.func (.func 85) #[] #[ptr b1 0]]) rfl Tryd.func84 rfl rfl rfl (res_cons (ResV.tmp rfl) res_nil) fun w1 hc1 => ⟨b1, rfl, hc1.pick [0] (by decide)⟩
set_option maxHeartbeats 20000000 in
theorem cw69_56 {I : Mem} : Turn I 69 #[] [] (fun x : Nat × Nat × Nat × Nat × Nat × Nat => .map (some (x.1))) (fun x => [(some (x.1), mobj .i64 [(3, .func (.func 86) #[] #[]), (11, .func (.func 86) #[] #[]), (10, .func (.func 86) #[] #[]), (4, .func (.func 87) #[] #[]), (5, .func (.func 85) #[] #[ptr (x.2.1) 0]), (7, .func (.func 85) #[] #[ptr (x.2.2.1) 0]), (8, .func (.func 85) #[] #[ptr (x.2.2.2.1) 0]), (9, .func (.func 85) #[] #[ptr (x.2.2.2.2.1) 0]), (12, .func (.func 85) #[] #[ptr (x.2.2.2.2.2) 0]), (13, .func (.func 88) #[] #[])]), (some (x.2.1), .cells (#[.int .i64 4]) 32 (0, 0)), (some (x.2.2.1), .cells (#[.int .i64 8]) 32 (0, 0)), (some (x.2.2.2.1), .cells (#[.int .i64 16]) 32 (0, 0)), (some (x.2.2.2.2.1), .cells (#[.int .i64 1]) 32 (0, 0)), (some (x.2.2.2.2.2), .cells (#[.int .i64 32]) 32 (0, 0))]) := fun I' he w0 w hc => by
  refine calls_of_CW (N := 18) Tryd.func69 (show _ = some B69 by kernel_rfl) (by kernel_rfl) rfl (S := []) (by simp) hc ?_
  show CW _ _ _ (sub [] B69) _ _ _
  refine C.seq (x := sub [0] B69) (y := sub [1] B69) ?_
  refine C.region (id := 0) (m := 1) (ops := opsOf (sub [0] B69)) rfl ?_
  refine W.pure (v := .map none) rfl (wo rfl) rfl rfl (p_assign rfl rfl) (nf rfl) ?_
  refine W.doneQ (y := sub [1] B69) rfl ?_
  refine C.seq (x := sub [1, 0] B69) (y := sub [1, 1] B69) ?_
  refine C.region (id := 1) (m := 1) (ops := opsOf (sub [1, 0] B69)) rfl ?_
  refine W.pure (v := .func (.func 84) #[] #[]) rfl (wo rfl) rfl rfl (p_assign rfl rfl) (nf rfl) ?_
  refine W.doneQ (y := sub [1, 1] B69) rfl ?_
  refine C.seq (x := sub [1, 1, 0] B69) (y := sub [1, 1, 1] B69) ?_
  refine C.region (id := 2) (m := 1) (ops := opsOf (sub [1, 1, 0] B69)) rfl ?_
  refine W.pure (v := .func (.func 86) #[] #[]) rfl (wo rfl) rfl rfl (p_assign rfl rfl) (nf rfl) ?_
  refine W.doneQ (y := sub [1, 1, 1] B69) rfl ?_
  refine C.seq (x := sub [1, 1, 1, 0] B69) (y := sub [1, 1, 1, 1] B69) ?_
  refine C.region (id := 3) (m := 26) (ops := opsOf (sub [1, 1, 1, 0] B69)) rfl ?_
  refine W.new rfl (wo rfl) rfl rfl (f_makeMap (k := .i64) rfl) (nf rfl) ?_
  intro b1 _
  refine W.heapIs (H2 := [(some b1, mobj .i64 [])]) rfl ?_
  refine W.pure (v := .func (.func 86) #[] #[]) rfl (wo rfl) rfl rfl (p_move rfl rfl) (nf rfl) ?_
  refine W.put (H' := [(some b1, mobj .i64 [(3, .func (.func 86) #[] #[])])]) rfl (wo rfl) rfl (f_insert (j := 0) (l := []) (v := .func (.func 86) #[] #[]) tu123 tu44 rfl rfl rfl rfl rfl rfl) (nf rfl) ?_
  refine W.pure (v := .func (.func 86) #[] #[]) rfl (wo rfl) rfl rfl (p_move rfl rfl) (nf rfl) ?_
  refine W.put (H' := [(some b1, mobj .i64 [(3, .func (.func 86) #[] #[]), (11, .func (.func 86) #[] #[])])]) rfl (wo rfl) rfl (f_insert (j := 0) (l := [(3, .func (.func 86) #[] #[])]) (v := .func (.func 86) #[] #[]) tu123 tu44 rfl rfl rfl rfl rfl rfl) (nf rfl) ?_
  refine W.pure (v := .func (.func 86) #[] #[]) rfl (wo rfl) rfl rfl (p_move rfl rfl) (nf rfl) ?_
  refine W.put (H' := [(some b1, mobj .i64 [(3, .func (.func 86) #[] #[]), (11, .func (.func 86) #[] #[]), (10, .func (.func 86) #[] #[])])]) rfl (wo rfl) rfl (f_insert (j := 0) (l := [(3, .func (.func 86) #[] #[]), (11, .func (.func 86) #[] #[])]) (v := .func (.func 86) #[] #[]) tu123 tu44 rfl rfl rfl rfl rfl rfl) (nf rfl) ?_
  refine W.put (H' := [(some b1, mobj .i64 [(3, .func (.func 86) #[] #[]), (11, .func (.func 86) #[] #[]), (10, .func (.func 86) #[] #[]), (4, .func (.func 87) #[] #[])])]) rfl (wo rfl) rfl (f_insert (j := 0) (l := [(3, .func (.func 86) #[] #[]), (11, .func (.func 86) #[] #[]), (10, .func (.func 86) #[] #[])]) (v := .func (.func 87) #[] #[]) tu123 tu44 rfl rfl rfl rfl rfl rfl) (nf rfl) ?_
  refine W.pure (v := .func (.func 84) #[] #[]) rfl (wo rfl) rfl rfl (p_move rfl rfl) (nf rfl) ?_
  refine W.cP (E := []) (R := [(some b1, mobj .i64 [(3, .func (.func 86) #[] #[]), (11, .func (.func 86) #[] #[]), (10, .func (.func 86) #[] #[]), (4, .func (.func 87) #[] #[])])]) (caps := #[]) rfl (wo rfl) rfl rfl [0] rfl rfl (cw84_57) rfl (en84 _) rfl rfl rfl (args_val rfl) ?_
  intro b2
  refine W.heapIs (H2 := [(some b2, .cells (#[.int .i64 4]) 32 (0, 0)), (some b1, mobj .i64 [(3, .func (.func 86) #[] #[]), (11, .func (.func 86) #[] #[]), (10, .func (.func 86) #[] #[]), (4, .func (.func 87) #[] #[])])]) rfl ?_
  refine W.put (H' := [(some b2, .cells (#[.int .i64 4]) 32 (0, 0)), (some b1, mobj .i64 [(3, .func (.func 86) #[] #[]), (11, .func (.func 86) #[] #[]), (10, .func (.func 86) #[] #[]), (4, .func (.func 87) #[] #[]), (5, .func (.func 85) #[] #[ptr b2 0])])]) rfl (wo rfl) rfl (f_insert (j := 1) (l := [(3, .func (.func 86) #[] #[]), (11, .func (.func 86) #[] #[]), (10, .func (.func 86) #[] #[]), (4, .func (.func 87) #[] #[])]) (v := .func (.func 85) #[] #[ptr b2 0]) tu123 tu44 rfl rfl rfl rfl rfl rfl) (nf rfl) ?_
  refine W.pure (v := .func (.func 84) #[] #[]) rfl (wo rfl) rfl rfl (p_move rfl rfl) (nf rfl) ?_
  refine W.cP (E := []) (R := [(some b2, .cells (#[.int .i64 4]) 32 (0, 0)), (some b1, mobj .i64 [(3, .func (.func 86) #[] #[]), (11, .func (.func 86) #[] #[]), (10, .func (.func 86) #[] #[]), (4, .func (.func 87) #[] #[]), (5, .func (.func 85) #[] #[ptr b2 0])])]) (caps := #[]) rfl (wo rfl) rfl rfl [0, 1] rfl rfl (cw84_58) rfl (en84 _) rfl rfl rfl (args_val rfl) ?_
  intro b3
  refine W.heapIs (H2 := [(some b3, .cells (#[.int .i64 8]) 32 (0, 0)), (some b2, .cells (#[.int .i64 4]) 32 (0, 0)), (some b1, mobj .i64 [(3, .func (.func 86) #[] #[]), (11, .func (.func 86) #[] #[]), (10, .func (.func 86) #[] #[]), (4, .func (.func 87) #[] #[]), (5, .func (.func 85) #[] #[ptr b2 0])])]) rfl ?_
  refine W.put (H' := [(some b3, .cells (#[.int .i64 8]) 32 (0, 0)), (some b2, .cells (#[.int .i64 4]) 32 (0, 0)), (some b1, mobj .i64 [(3, .func (.func 86) #[] #[]), (11, .func (.func 86) #[] #[]), (10, .func (.func 86) #[] #[]), (4, .func (.func 87) #[] #[]), (5, .func (.func 85) #[] #[ptr b2 0]), (7, .func (.func 85) #[] #[ptr b3 0])])]) rfl (wo rfl) rfl (f_insert (j := 2) (l := [(3, .func (.func 86) #[] #[]), (11, .func (.func 86) #[] #[]), (10, .func (.func 86) #[] #[]), (4, .func (.func 87) #[] #[]), (5, .func (.func 85) #[] #[ptr b2 0])]) (v := .func (.func 85) #[] #[ptr b3 0]) tu123 tu44 rfl rfl rfl rfl rfl rfl) (nf rfl) ?_
  refine W.pure (v := .func (.func 84) #[] #[]) rfl (wo rfl) rfl rfl (p_move rfl rfl) (nf rfl) ?_
  refine W.cP (E := []) (R := [(some b3, .cells (#[.int .i64 8]) 32 (0, 0)), (some b2, .cells (#[.int .i64 4]) 32 (0, 0)), (some b1, mobj .i64 [(3, .func (.func 86) #[] #[]), (11, .func (.func 86) #[] #[]), (10, .func (.func 86) #[] #[]), (4, .func (.func 87) #[] #[]), (5, .func (.func 85) #[] #[ptr b2 0]), (7, .func (.func 85) #[] #[ptr b3 0])])]) (caps := #[]) rfl (wo rfl) rfl rfl [0, 1, 2] rfl rfl (cw84_59) rfl (en84 _) rfl rfl rfl (args_val rfl) ?_
  intro b4
  refine W.heapIs (H2 := [(some b4, .cells (#[.int .i64 16]) 32 (0, 0)), (some b3, .cells (#[.int .i64 8]) 32 (0, 0)), (some b2, .cells (#[.int .i64 4]) 32 (0, 0)), (some b1, mobj .i64 [(3, .func (.func 86) #[] #[]), (11, .func (.func 86) #[] #[]), (10, .func (.func 86) #[] #[]), (4, .func (.func 87) #[] #[]), (5, .func (.func 85) #[] #[ptr b2 0]), (7, .func (.func 85) #[] #[ptr b3 0])])]) rfl ?_
  refine W.put (H' := [(some b4, .cells (#[.int .i64 16]) 32 (0, 0)), (some b3, .cells (#[.int .i64 8]) 32 (0, 0)), (some b2, .cells (#[.int .i64 4]) 32 (0, 0)), (some b1, mobj .i64 [(3, .func (.func 86) #[] #[]), (11, .func (.func 86) #[] #[]), (10, .func (.func 86) #[] #[]), (4, .func (.func 87) #[] #[]), (5, .func (.func 85) #[] #[ptr b2 0]), (7, .func (.func 85) #[] #[ptr b3 0]), (8, .func (.func 85) #[] #[ptr b4 0])])]) rfl (wo rfl) rfl (f_insert (j := 3) (l := [(3, .func (.func 86) #[] #[]), (11, .func (.func 86) #[] #[]), (10, .func (.func 86) #[] #[]), (4, .func (.func 87) #[] #[]), (5, .func (.func 85) #[] #[ptr b2 0]), (7, .func (.func 85) #[] #[ptr b3 0])]) (v := .func (.func 85) #[] #[ptr b4 0]) tu123 tu44 rfl rfl rfl rfl rfl rfl) (nf rfl) ?_
  refine W.pure (v := .func (.func 84) #[] #[]) rfl (wo rfl) rfl rfl (p_move rfl rfl) (nf rfl) ?_
  refine W.cP (E := []) (R := [(some b4, .cells (#[.int .i64 16]) 32 (0, 0)), (some b3, .cells (#[.int .i64 8]) 32 (0, 0)), (some b2, .cells (#[.int .i64 4]) 32 (0, 0)), (some b1, mobj .i64 [(3, .func (.func 86) #[] #[]), (11, .func (.func 86) #[] #[]), (10, .func (.func 86) #[] #[]), (4, .func (.func 87) #[] #[]), (5, .func (.func 85) #[] #[ptr b2 0]), (7, .func (.func 85) #[] #[ptr b3 0]), (8, .func (.func 85) #[] #[ptr b4 0])])]) (caps := #[]) rfl (wo rfl) rfl rfl [0, 1, 2, 3] rfl rfl (cw84_60) rfl (en84 _) rfl rfl rfl (args_val rfl) ?_
  intro b5
  refine W.heapIs (H2 := [(some b5, .cells (#[.int .i64 1]) 32 (0, 0)), (some b4, .cells (#[.int .i64 16]) 32 (0, 0)), (some b3, .cells (#[.int .i64 8]) 32 (0, 0)), (some b2, .cells (#[.int .i64 4]) 32 (0, 0)), (some b1, mobj .i64 [(3, .func (.func 86) #[] #[]), (11, .func (.func 86) #[] #[]), (10, .func (.func 86) #[] #[]), (4, .func (.func 87) #[] #[]), (5, .func (.func 85) #[] #[ptr b2 0]), (7, .func (.func 85) #[] #[ptr b3 0]), (8, .func (.func 85) #[] #[ptr b4 0])])]) rfl ?_
  refine W.put (H' := [(some b5, .cells (#[.int .i64 1]) 32 (0, 0)), (some b4, .cells (#[.int .i64 16]) 32 (0, 0)), (some b3, .cells (#[.int .i64 8]) 32 (0, 0)), (some b2, .cells (#[.int .i64 4]) 32 (0, 0)), (some b1, mobj .i64 [(3, .func (.func 86) #[] #[]), (11, .func (.func 86) #[] #[]), (10, .func (.func 86) #[] #[]), (4, .func (.func 87) #[] #[]), (5, .func (.func 85) #[] #[ptr b2 0]), (7, .func (.func 85) #[] #[ptr b3 0]), (8, .func (.func 85) #[] #[ptr b4 0]), (9, .func (.func 85) #[] #[ptr b5 0])])]) rfl (wo rfl) rfl (f_insert (j := 4) (l := [(3, .func (.func 86) #[] #[]), (11, .func (.func 86) #[] #[]), (10, .func (.func 86) #[] #[]), (4, .func (.func 87) #[] #[]), (5, .func (.func 85) #[] #[ptr b2 0]), (7, .func (.func 85) #[] #[ptr b3 0]), (8, .func (.func 85) #[] #[ptr b4 0])]) (v := .func (.func 85) #[] #[ptr b5 0]) tu123 tu44 rfl rfl rfl rfl rfl rfl) (nf rfl) ?_
  refine W.pure (v := .func (.func 84) #[] #[]) rfl (wo rfl) rfl rfl (p_move rfl rfl) (nf rfl) ?_
  refine W.cP (E := []) (R := [(some b5, .cells (#[.int .i64 1]) 32 (0, 0)), (some b4, .cells (#[.int .i64 16]) 32 (0, 0)), (some b3, .cells (#[.int .i64 8]) 32 (0, 0)), (some b2, .cells (#[.int .i64 4]) 32 (0, 0)), (some b1, mobj .i64 [(3, .func (.func 86) #[] #[]), (11, .func (.func 86) #[] #[]), (10, .func (.func 86) #[] #[]), (4, .func (.func 87) #[] #[]), (5, .func (.func 85) #[] #[ptr b2 0]), (7, .func (.func 85) #[] #[ptr b3 0]), (8, .func (.func 85) #[] #[ptr b4 0]), (9, .func (.func 85) #[] #[ptr b5 0])])]) (caps := #[]) rfl (wo rfl) rfl rfl [0, 1, 2, 3, 4] rfl rfl (cw84_61) rfl (en84 _) rfl rfl rfl (args_val rfl) ?_
  intro b6
  refine W.heapIs (H2 := [(some b6, .cells (#[.int .i64 32]) 32 (0, 0)), (some b5, .cells (#[.int .i64 1]) 32 (0, 0)), (some b4, .cells (#[.int .i64 16]) 32 (0, 0)), (some b3, .cells (#[.int .i64 8]) 32 (0, 0)), (some b2, .cells (#[.int .i64 4]) 32 (0, 0)), (some b1, mobj .i64 [(3, .func (.func 86) #[] #[]), (11, .func (.func 86) #[] #[]), (10, .func (.func 86) #[] #[]), (4, .func (.func 87) #[] #[]), (5, .func (.func 85) #[] #[ptr b2 0]), (7, .func (.func 85) #[] #[ptr b3 0]), (8, .func (.func 85) #[] #[ptr b4 0]), (9, .func (.func 85) #[] #[ptr b5 0])])]) rfl ?_
  refine W.put (H' := [(some b6, .cells (#[.int .i64 32]) 32 (0, 0)), (some b5, .cells (#[.int .i64 1]) 32 (0, 0)), (some b4, .cells (#[.int .i64 16]) 32 (0, 0)), (some b3, .cells (#[.int .i64 8]) 32 (0, 0)), (some b2, .cells (#[.int .i64 4]) 32 (0, 0)), (some b1, mobj .i64 [(3, .func (.func 86) #[] #[]), (11, .func (.func 86) #[] #[]), (10, .func (.func 86) #[] #[]), (4, .func (.func 87) #[] #[]), (5, .func (.func 85) #[] #[ptr b2 0]), (7, .func (.func 85) #[] #[ptr b3 0]), (8, .func (.func 85) #[] #[ptr b4 0]), (9, .func (.func 85) #[] #[ptr b5 0]), (12, .func (.func 85) #[] #[ptr b6 0])])]) rfl (wo rfl) rfl (f_insert (j := 5) (l := [(3, .func (.func 86) #[] #[]), (11, .func (.func 86) #[] #[]), (10, .func (.func 86) #[] #[]), (4, .func (.func 87) #[] #[]), (5, .func (.func 85) #[] #[ptr b2 0]), (7, .func (.func 85) #[] #[ptr b3 0]), (8, .func (.func 85) #[] #[ptr b4 0]), (9, .func (.func 85) #[] #[ptr b5 0])]) (v := .func (.func 85) #[] #[ptr b6 0]) tu123 tu44 rfl rfl rfl rfl rfl rfl) (nf rfl) ?_
  refine W.put (H' := [(some b6, .cells (#[.int .i64 32]) 32 (0, 0)), (some b5, .cells (#[.int .i64 1]) 32 (0, 0)), (some b4, .cells (#[.int .i64 16]) 32 (0, 0)), (some b3, .cells (#[.int .i64 8]) 32 (0, 0)), (some b2, .cells (#[.int .i64 4]) 32 (0, 0)), (some b1, mobj .i64 [(3, .func (.func 86) #[] #[]), (11, .func (.func 86) #[] #[]), (10, .func (.func 86) #[] #[]), (4, .func (.func 87) #[] #[]), (5, .func (.func 85) #[] #[ptr b2 0]), (7, .func (.func 85) #[] #[ptr b3 0]), (8, .func (.func 85) #[] #[ptr b4 0]), (9, .func (.func 85) #[] #[ptr b5 0]), (12, .func (.func 85) #[] #[ptr b6 0]), (13, .func (.func 88) #[] #[])])]) rfl (wo rfl) rfl (f_insert (j := 5) (l := [(3, .func (.func 86) #[] #[]), (11, .func (.func 86) #[] #[]), (10, .func (.func 86) #[] #[]), (4, .func (.func 87) #[] #[]), (5, .func (.func 85) #[] #[ptr b2 0]), (7, .func (.func 85) #[] #[ptr b3 0]), (8, .func (.func 85) #[] #[ptr b4 0]), (9, .func (.func 85) #[] #[ptr b5 0]), (12, .func (.func 85) #[] #[ptr b6 0])]) (v := .func (.func 88) #[] #[]) tu123 tu44 rfl rfl rfl rfl rfl rfl) (nf rfl) ?_
  refine W.pure (v := .map (some b1)) rfl (wo rfl) rfl rfl (p_move rfl rfl) (nf rfl) ?_
  refine W.pure (v := .map (some b1)) rfl (wo rfl) rfl rfl (p_assign rfl rfl) (nf rfl) ?_
  refine W.doneQ (y := sub [1, 1, 1, 1] B69) rfl ?_
  exact C.ret (R := fun e w' => ∃ x : Nat × Nat × Nat × Nat × Nat × Nat, e = .returned (.map (some (x.1))) ∧ Cls w0 I' [(some (x.1), mobj .i64 [(3, .func (.func 86) #[] #[]), (11, .func (.func 86) #[] #[]), (10, .func (.func 86) #[] #[]), (4, .func (.func 87) #[] #[]), (5, .func (.func 85) #[] #[ptr (x.2.1) 0]), (7, .func (.func 85) #[] #[ptr (x.2.2.1) 0]), (8, .func (.func 85) #[] #[ptr (x.2.2.2.1) 0]), (9, .func (.func 85) #[] #[ptr (x.2.2.2.2.1) 0]), (12, .func (.func 85) #[] #[ptr (x.2.2.2.2.2) 0]), (13, .func (.func 88) #[] #[])]), (some (x.2.1), .cells (#[.int .i64 4]) 32 (0, 0)), (some (x.2.2.1), .cells (#[.int .i64 8]) 32 (0, 0)), (some (x.2.2.2.1), .cells (#[.int .i64 16]) 32 (0, 0)), (some (x.2.2.2.2.1), .cells (#[.int .i64 1]) 32 (0, 0)), (some (x.2.2.2.2.2), .cells (#[.int .i64 32]) 32 (0, 0))] w') (rs := [.tmp 0]) (vs := [.map (some b1)]) rfl Tryd.func69 rfl rfl rfl (res_cons (ResV.tmp rfl) res_nil) fun w1 hc1 => ⟨(b1, b2, b3, b4, b5, b6), rfl, hc1.pick [5, 4, 3, 2, 1, 0] (by decide)⟩
theorem en69 (args : Array Value) (w : World) : (callFunc 69 args).run Tryd.prog w = .ok (.enter 69 args) w := by kernel_rfl
theorem tz71 (w : World) : (zeroValue 71).run Tryd.prog w = .ok (.nilFunc) w := by kernel_rfl
noncomputable def B85 : Code := bodyOf Tryd.f85
set_option maxHeartbeats 20000000 in
theorem cw85_62 (p1 : Nat) {I : Mem} : Turn I 85 #[.agg #[.int .i64 1, .int .i64 1, .int .i64 4, .int .i64 4], ptr p1 0] [(some p1, .cells (#[.int .i64 1]) 32 (0, 0))] (fun _ : Unit => .bool false) (fun _ => [(some p1, .cells (#[.int .i64 1]) 32 (0, 0))]) := fun I' he w0 w hc => by
  refine calls_of_CW (N := 9) Tryd.func85 (show _ = some B85 by kernel_rfl) (by kernel_rfl) rfl (S := [(0, .agg #[.int .i64 1, .int .i64 1, .int .i64 4, .int .i64 4]), (1, ptr p1 0)]) (by simp) hc ?_
  show CW _ _ _ (sub [] B85) _ _ _
  refine C.seq (x := sub [0] B85) (y := sub [1] B85) ?_
  refine C.region (id := 0) (m := 2) (ops := opsOf (sub [0] B85)) rfl ?_
  refine W.new rfl (wo rfl) rfl rfl (f_box (v := .agg #[.int .i64 1, .int .i64 1, .int .i64 4, .int .i64 4]) rfl rfl) (nf rfl) ?_
  intro b1 _
  refine W.heapIs (H2 := [(some b1, .cells (#[.int .i64 1, .int .i64 1, .int .i64 4, .int .i64 4]) 34 (0, 0)), (some p1, .cells (#[.int .i64 1]) 32 (0, 0))]) rfl ?_
  refine W.pure (v := .bool false) rfl (wo rfl) rfl rfl (p_assign rfl rfl) (nf rfl) ?_
  refine W.doneQ (y := sub [1] B85) rfl ?_
  refine C.seq (x := sub [1, 0] B85) (y := sub [1, 1] B85) ?_
  refine C.region (id := 1) (m := 6) (ops := opsOf (sub [1, 0] B85)) rfl ?_
  refine W.pure (v := ptr b1 2) rfl (wo rfl) rfl rfl (p_fieldAddr tf34_2 rfl rfl) (nf rfl) ?_
  refine W.quiet (v := .int .i64 4) rfl (wo rfl) rfl rfl (f_load (j := 0) (off := 2) ta32 rfl rfl rfl rfl) (nf rfl) ?_
  refine W.quiet (v := .int .i64 1) rfl (wo rfl) rfl rfl (f_load (j := 1) (off := 0) ta32 rfl rfl rfl rfl) (nf rfl) ?_
  refine W.pure (v := .int .i64 0) rfl (wo rfl) rfl rfl (p_bin (fun w => by kernel_rfl) (fun w => by kernel_rfl) rfl rfl rfl) (nf rfl) ?_
  refine W.pure (v := .bool false) rfl (wo rfl) rfl rfl (p_bin (fun w => by kernel_rfl) (fun w => by kernel_rfl) rfl rfl rfl) (nf rfl) ?_
  refine W.pure (v := .bool false) rfl (wo rfl) rfl rfl (p_assign rfl rfl) (nf rfl) ?_
  refine W.doneQ (y := sub [1, 1] B85) rfl ?_
  exact C.ret (R := fun e w' => ∃ _x : Unit, e = .returned (.bool false) ∧ Cls w0 I' [(some p1, .cells (#[.int .i64 1]) 32 (0, 0))] w') (rs := [.tmp 3]) (vs := [.bool false]) rfl Tryd.func85 rfl rfl rfl (res_cons (ResV.tmp rfl) res_nil) fun w1 hc1 => ⟨(), rfl, hc1.pick [1] (by decide)⟩
theorem en85 (args : Array Value) (w : World) : (callFunc 85 args).run Tryd.prog w = .ok (.enter 85 args) w := by kernel_rfl
noncomputable def B70 : Code := bodyOf Tryd.f70
set_option maxHeartbeats 20000000 in
theorem cw70_63 {I : Mem} : Turn I 70 #[.bool false] [] (fun _ : Unit => .int .i64 12) (fun _ => []) := fun I' he w0 w hc => by
  refine calls_of_CW (N := 4) Tryd.func70 (show _ = some B70 by kernel_rfl) (by kernel_rfl) rfl (S := [(0, .bool false)]) (by simp) hc ?_
  show CW _ _ _ (sub [] B70) _ _ _
  refine C.seq (x := sub [0] B70) (y := sub [1] B70) ?_
  refine C.region (id := 0) (m := 1) (ops := opsOf (sub [0] B70)) rfl ?_
  refine W.pure (v := .int .i64 0) rfl (wo rfl) rfl rfl (p_assign rfl rfl) (nf rfl) ?_
  refine W.doneQ (y := sub [1] B70) rfl ?_
  refine C.seq (x := sub [1, 0] B70) (y := sub [1, 1] B70) ?_
  refine C.seq (x := sub [1, 0, 0] B70) (y := sub [1, 0, 1] B70) ?_
  refine C.region (id := 1) (m := 1) (ops := opsOf (sub [1, 0, 0] B70)) rfl ?_
  refine W.pure (v := .bool false) rfl (wo rfl) rfl rfl (p_move rfl rfl) (nf rfl) ?_
  refine W.doneQ (y := sub [1, 0, 1] B70) rfl ?_
  refine C.cond_false (x := sub [1, 0, 1, 0] B70) (y := sub [1, 0, 1, 1] B70) rfl rfl ?_
  refine C.skipQ (y := sub [1, 1] B70) rfl ?_
  refine C.seq (x := sub [1, 1, 0] B70) (y := sub [1, 1, 1] B70) ?_
  refine C.region (id := 3) (m := 1) (ops := opsOf (sub [1, 1, 0] B70)) rfl ?_
  refine W.pure (v := .int .i64 12) rfl (wo rfl) rfl rfl (p_assign rfl rfl) (nf rfl) ?_
  refine W.doneQ (y := sub [1, 1, 1] B70) rfl ?_
  exact C.ret (R := fun e w' => ∃ _x : Unit, e = .returned (.int .i64 12) ∧ Cls w0 I' [] w') (rs := [.tmp 2]) (vs := [.int .i64 12]) rfl Tryd.func70 rfl rfl rfl (res_cons (ResV.tmp rfl) res_nil) fun w1 hc1 => ⟨(), rfl, hc1.pick [] (by decide)⟩
theorem en70 (args : Array Value) (w : World) : (callFunc 70 args).run Tryd.prog w = .ok (.enter 70 args) w := by kernel_rfl
end Go.Proofs.YtfcedjmgddloiaaDoor
