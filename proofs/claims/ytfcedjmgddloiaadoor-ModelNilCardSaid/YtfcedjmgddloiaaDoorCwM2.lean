import Derived.Test.YtfcedjmgddloiaaDoorCwM1
namespace Go.Proofs.YtfcedjmgddloiaaDoor
open Go Go.HW Go.RowKit
set_option linter.unusedVariables false
set_option linter.unusedSimpArgs false
set_option maxRecDepth 20000

set_option maxHeartbeats 20000000 in
theorem cw41_29 {I : Mem} : Turn I 41 #[.agg kc2, .agg kc2] [] (fun _ : Unit => .bool true) (fun _ => []) := fun I' he w0 w hc => by
  refine calls_of_CW (N := 59) Tryd.func41 (show _ = some B41 by kernel_rfl) (by kernel_rfl) rfl (S := [(0, .agg kc2), (1, .agg kc2)]) (by simp) hc ?_
  show CW _ _ _ (sub [] B41) _ _ _
  refine C.seq (x := sub [0] B41) (y := sub [1] B41) ?_
  refine C.region (id := 0) (m := 3) (ops := opsOf (sub [0] B41)) rfl ?_
  refine W.new rfl (wo rfl) rfl rfl (f_box (v := .agg kc2) rfl rfl) (nf rfl) ?_
  intro b1 _
  refine W.heapIs (H2 := [(some b1, .cells kc2 49 (0, 0))]) rfl ?_
  refine W.new rfl (wo rfl) rfl rfl (f_box (v := .agg kc2) rfl rfl) (nf rfl) ?_
  intro b2 _
  refine W.heapIs (H2 := [(some b2, .cells kc2 49 (0, 0)), (some b1, .cells kc2 49 (0, 0))]) rfl ?_
  refine W.pure (v := .bool false) rfl (wo rfl) rfl rfl (p_assign rfl rfl) (nf rfl) ?_
  refine W.doneQ (y := sub [1] B41) rfl ?_
  refine C.seq (x := sub [1, 0] B41) (y := sub [1, 1] B41) ?_
  refine C.region (id := 1) (m := 55) (ops := opsOf (sub [1, 0] B41)) rfl ?_
  refine W.pure (v := ptr b1 0) rfl (wo rfl) rfl rfl (p_fieldAddr tf49_0 rfl rfl) (nf rfl) ?_
  refine W.quiet (v := .int .u64 0) rfl (wo rfl) rfl rfl (f_load (j := 1) (off := 0) ta43 rfl rfl rfl rfl) (nf rfl) ?_
  refine W.pure (v := ptr b2 0) rfl (wo rfl) rfl rfl (p_fieldAddr tf49_0 rfl rfl) (nf rfl) ?_
  refine W.quiet (v := .int .u64 0) rfl (wo rfl) rfl rfl (f_load (j := 0) (off := 0) ta43 rfl rfl rfl rfl) (nf rfl) ?_
  refine W.pure (v := .bool true) rfl (wo rfl) rfl rfl (p_bin (fun w => by kernel_rfl) (fun w => by kernel_rfl) rfl rfl rfl) (nf rfl) ?_
  refine W.pure (v := .bool true) rfl (wo rfl) rfl rfl (p_move rfl rfl) (nf rfl) ?_
  refine W.pure (v := ptr b1 1) rfl (wo rfl) rfl rfl (p_fieldAddr tf49_1 rfl rfl) (nf rfl) ?_
  refine W.quiet (v := .int .i64 1) rfl (wo rfl) rfl rfl (f_load (j := 1) (off := 1) ta44 rfl rfl rfl rfl) (nf rfl) ?_
  refine W.pure (v := ptr b2 1) rfl (wo rfl) rfl rfl (p_fieldAddr tf49_1 rfl rfl) (nf rfl) ?_
  refine W.quiet (v := .int .i64 1) rfl (wo rfl) rfl rfl (f_load (j := 0) (off := 1) ta44 rfl rfl rfl rfl) (nf rfl) ?_
  refine W.pure (v := .bool true) rfl (wo rfl) rfl rfl (p_bin (fun w => by kernel_rfl) (fun w => by kernel_rfl) rfl rfl rfl) (nf rfl) ?_
  refine W.pure (v := .bool true) rfl (wo rfl) rfl rfl (p_pick_true rfl rfl rfl) (nf rfl) ?_
  refine W.pure (v := .bool true) rfl (wo rfl) rfl rfl (p_move rfl rfl) (nf rfl) ?_
  refine W.pure (v := ptr b1 2) rfl (wo rfl) rfl rfl (p_fieldAddr tf49_2 rfl rfl) (nf rfl) ?_
  refine W.quiet (v := .int .u32 0) rfl (wo rfl) rfl rfl (f_load (j := 1) (off := 2) ta24 rfl rfl rfl rfl) (nf rfl) ?_
  refine W.pure (v := ptr b2 2) rfl (wo rfl) rfl rfl (p_fieldAddr tf49_2 rfl rfl) (nf rfl) ?_
  refine W.quiet (v := .int .u32 0) rfl (wo rfl) rfl rfl (f_load (j := 0) (off := 2) ta24 rfl rfl rfl rfl) (nf rfl) ?_
  refine W.pure (v := .bool true) rfl (wo rfl) rfl rfl (p_bin (fun w => by kernel_rfl) (fun w => by kernel_rfl) rfl rfl rfl) (nf rfl) ?_
  refine W.pure (v := .bool true) rfl (wo rfl) rfl rfl (p_pick_true rfl rfl rfl) (nf rfl) ?_
  refine W.pure (v := .bool true) rfl (wo rfl) rfl rfl (p_move rfl rfl) (nf rfl) ?_
  refine W.pure (v := ptr b1 3) rfl (wo rfl) rfl rfl (p_fieldAddr tf49_3 rfl rfl) (nf rfl) ?_
  refine W.quiet (v := .int .u32 0) rfl (wo rfl) rfl rfl (f_load (j := 1) (off := 3) ta24 rfl rfl rfl rfl) (nf rfl) ?_
  refine W.pure (v := ptr b2 3) rfl (wo rfl) rfl rfl (p_fieldAddr tf49_3 rfl rfl) (nf rfl) ?_
  refine W.quiet (v := .int .u32 0) rfl (wo rfl) rfl rfl (f_load (j := 0) (off := 3) ta24 rfl rfl rfl rfl) (nf rfl) ?_
  refine W.pure (v := .bool true) rfl (wo rfl) rfl rfl (p_bin (fun w => by kernel_rfl) (fun w => by kernel_rfl) rfl rfl rfl) (nf rfl) ?_
  refine W.pure (v := .bool true) rfl (wo rfl) rfl rfl (p_pick_true rfl rfl rfl) (nf rfl) ?_
  refine W.pure (v := .bool true) rfl (wo rfl) rfl rfl (p_move rfl rfl) (nf rfl) ?_
  refine W.pure (v := ptr b1 4) rfl (wo rfl) rfl rfl (p_fieldAddr tf49_4 rfl rfl) (nf rfl) ?_
  refine W.quiet (v := .int .i64 1) rfl (wo rfl) rfl rfl (f_load (j := 1) (off := 4) ta30 rfl rfl rfl rfl) (nf rfl) ?_
  refine W.pure (v := ptr b2 4) rfl (wo rfl) rfl rfl (p_fieldAddr tf49_4 rfl rfl) (nf rfl) ?_
  refine W.quiet (v := .int .i64 1) rfl (wo rfl) rfl rfl (f_load (j := 0) (off := 4) ta30 rfl rfl rfl rfl) (nf rfl) ?_
  refine W.pure (v := .bool true) rfl (wo rfl) rfl rfl (p_bin (fun w => by kernel_rfl) (fun w => by kernel_rfl) rfl rfl rfl) (nf rfl) ?_
  refine W.pure (v := .bool true) rfl (wo rfl) rfl rfl (p_pick_true rfl rfl rfl) (nf rfl) ?_
  refine W.pure (v := .bool true) rfl (wo rfl) rfl rfl (p_move rfl rfl) (nf rfl) ?_
  refine W.pure (v := ptr b1 5) rfl (wo rfl) rfl rfl (p_fieldAddr tf49_5 rfl rfl) (nf rfl) ?_
  refine W.quiet (v := .int .i64 4) rfl (wo rfl) rfl rfl (f_load (j := 1) (off := 5) ta32 rfl rfl rfl rfl) (nf rfl) ?_
  refine W.pure (v := ptr b2 5) rfl (wo rfl) rfl rfl (p_fieldAddr tf49_5 rfl rfl) (nf rfl) ?_
  refine W.quiet (v := .int .i64 4) rfl (wo rfl) rfl rfl (f_load (j := 0) (off := 5) ta32 rfl rfl rfl rfl) (nf rfl) ?_
  refine W.pure (v := .bool true) rfl (wo rfl) rfl rfl (p_bin (fun w => by kernel_rfl) (fun w => by kernel_rfl) rfl rfl rfl) (nf rfl) ?_
  refine W.pure (v := .bool true) rfl (wo rfl) rfl rfl (p_pick_true rfl rfl rfl) (nf rfl) ?_
  refine W.pure (v := .bool true) rfl (wo rfl) rfl rfl (p_move rfl rfl) (nf rfl) ?_
  refine W.pure (v := ptr b1 6) rfl (wo rfl) rfl rfl (p_fieldAddr tf49_6 rfl rfl) (nf rfl) ?_
  refine W.quiet (v := .agg kc7) rfl (wo rfl) rfl rfl (f_loadSubA (j := 1) (off := 6) (vs := [.int .u8 0, .int .u8 0, .int .u8 0, .int .u8 0, .int .u8 0, .int .u8 0, .int .u8 0, .int .u8 0, .int .u8 0, .int .u8 0, .int .u8 0, .int .u8 0, .int .u8 0, .int .u8 0, .int .u8 0, .int .u8 0, .int .u8 0, .int .u8 0, .int .u8 0, .int .u8 0, .int .u8 0, .int .u8 0, .int .u8 0, .int .u8 0, .int .u8 0, .int .u8 0, .int .u8 0, .int .u8 0, .int .u8 0, .int .u8 0, .int .u8 0, .int .u8 0]) ta46 ts46 rfl rfl rfl rfl rfl) (nf rfl) ?_
  refine W.pure (v := ptr b2 6) rfl (wo rfl) rfl rfl (p_fieldAddr tf49_6 rfl rfl) (nf rfl) ?_
  refine W.quiet (v := .agg kc7) rfl (wo rfl) rfl rfl (f_loadSubA (j := 0) (off := 6) (vs := [.int .u8 0, .int .u8 0, .int .u8 0, .int .u8 0, .int .u8 0, .int .u8 0, .int .u8 0, .int .u8 0, .int .u8 0, .int .u8 0, .int .u8 0, .int .u8 0, .int .u8 0, .int .u8 0, .int .u8 0, .int .u8 0, .int .u8 0, .int .u8 0, .int .u8 0, .int .u8 0, .int .u8 0, .int .u8 0, .int .u8 0, .int .u8 0, .int .u8 0, .int .u8 0, .int .u8 0, .int .u8 0, .int .u8 0, .int .u8 0, .int .u8 0, .int .u8 0]) ta46 ts46 rfl rfl rfl rfl rfl) (nf rfl) ?_
  refine W.pure (v := .bool true) rfl (wo rfl) rfl rfl (p_bin (fun w => by kernel_rfl) (fun w => by kernel_rfl) rfl rfl rfl) (nf rfl) ?_
  refine W.pure (v := .bool true) rfl (wo rfl) rfl rfl (p_pick_true rfl rfl rfl) (nf rfl) ?_
  refine W.pure (v := .bool true) rfl (wo rfl) rfl rfl (p_move rfl rfl) (nf rfl) ?_
  refine W.pure (v := ptr b1 38) rfl (wo rfl) rfl rfl (p_fieldAddr tf49_7 rfl rfl) (nf rfl) ?_
  refine W.quiet (v := .slice none 0 0) rfl (wo rfl) rfl rfl (f_load (j := 1) (off := 38) ta47 rfl rfl rfl rfl) (nf rfl) ?_
  refine W.pure (v := ptr b2 38) rfl (wo rfl) rfl rfl (p_fieldAddr tf49_7 rfl rfl) (nf rfl) ?_
  refine W.quiet (v := .slice none 0 0) rfl (wo rfl) rfl rfl (f_load (j := 0) (off := 38) ta47 rfl rfl rfl rfl) (nf rfl) ?_
  refine W.cP (E := []) (R := [(some b2, .cells kc2 49 (0, 0)), (some b1, .cells kc2 49 (0, 0))]) (caps := #[]) rfl (wo rfl) rfl rfl [0, 1] rfl rfl (cw58_30) rfl (en58 _) rfl rfl rfl (args_val rfl) ?_
  intro _
  refine W.heapIs (H2 := [(some b2, .cells kc2 49 (0, 0)), (some b1, .cells kc2 49 (0, 0))]) rfl ?_
  refine W.pure (v := .bool true) rfl (wo rfl) rfl rfl (p_pick_true rfl rfl rfl) (nf rfl) ?_
  refine W.pure (v := .bool true) rfl (wo rfl) rfl rfl (p_assign rfl rfl) (nf rfl) ?_
  refine W.doneQ (y := sub [1, 1] B41) rfl ?_
  exact C.ret (R := fun e w' => ∃ _x : Unit, e = .returned (.bool true) ∧ Cls w0 I' [] w') (rs := [.tmp 4]) (vs := [.bool true]) rfl Tryd.func41 rfl rfl rfl (res_cons (ResV.tmp rfl) res_nil) fun w1 hc1 => ⟨(), rfl, hc1.pick [] (by decide)⟩
theorem en42 (args : Array Value) (w : World) : (callFunc 42 args).run Tryd.prog w = .ok (.enter 42 args) w := by kernel_rfl
theorem en41 (args : Array Value) (w : World) : (callFunc 41 args).run Tryd.prog w = .ok (.enter 41 args) w := by kernel_rfl
set_option maxHeartbeats 20000000 in
theorem cw26_23 {I : Mem} : Turn I 26 #[.agg kc2] [] (fun _ : Unit => .bool true) (fun _ => []) := fun I' he w0 w hc => by
  refine calls_of_CW (N := 69) Tryd.func26 (show _ = some B26 by kernel_rfl) (by kernel_rfl) rfl (S := [(0, .agg kc2)]) (by simp) hc ?_
  show CW _ _ _ (sub [] B26) _ _ _
  refine C.seq (x := sub [0] B26) (y := sub [1] B26) ?_
  refine C.region (id := 0) (m := 2) (ops := opsOf (sub [0] B26)) rfl ?_
  refine W.new rfl (wo rfl) rfl rfl (f_box (v := .agg kc2) rfl rfl) (nf rfl) ?_
  intro b1 _
  refine W.heapIs (H2 := [(some b1, .cells kc2 49 (0, 0))]) rfl ?_
  refine W.pure (v := .bool false) rfl (wo rfl) rfl rfl (p_assign rfl rfl) (nf rfl) ?_
  refine W.doneQ (y := sub [1] B26) rfl ?_
  refine C.seq (x := sub [1, 0] B26) (y := sub [1, 1] B26) ?_
  refine C.seq (x := sub [1, 0, 0] B26) (y := sub [1, 0, 1] B26) ?_
  refine C.regionD (id := 1) (ops := opsOf (sub [1, 0, 0] B26)) [0, 1, 2, 3, 4, 5, 6, 7, 8, 9, 10] [0, 0, 2, 7, 15, 31, 63, 127, 255, 511, 1023] [(.quiet, none), (.quiet, none), (.keep, none), (.keep, none), (.pure, none), (.pure, none), (.pure, none), (.quiet, none), (.keep, none), (.pure, none), (.pure, none)] (by kernel_rfl) ?_
  intro wD1 hl1
  refine DV.quiet (v := .agg kc2) rfl (wo rfl) rfl rfl rfl (f_loadA (j := 0) ta49 ts49 rfl rfl rfl rfl) ?_
  refine DV.quiet (v := .agg kc2) rfl (wo rfl) rfl rfl rfl (f_loadA (j := 0) ta49 ts49 rfl rfl rfl rfl) ?_
  refine DV.cPk (E := []) (R := [(some b1, .cells kc2 49 (0, 0))]) (caps := #[]) rfl (wo rfl) rfl rfl rfl [0] rfl rfl (cw42_24) (fun x p hp => hp) rfl (en42 _) rfl rfl rfl (args_val rfl) ?_
  intro _
  refine DV.cPk (E := []) (R := [(some b1, .cells kc2 49 (0, 0))]) (caps := #[]) rfl (wo rfl) rfl rfl rfl [0] rfl rfl (cw41_29) (fun x p hp => hp) rfl (en41 _) rfl rfl rfl (args_val rfl) ?_
  intro _
  refine DV.pure (v := .bool false) rfl (wo rfl) rfl rfl rfl (p_not (p := true) rfl rfl) ?_
  refine DV.pure (v := .bool false) rfl (wo rfl) rfl rfl rfl (p_move rfl rfl) ?_
  refine DV.pure (v := ptr b1 1) rfl (wo rfl) rfl rfl rfl (p_fieldAddr tf49_1 rfl rfl) ?_
  refine DV.quiet (v := .int .i64 1) rfl (wo rfl) rfl rfl rfl (f_load (j := 0) (off := 1) ta44 rfl rfl rfl rfl) ?_
  refine DV.cPk (E := []) (R := [(some b1, .cells kc2 49 (0, 0))]) (caps := #[]) rfl (wo rfl) rfl rfl rfl [0] rfl rfl (cw43_25) (fun x p hp => hp) rfl (en43 _) rfl rfl rfl (args_val rfl) ?_
  intro _
  refine DV.pure (v := .bool false) rfl (wo rfl) rfl rfl rfl (p_bin (fun w => by kernel_rfl) (fun w => by kernel_rfl) rfl rfl rfl) ?_
  refine DV.pure (v := .bool false) rfl (wo rfl) rfl rfl rfl (p_pick_false rfl rfl rfl) ?_
  refine DW.doneQ (y := sub [1, 0, 1] B26) hl1 rfl ?_
  refine C.cond_false (x := sub [1, 0, 1, 0] B26) (y := sub [1, 0, 1, 1] B26) rfl rfl ?_
  refine C.skipQ (y := sub [1, 1] B26) rfl ?_
  refine C.seq (x := sub [1, 1, 0] B26) (y := sub [1, 1, 1] B26) ?_
  refine C.region (id := 3) (m := 1) (ops := opsOf (sub [1, 1, 0] B26)) rfl ?_
  refine W.pure (v := .int .i64 1024) rfl (wo rfl) rfl rfl (p_assign rfl rfl) (nf rfl) ?_
  refine W.doneQ (y := sub [1, 1, 1] B26) rfl ?_
  refine C.seq (x := sub [1, 1, 1, 0] B26) (y := sub [1, 1, 1, 1] B26) ?_
  refine C.seq (x := sub [1, 1, 1, 0, 0] B26) (y := sub [1, 1, 1, 0, 1] B26) ?_
  refine C.region (id := 4) (m := 8) (ops := opsOf (sub [1, 1, 1, 0, 0] B26)) rfl ?_
  refine W.pure (v := ptr b1 1) rfl (wo rfl) rfl rfl (p_fieldAddr tf49_1 rfl rfl) (nf rfl) ?_
  refine W.quiet (v := .int .i64 1) rfl (wo rfl) rfl rfl (f_load (j := 0) (off := 1) ta44 rfl rfl rfl rfl) (nf rfl) ?_
  refine W.pure (v := .bool false) rfl (wo rfl) rfl rfl (p_bin (fun w => by kernel_rfl) (fun w => by kernel_rfl) rfl rfl rfl) (nf rfl) ?_
  refine W.pure (v := .bool false) rfl (wo rfl) rfl rfl (p_move rfl rfl) (nf rfl) ?_
  refine W.pure (v := ptr b1 1) rfl (wo rfl) rfl rfl (p_fieldAddr tf49_1 rfl rfl) (nf rfl) ?_
  refine W.quiet (v := .int .i64 1) rfl (wo rfl) rfl rfl (f_load (j := 0) (off := 1) ta44 rfl rfl rfl rfl) (nf rfl) ?_
  refine W.pure (v := .bool false) rfl (wo rfl) rfl rfl (p_bin (fun w => by kernel_rfl) (fun w => by kernel_rfl) rfl rfl rfl) (nf rfl) ?_
  refine W.pure (v := .bool false) rfl (wo rfl) rfl rfl (p_pick_false rfl rfl rfl) (nf rfl) ?_
  refine W.doneQ (y := sub [1, 1, 1, 0, 1] B26) rfl ?_
  refine C.cond_false (x := sub [1, 1, 1, 0, 1, 0] B26) (y := sub [1, 1, 1, 0, 1, 1] B26) rfl rfl ?_
  refine C.skipQ (y := sub [1, 1, 1, 1] B26) rfl ?_
  refine C.seq (x := sub [1, 1, 1, 1, 0] B26) (y := sub [1, 1, 1, 1, 1] B26) ?_
  refine C.seq (x := sub [1, 1, 1, 1, 0, 0] B26) (y := sub [1, 1, 1, 1, 0, 1] B26) ?_
  refine C.region (id := 6) (m := 4) (ops := opsOf (sub [1, 1, 1, 1, 0, 0] B26)) rfl ?_
  refine W.pure (v := ptr b1 1) rfl (wo rfl) rfl rfl (p_fieldAddr tf49_1 rfl rfl) (nf rfl) ?_
  refine W.quiet (v := .int .i64 1) rfl (wo rfl) rfl rfl (f_load (j := 0) (off := 1) ta44 rfl rfl rfl rfl) (nf rfl) ?_
  refine W.cP (E := []) (R := [(some b1, .cells kc2 49 (0, 0))]) (caps := #[]) rfl (wo rfl) rfl rfl [0] rfl rfl (cw43_25) rfl (en43 _) rfl rfl rfl (args_val rfl) ?_
  intro _
  refine W.heapIs (H2 := [(some b1, .cells kc2 49 (0, 0))]) rfl ?_
  refine W.new rfl (wo rfl) rfl rfl (f_rangeStr (s := ⟨#[116, 97]⟩) us9 rfl rfl) (nf rfl) ?_
  intro b2 _
  refine W.heapIs (H2 := [(some b2, .stringIter ⟨#[116, 97]⟩ 0), (some b1, .cells kc2 49 (0, 0))]) rfl ?_
  refine W.doneQ (y := sub [1, 1, 1, 1, 0, 1] B26) rfl ?_
  refine C.loopB (id := 0) (c := sub [1, 1, 1, 1, 0, 1, 0, 0] B26) (y := sub [1, 1, 1, 1, 1] B26) (fun q : Nat => 2 - q) (fun q : Nat => match q with | 0 => [(0, .agg kc2), (1, ptr b1 0), (3, .int .i64 1024), (6, .agg kc2), (7, .agg kc2), (8, .agg kc2), (9, .bool true), (10, .bool false), (11, .bool false), (12, ptr b1 1), (13, .int .i64 1), (14, str [116, 97]), (15, .bool false), (16, .bool false), (17, ptr b1 1), (18, .int .i64 1), (19, .bool false), (20, .bool false), (21, ptr b1 1), (22, .int .i64 1), (23, .bool false), (24, .bool false), (25, ptr b1 1), (26, .int .i64 1), (27, str [116, 97]), (28, ptr b2 0)] | 1 => [(0, .agg kc2), (1, ptr b1 0), (3, .int .i64 1024), (6, .agg kc2), (7, .agg kc2), (8, .agg kc2), (9, .bool true), (10, .bool false), (11, .bool false), (12, ptr b1 1), (13, .int .i64 1), (14, str [116, 97]), (15, .bool false), (16, .bool false), (17, ptr b1 1), (18, .int .i64 1), (19, .bool false), (20, .bool false), (21, ptr b1 1), (22, .int .i64 1), (23, .bool false), (24, .bool false), (25, ptr b1 1), (26, .int .i64 1), (27, str [116, 97]), (28, ptr b2 0)] | _ => [(0, .agg kc2), (1, ptr b1 0), (3, .int .i64 1024), (6, .agg kc2), (7, .agg kc2), (8, .agg kc2), (9, .bool true), (10, .bool false), (11, .bool false), (12, ptr b1 1), (13, .int .i64 1), (14, str [116, 97]), (15, .bool false), (16, .bool false), (17, ptr b1 1), (18, .int .i64 1), (19, .bool false), (20, .bool false), (21, ptr b1 1), (22, .int .i64 1), (23, .bool false), (24, .bool false), (25, ptr b1 1), (26, .int .i64 1), (27, str [116, 97]), (28, ptr b2 0)]) (fun q : Nat => match q with | 0 => [(some b2, .stringIter ⟨#[116, 97]⟩ 0), (some b1, .cells kc2 49 (0, 0))] | 1 => [(some b2, .stringIter ⟨#[116, 97]⟩ 1), (some b1, .cells kc2 49 (0, 0))] | _ => [(some b2, .stringIter ⟨#[116, 97]⟩ 2), (some b1, .cells kc2 49 (0, 0))]) (fun q => q ≤ 2) 0 (Nat.zero_le _) (Sub.cons rfl (Sub.cons rfl (Sub.cons rfl (Sub.cons rfl (Sub.cons rfl (Sub.cons rfl (Sub.cons rfl (Sub.cons rfl (Sub.cons rfl (Sub.cons rfl (Sub.cons rfl (Sub.cons rfl (Sub.cons rfl (Sub.cons rfl (Sub.cons rfl (Sub.cons rfl (Sub.cons rfl (Sub.cons rfl (Sub.cons rfl (Sub.cons rfl (Sub.cons rfl (Sub.cons rfl (Sub.cons rfl (Sub.cons rfl (Sub.cons rfl (Sub.cons rfl (Sub.nil _))))))))))))))))))))))))))) rfl rfl (fun q => q = 2) ?_ ?_
  · intro q hq Q' hN hE hR
    have hq2 : q = 0 ∨ q = 1 ∨ q = 2 := by omega
    rcases hq2 with rfl | rfl | rfl
    · show CW _ _ _ _ _ [(0, .agg kc2), (1, ptr b1 0), (3, .int .i64 1024), (6, .agg kc2), (7, .agg kc2), (8, .agg kc2), (9, .bool true), (10, .bool false), (11, .bool false), (12, ptr b1 1), (13, .int .i64 1), (14, str [116, 97]), (15, .bool false), (16, .bool false), (17, ptr b1 1), (18, .int .i64 1), (19, .bool false), (20, .bool false), (21, ptr b1 1), (22, .int .i64 1), (23, .bool false), (24, .bool false), (25, ptr b1 1), (26, .int .i64 1), (27, str [116, 97]), (28, ptr b2 0)] ([(some b2, .stringIter ⟨#[116, 97]⟩ 0), (some b1, .cells kc2 49 (0, 0))])
      refine C.seq (x := sub [1, 1, 1, 1, 0, 1, 0, 0, 0] B26) (y := sub [1, 1, 1, 1, 0, 1, 0, 0, 1] B26) ?_
      refine C.region (id := 7) (m := 2) (ops := opsOf (sub [1, 1, 1, 1, 0, 1, 0, 0, 0] B26)) rfl ?_
      refine W.act (X := Unit) (u := fun _ => .tuple #[.bool true, .int .i64 0, .int .i32 116]) (H' := fun _ => [(some b2, .stringIter ⟨#[116, 97]⟩ 1), (some b1, .cells kc2 49 (0, 0))]) rfl (wo rfl) rfl rfl (f_nextStr (j := 0) (pos := 0) (c := 116) (wd := 1) rfl (by decide) (by kernel_rfl) rfl rfl) (nf rfl) ?_
      intro _
      refine W.pure (v := .bool true) rfl (wo rfl) rfl rfl (p_extract rfl rfl rfl) (nf rfl) ?_
      refine W.doneQ (y := sub [1, 1, 1, 1, 0, 1, 0, 0, 1] B26) rfl ?_
      refine C.seq (x := sub [1, 1, 1, 1, 0, 1, 0, 0, 1, 0] B26) (y := sub [1, 1, 1, 1, 0, 1, 0, 0, 1, 1] B26) ?_
      refine C.cond_true (x := sub [1, 1, 1, 1, 0, 1, 0, 0, 1, 0, 0] B26) (y := sub [1, 1, 1, 1, 0, 1, 0, 0, 1, 0, 1] B26) rfl rfl ?_
      refine C.skipQ (y := sub [1, 1, 1, 1, 0, 1, 0, 0, 1, 1] B26) rfl ?_
      refine C.block (id := 1) (c := sub [1, 1, 1, 1, 0, 1, 0, 0, 1, 1, 0] B26) ?_
      refine C.seq (x := sub [1, 1, 1, 1, 0, 1, 0, 0, 1, 1, 0, 0] B26) (y := sub [1, 1, 1, 1, 0, 1, 0, 0, 1, 1, 0, 1] B26) ?_
      refine C.region (id := 8) (m := 2) (ops := opsOf (sub [1, 1, 1, 1, 0, 1, 0, 0, 1, 1, 0, 0] B26)) rfl ?_
      refine W.pure (v := .int .i32 116) rfl (wo rfl) rfl rfl (p_extract rfl rfl rfl) (nf rfl) ?_
      refine W.pure (v := .int .i32 116) rfl (wo rfl) rfl rfl (p_assign rfl rfl) (nf rfl) ?_
      refine W.doneQ (y := sub [1, 1, 1, 1, 0, 1, 0, 0, 1, 1, 0, 1] B26) rfl ?_
      refine C.seq (x := sub [1, 1, 1, 1, 0, 1, 0, 0, 1, 1, 0, 1, 0] B26) (y := sub [1, 1, 1, 1, 0, 1, 0, 0, 1, 1, 0, 1, 1] B26) ?_
      refine C.region (id := 9) (m := 37) (ops := opsOf (sub [1, 1, 1, 1, 0, 1, 0, 0, 1, 1, 0, 1, 0] B26)) rfl ?_
      refine W.pure (v := .int .i32 116) rfl (wo rfl) rfl rfl (p_move rfl rfl) (nf rfl) ?_
      refine W.pure (v := .bool true) rfl (wo rfl) rfl rfl (p_bin (fun w => by kernel_rfl) (fun w => by kernel_rfl) rfl rfl rfl) (nf rfl) ?_
      refine W.pure (v := .bool true) rfl (wo rfl) rfl rfl (p_move rfl rfl) (nf rfl) ?_
      refine W.pure (v := ptr b1 4) rfl (wo rfl) rfl rfl (p_fieldAddr tf49_4 rfl rfl) (nf rfl) ?_
      refine W.quiet (v := .int .i64 1) rfl (wo rfl) rfl rfl (f_load (j := 1) (off := 4) ta30 rfl rfl rfl rfl) (nf rfl) ?_
      refine W.pure (v := .bool false) rfl (wo rfl) rfl rfl (p_bin (fun w => by kernel_rfl) (fun w => by kernel_rfl) rfl rfl rfl) (nf rfl) ?_
      refine W.pure (v := .bool false) rfl (wo rfl) rfl rfl (p_move rfl rfl) (nf rfl) ?_
      refine W.pure (v := ptr b1 4) rfl (wo rfl) rfl rfl (p_fieldAddr tf49_4 rfl rfl) (nf rfl) ?_
      refine W.quiet (v := .int .i64 1) rfl (wo rfl) rfl rfl (f_load (j := 1) (off := 4) ta30 rfl rfl rfl rfl) (nf rfl) ?_
      refine W.pure (v := .bool false) rfl (wo rfl) rfl rfl (p_bin (fun w => by kernel_rfl) (fun w => by kernel_rfl) rfl rfl rfl) (nf rfl) ?_
      refine W.pure (v := .bool false) rfl (wo rfl) rfl rfl (p_pick_false rfl rfl rfl) (nf rfl) ?_
      refine W.pure (v := .bool false) rfl (wo rfl) rfl rfl (p_pick_true rfl rfl rfl) (nf rfl) ?_
      refine W.pure (v := .bool false) rfl (wo rfl) rfl rfl (p_move rfl rfl) (nf rfl) ?_
      refine W.pure (v := .int .i32 116) rfl (wo rfl) rfl rfl (p_move rfl rfl) (nf rfl) ?_
      refine W.pure (v := .bool false) rfl (wo rfl) rfl rfl (p_bin (fun w => by kernel_rfl) (fun w => by kernel_rfl) rfl rfl rfl) (nf rfl) ?_
      refine W.pure (v := .bool false) rfl (wo rfl) rfl rfl (p_move rfl rfl) (nf rfl) ?_
      refine W.not rfl (wo rfl) rfl rfl ?_
      refine W.not rfl (wo rfl) rfl rfl ?_
      refine W.not rfl (wo rfl) rfl rfl ?_
      refine W.not rfl (wo rfl) rfl rfl ?_
      refine W.not rfl (Wn.undef rfl rfl rfl) rfl rfl ?_
      refine W.not rfl (Wn.undef rfl rfl rfl) rfl rfl ?_
      refine W.not rfl (Wn.undef rfl rfl rfl) rfl rfl ?_
      refine W.not rfl (wo rfl) rfl rfl ?_
      refine W.pure (v := .bool false) rfl (wo rfl) rfl rfl (p_pick_false rfl rfl rfl) (nf rfl) ?_
      refine W.pure (v := .bool false) rfl (wo rfl) rfl rfl (p_pick_false rfl rfl rfl) (nf rfl) ?_
      refine W.pure (v := .bool false) rfl (wo rfl) rfl rfl (p_move rfl rfl) (nf rfl) ?_
      refine W.pure (v := .int .i32 116) rfl (wo rfl) rfl rfl (p_move rfl rfl) (nf rfl) ?_
      refine W.pure (v := .bool false) rfl (wo rfl) rfl rfl (p_bin (fun w => by kernel_rfl) (fun w => by kernel_rfl) rfl rfl rfl) (nf rfl) ?_
      refine W.pure (v := .bool false) rfl (wo rfl) rfl rfl (p_move rfl rfl) (nf rfl) ?_
      refine W.not rfl (wo rfl) rfl rfl ?_
      refine W.not rfl (wo rfl) rfl rfl ?_
      refine W.not rfl (wo rfl) rfl rfl ?_
      refine W.not rfl (wo rfl) rfl rfl ?_
      refine W.not rfl (wo rfl) rfl rfl ?_
      refine W.pure (v := .bool false) rfl (wo rfl) rfl rfl (p_pick_false rfl rfl rfl) (nf rfl) ?_
      refine W.pure (v := .bool false) rfl (wo rfl) rfl rfl (p_pick_false rfl rfl rfl) (nf rfl) ?_
      refine W.doneQ (y := sub [1, 1, 1, 1, 0, 1, 0, 0, 1, 1, 0, 1, 1] B26) rfl ?_
      refine C.cond_false (x := sub [1, 1, 1, 1, 0, 1, 0, 0, 1, 1, 0, 1, 1, 0] B26) (y := sub [1, 1, 1, 1, 0, 1, 0, 0, 1, 1, 0, 1, 1, 1] B26) rfl rfl ?_
      exact C.skipE fun a1 w1 ha1 hc1 => hN 1 (by decide) (by decide) a1 w1 (ha1.sub (Sub.cons rfl (Sub.cons rfl (Sub.cons rfl (Sub.cons rfl (Sub.cons rfl (Sub.cons rfl (Sub.cons rfl (Sub.cons rfl (Sub.cons rfl (Sub.cons rfl (Sub.cons rfl (Sub.cons rfl (Sub.cons rfl (Sub.cons rfl (Sub.cons rfl (Sub.cons rfl (Sub.cons rfl (Sub.cons rfl (Sub.cons rfl (Sub.cons rfl (Sub.cons rfl (Sub.cons rfl (Sub.cons rfl (Sub.cons rfl (Sub.cons rfl (Sub.cons rfl (Sub.nil _)))))))))))))))))))))))))))) (hc1.pick [0, 1] (by decide))
    · show CW _ _ _ _ _ [(0, .agg kc2), (1, ptr b1 0), (3, .int .i64 1024), (6, .agg kc2), (7, .agg kc2), (8, .agg kc2), (9, .bool true), (10, .bool false), (11, .bool false), (12, ptr b1 1), (13, .int .i64 1), (14, str [116, 97]), (15, .bool false), (16, .bool false), (17, ptr b1 1), (18, .int .i64 1), (19, .bool false), (20, .bool false), (21, ptr b1 1), (22, .int .i64 1), (23, .bool false), (24, .bool false), (25, ptr b1 1), (26, .int .i64 1), (27, str [116, 97]), (28, ptr b2 0)] ([(some b2, .stringIter ⟨#[116, 97]⟩ 1), (some b1, .cells kc2 49 (0, 0))])
      refine C.seq (x := sub [1, 1, 1, 1, 0, 1, 0, 0, 0] B26) (y := sub [1, 1, 1, 1, 0, 1, 0, 0, 1] B26) ?_
      refine C.region (id := 7) (m := 2) (ops := opsOf (sub [1, 1, 1, 1, 0, 1, 0, 0, 0] B26)) rfl ?_
      refine W.act (X := Unit) (u := fun _ => .tuple #[.bool true, .int .i64 1, .int .i32 97]) (H' := fun _ => [(some b2, .stringIter ⟨#[116, 97]⟩ 2), (some b1, .cells kc2 49 (0, 0))]) rfl (wo rfl) rfl rfl (f_nextStr (j := 0) (pos := 1) (c := 97) (wd := 1) rfl (by decide) (by kernel_rfl) rfl rfl) (nf rfl) ?_
      intro _
      refine W.pure (v := .bool true) rfl (wo rfl) rfl rfl (p_extract rfl rfl rfl) (nf rfl) ?_
      refine W.doneQ (y := sub [1, 1, 1, 1, 0, 1, 0, 0, 1] B26) rfl ?_
      refine C.seq (x := sub [1, 1, 1, 1, 0, 1, 0, 0, 1, 0] B26) (y := sub [1, 1, 1, 1, 0, 1, 0, 0, 1, 1] B26) ?_
      refine C.cond_true (x := sub [1, 1, 1, 1, 0, 1, 0, 0, 1, 0, 0] B26) (y := sub [1, 1, 1, 1, 0, 1, 0, 0, 1, 0, 1] B26) rfl rfl ?_
      refine C.skipQ (y := sub [1, 1, 1, 1, 0, 1, 0, 0, 1, 1] B26) rfl ?_
      refine C.block (id := 1) (c := sub [1, 1, 1, 1, 0, 1, 0, 0, 1, 1, 0] B26) ?_
      refine C.seq (x := sub [1, 1, 1, 1, 0, 1, 0, 0, 1, 1, 0, 0] B26) (y := sub [1, 1, 1, 1, 0, 1, 0, 0, 1, 1, 0, 1] B26) ?_
      refine C.region (id := 8) (m := 2) (ops := opsOf (sub [1, 1, 1, 1, 0, 1, 0, 0, 1, 1, 0, 0] B26)) rfl ?_
      refine W.pure (v := .int .i32 97) rfl (wo rfl) rfl rfl (p_extract rfl rfl rfl) (nf rfl) ?_
      refine W.pure (v := .int .i32 97) rfl (wo rfl) rfl rfl (p_assign rfl rfl) (nf rfl) ?_
      refine W.doneQ (y := sub [1, 1, 1, 1, 0, 1, 0, 0, 1, 1, 0, 1] B26) rfl ?_
      refine C.seq (x := sub [1, 1, 1, 1, 0, 1, 0, 0, 1, 1, 0, 1, 0] B26) (y := sub [1, 1, 1, 1, 0, 1, 0, 0, 1, 1, 0, 1, 1] B26) ?_
      refine C.region (id := 9) (m := 37) (ops := opsOf (sub [1, 1, 1, 1, 0, 1, 0, 0, 1, 1, 0, 1, 0] B26)) rfl ?_
      refine W.pure (v := .int .i32 97) rfl (wo rfl) rfl rfl (p_move rfl rfl) (nf rfl) ?_
      refine W.pure (v := .bool false) rfl (wo rfl) rfl rfl (p_bin (fun w => by kernel_rfl) (fun w => by kernel_rfl) rfl rfl rfl) (nf rfl) ?_
      refine W.pure (v := .bool false) rfl (wo rfl) rfl rfl (p_move rfl rfl) (nf rfl) ?_
      refine W.not rfl (wo rfl) rfl rfl ?_
      refine W.not rfl (wo rfl) rfl rfl ?_
      refine W.not rfl (wo rfl) rfl rfl ?_
      refine W.not rfl (wo rfl) rfl rfl ?_
      refine W.not rfl (Wn.undef rfl rfl rfl) rfl rfl ?_
      refine W.not rfl (Wn.undef rfl rfl rfl) rfl rfl ?_
      refine W.not rfl (Wn.undef rfl rfl rfl) rfl rfl ?_
      refine W.not rfl (wo rfl) rfl rfl ?_
      refine W.pure (v := .bool false) rfl (wo rfl) rfl rfl (p_pick_false rfl rfl rfl) (nf rfl) ?_
      refine W.pure (v := .bool false) rfl (wo rfl) rfl rfl (p_move rfl rfl) (nf rfl) ?_
      refine W.pure (v := .int .i32 97) rfl (wo rfl) rfl rfl (p_move rfl rfl) (nf rfl) ?_
      refine W.pure (v := .bool true) rfl (wo rfl) rfl rfl (p_bin (fun w => by kernel_rfl) (fun w => by kernel_rfl) rfl rfl rfl) (nf rfl) ?_
      refine W.pure (v := .bool true) rfl (wo rfl) rfl rfl (p_move rfl rfl) (nf rfl) ?_
      refine W.pure (v := ptr b1 5) rfl (wo rfl) rfl rfl (p_fieldAddr tf49_5 rfl rfl) (nf rfl) ?_
      refine W.quiet (v := .int .i64 4) rfl (wo rfl) rfl rfl (f_load (j := 1) (off := 5) ta32 rfl rfl rfl rfl) (nf rfl) ?_
      refine W.pure (v := .bool false) rfl (wo rfl) rfl rfl (p_bin (fun w => by kernel_rfl) (fun w => by kernel_rfl) rfl rfl rfl) (nf rfl) ?_
      refine W.pure (v := .bool false) rfl (wo rfl) rfl rfl (p_move rfl rfl) (nf rfl) ?_
      refine W.pure (v := ptr b1 5) rfl (wo rfl) rfl rfl (p_fieldAddr tf49_5 rfl rfl) (nf rfl) ?_
      refine W.quiet (v := .int .i64 4) rfl (wo rfl) rfl rfl (f_load (j := 1) (off := 5) ta32 rfl rfl rfl rfl) (nf rfl) ?_
      refine W.pure (v := .bool false) rfl (wo rfl) rfl rfl (p_bin (fun w => by kernel_rfl) (fun w => by kernel_rfl) rfl rfl rfl) (nf rfl) ?_
      refine W.pure (v := .bool false) rfl (wo rfl) rfl rfl (p_pick_false rfl rfl rfl) (nf rfl) ?_
      refine W.pure (v := .bool false) rfl (wo rfl) rfl rfl (p_pick_true rfl rfl rfl) (nf rfl) ?_
      refine W.pure (v := .bool false) rfl (wo rfl) rfl rfl (p_pick_false rfl rfl rfl) (nf rfl) ?_
      refine W.pure (v := .bool false) rfl (wo rfl) rfl rfl (p_move rfl rfl) (nf rfl) ?_
      refine W.pure (v := .int .i32 97) rfl (wo rfl) rfl rfl (p_move rfl rfl) (nf rfl) ?_
      refine W.pure (v := .bool false) rfl (wo rfl) rfl rfl (p_bin (fun w => by kernel_rfl) (fun w => by kernel_rfl) rfl rfl rfl) (nf rfl) ?_
      refine W.pure (v := .bool false) rfl (wo rfl) rfl rfl (p_move rfl rfl) (nf rfl) ?_
      refine W.not rfl (wo rfl) rfl rfl ?_
      refine W.not rfl (wo rfl) rfl rfl ?_
      refine W.not rfl (wo rfl) rfl rfl ?_
      refine W.not rfl (wo rfl) rfl rfl ?_
      refine W.not rfl (wo rfl) rfl rfl ?_
      refine W.pure (v := .bool false) rfl (wo rfl) rfl rfl (p_pick_false rfl rfl rfl) (nf rfl) ?_
      refine W.pure (v := .bool false) rfl (wo rfl) rfl rfl (p_pick_false rfl rfl rfl) (nf rfl) ?_
      refine W.doneQ (y := sub [1, 1, 1, 1, 0, 1, 0, 0, 1, 1, 0, 1, 1] B26) rfl ?_
      refine C.cond_false (x := sub [1, 1, 1, 1, 0, 1, 0, 0, 1, 1, 0, 1, 1, 0] B26) (y := sub [1, 1, 1, 1, 0, 1, 0, 0, 1, 1, 0, 1, 1, 1] B26) rfl rfl ?_
      exact C.skipE fun a1 w1 ha1 hc1 => hN 2 (by decide) (by decide) a1 w1 (ha1.sub (Sub.cons rfl (Sub.cons rfl (Sub.cons rfl (Sub.cons rfl (Sub.cons rfl (Sub.cons rfl (Sub.cons rfl (Sub.cons rfl (Sub.cons rfl (Sub.cons rfl (Sub.cons rfl (Sub.cons rfl (Sub.cons rfl (Sub.cons rfl (Sub.cons rfl (Sub.cons rfl (Sub.cons rfl (Sub.cons rfl (Sub.cons rfl (Sub.cons rfl (Sub.cons rfl (Sub.cons rfl (Sub.cons rfl (Sub.cons rfl (Sub.cons rfl (Sub.cons rfl (Sub.nil _)))))))))))))))))))))))))))) (hc1.pick [0, 1] (by decide))
    · show CW _ _ _ _ _ [(0, .agg kc2), (1, ptr b1 0), (3, .int .i64 1024), (6, .agg kc2), (7, .agg kc2), (8, .agg kc2), (9, .bool true), (10, .bool false), (11, .bool false), (12, ptr b1 1), (13, .int .i64 1), (14, str [116, 97]), (15, .bool false), (16, .bool false), (17, ptr b1 1), (18, .int .i64 1), (19, .bool false), (20, .bool false), (21, ptr b1 1), (22, .int .i64 1), (23, .bool false), (24, .bool false), (25, ptr b1 1), (26, .int .i64 1), (27, str [116, 97]), (28, ptr b2 0)] ([(some b2, .stringIter ⟨#[116, 97]⟩ 2), (some b1, .cells kc2 49 (0, 0))])
      refine C.seq (x := sub [1, 1, 1, 1, 0, 1, 0, 0, 0] B26) (y := sub [1, 1, 1, 1, 0, 1, 0, 0, 1] B26) ?_
      refine C.region (id := 7) (m := 2) (ops := opsOf (sub [1, 1, 1, 1, 0, 1, 0, 0, 0] B26)) rfl ?_
      refine W.quiet (v := .tuple #[.bool false]) rfl (wo rfl) rfl rfl (f_nextEnd (j := 0) rfl (by decide) rfl rfl) (nf rfl) ?_
      refine W.pure (v := .bool false) rfl (wo rfl) rfl rfl (p_extract rfl rfl rfl) (nf rfl) ?_
      refine W.doneQ (y := sub [1, 1, 1, 1, 0, 1, 0, 0, 1] B26) rfl ?_
      refine C.seq (x := sub [1, 1, 1, 1, 0, 1, 0, 0, 1, 0] B26) (y := sub [1, 1, 1, 1, 0, 1, 0, 0, 1, 1] B26) ?_
      refine C.cond_false (x := sub [1, 1, 1, 1, 0, 1, 0, 0, 1, 0, 0] B26) (y := sub [1, 1, 1, 1, 0, 1, 0, 0, 1, 0, 1] B26) rfl rfl ?_
      exact C.exit fun a1 w1 ha1 hc1 => hE rfl a1 w1 (ha1.sub (Sub.cons rfl (Sub.cons rfl (Sub.cons rfl (Sub.cons rfl (Sub.cons rfl (Sub.cons rfl (Sub.cons rfl (Sub.cons rfl (Sub.cons rfl (Sub.cons rfl (Sub.cons rfl (Sub.cons rfl (Sub.cons rfl (Sub.cons rfl (Sub.cons rfl (Sub.cons rfl (Sub.cons rfl (Sub.cons rfl (Sub.cons rfl (Sub.cons rfl (Sub.cons rfl (Sub.cons rfl (Sub.cons rfl (Sub.cons rfl (Sub.cons rfl (Sub.cons rfl (Sub.nil _)))))))))))))))))))))))))))) hc1
  intro q hq hqe
  subst hqe
  show CW _ _ _ _ _ [(0, .agg kc2), (1, ptr b1 0), (3, .int .i64 1024), (6, .agg kc2), (7, .agg kc2), (8, .agg kc2), (9, .bool true), (10, .bool false), (11, .bool false), (12, ptr b1 1), (13, .int .i64 1), (14, str [116, 97]), (15, .bool false), (16, .bool false), (17, ptr b1 1), (18, .int .i64 1), (19, .bool false), (20, .bool false), (21, ptr b1 1), (22, .int .i64 1), (23, .bool false), (24, .bool false), (25, ptr b1 1), (26, .int .i64 1), (27, str [116, 97]), (28, ptr b2 0)] ([(some b2, .stringIter ⟨#[116, 97]⟩ 2), (some b1, .cells kc2 49 (0, 0))])
  refine C.seq (x := sub [1, 1, 1, 1, 1, 0] B26) (y := sub [1, 1, 1, 1, 1, 1] B26) ?_
  refine C.region (id := 11) (m := 1) (ops := opsOf (sub [1, 1, 1, 1, 1, 0] B26)) rfl ?_
  refine W.pure (v := .bool true) rfl (wo rfl) rfl rfl (p_assign rfl rfl) (nf rfl) ?_
  refine W.doneQ (y := sub [1, 1, 1, 1, 1, 1] B26) rfl ?_
  exact C.ret (R := fun e w' => ∃ _x : Unit, e = .returned (.bool true) ∧ Cls w0 I' [] w') (rs := [.tmp 2]) (vs := [.bool true]) rfl Tryd.func26 rfl rfl rfl (res_cons (ResV.tmp rfl) res_nil) fun w1 hc1 => ⟨(), rfl, hc1.pick [] (by decide)⟩
theorem en26 (args : Array Value) (w : World) : (callFunc 26 args).run Tryd.prog w = .ok (.enter 26 args) w := by kernel_rfl
noncomputable def B27 : Code := bodyOf Tryd.f27
noncomputable def B45 : Code := bodyOf Tryd.f45
noncomputable def B66 : Code := bodyOf Tryd.f66
noncomputable def B57 : Code := bodyOf Tryd.f57
set_option maxHeartbeats 20000000 in
theorem cw57_34 {I : Mem} : Turn I 57 #[.int .i64 1] [] (fun _ : Unit => .int .i64 39) (fun _ => []) := fun I' he w0 w hc => by
  refine calls_of_CW (N := 10) Tryd.func57 (show _ = some B57 by kernel_rfl) (by kernel_rfl) rfl (S := [(0, .int .i64 1)]) (by simp) hc ?_
  show CW _ _ _ (sub [] B57) _ _ _
  refine C.seq (x := sub [0] B57) (y := sub [1] B57) ?_
  refine C.region (id := 0) (m := 1) (ops := opsOf (sub [0] B57)) rfl ?_
  refine W.pure (v := .int .i64 0) rfl (wo rfl) rfl rfl (p_assign rfl rfl) (nf rfl) ?_
  refine W.doneQ (y := sub [1] B57) rfl ?_
  refine C.seq (x := sub [1, 0] B57) (y := sub [1, 1] B57) ?_
  refine C.seq (x := sub [1, 0, 0] B57) (y := sub [1, 0, 1] B57) ?_
  refine C.region (id := 1) (m := 1) (ops := opsOf (sub [1, 0, 0] B57)) rfl ?_
  refine W.pure (v := .int .i64 1) rfl (wo rfl) rfl rfl (p_move rfl rfl) (nf rfl) ?_
  refine W.doneQ (y := sub [1, 0, 1] B57) rfl ?_
  refine C.block (id := 0) (c := sub [1, 0, 1, 0] B57) ?_
  refine C.seq (x := sub [1, 0, 1, 0, 0] B57) (y := sub [1, 0, 1, 0, 1] B57) ?_
  refine C.region (id := 2) (m := 2) (ops := opsOf (sub [1, 0, 1, 0, 0] B57)) rfl ?_
  refine W.pure (v := .bool true) rfl (wo rfl) rfl rfl (p_bin (fun w => by kernel_rfl) (fun w => by kernel_rfl) rfl rfl rfl) (nf rfl) ?_
  refine W.pure (v := .bool true) rfl (wo rfl) rfl rfl (p_assign rfl rfl) (nf rfl) ?_
  refine W.doneQ (y := sub [1, 0, 1, 0, 1] B57) rfl ?_
  refine C.cond_true (x := sub [1, 0, 1, 0, 1, 0] B57) (y := sub [1, 0, 1, 0, 1, 1] B57) rfl rfl ?_
  refine C.seq (x := sub [1, 0, 1, 0, 1, 0, 0] B57) (y := sub [1, 0, 1, 0, 1, 0, 1] B57) ?_
  refine C.region (id := 3) (m := 1) (ops := opsOf (sub [1, 0, 1, 0, 1, 0, 0] B57)) rfl ?_
  refine W.pure (v := .int .i64 39) rfl (wo rfl) rfl rfl (p_assign rfl rfl) (nf rfl) ?_
  refine W.doneQ (y := sub [1, 0, 1, 0, 1, 0, 1] B57) rfl ?_
  exact C.ret (R := fun e w' => ∃ _x : Unit, e = .returned (.int .i64 39) ∧ Cls w0 I' [] w') (rs := [.tmp 2]) (vs := [.int .i64 39]) rfl Tryd.func57 rfl rfl rfl (res_cons (ResV.tmp rfl) res_nil) fun w1 hc1 => ⟨(), rfl, hc1.pick [] (by decide)⟩
theorem en57 (args : Array Value) (w : World) : (callFunc 57 args).run Tryd.prog w = .ok (.enter 57 args) w := by kernel_rfl
noncomputable def B40 : Code := bodyOf Tryd.f40
set_option maxHeartbeats 20000000 in
theorem cw40_35 {I : Mem} : Turn I 40 #[.int .i64 4, .int .i64 63] [] (fun _ : Unit => .bool true) (fun _ => []) := fun I' he w0 w hc => by
  refine calls_of_CW (N := 13) Tryd.func40 (show _ = some B40 by kernel_rfl) (by kernel_rfl) rfl (S := [(0, .int .i64 4), (1, .int .i64 63)]) (by simp) hc ?_
  show CW _ _ _ (sub [] B40) _ _ _
  refine C.seq (x := sub [0] B40) (y := sub [1] B40) ?_
  refine C.region (id := 0) (m := 1) (ops := opsOf (sub [0] B40)) rfl ?_
  refine W.pure (v := .bool false) rfl (wo rfl) rfl rfl (p_assign rfl rfl) (nf rfl) ?_
  refine W.doneQ (y := sub [1] B40) rfl ?_
  refine C.seq (x := sub [1, 0] B40) (y := sub [1, 1] B40) ?_
  refine C.region (id := 1) (m := 9) (ops := opsOf (sub [1, 0] B40)) rfl ?_
  refine W.pure (v := .int .i64 4) rfl (wo rfl) rfl rfl (p_move rfl rfl) (nf rfl) ?_
  refine W.pure (v := .bool true) rfl (wo rfl) rfl rfl (p_bin (fun w => by kernel_rfl) (fun w => by kernel_rfl) rfl rfl rfl) (nf rfl) ?_
  refine W.pure (v := .bool true) rfl (wo rfl) rfl rfl (p_move rfl rfl) (nf rfl) ?_
  refine W.pure (v := .int .i64 4) rfl (wo rfl) rfl rfl (p_move rfl rfl) (nf rfl) ?_
  refine W.pure (v := .int .i64 63) rfl (wo rfl) rfl rfl (p_move rfl rfl) (nf rfl) ?_
  refine W.pure (v := .int .i64 0) rfl (wo rfl) rfl rfl (p_bin (fun w => by kernel_rfl) (fun w => by kernel_rfl) rfl rfl rfl) (nf rfl) ?_
  refine W.pure (v := .bool true) rfl (wo rfl) rfl rfl (p_bin (fun w => by kernel_rfl) (fun w => by kernel_rfl) rfl rfl rfl) (nf rfl) ?_
  refine W.pure (v := .bool true) rfl (wo rfl) rfl rfl (p_pick_true rfl rfl rfl) (nf rfl) ?_
  refine W.pure (v := .bool true) rfl (wo rfl) rfl rfl (p_assign rfl rfl) (nf rfl) ?_
  refine W.doneQ (y := sub [1, 1] B40) rfl ?_
  exact C.ret (R := fun e w' => ∃ _x : Unit, e = .returned (.bool true) ∧ Cls w0 I' [] w') (rs := [.tmp 4]) (vs := [.bool true]) rfl Tryd.func40 rfl rfl rfl (res_cons (ResV.tmp rfl) res_nil) fun w1 hc1 => ⟨(), rfl, hc1.pick [] (by decide)⟩
theorem en40 (args : Array Value) (w : World) : (callFunc 40 args).run Tryd.prog w = .ok (.enter 40 args) w := by kernel_rfl
set_option maxHeartbeats 20000000 in
theorem cw66_33 {I : Mem} : Turn I 66 #[.int .i64 1, .int .i64 4] [] (fun _ : Unit => .bool true) (fun _ => []) := fun I' he w0 w hc => by
  refine calls_of_CW (N := 12) Tryd.func66 (show _ = some B66 by kernel_rfl) (by kernel_rfl) rfl (S := [(0, .int .i64 1), (1, .int .i64 4)]) (by simp) hc ?_
  show CW _ _ _ (sub [] B66) _ _ _
  refine C.seq (x := sub [0] B66) (y := sub [1] B66) ?_
  refine C.region (id := 0) (m := 1) (ops := opsOf (sub [0] B66)) rfl ?_
  refine W.pure (v := .bool false) rfl (wo rfl) rfl rfl (p_assign rfl rfl) (nf rfl) ?_
  refine W.doneQ (y := sub [1] B66) rfl ?_
  refine C.seq (x := sub [1, 0] B66) (y := sub [1, 1] B66) ?_
  refine C.region (id := 1) (m := 8) (ops := opsOf (sub [1, 0] B66)) rfl ?_
  refine W.pure (v := .int .i64 1) rfl (wo rfl) rfl rfl (p_move rfl rfl) (nf rfl) ?_
  refine W.cP (E := []) (R := []) (caps := #[]) rfl (wo rfl) rfl rfl [] rfl rfl (cw57_34) rfl (en57 _) rfl rfl rfl (args_val rfl) ?_
  intro _
  refine W.heapIs (H2 := []) rfl ?_
  refine W.pure (v := .bool true) rfl (wo rfl) rfl rfl (p_bin (fun w => by kernel_rfl) (fun w => by kernel_rfl) rfl rfl rfl) (nf rfl) ?_
  refine W.pure (v := .bool true) rfl (wo rfl) rfl rfl (p_move rfl rfl) (nf rfl) ?_
  refine W.pure (v := .int .i64 4) rfl (wo rfl) rfl rfl (p_move rfl rfl) (nf rfl) ?_
  refine W.cP (E := []) (R := []) (caps := #[]) rfl (wo rfl) rfl rfl [] rfl rfl (cw40_35) rfl (en40 _) rfl rfl rfl (args_val rfl) ?_
  intro _
  refine W.heapIs (H2 := []) rfl ?_
  refine W.pure (v := .bool true) rfl (wo rfl) rfl rfl (p_pick_true rfl rfl rfl) (nf rfl) ?_
  refine W.pure (v := .bool true) rfl (wo rfl) rfl rfl (p_assign rfl rfl) (nf rfl) ?_
  refine W.doneQ (y := sub [1, 1] B66) rfl ?_
  exact C.ret (R := fun e w' => ∃ _x : Unit, e = .returned (.bool true) ∧ Cls w0 I' [] w') (rs := [.tmp 4]) (vs := [.bool true]) rfl Tryd.func66 rfl rfl rfl (res_cons (ResV.tmp rfl) res_nil) fun w1 hc1 => ⟨(), rfl, hc1.pick [] (by decide)⟩
theorem en66 (args : Array Value) (w : World) : (callFunc 66 args).run Tryd.prog w = .ok (.enter 66 args) w := by kernel_rfl
noncomputable def B67 : Code := bodyOf Tryd.f67
set_option maxHeartbeats 20000000 in
theorem cw40_37 {I : Mem} : Turn I 40 #[.int .i64 4, .int .i64 39] [] (fun _ : Unit => .bool true) (fun _ => []) := fun I' he w0 w hc => by
  refine calls_of_CW (N := 13) Tryd.func40 (show _ = some B40 by kernel_rfl) (by kernel_rfl) rfl (S := [(0, .int .i64 4), (1, .int .i64 39)]) (by simp) hc ?_
  show CW _ _ _ (sub [] B40) _ _ _
  refine C.seq (x := sub [0] B40) (y := sub [1] B40) ?_
  refine C.region (id := 0) (m := 1) (ops := opsOf (sub [0] B40)) rfl ?_
  refine W.pure (v := .bool false) rfl (wo rfl) rfl rfl (p_assign rfl rfl) (nf rfl) ?_
  refine W.doneQ (y := sub [1] B40) rfl ?_
  refine C.seq (x := sub [1, 0] B40) (y := sub [1, 1] B40) ?_
  refine C.region (id := 1) (m := 9) (ops := opsOf (sub [1, 0] B40)) rfl ?_
  refine W.pure (v := .int .i64 4) rfl (wo rfl) rfl rfl (p_move rfl rfl) (nf rfl) ?_
  refine W.pure (v := .bool true) rfl (wo rfl) rfl rfl (p_bin (fun w => by kernel_rfl) (fun w => by kernel_rfl) rfl rfl rfl) (nf rfl) ?_
  refine W.pure (v := .bool true) rfl (wo rfl) rfl rfl (p_move rfl rfl) (nf rfl) ?_
  refine W.pure (v := .int .i64 4) rfl (wo rfl) rfl rfl (p_move rfl rfl) (nf rfl) ?_
  refine W.pure (v := .int .i64 39) rfl (wo rfl) rfl rfl (p_move rfl rfl) (nf rfl) ?_
  refine W.pure (v := .int .i64 0) rfl (wo rfl) rfl rfl (p_bin (fun w => by kernel_rfl) (fun w => by kernel_rfl) rfl rfl rfl) (nf rfl) ?_
  refine W.pure (v := .bool true) rfl (wo rfl) rfl rfl (p_bin (fun w => by kernel_rfl) (fun w => by kernel_rfl) rfl rfl rfl) (nf rfl) ?_
  refine W.pure (v := .bool true) rfl (wo rfl) rfl rfl (p_pick_true rfl rfl rfl) (nf rfl) ?_
  refine W.pure (v := .bool true) rfl (wo rfl) rfl rfl (p_assign rfl rfl) (nf rfl) ?_
  refine W.doneQ (y := sub [1, 1] B40) rfl ?_
  exact C.ret (R := fun e w' => ∃ _x : Unit, e = .returned (.bool true) ∧ Cls w0 I' [] w') (rs := [.tmp 4]) (vs := [.bool true]) rfl Tryd.func40 rfl rfl rfl (res_cons (ResV.tmp rfl) res_nil) fun w1 hc1 => ⟨(), rfl, hc1.pick [] (by decide)⟩
set_option maxHeartbeats 20000000 in
theorem cw67_36 {I : Mem} : Turn I 67 #[.int .i64 1, .int .i64 1, .int .i64 4, .bool false] [] (fun _ : Unit => .tuple #[.agg #[.int .i64 1, .int .i64 1, .int .i64 4, .int .i64 4], .int .i64 0]) (fun _ => []) := fun I' he w0 w hc => by
  refine calls_of_CW (N := 28) Tryd.func67 (show _ = some B67 by kernel_rfl) (by kernel_rfl) rfl (S := [(0, .int .i64 1), (1, .int .i64 1), (2, .int .i64 4), (3, .bool false)]) (by simp) hc ?_
  show CW _ _ _ (sub [] B67) _ _ _
  refine C.seq (x := sub [0] B67) (y := sub [1] B67) ?_
  refine C.region (id := 0) (m := 2) (ops := opsOf (sub [0] B67)) rfl ?_
  refine W.new rfl (wo rfl) rfl rfl (f_alloc tz34 rfl) (nf rfl) ?_
  intro b1 _
  refine W.heapIs (H2 := [(some b1, .cells (#[.int .i64 0, .int .i64 0, .int .i64 0, .int .i64 0]) 34 (0, 0))]) rfl ?_
  refine W.pure (v := .int .i64 0) rfl (wo rfl) rfl rfl (p_assign rfl rfl) (nf rfl) ?_
  refine W.doneQ (y := sub [1] B67) rfl ?_
  refine C.seq (x := sub [1, 0] B67) (y := sub [1, 1] B67) ?_
  refine C.region (id := 1) (m := 7) (ops := opsOf (sub [1, 0] B67)) rfl ?_
  refine W.pure (v := .int .i64 1) rfl (wo rfl) rfl rfl (p_move rfl rfl) (nf rfl) ?_
  refine W.pure (v := .int .i64 1) rfl (wo rfl) rfl rfl (p_move rfl rfl) (nf rfl) ?_
  refine W.pure (v := .int .i64 4) rfl (wo rfl) rfl rfl (p_move rfl rfl) (nf rfl) ?_
  refine W.pure (v := .int .i64 4) rfl (wo rfl) rfl rfl (p_move rfl rfl) (nf rfl) ?_
  refine W.pure (v := .agg #[.int .i64 1, .int .i64 1, .int .i64 4, .int .i64 4]) rfl (wo rfl) rfl rfl (p_build (vs := [(0, .int .i64 1), (1, .int .i64 1), (2, .int .i64 4), (3, .int .i64 4)]) (fun w => by kernel_rfl) rfl rfl) (nf rfl) ?_
  refine W.new rfl (wo rfl) rfl rfl (f_alloc tz34 rfl) (nf rfl) ?_
  intro b2 _
  refine W.heapIs (H2 := [(some b2, .cells (#[.int .i64 0, .int .i64 0, .int .i64 0, .int .i64 0]) 34 (0, 0)), (some b1, .cells (#[.int .i64 0, .int .i64 0, .int .i64 0, .int .i64 0]) 34 (0, 0))]) rfl ?_
  refine W.put (H' := [(some b2, .cells (#[.int .i64 1, .int .i64 1, .int .i64 4, .int .i64 4]) 34 (0, 0)), (some b1, .cells (#[.int .i64 0, .int .i64 0, .int .i64 0, .int .i64 0]) 34 (0, 0))]) rfl (wo rfl) rfl (f_storeA (j := 0) (c2 := #[.int .i64 1, .int .i64 1, .int .i64 4, .int .i64 4]) ts34 rfl rfl rfl (one_all rfl) rfl rfl rfl) (nf rfl) ?_
  refine W.doneQ (y := sub [1, 1] B67) rfl ?_
  refine C.seq (x := sub [1, 1, 0] B67) (y := sub [1, 1, 1] B67) ?_
  refine C.seq (x := sub [1, 1, 0, 0] B67) (y := sub [1, 1, 0, 1] B67) ?_
  refine C.region (id := 2) (m := 1) (ops := opsOf (sub [1, 1, 0, 0] B67)) rfl ?_
  refine W.pure (v := .bool false) rfl (wo rfl) rfl rfl (p_move rfl rfl) (nf rfl) ?_
  refine W.doneQ (y := sub [1, 1, 0, 1] B67) rfl ?_
  refine C.cond_false (x := sub [1, 1, 0, 1, 0] B67) (y := sub [1, 1, 0, 1, 1] B67) rfl rfl ?_
  refine C.skipQ (y := sub [1, 1, 1] B67) rfl ?_
  refine C.seq (x := sub [1, 1, 1, 0] B67) (y := sub [1, 1, 1, 1] B67) ?_
  refine C.seq (x := sub [1, 1, 1, 0, 0] B67) (y := sub [1, 1, 1, 0, 1] B67) ?_
  refine C.region (id := 4) (m := 5) (ops := opsOf (sub [1, 1, 1, 0, 0] B67)) rfl ?_
  refine W.pure (v := .int .i64 4) rfl (wo rfl) rfl rfl (p_move rfl rfl) (nf rfl) ?_
  refine W.pure (v := .int .i64 1) rfl (wo rfl) rfl rfl (p_move rfl rfl) (nf rfl) ?_
  refine W.cP (E := []) (R := [(some b2, .cells (#[.int .i64 1, .int .i64 1, .int .i64 4, .int .i64 4]) 34 (0, 0)), (some b1, .cells (#[.int .i64 0, .int .i64 0, .int .i64 0, .int .i64 0]) 34 (0, 0))]) (caps := #[]) rfl (wo rfl) rfl rfl [0, 1] rfl rfl (cw57_34) rfl (en57 _) rfl rfl rfl (args_val rfl) ?_
  intro _
  refine W.heapIs (H2 := [(some b2, .cells (#[.int .i64 1, .int .i64 1, .int .i64 4, .int .i64 4]) 34 (0, 0)), (some b1, .cells (#[.int .i64 0, .int .i64 0, .int .i64 0, .int .i64 0]) 34 (0, 0))]) rfl ?_
  refine W.cP (E := []) (R := [(some b2, .cells (#[.int .i64 1, .int .i64 1, .int .i64 4, .int .i64 4]) 34 (0, 0)), (some b1, .cells (#[.int .i64 0, .int .i64 0, .int .i64 0, .int .i64 0]) 34 (0, 0))]) (caps := #[]) rfl (wo rfl) rfl rfl [0, 1] rfl rfl (cw40_37) rfl (en40 _) rfl rfl rfl (args_val rfl) ?_
  intro _
  refine W.heapIs (H2 := [(some b2, .cells (#[.int .i64 1, .int .i64 1, .int .i64 4, .int .i64 4]) 34 (0, 0)), (some b1, .cells (#[.int .i64 0, .int .i64 0, .int .i64 0, .int .i64 0]) 34 (0, 0))]) rfl ?_
  refine W.pure (v := .bool false) rfl (wo rfl) rfl rfl (p_not (p := true) rfl rfl) (nf rfl) ?_
  refine W.doneQ (y := sub [1, 1, 1, 0, 1] B67) rfl ?_
  refine C.cond_false (x := sub [1, 1, 1, 0, 1, 0] B67) (y := sub [1, 1, 1, 0, 1, 1] B67) rfl rfl ?_
  refine C.skipQ (y := sub [1, 1, 1, 1] B67) rfl ?_
  refine C.seq (x := sub [1, 1, 1, 1, 0] B67) (y := sub [1, 1, 1, 1, 1] B67) ?_
  refine C.region (id := 6) (m := 3) (ops := opsOf (sub [1, 1, 1, 1, 0] B67)) rfl ?_
  refine W.quiet (v := .agg #[.int .i64 1, .int .i64 1, .int .i64 4, .int .i64 4]) rfl (wo rfl) rfl rfl (f_loadA (j := 0) ta34 ts34 rfl rfl rfl rfl) (nf rfl) ?_
  refine W.put (H' := [(some b2, .cells (#[.int .i64 1, .int .i64 1, .int .i64 4, .int .i64 4]) 34 (0, 0)), (some b1, .cells (#[.int .i64 1, .int .i64 1, .int .i64 4, .int .i64 4]) 34 (0, 0))]) rfl (wo rfl) rfl (f_storeA (j := 1) (c2 := #[.int .i64 1, .int .i64 1, .int .i64 4, .int .i64 4]) ts34 rfl rfl rfl (one_all rfl) rfl rfl rfl) (nf rfl) ?_
  refine W.pure (v := .int .i64 0) rfl (wo rfl) rfl rfl (p_assign rfl rfl) (nf rfl) ?_
  refine W.doneQ (y := sub [1, 1, 1, 1, 1] B67) rfl ?_
  exact C.ret (R := fun e w' => ∃ _x : Unit, e = .returned (.tuple #[.agg #[.int .i64 1, .int .i64 1, .int .i64 4, .int .i64 4], .int .i64 0]) ∧ Cls w0 I' [] w') (rs := [.cell 8 34, .tmp 9]) (vs := [.agg #[.int .i64 1, .int .i64 1, .int .i64 4, .int .i64 4], .int .i64 0]) rfl Tryd.func67 rfl rfl rfl (res_cons (ResV.cell (j := 1) ta34 ts34 rfl rfl rfl) (res_cons (ResV.tmp rfl) res_nil)) fun w1 hc1 => ⟨(), rfl, hc1.pick [] (by decide)⟩
theorem en67 (args : Array Value) (w : World) : (callFunc 67 args).run Tryd.prog w = .ok (.enter 67 args) w := by kernel_rfl
set_option maxHeartbeats 20000000 in
theorem cw45_32 {I : Mem} : Turn I 45 #[.int .i64 1, .int .i64 1, .int .i64 4] [] (fun _ : Unit => .tuple #[.agg #[.int .i64 1, .int .i64 1, .int .i64 4, .int .i64 4], .int .i64 0]) (fun _ => []) := fun I' he w0 w hc => by
  refine calls_of_CW (N := 29) Tryd.func45 (show _ = some B45 by kernel_rfl) (by kernel_rfl) rfl (S := [(0, .int .i64 1), (1, .int .i64 1), (2, .int .i64 4)]) (by simp) hc ?_
  show CW _ _ _ (sub [] B45) _ _ _
  refine C.seq (x := sub [0] B45) (y := sub [1] B45) ?_
  refine C.region (id := 0) (m := 2) (ops := opsOf (sub [0] B45)) rfl ?_
  refine W.new rfl (wo rfl) rfl rfl (f_alloc tz34 rfl) (nf rfl) ?_
  intro b1 _
  refine W.heapIs (H2 := [(some b1, .cells (#[.int .i64 0, .int .i64 0, .int .i64 0, .int .i64 0]) 34 (0, 0))]) rfl ?_
  refine W.pure (v := .int .i64 0) rfl (wo rfl) rfl rfl (p_assign rfl rfl) (nf rfl) ?_
  refine W.doneQ (y := sub [1] B45) rfl ?_
  refine C.seq (x := sub [1, 0] B45) (y := sub [1, 1] B45) ?_
  refine C.seq (x := sub [1, 0, 0] B45) (y := sub [1, 0, 1] B45) ?_
  refine C.region (id := 1) (m := 12) (ops := opsOf (sub [1, 0, 0] B45)) rfl ?_
  refine W.pure (v := .int .i64 1) rfl (wo rfl) rfl rfl (p_move rfl rfl) (nf rfl) ?_
  refine W.pure (v := .bool false) rfl (wo rfl) rfl rfl (p_bin (fun w => by kernel_rfl) (fun w => by kernel_rfl) rfl rfl rfl) (nf rfl) ?_
  refine W.pure (v := .bool false) rfl (wo rfl) rfl rfl (p_move rfl rfl) (nf rfl) ?_
  refine W.not rfl (wo rfl) rfl rfl ?_
  refine W.not rfl (wo rfl) rfl rfl ?_
  refine W.pure (v := .bool false) rfl (wo rfl) rfl rfl (p_pick_false rfl rfl rfl) (nf rfl) ?_
  refine W.pure (v := .bool false) rfl (wo rfl) rfl rfl (p_move rfl rfl) (nf rfl) ?_
  refine W.pure (v := .int .i64 1) rfl (wo rfl) rfl rfl (p_move rfl rfl) (nf rfl) ?_
  refine W.pure (v := .int .i64 4) rfl (wo rfl) rfl rfl (p_move rfl rfl) (nf rfl) ?_
  refine W.cP (E := []) (R := [(some b1, .cells (#[.int .i64 0, .int .i64 0, .int .i64 0, .int .i64 0]) 34 (0, 0))]) (caps := #[]) rfl (wo rfl) rfl rfl [0] rfl rfl (cw66_33) rfl (en66 _) rfl rfl rfl (args_val rfl) ?_
  intro _
  refine W.heapIs (H2 := [(some b1, .cells (#[.int .i64 0, .int .i64 0, .int .i64 0, .int .i64 0]) 34 (0, 0))]) rfl ?_
  refine W.pure (v := .bool false) rfl (wo rfl) rfl rfl (p_not (p := true) rfl rfl) (nf rfl) ?_
  refine W.pure (v := .bool false) rfl (wo rfl) rfl rfl (p_pick_false rfl rfl rfl) (nf rfl) ?_
  refine W.doneQ (y := sub [1, 0, 1] B45) rfl ?_
  refine C.cond_false (x := sub [1, 0, 1, 0] B45) (y := sub [1, 0, 1, 1] B45) rfl rfl ?_
  refine C.skipQ (y := sub [1, 1] B45) rfl ?_
  refine C.seq (x := sub [1, 1, 0] B45) (y := sub [1, 1, 1] B45) ?_
  refine C.region (id := 3) (m := 10) (ops := opsOf (sub [1, 1, 0] B45)) rfl ?_
  refine W.pure (v := .int .i64 1) rfl (wo rfl) rfl rfl (p_move rfl rfl) (nf rfl) ?_
  refine W.pure (v := .int .i64 1) rfl (wo rfl) rfl rfl (p_move rfl rfl) (nf rfl) ?_
  refine W.pure (v := .int .i64 4) rfl (wo rfl) rfl rfl (p_move rfl rfl) (nf rfl) ?_
  refine W.pure (v := .int .i64 1) rfl (wo rfl) rfl rfl (p_move rfl rfl) (nf rfl) ?_
  refine W.pure (v := .bool false) rfl (wo rfl) rfl rfl (p_bin (fun w => by kernel_rfl) (fun w => by kernel_rfl) rfl rfl rfl) (nf rfl) ?_
  refine W.cP (E := []) (R := [(some b1, .cells (#[.int .i64 0, .int .i64 0, .int .i64 0, .int .i64 0]) 34 (0, 0))]) (caps := #[]) rfl (wo rfl) rfl rfl [0] rfl rfl (cw67_36) rfl (en67 _) rfl rfl rfl (args_val rfl) ?_
  intro _
  refine W.heapIs (H2 := [(some b1, .cells (#[.int .i64 0, .int .i64 0, .int .i64 0, .int .i64 0]) 34 (0, 0))]) rfl ?_
  refine W.pure (v := .agg #[.int .i64 1, .int .i64 1, .int .i64 4, .int .i64 4]) rfl (wo rfl) rfl rfl (p_extract rfl rfl rfl) (nf rfl) ?_
  refine W.pure (v := .int .i64 0) rfl (wo rfl) rfl rfl (p_extract rfl rfl rfl) (nf rfl) ?_
  refine W.put (H' := [(some b1, .cells (#[.int .i64 1, .int .i64 1, .int .i64 4, .int .i64 4]) 34 (0, 0))]) rfl (wo rfl) rfl (f_storeA (j := 0) (c2 := #[.int .i64 1, .int .i64 1, .int .i64 4, .int .i64 4]) ts34 rfl rfl rfl (one_all rfl) rfl rfl rfl) (nf rfl) ?_
  refine W.pure (v := .int .i64 0) rfl (wo rfl) rfl rfl (p_assign rfl rfl) (nf rfl) ?_
  refine W.doneQ (y := sub [1, 1, 1] B45) rfl ?_
  exact C.ret (R := fun e w' => ∃ _x : Unit, e = .returned (.tuple #[.agg #[.int .i64 1, .int .i64 1, .int .i64 4, .int .i64 4], .int .i64 0]) ∧ Cls w0 I' [] w') (rs := [.cell 6 34, .tmp 7]) (vs := [.agg #[.int .i64 1, .int .i64 1, .int .i64 4, .int .i64 4], .int .i64 0]) rfl Tryd.func45 rfl rfl rfl (res_cons (ResV.cell (j := 0) ta34 ts34 rfl rfl rfl) (res_cons (ResV.tmp rfl) res_nil)) fun w1 hc1 => ⟨(), rfl, hc1.pick [] (by decide)⟩
theorem en45 (args : Array Value) (w : World) : (callFunc 45 args).run Tryd.prog w = .ok (.enter 45 args) w := by kernel_rfl
noncomputable def B44 : Code := bodyOf Tryd.f44
noncomputable def B52 : Code := bodyOf Tryd.f52
theorem tu23 (w : World) : (underlying 23).run Tryd.prog w = .ok (.map 24 61) w := by kernel_rfl
theorem tf29_1 (a : Addr) (w : World) : (Instr.fieldAt 29 (.pointer (some a)) 1).run Tryd.prog w = .ok (.pointer (some (a.add 1))) w := by kernel_rfl
set_option maxHeartbeats 20000000 in
theorem cw52_39 (p1 p2 p3 p4 p5 : Nat) {I : Mem} : Turn I 52 #[ptr p1 0] [(some p1, .cells (#[.map (some p2), .int .u32 1, .int .i64 0, .map (some p3), .map (some p4), .map (some p5)]) 29 (0, 0)), (some p2, mobj .u32 []), (some p3, mobj .i64 []), (some p4, mobj .i64 []), (some p5, mobj .i64 [])] (fun _ : Unit => .bool false) (fun _ => [(some p1, .cells (#[.map (some p2), .int .u32 1, .int .i64 0, .map (some p3), .map (some p4), .map (some p5)]) 29 (0, 0)), (some p2, mobj .u32 []), (some p3, mobj .i64 []), (some p4, mobj .i64 []), (some p5, mobj .i64 [])]) := fun I' he w0 w hc => by
  refine calls_of_CW (N := 16) Tryd.func52 (show _ = some B52 by kernel_rfl) (by kernel_rfl) rfl (S := [(0, ptr p1 0)]) (by simp) hc ?_
  show CW _ _ _ (sub [] B52) _ _ _
  refine C.seq (x := sub [0] B52) (y := sub [1] B52) ?_
  refine C.region (id := 0) (m := 1) (ops := opsOf (sub [0] B52)) rfl ?_
  refine W.pure (v := .bool false) rfl (wo rfl) rfl rfl (p_assign rfl rfl) (nf rfl) ?_
  refine W.doneQ (y := sub [1] B52) rfl ?_
  refine C.seq (x := sub [1, 0] B52) (y := sub [1, 1] B52) ?_
  refine C.region (id := 1) (m := 14) (ops := opsOf (sub [1, 0] B52)) rfl ?_
  refine W.pure (v := ptr p1 0) rfl (wo rfl) rfl rfl (p_move rfl rfl) (nf rfl) ?_
  refine W.pure (v := ptr p1 0) rfl (wo rfl) rfl rfl (p_nilCheck rfl rfl) (nf rfl) ?_
  refine W.pure (v := ptr p1 0) rfl (wo rfl) rfl rfl (p_fieldAddr tf29_0 rfl rfl) (nf rfl) ?_
  refine W.quiet (v := .map (some p2)) rfl (wo rfl) rfl rfl (f_load (j := 0) (off := 0) ta23 rfl rfl rfl rfl) (nf rfl) ?_
  refine W.quiet (v := .int .i64 0) rfl (wo rfl) rfl rfl (f_mapLen (j := 1) tu23 rfl rfl rfl rfl) (nf rfl) ?_
  refine W.pure (v := .bool false) rfl (wo rfl) rfl rfl (p_bin (fun w => by kernel_rfl) (fun w => by kernel_rfl) rfl rfl rfl) (nf rfl) ?_
  refine W.pure (v := .bool false) rfl (wo rfl) rfl rfl (p_move rfl rfl) (nf rfl) ?_
  refine W.pure (v := ptr p1 0) rfl (wo rfl) rfl rfl (p_move rfl rfl) (nf rfl) ?_
  refine W.pure (v := ptr p1 0) rfl (wo rfl) rfl rfl (p_nilCheck rfl rfl) (nf rfl) ?_
  refine W.pure (v := ptr p1 1) rfl (wo rfl) rfl rfl (p_fieldAddr tf29_1 rfl rfl) (nf rfl) ?_
  refine W.quiet (v := .int .u32 1) rfl (wo rfl) rfl rfl (f_load (j := 0) (off := 1) ta24 rfl rfl rfl rfl) (nf rfl) ?_
  refine W.pure (v := .bool false) rfl (wo rfl) rfl rfl (p_bin (fun w => by kernel_rfl) (fun w => by kernel_rfl) rfl rfl rfl) (nf rfl) ?_
  refine W.pure (v := .bool false) rfl (wo rfl) rfl rfl (p_pick_false rfl rfl rfl) (nf rfl) ?_
  refine W.pure (v := .bool false) rfl (wo rfl) rfl rfl (p_assign rfl rfl) (nf rfl) ?_
  refine W.doneQ (y := sub [1, 1] B52) rfl ?_
  exact C.ret (R := fun e w' => ∃ _x : Unit, e = .returned (.bool false) ∧ Cls w0 I' [(some p1, .cells (#[.map (some p2), .int .u32 1, .int .i64 0, .map (some p3), .map (some p4), .map (some p5)]) 29 (0, 0)), (some p2, mobj .u32 []), (some p3, mobj .i64 []), (some p4, mobj .i64 []), (some p5, mobj .i64 [])] w') (rs := [.tmp 2]) (vs := [.bool false]) rfl Tryd.func52 rfl rfl rfl (res_cons (ResV.tmp rfl) res_nil) fun w1 hc1 => ⟨(), rfl, hc1.pick [0, 1, 2, 3, 4] (by decide)⟩
theorem en52 (args : Array Value) (w : World) : (callFunc 52 args).run Tryd.prog w = .ok (.enter 52 args) w := by kernel_rfl
def kc8 : Array Value := #[.int .i64 0, .slice none 0 0, .int .i64 1, .int .i64 1, .int .i64 4, .int .i64 4, .bool true, .bool false]
set_option maxHeartbeats 20000000 in
theorem cw44_38 (p1 p2 p3 p4 p5 : Nat) {I : Mem} : Turn I 44 #[ptr p1 0, .agg #[.int .i64 1, .int .i64 1, .int .i64 4, .int .i64 4], .int .i64 0] [(some p1, .cells (#[.map (some p2), .int .u32 1, .int .i64 0, .map (some p3), .map (some p4), .map (some p5)]) 29 (0, 0)), (some p2, mobj .u32 []), (some p3, mobj .i64 []), (some p4, mobj .i64 []), (some p5, mobj .i64 [])] (fun _ : Unit => .agg kc8) (fun _ => [(some p1, .cells (#[.map (some p2), .int .u32 1, .int .i64 0, .map (some p3), .map (some p4), .map (some p5)]) 29 (0, 0)), (some p2, mobj .u32 []), (some p3, mobj .i64 []), (some p4, mobj .i64 []), (some p5, mobj .i64 [])]) := fun I' he w0 w hc => by
  refine calls_of_CW (N := 18) Tryd.func44 (show _ = some B44 by kernel_rfl) (by kernel_rfl) rfl (S := [(0, ptr p1 0), (1, .agg #[.int .i64 1, .int .i64 1, .int .i64 4, .int .i64 4]), (2, .int .i64 0)]) (by simp) hc ?_
  show CW _ _ _ (sub [] B44) _ _ _
  refine C.seq (x := sub [0] B44) (y := sub [1] B44) ?_
  refine C.region (id := 0) (m := 2) (ops := opsOf (sub [0] B44)) rfl ?_
  refine W.new rfl (wo rfl) rfl rfl (f_box (v := .agg #[.int .i64 1, .int .i64 1, .int .i64 4, .int .i64 4]) rfl rfl) (nf rfl) ?_
  intro b1 _
  refine W.heapIs (H2 := [(some b1, .cells (#[.int .i64 1, .int .i64 1, .int .i64 4, .int .i64 4]) 34 (0, 0)), (some p1, .cells (#[.map (some p2), .int .u32 1, .int .i64 0, .map (some p3), .map (some p4), .map (some p5)]) 29 (0, 0)), (some p2, mobj .u32 []), (some p3, mobj .i64 []), (some p4, mobj .i64 []), (some p5, mobj .i64 [])]) rfl ?_
  refine W.new rfl (wo rfl) rfl rfl (f_alloc tz82 rfl) (nf rfl) ?_
  intro b2 _
  refine W.heapIs (H2 := [(some b2, .cells kc3 82 (0, 0)), (some b1, .cells (#[.int .i64 1, .int .i64 1, .int .i64 4, .int .i64 4]) 34 (0, 0)), (some p1, .cells (#[.map (some p2), .int .u32 1, .int .i64 0, .map (some p3), .map (some p4), .map (some p5)]) 29 (0, 0)), (some p2, mobj .u32 []), (some p3, mobj .i64 []), (some p4, mobj .i64 []), (some p5, mobj .i64 [])]) rfl ?_
  refine W.doneQ (y := sub [1] B44) rfl ?_
  refine C.seq (x := sub [1, 0] B44) (y := sub [1, 1] B44) ?_
  refine C.block (id := 0) (c := sub [1, 0, 0] B44) ?_
  refine C.seq (x := sub [1, 0, 0, 0] B44) (y := sub [1, 0, 0, 1] B44) ?_
  refine C.region (id := 1) (m := 3) (ops := opsOf (sub [1, 0, 0, 0] B44)) rfl ?_
  refine W.pure (v := .int .i64 0) rfl (wo rfl) rfl rfl (p_move rfl rfl) (nf rfl) ?_
  refine W.pure (v := .bool false) rfl (wo rfl) rfl rfl (p_bin (fun w => by kernel_rfl) (fun w => by kernel_rfl) rfl rfl rfl) (nf rfl) ?_
  refine W.pure (v := .bool false) rfl (wo rfl) rfl rfl (p_assign rfl rfl) (nf rfl) ?_
  refine W.doneQ (y := sub [1, 0, 0, 1] B44) rfl ?_
  refine C.cond_false (x := sub [1, 0, 0, 1, 0] B44) (y := sub [1, 0, 0, 1, 1] B44) rfl rfl ?_
  refine C.seq (x := sub [1, 0, 0, 1, 1, 0] B44) (y := sub [1, 0, 0, 1, 1, 1] B44) ?_
  refine C.region (id := 3) (m := 3) (ops := opsOf (sub [1, 0, 0, 1, 1, 0] B44)) rfl ?_
  refine W.pure (v := ptr p1 0) rfl (wo rfl) rfl rfl (p_move rfl rfl) (nf rfl) ?_
  refine W.cP (E := [(some p1, .cells (#[.map (some p2), .int .u32 1, .int .i64 0, .map (some p3), .map (some p4), .map (some p5)]) 29 (0, 0)), (some p2, mobj .u32 []), (some p3, mobj .i64 []), (some p4, mobj .i64 []), (some p5, mobj .i64 [])]) (R := [(some b2, .cells kc3 82 (0, 0)), (some b1, .cells (#[.int .i64 1, .int .i64 1, .int .i64 4, .int .i64 4]) 34 (0, 0))]) (caps := #[]) rfl (wo rfl) rfl rfl [2, 3, 4, 5, 6, 0, 1] rfl rfl (cw52_39 p1 p2 p3 p4 p5) rfl (en52 _) rfl rfl rfl (args_val rfl) ?_
  intro _
  refine W.heapIs (H2 := [(some p1, .cells (#[.map (some p2), .int .u32 1, .int .i64 0, .map (some p3), .map (some p4), .map (some p5)]) 29 (0, 0)), (some p2, mobj .u32 []), (some p3, mobj .i64 []), (some p4, mobj .i64 []), (some p5, mobj .i64 []), (some b2, .cells kc3 82 (0, 0)), (some b1, .cells (#[.int .i64 1, .int .i64 1, .int .i64 4, .int .i64 4]) 34 (0, 0))]) rfl ?_
  refine W.pure (v := .bool false) rfl (wo rfl) rfl rfl (p_assign rfl rfl) (nf rfl) ?_
  refine W.doneQ (y := sub [1, 0, 0, 1, 1, 1] B44) rfl ?_
  refine C.cond_false (x := sub [1, 0, 0, 1, 1, 1, 0] B44) (y := sub [1, 0, 0, 1, 1, 1, 1] B44) rfl rfl ?_
  refine C.skipQ (y := sub [1, 1] B44) rfl ?_
  refine C.seq (x := sub [1, 1, 0] B44) (y := sub [1, 1, 1] B44) ?_
  refine C.region (id := 5) (m := 3) (ops := opsOf (sub [1, 1, 0] B44)) rfl ?_
  refine W.quiet (v := .agg #[.int .i64 1, .int .i64 1, .int .i64 4, .int .i64 4]) rfl (wo rfl) rfl rfl (f_loadA (j := 6) ta34 ts34 rfl rfl rfl rfl) (nf rfl) ?_
  refine W.pure (v := .agg kc8) rfl (wo rfl) rfl rfl (p_build (vs := [(2, .agg #[.int .i64 1, .int .i64 1, .int .i64 4, .int .i64 4]), (3, .bool true)]) (fun w => by kernel_rfl) rfl rfl) (nf rfl) ?_
  refine W.put (H' := [(some p1, .cells (#[.map (some p2), .int .u32 1, .int .i64 0, .map (some p3), .map (some p4), .map (some p5)]) 29 (0, 0)), (some p2, mobj .u32 []), (some p3, mobj .i64 []), (some p4, mobj .i64 []), (some p5, mobj .i64 []), (some b2, .cells kc8 82 (0, 0)), (some b1, .cells (#[.int .i64 1, .int .i64 1, .int .i64 4, .int .i64 4]) 34 (0, 0))]) rfl (wo rfl) rfl (f_storeA (j := 5) (c2 := kc8) ts82 rfl rfl rfl (one_all rfl) rfl rfl rfl) (nf rfl) ?_
  refine W.doneQ (y := sub [1, 1, 1] B44) rfl ?_
  exact C.ret (R := fun e w' => ∃ _x : Unit, e = .returned (.agg kc8) ∧ Cls w0 I' [(some p1, .cells (#[.map (some p2), .int .u32 1, .int .i64 0, .map (some p3), .map (some p4), .map (some p5)]) 29 (0, 0)), (some p2, mobj .u32 []), (some p3, mobj .i64 []), (some p4, mobj .i64 []), (some p5, mobj .i64 [])] w') (rs := [.cell 6 82]) (vs := [.agg kc8]) rfl Tryd.func44 rfl rfl rfl (res_cons (ResV.cell (j := 5) ta82 ts82 rfl rfl rfl) res_nil) fun w1 hc1 => ⟨(), rfl, hc1.pick [0, 1, 2, 3, 4] (by decide)⟩
theorem en44 (args : Array Value) (w : World) : (callFunc 44 args).run Tryd.prog w = .ok (.enter 44 args) w := by kernel_rfl
set_option maxHeartbeats 20000000 in
theorem cw27_31 (p1 p2 p3 p4 p5 : Nat) {I : Mem} : Turn I 27 #[ptr p1 0, .agg kc2] [(some p1, .cells (#[.map (some p2), .int .u32 1, .int .i64 0, .map (some p3), .map (some p4), .map (some p5)]) 29 (0, 0)), (some p2, mobj .u32 []), (some p3, mobj .i64 []), (some p4, mobj .i64 []), (some p5, mobj .i64 [])] (fun _ : Unit => .agg kc8) (fun _ => [(some p1, .cells (#[.map (some p2), .int .u32 1, .int .i64 0, .map (some p3), .map (some p4), .map (some p5)]) 29 (0, 0)), (some p2, mobj .u32 []), (some p3, mobj .i64 []), (some p4, mobj .i64 []), (some p5, mobj .i64 [])]) := fun I' he w0 w hc => by
  refine calls_of_CW (N := 101) Tryd.func27 (show _ = some B27 by kernel_rfl) (by kernel_rfl) rfl (S := [(0, ptr p1 0), (1, .agg kc2)]) (by simp) hc ?_
  show CW _ _ _ (sub [] B27) _ _ _
  refine C.seq (x := sub [0] B27) (y := sub [1] B27) ?_
  refine C.region (id := 0) (m := 2) (ops := opsOf (sub [0] B27)) rfl ?_
  refine W.new rfl (wo rfl) rfl rfl (f_box (v := .agg kc2) rfl rfl) (nf rfl) ?_
  intro b1 _
  refine W.heapIs (H2 := [(some b1, .cells kc2 49 (0, 0)), (some p1, .cells (#[.map (some p2), .int .u32 1, .int .i64 0, .map (some p3), .map (some p4), .map (some p5)]) 29 (0, 0)), (some p2, mobj .u32 []), (some p3, mobj .i64 []), (some p4, mobj .i64 []), (some p5, mobj .i64 [])]) rfl ?_
  refine W.new rfl (wo rfl) rfl rfl (f_alloc tz82 rfl) (nf rfl) ?_
  intro b2 _
  refine W.heapIs (H2 := [(some b2, .cells kc3 82 (0, 0)), (some b1, .cells kc2 49 (0, 0)), (some p1, .cells (#[.map (some p2), .int .u32 1, .int .i64 0, .map (some p3), .map (some p4), .map (some p5)]) 29 (0, 0)), (some p2, mobj .u32 []), (some p3, mobj .i64 []), (some p4, mobj .i64 []), (some p5, mobj .i64 [])]) rfl ?_
  refine W.doneQ (y := sub [1] B27) rfl ?_
  refine C.seq (x := sub [1, 0] B27) (y := sub [1, 1] B27) ?_
  refine C.seq (x := sub [1, 0, 0] B27) (y := sub [1, 0, 1] B27) ?_
  refine C.region (id := 1) (m := 2) (ops := opsOf (sub [1, 0, 0] B27)) rfl ?_
  refine W.pure (v := ptr b1 1) rfl (wo rfl) rfl rfl (p_fieldAddr tf49_1 rfl rfl) (nf rfl) ?_
  refine W.quiet (v := .int .i64 1) rfl (wo rfl) rfl rfl (f_load (j := 1) (off := 1) ta44 rfl rfl rfl rfl) (nf rfl) ?_
  refine W.doneQ (y := sub [1, 0, 1] B27) rfl ?_
  refine C.block (id := 0) (c := sub [1, 0, 1, 0] B27) ?_
  refine C.seq (x := sub [1, 0, 1, 0, 0] B27) (y := sub [1, 0, 1, 0, 1] B27) ?_
  refine C.region (id := 2) (m := 2) (ops := opsOf (sub [1, 0, 1, 0, 0] B27)) rfl ?_
  refine W.pure (v := .bool true) rfl (wo rfl) rfl rfl (p_bin (fun w => by kernel_rfl) (fun w => by kernel_rfl) rfl rfl rfl) (nf rfl) ?_
  refine W.pure (v := .bool true) rfl (wo rfl) rfl rfl (p_assign rfl rfl) (nf rfl) ?_
  refine W.doneQ (y := sub [1, 0, 1, 0, 1] B27) rfl ?_
  refine C.cond_true (x := sub [1, 0, 1, 0, 1, 0] B27) (y := sub [1, 0, 1, 0, 1, 1] B27) rfl rfl ?_
  refine C.seq (x := sub [1, 0, 1, 0, 1, 0, 0] B27) (y := sub [1, 0, 1, 0, 1, 0, 1] B27) ?_
  refine C.region (id := 3) (m := 10) (ops := opsOf (sub [1, 0, 1, 0, 1, 0, 0] B27)) rfl ?_
  refine W.pure (v := ptr p1 0) rfl (wo rfl) rfl rfl (p_move rfl rfl) (nf rfl) ?_
  refine W.pure (v := ptr b1 4) rfl (wo rfl) rfl rfl (p_fieldAddr tf49_4 rfl rfl) (nf rfl) ?_
  refine W.quiet (v := .int .i64 1) rfl (wo rfl) rfl rfl (f_load (j := 1) (off := 4) ta30 rfl rfl rfl rfl) (nf rfl) ?_
  refine W.pure (v := ptr b1 5) rfl (wo rfl) rfl rfl (p_fieldAddr tf49_5 rfl rfl) (nf rfl) ?_
  refine W.quiet (v := .int .i64 4) rfl (wo rfl) rfl rfl (f_load (j := 1) (off := 5) ta32 rfl rfl rfl rfl) (nf rfl) ?_
  refine W.cP (E := []) (R := [(some b2, .cells kc3 82 (0, 0)), (some b1, .cells kc2 49 (0, 0)), (some p1, .cells (#[.map (some p2), .int .u32 1, .int .i64 0, .map (some p3), .map (some p4), .map (some p5)]) 29 (0, 0)), (some p2, mobj .u32 []), (some p3, mobj .i64 []), (some p4, mobj .i64 []), (some p5, mobj .i64 [])]) (caps := #[]) rfl (wo rfl) rfl rfl [0, 1, 2, 3, 4, 5, 6] rfl rfl (cw45_32) rfl (en45 _) rfl rfl rfl (args_val rfl) ?_
  intro _
  refine W.heapIs (H2 := [(some b2, .cells kc3 82 (0, 0)), (some b1, .cells kc2 49 (0, 0)), (some p1, .cells (#[.map (some p2), .int .u32 1, .int .i64 0, .map (some p3), .map (some p4), .map (some p5)]) 29 (0, 0)), (some p2, mobj .u32 []), (some p3, mobj .i64 []), (some p4, mobj .i64 []), (some p5, mobj .i64 [])]) rfl ?_
  refine W.pure (v := .agg #[.int .i64 1, .int .i64 1, .int .i64 4, .int .i64 4]) rfl (wo rfl) rfl rfl (p_extract rfl rfl rfl) (nf rfl) ?_
  refine W.pure (v := .int .i64 0) rfl (wo rfl) rfl rfl (p_extract rfl rfl rfl) (nf rfl) ?_
  refine W.cP (E := [(some p1, .cells (#[.map (some p2), .int .u32 1, .int .i64 0, .map (some p3), .map (some p4), .map (some p5)]) 29 (0, 0)), (some p2, mobj .u32 []), (some p3, mobj .i64 []), (some p4, mobj .i64 []), (some p5, mobj .i64 [])]) (R := [(some b2, .cells kc3 82 (0, 0)), (some b1, .cells kc2 49 (0, 0))]) (caps := #[]) rfl (wo rfl) rfl rfl [2, 3, 4, 5, 6, 0, 1] rfl rfl (cw44_38 p1 p2 p3 p4 p5) rfl (en44 _) rfl rfl rfl (args_val rfl) ?_
  intro _
  refine W.heapIs (H2 := [(some p1, .cells (#[.map (some p2), .int .u32 1, .int .i64 0, .map (some p3), .map (some p4), .map (some p5)]) 29 (0, 0)), (some p2, mobj .u32 []), (some p3, mobj .i64 []), (some p4, mobj .i64 []), (some p5, mobj .i64 []), (some b2, .cells kc3 82 (0, 0)), (some b1, .cells kc2 49 (0, 0))]) rfl ?_
  refine W.put (H' := [(some p1, .cells (#[.map (some p2), .int .u32 1, .int .i64 0, .map (some p3), .map (some p4), .map (some p5)]) 29 (0, 0)), (some p2, mobj .u32 []), (some p3, mobj .i64 []), (some p4, mobj .i64 []), (some p5, mobj .i64 []), (some b2, .cells kc8 82 (0, 0)), (some b1, .cells kc2 49 (0, 0))]) rfl (wo rfl) rfl (f_storeA (j := 5) (c2 := kc8) ts82 rfl rfl rfl (one_all rfl) rfl rfl rfl) (nf rfl) ?_
  refine W.doneQ (y := sub [1, 0, 1, 0, 1, 0, 1] B27) rfl ?_
  exact C.ret (R := fun e w' => ∃ _x : Unit, e = .returned (.agg kc8) ∧ Cls w0 I' [(some p1, .cells (#[.map (some p2), .int .u32 1, .int .i64 0, .map (some p3), .map (some p4), .map (some p5)]) 29 (0, 0)), (some p2, mobj .u32 []), (some p3, mobj .i64 []), (some p4, mobj .i64 []), (some p5, mobj .i64 [])] w') (rs := [.cell 4 82]) (vs := [.agg kc8]) rfl Tryd.func27 rfl rfl rfl (res_cons (ResV.cell (j := 5) ta82 ts82 rfl rfl rfl) res_nil) fun w1 hc1 => ⟨(), rfl, hc1.pick [0, 1, 2, 3, 4] (by decide)⟩
theorem en27 (args : Array Value) (w : World) : (callFunc 27 args).run Tryd.prog w = .ok (.enter 27 args) w := by kernel_rfl
theorem tf82_4 (a : Addr) (w : World) : (Instr.fieldAt 82 (.pointer (some a)) 4).run Tryd.prog w = .ok (.pointer (some (a.add 7))) w := by kernel_rfl
theorem ta4 (w : World) : (isAgg 4).run Tryd.prog w = .ok false w := by kernel_rfl
theorem tf82_3 (a : Addr) (w : World) : (Instr.fieldAt 82 (.pointer (some a)) 3).run Tryd.prog w = .ok (.pointer (some (a.add 6))) w := by kernel_rfl
theorem tf82_0 (a : Addr) (w : World) : (Instr.fieldAt 82 (.pointer (some a)) 0).run Tryd.prog w = .ok (.pointer (some (a.add 0))) w := by kernel_rfl
theorem ta41 (w : World) : (isAgg 41).run Tryd.prog w = .ok false w := by kernel_rfl
theorem tf52_2 (a : Addr) (w : World) : (Instr.fieldAt 52 (.pointer (some a)) 2).run Tryd.prog w = .ok (.pointer (some (a.add 2))) w := by kernel_rfl
theorem tf82_2 (a : Addr) (w : World) : (Instr.fieldAt 82 (.pointer (some a)) 2).run Tryd.prog w = .ok (.pointer (some (a.add 2))) w := by kernel_rfl
theorem tf82_1 (a : Addr) (w : World) : (Instr.fieldAt 82 (.pointer (some a)) 1).run Tryd.prog w = .ok (.pointer (some (a.add 1))) w := by kernel_rfl
theorem ta80 (w : World) : (isAgg 80).run Tryd.prog w = .ok false w := by kernel_rfl
theorem tu80 (w : World) : (underlying 80).run Tryd.prog w = .ok (.slice 3) w := by kernel_rfl
set_option maxHeartbeats 20000000 in
theorem cw8_20 (p1 p2 p3 p4 p5 : Nat) {I : Mem} : Turn I 8 #[ptr p1 0, .agg kc2, .agg #[.int .u64 0, .int .i64 0, .int .u32 1, .slice none 0 0], .agg #[.int .i64 1, .int .i64 1, .int .i64 4, .int .i64 4]] [(some p1, .cells (#[.map (some p2), .int .u32 1, .int .i64 0, .map (some p3), .map (some p4), .map (some p5)]) 29 (0, 0)), (some p2, mobj .u32 []), (some p3, mobj .i64 []), (some p4, mobj .i64 []), (some p5, mobj .i64 [])] (fun _ : Unit => .bool true) (fun _ => [(some p1, .cells (#[.map (some p2), .int .u32 1, .int .i64 0, .map (some p3), .map (some p4), .map (some p5)]) 29 (0, 0)), (some p2, mobj .u32 []), (some p3, mobj .i64 []), (some p4, mobj .i64 []), (some p5, mobj .i64 [])]) := fun I' he w0 w hc => by
  refine calls_of_CW (N := 158) Tryd.func8 (show _ = some B8 by kernel_rfl) (by kernel_rfl) rfl (S := [(0, ptr p1 0), (1, .agg kc2), (2, .agg #[.int .u64 0, .int .i64 0, .int .u32 1, .slice none 0 0]), (3, .agg #[.int .i64 1, .int .i64 1, .int .i64 4, .int .i64 4])]) (by simp) hc ?_
  show CW _ _ _ (sub [] B8) _ _ _
  refine C.seq (x := sub [0] B8) (y := sub [1] B8) ?_
  refine C.region (id := 0) (m := 4) (ops := opsOf (sub [0] B8)) rfl ?_
  refine W.new rfl (wo rfl) rfl rfl (f_box (v := .agg kc2) rfl rfl) (nf rfl) ?_
  intro b1 _
  refine W.heapIs (H2 := [(some b1, .cells kc2 49 (0, 0)), (some p1, .cells (#[.map (some p2), .int .u32 1, .int .i64 0, .map (some p3), .map (some p4), .map (some p5)]) 29 (0, 0)), (some p2, mobj .u32 []), (some p3, mobj .i64 []), (some p4, mobj .i64 []), (some p5, mobj .i64 [])]) rfl ?_
  refine W.new rfl (wo rfl) rfl rfl (f_box (v := .agg #[.int .u64 0, .int .i64 0, .int .u32 1, .slice none 0 0]) rfl rfl) (nf rfl) ?_
  intro b2 _
  refine W.heapIs (H2 := [(some b2, .cells (#[.int .u64 0, .int .i64 0, .int .u32 1, .slice none 0 0]) 52 (0, 0)), (some b1, .cells kc2 49 (0, 0)), (some p1, .cells (#[.map (some p2), .int .u32 1, .int .i64 0, .map (some p3), .map (some p4), .map (some p5)]) 29 (0, 0)), (some p2, mobj .u32 []), (some p3, mobj .i64 []), (some p4, mobj .i64 []), (some p5, mobj .i64 [])]) rfl ?_
  refine W.new rfl (wo rfl) rfl rfl (f_box (v := .agg #[.int .i64 1, .int .i64 1, .int .i64 4, .int .i64 4]) rfl rfl) (nf rfl) ?_
  intro b3 _
  refine W.heapIs (H2 := [(some b3, .cells (#[.int .i64 1, .int .i64 1, .int .i64 4, .int .i64 4]) 34 (0, 0)), (some b2, .cells (#[.int .u64 0, .int .i64 0, .int .u32 1, .slice none 0 0]) 52 (0, 0)), (some b1, .cells kc2 49 (0, 0)), (some p1, .cells (#[.map (some p2), .int .u32 1, .int .i64 0, .map (some p3), .map (some p4), .map (some p5)]) 29 (0, 0)), (some p2, mobj .u32 []), (some p3, mobj .i64 []), (some p4, mobj .i64 []), (some p5, mobj .i64 [])]) rfl ?_
  refine W.pure (v := .bool false) rfl (wo rfl) rfl rfl (p_assign rfl rfl) (nf rfl) ?_
  refine W.doneQ (y := sub [1] B8) rfl ?_
  refine C.seq (x := sub [1, 0] B8) (y := sub [1, 1] B8) ?_
  refine C.seq (x := sub [1, 0, 0] B8) (y := sub [1, 0, 1] B8) ?_
  refine C.region (id := 1) (m := 15) (ops := opsOf (sub [1, 0, 0] B8)) rfl ?_
  refine W.pure (v := ptr p1 0) rfl (wo rfl) rfl rfl (p_move rfl rfl) (nf rfl) ?_
  refine W.cP (E := [(some p1, .cells (#[.map (some p2), .int .u32 1, .int .i64 0, .map (some p3), .map (some p4), .map (some p5)]) 29 (0, 0)), (some p2, mobj .u32 []), (some p3, mobj .i64 []), (some p4, mobj .i64 []), (some p5, mobj .i64 [])]) (R := [(some b3, .cells (#[.int .i64 1, .int .i64 1, .int .i64 4, .int .i64 4]) 34 (0, 0)), (some b2, .cells (#[.int .u64 0, .int .i64 0, .int .u32 1, .slice none 0 0]) 52 (0, 0)), (some b1, .cells kc2 49 (0, 0))]) (caps := #[]) rfl (wo rfl) rfl rfl [3, 4, 5, 6, 7, 0, 1, 2] rfl rfl (cw16_17 p1 p2 p3 p4 p5) rfl (en16 _) rfl rfl rfl (args_val rfl) ?_
  intro _
  refine W.heapIs (H2 := [(some p1, .cells (#[.map (some p2), .int .u32 1, .int .i64 0, .map (some p3), .map (some p4), .map (some p5)]) 29 (0, 0)), (some p2, mobj .u32 []), (some p3, mobj .i64 []), (some p4, mobj .i64 []), (some p5, mobj .i64 []), (some b3, .cells (#[.int .i64 1, .int .i64 1, .int .i64 4, .int .i64 4]) 34 (0, 0)), (some b2, .cells (#[.int .u64 0, .int .i64 0, .int .u32 1, .slice none 0 0]) 52 (0, 0)), (some b1, .cells kc2 49 (0, 0))]) rfl ?_
  refine W.pure (v := .bool false) rfl (wo rfl) rfl rfl (p_not (p := true) rfl rfl) (nf rfl) ?_
  refine W.pure (v := .bool false) rfl (wo rfl) rfl rfl (p_move rfl rfl) (nf rfl) ?_
  refine W.pure (v := ptr b2 0) rfl (wo rfl) rfl rfl (p_fieldAddr tf52_0 rfl rfl) (nf rfl) ?_
  refine W.quiet (v := .int .u64 0) rfl (wo rfl) rfl rfl (f_load (j := 6) (off := 0) ta43 rfl rfl rfl rfl) (nf rfl) ?_
  refine W.pure (v := ptr b1 0) rfl (wo rfl) rfl rfl (p_fieldAddr tf49_0 rfl rfl) (nf rfl) ?_
  refine W.quiet (v := .int .u64 0) rfl (wo rfl) rfl rfl (f_load (j := 7) (off := 0) ta43 rfl rfl rfl rfl) (nf rfl) ?_
  refine W.pure (v := .bool false) rfl (wo rfl) rfl rfl (p_bin (fun w => by kernel_rfl) (fun w => by kernel_rfl) rfl rfl rfl) (nf rfl) ?_
  refine W.pure (v := .bool false) rfl (wo rfl) rfl rfl (p_pick_false rfl rfl rfl) (nf rfl) ?_
  refine W.pure (v := .bool false) rfl (wo rfl) rfl rfl (p_move rfl rfl) (nf rfl) ?_
  refine W.quiet (v := .agg #[.int .u64 0, .int .i64 0, .int .u32 1, .slice none 0 0]) rfl (wo rfl) rfl rfl (f_loadA (j := 6) ta52 ts52 rfl rfl rfl rfl) (nf rfl) ?_
  refine W.cP (E := []) (R := [(some p1, .cells (#[.map (some p2), .int .u32 1, .int .i64 0, .map (some p3), .map (some p4), .map (some p5)]) 29 (0, 0)), (some p2, mobj .u32 []), (some p3, mobj .i64 []), (some p4, mobj .i64 []), (some p5, mobj .i64 []), (some b3, .cells (#[.int .i64 1, .int .i64 1, .int .i64 4, .int .i64 4]) 34 (0, 0)), (some b2, .cells (#[.int .u64 0, .int .i64 0, .int .u32 1, .slice none 0 0]) 52 (0, 0)), (some b1, .cells kc2 49 (0, 0))]) (caps := #[]) rfl (wo rfl) rfl rfl [0, 1, 2, 3, 4, 5, 6, 7] rfl rfl (cw24_21) rfl (en24 _) rfl rfl rfl (args_val rfl) ?_
  intro _
  refine W.heapIs (H2 := [(some p1, .cells (#[.map (some p2), .int .u32 1, .int .i64 0, .map (some p3), .map (some p4), .map (some p5)]) 29 (0, 0)), (some p2, mobj .u32 []), (some p3, mobj .i64 []), (some p4, mobj .i64 []), (some p5, mobj .i64 []), (some b3, .cells (#[.int .i64 1, .int .i64 1, .int .i64 4, .int .i64 4]) 34 (0, 0)), (some b2, .cells (#[.int .u64 0, .int .i64 0, .int .u32 1, .slice none 0 0]) 52 (0, 0)), (some b1, .cells kc2 49 (0, 0))]) rfl ?_
  refine W.pure (v := .bool false) rfl (wo rfl) rfl rfl (p_not (p := true) rfl rfl) (nf rfl) ?_
  refine W.pure (v := .bool false) rfl (wo rfl) rfl rfl (p_pick_false rfl rfl rfl) (nf rfl) ?_
  refine W.doneQ (y := sub [1, 0, 1] B8) rfl ?_
  refine C.cond_false (x := sub [1, 0, 1, 0] B8) (y := sub [1, 0, 1, 1] B8) rfl rfl ?_
  refine C.skipQ (y := sub [1, 1] B8) rfl ?_
  refine C.seq (x := sub [1, 1, 0] B8) (y := sub [1, 1, 1] B8) ?_
  refine C.region (id := 3) (m := 3) (ops := opsOf (sub [1, 1, 0] B8)) rfl ?_
  refine W.cP (E := []) (R := [(some p1, .cells (#[.map (some p2), .int .u32 1, .int .i64 0, .map (some p3), .map (some p4), .map (some p5)]) 29 (0, 0)), (some p2, mobj .u32 []), (some p3, mobj .i64 []), (some p4, mobj .i64 []), (some p5, mobj .i64 []), (some b3, .cells (#[.int .i64 1, .int .i64 1, .int .i64 4, .int .i64 4]) 34 (0, 0)), (some b2, .cells (#[.int .u64 0, .int .i64 0, .int .u32 1, .slice none 0 0]) 52 (0, 0)), (some b1, .cells kc2 49 (0, 0))]) (caps := #[]) rfl (wo rfl) rfl rfl [0, 1, 2, 3, 4, 5, 6, 7] rfl rfl (cw25_22) rfl (en25 _) rfl rfl rfl (args_val rfl) ?_
  intro _
  refine W.heapIs (H2 := [(some p1, .cells (#[.map (some p2), .int .u32 1, .int .i64 0, .map (some p3), .map (some p4), .map (some p5)]) 29 (0, 0)), (some p2, mobj .u32 []), (some p3, mobj .i64 []), (some p4, mobj .i64 []), (some p5, mobj .i64 []), (some b3, .cells (#[.int .i64 1, .int .i64 1, .int .i64 4, .int .i64 4]) 34 (0, 0)), (some b2, .cells (#[.int .u64 0, .int .i64 0, .int .u32 1, .slice none 0 0]) 52 (0, 0)), (some b1, .cells kc2 49 (0, 0))]) rfl ?_
  refine W.new rfl (wo rfl) rfl rfl (f_alloc tz82 rfl) (nf rfl) ?_
  intro b4 _
  refine W.heapIs (H2 := [(some b4, .cells kc3 82 (0, 0)), (some p1, .cells (#[.map (some p2), .int .u32 1, .int .i64 0, .map (some p3), .map (some p4), .map (some p5)]) 29 (0, 0)), (some p2, mobj .u32 []), (some p3, mobj .i64 []), (some p4, mobj .i64 []), (some p5, mobj .i64 []), (some b3, .cells (#[.int .i64 1, .int .i64 1, .int .i64 4, .int .i64 4]) 34 (0, 0)), (some b2, .cells (#[.int .u64 0, .int .i64 0, .int .u32 1, .slice none 0 0]) 52 (0, 0)), (some b1, .cells kc2 49 (0, 0))]) rfl ?_
  refine W.put (H' := [(some b4, .cells kc4 82 (0, 0)), (some p1, .cells (#[.map (some p2), .int .u32 1, .int .i64 0, .map (some p3), .map (some p4), .map (some p5)]) 29 (0, 0)), (some p2, mobj .u32 []), (some p3, mobj .i64 []), (some p4, mobj .i64 []), (some p5, mobj .i64 []), (some b3, .cells (#[.int .i64 1, .int .i64 1, .int .i64 4, .int .i64 4]) 34 (0, 0)), (some b2, .cells (#[.int .u64 0, .int .i64 0, .int .u32 1, .slice none 0 0]) 52 (0, 0)), (some b1, .cells kc2 49 (0, 0))]) rfl (wo rfl) rfl (f_storeA (j := 0) (c2 := kc4) ts82 rfl rfl rfl (one_all rfl) rfl rfl rfl) (nf rfl) ?_
  refine W.doneQ (y := sub [1, 1, 1] B8) rfl ?_
  refine C.seq (x := sub [1, 1, 1, 0] B8) (y := sub [1, 1, 1, 1] B8) ?_
  refine C.seq (x := sub [1, 1, 1, 0, 0] B8) (y := sub [1, 1, 1, 0, 1] B8) ?_
  refine C.region (id := 4) (m := 2) (ops := opsOf (sub [1, 1, 1, 0, 0] B8)) rfl ?_
  refine W.quiet (v := .agg kc2) rfl (wo rfl) rfl rfl (f_loadA (j := 8) ta49 ts49 rfl rfl rfl rfl) (nf rfl) ?_
  refine W.cP (E := []) (R := [(some b4, .cells kc4 82 (0, 0)), (some p1, .cells (#[.map (some p2), .int .u32 1, .int .i64 0, .map (some p3), .map (some p4), .map (some p5)]) 29 (0, 0)), (some p2, mobj .u32 []), (some p3, mobj .i64 []), (some p4, mobj .i64 []), (some p5, mobj .i64 []), (some b3, .cells (#[.int .i64 1, .int .i64 1, .int .i64 4, .int .i64 4]) 34 (0, 0)), (some b2, .cells (#[.int .u64 0, .int .i64 0, .int .u32 1, .slice none 0 0]) 52 (0, 0)), (some b1, .cells kc2 49 (0, 0))]) (caps := #[]) rfl (wo rfl) rfl rfl [0, 1, 2, 3, 4, 5, 6, 7, 8] rfl rfl (cw26_23) rfl (en26 _) rfl rfl rfl (args_val rfl) ?_
  intro _
  refine W.heapIs (H2 := [(some b4, .cells kc4 82 (0, 0)), (some p1, .cells (#[.map (some p2), .int .u32 1, .int .i64 0, .map (some p3), .map (some p4), .map (some p5)]) 29 (0, 0)), (some p2, mobj .u32 []), (some p3, mobj .i64 []), (some p4, mobj .i64 []), (some p5, mobj .i64 []), (some b3, .cells (#[.int .i64 1, .int .i64 1, .int .i64 4, .int .i64 4]) 34 (0, 0)), (some b2, .cells (#[.int .u64 0, .int .i64 0, .int .u32 1, .slice none 0 0]) 52 (0, 0)), (some b1, .cells kc2 49 (0, 0))]) rfl ?_
  refine W.doneQ (y := sub [1, 1, 1, 0, 1] B8) rfl ?_
  refine C.cond_true (x := sub [1, 1, 1, 0, 1, 0] B8) (y := sub [1, 1, 1, 0, 1, 1] B8) rfl rfl ?_
  refine C.region (id := 5) (m := 4) (ops := opsOf (sub [1, 1, 1, 0, 1, 0] B8)) rfl ?_
  refine W.pure (v := ptr p1 0) rfl (wo rfl) rfl rfl (p_move rfl rfl) (nf rfl) ?_
  refine W.quiet (v := .agg kc2) rfl (wo rfl) rfl rfl (f_loadA (j := 8) ta49 ts49 rfl rfl rfl rfl) (nf rfl) ?_
  refine W.cP (E := [(some p1, .cells (#[.map (some p2), .int .u32 1, .int .i64 0, .map (some p3), .map (some p4), .map (some p5)]) 29 (0, 0)), (some p2, mobj .u32 []), (some p3, mobj .i64 []), (some p4, mobj .i64 []), (some p5, mobj .i64 [])]) (R := [(some b4, .cells kc4 82 (0, 0)), (some b3, .cells (#[.int .i64 1, .int .i64 1, .int .i64 4, .int .i64 4]) 34 (0, 0)), (some b2, .cells (#[.int .u64 0, .int .i64 0, .int .u32 1, .slice none 0 0]) 52 (0, 0)), (some b1, .cells kc2 49 (0, 0))]) (caps := #[]) rfl (wo rfl) rfl rfl [1, 2, 3, 4, 5, 0, 6, 7, 8] rfl rfl (cw27_31 p1 p2 p3 p4 p5) rfl (en27 _) rfl rfl rfl (args_val rfl) ?_
  intro _
  refine W.heapIs (H2 := [(some p1, .cells (#[.map (some p2), .int .u32 1, .int .i64 0, .map (some p3), .map (some p4), .map (some p5)]) 29 (0, 0)), (some p2, mobj .u32 []), (some p3, mobj .i64 []), (some p4, mobj .i64 []), (some p5, mobj .i64 []), (some b4, .cells kc4 82 (0, 0)), (some b3, .cells (#[.int .i64 1, .int .i64 1, .int .i64 4, .int .i64 4]) 34 (0, 0)), (some b2, .cells (#[.int .u64 0, .int .i64 0, .int .u32 1, .slice none 0 0]) 52 (0, 0)), (some b1, .cells kc2 49 (0, 0))]) rfl ?_
  refine W.put (H' := [(some p1, .cells (#[.map (some p2), .int .u32 1, .int .i64 0, .map (some p3), .map (some p4), .map (some p5)]) 29 (0, 0)), (some p2, mobj .u32 []), (some p3, mobj .i64 []), (some p4, mobj .i64 []), (some p5, mobj .i64 []), (some b4, .cells kc8 82 (0, 0)), (some b3, .cells (#[.int .i64 1, .int .i64 1, .int .i64 4, .int .i64 4]) 34 (0, 0)), (some b2, .cells (#[.int .u64 0, .int .i64 0, .int .u32 1, .slice none 0 0]) 52 (0, 0)), (some b1, .cells kc2 49 (0, 0))]) rfl (wo rfl) rfl (f_storeA (j := 5) (c2 := kc8) ts82 rfl rfl rfl (one_all rfl) rfl rfl rfl) (nf rfl) ?_
  refine W.doneQ (y := sub [1, 1, 1, 1] B8) rfl ?_
  refine C.seq (x := sub [1, 1, 1, 1, 0] B8) (y := sub [1, 1, 1, 1, 1] B8) ?_
  refine C.seq (x := sub [1, 1, 1, 1, 0, 0] B8) (y := sub [1, 1, 1, 1, 0, 1] B8) ?_
  refine C.region (id := 6) (m := 2) (ops := opsOf (sub [1, 1, 1, 1, 0, 0] B8)) rfl ?_
  refine W.pure (v := ptr b4 7) rfl (wo rfl) rfl rfl (p_fieldAddr tf82_4 rfl rfl) (nf rfl) ?_
  refine W.quiet (v := .bool false) rfl (wo rfl) rfl rfl (f_load (j := 5) (off := 7) ta4 rfl rfl rfl rfl) (nf rfl) ?_
  refine W.doneQ (y := sub [1, 1, 1, 1, 0, 1] B8) rfl ?_
  refine C.cond_false (x := sub [1, 1, 1, 1, 0, 1, 0] B8) (y := sub [1, 1, 1, 1, 0, 1, 1] B8) rfl rfl ?_
  refine C.skipQ (y := sub [1, 1, 1, 1, 1] B8) rfl ?_
  refine C.seq (x := sub [1, 1, 1, 1, 1, 0] B8) (y := sub [1, 1, 1, 1, 1, 1] B8) ?_
  refine C.seq (x := sub [1, 1, 1, 1, 1, 0, 0] B8) (y := sub [1, 1, 1, 1, 1, 0, 1] B8) ?_
  refine C.region (id := 8) (m := 13) (ops := opsOf (sub [1, 1, 1, 1, 1, 0, 0] B8)) rfl ?_
  refine W.pure (v := ptr b4 6) rfl (wo rfl) rfl rfl (p_fieldAddr tf82_3 rfl rfl) (nf rfl) ?_
  refine W.quiet (v := .bool true) rfl (wo rfl) rfl rfl (f_load (j := 5) (off := 6) ta4 rfl rfl rfl rfl) (nf rfl) ?_
  refine W.pure (v := .bool true) rfl (wo rfl) rfl rfl (p_move rfl rfl) (nf rfl) ?_
  refine W.not rfl (wo rfl) rfl rfl ?_
  refine W.not rfl (wo rfl) rfl rfl ?_
  refine W.not rfl (wo rfl) rfl rfl ?_
  refine W.pure (v := .bool true) rfl (wo rfl) rfl rfl (p_pick_true rfl rfl rfl) (nf rfl) ?_
  refine W.pure (v := .bool true) rfl (wo rfl) rfl rfl (p_move rfl rfl) (nf rfl) ?_
  refine W.not rfl (wo rfl) rfl rfl ?_
  refine W.not rfl (wo rfl) rfl rfl ?_
  refine W.not rfl (wo rfl) rfl rfl ?_
  refine W.pure (v := .bool true) rfl (wo rfl) rfl rfl (p_pick_true rfl rfl rfl) (nf rfl) ?_
  refine W.pure (v := .bool true) rfl (wo rfl) rfl rfl (p_assign rfl rfl) (nf rfl) ?_
  refine W.doneQ (y := sub [1, 1, 1, 1, 1, 0, 1] B8) rfl ?_
  refine C.seq (x := sub [1, 1, 1, 1, 1, 0, 1, 0] B8) (y := sub [1, 1, 1, 1, 1, 0, 1, 1] B8) ?_
  refine C.region (id := 9) (m := 11) (ops := opsOf (sub [1, 1, 1, 1, 1, 0, 1, 0] B8)) rfl ?_
  refine W.pure (v := .bool true) rfl (wo rfl) rfl rfl (p_move rfl rfl) (nf rfl) ?_
  refine W.pure (v := .bool true) rfl (wo rfl) rfl rfl (p_move rfl rfl) (nf rfl) ?_
  refine W.pure (v := ptr b4 0) rfl (wo rfl) rfl rfl (p_fieldAddr tf82_0 rfl rfl) (nf rfl) ?_
  refine W.quiet (v := .int .i64 0) rfl (wo rfl) rfl rfl (f_load (j := 5) (off := 0) ta41 rfl rfl rfl rfl) (nf rfl) ?_
  refine W.pure (v := .bool true) rfl (wo rfl) rfl rfl (p_bin (fun w => by kernel_rfl) (fun w => by kernel_rfl) rfl rfl rfl) (nf rfl) ?_
  refine W.pure (v := .bool true) rfl (wo rfl) rfl rfl (p_pick_true rfl rfl rfl) (nf rfl) ?_
  refine W.pure (v := .bool true) rfl (wo rfl) rfl rfl (p_move rfl rfl) (nf rfl) ?_
  refine W.pure (v := ptr b2 1) rfl (wo rfl) rfl rfl (p_fieldAddr tf52_1 rfl rfl) (nf rfl) ?_
  refine W.quiet (v := .int .i64 0) rfl (wo rfl) rfl rfl (f_load (j := 7) (off := 1) ta3 rfl rfl rfl rfl) (nf rfl) ?_
  refine W.pure (v := .bool false) rfl (wo rfl) rfl rfl (p_bin (fun w => by kernel_rfl) (fun w => by kernel_rfl) rfl rfl rfl) (nf rfl) ?_
  refine W.pure (v := .bool false) rfl (wo rfl) rfl rfl (p_pick_true rfl rfl rfl) (nf rfl) ?_
  refine W.doneQ (y := sub [1, 1, 1, 1, 1, 0, 1, 1] B8) rfl ?_
  refine C.cond_false (x := sub [1, 1, 1, 1, 1, 0, 1, 1, 0] B8) (y := sub [1, 1, 1, 1, 1, 0, 1, 1, 1] B8) rfl rfl ?_
  refine C.skipQ (y := sub [1, 1, 1, 1, 1, 1] B8) rfl ?_
  refine C.seq (x := sub [1, 1, 1, 1, 1, 1, 0] B8) (y := sub [1, 1, 1, 1, 1, 1, 1] B8) ?_
  refine C.region (id := 11) (m := 1) (ops := opsOf (sub [1, 1, 1, 1, 1, 1, 0] B8)) rfl ?_
  refine W.pure (v := .int .u32 0) rfl (wo rfl) rfl rfl (p_assign rfl rfl) (nf rfl) ?_
  refine W.doneQ (y := sub [1, 1, 1, 1, 1, 1, 1] B8) rfl ?_
  refine C.seq (x := sub [1, 1, 1, 1, 1, 1, 1, 0] B8) (y := sub [1, 1, 1, 1, 1, 1, 1, 1] B8) ?_
  refine C.seq (x := sub [1, 1, 1, 1, 1, 1, 1, 0, 0] B8) (y := sub [1, 1, 1, 1, 1, 1, 1, 0, 1] B8) ?_
  refine C.region (id := 12) (m := 2) (ops := opsOf (sub [1, 1, 1, 1, 1, 1, 1, 0, 0] B8)) rfl ?_
  refine W.pure (v := ptr b4 6) rfl (wo rfl) rfl rfl (p_fieldAddr tf82_3 rfl rfl) (nf rfl) ?_
  refine W.quiet (v := .bool true) rfl (wo rfl) rfl rfl (f_load (j := 5) (off := 6) ta4 rfl rfl rfl rfl) (nf rfl) ?_
  refine W.doneQ (y := sub [1, 1, 1, 1, 1, 1, 1, 0, 1] B8) rfl ?_
  refine C.cond_true (x := sub [1, 1, 1, 1, 1, 1, 1, 0, 1, 0] B8) (y := sub [1, 1, 1, 1, 1, 1, 1, 0, 1, 1] B8) rfl rfl ?_
  refine C.region (id := 13) (m := 5) (ops := opsOf (sub [1, 1, 1, 1, 1, 1, 1, 0, 1, 0] B8)) rfl ?_
  refine W.pure (v := ptr p1 0) rfl (wo rfl) rfl rfl (p_move rfl rfl) (nf rfl) ?_
  refine W.pure (v := ptr p1 0) rfl (wo rfl) rfl rfl (p_nilCheck rfl rfl) (nf rfl) ?_
  refine W.pure (v := ptr p1 1) rfl (wo rfl) rfl rfl (p_fieldAddr tf29_1 rfl rfl) (nf rfl) ?_
  refine W.quiet (v := .int .u32 1) rfl (wo rfl) rfl rfl (f_load (j := 0) (off := 1) ta24 rfl rfl rfl rfl) (nf rfl) ?_
  refine W.pure (v := .int .u32 1) rfl (wo rfl) rfl rfl (p_assign rfl rfl) (nf rfl) ?_
  refine W.doneQ (y := sub [1, 1, 1, 1, 1, 1, 1, 1] B8) rfl ?_
  refine C.seq (x := sub [1, 1, 1, 1, 1, 1, 1, 1, 0] B8) (y := sub [1, 1, 1, 1, 1, 1, 1, 1, 1] B8) ?_
  refine C.region (id := 14) (m := 27) (ops := opsOf (sub [1, 1, 1, 1, 1, 1, 1, 1, 0] B8)) rfl ?_
  refine W.pure (v := ptr b2 1) rfl (wo rfl) rfl rfl (p_fieldAddr tf52_1 rfl rfl) (nf rfl) ?_
  refine W.quiet (v := .int .i64 0) rfl (wo rfl) rfl rfl (f_load (j := 7) (off := 1) ta3 rfl rfl rfl rfl) (nf rfl) ?_
  refine W.pure (v := ptr b4 0) rfl (wo rfl) rfl rfl (p_fieldAddr tf82_0 rfl rfl) (nf rfl) ?_
  refine W.quiet (v := .int .i64 0) rfl (wo rfl) rfl rfl (f_load (j := 5) (off := 0) ta41 rfl rfl rfl rfl) (nf rfl) ?_
  refine W.pure (v := .bool true) rfl (wo rfl) rfl rfl (p_bin (fun w => by kernel_rfl) (fun w => by kernel_rfl) rfl rfl rfl) (nf rfl) ?_
  refine W.pure (v := .bool true) rfl (wo rfl) rfl rfl (p_move rfl rfl) (nf rfl) ?_
  refine W.pure (v := ptr b2 2) rfl (wo rfl) rfl rfl (p_fieldAddr tf52_2 rfl rfl) (nf rfl) ?_
  refine W.quiet (v := .int .u32 1) rfl (wo rfl) rfl rfl (f_load (j := 7) (off := 2) ta24 rfl rfl rfl rfl) (nf rfl) ?_
  refine W.pure (v := .int .u32 1) rfl (wo rfl) rfl rfl (p_move rfl rfl) (nf rfl) ?_
  refine W.pure (v := .bool true) rfl (wo rfl) rfl rfl (p_bin (fun w => by kernel_rfl) (fun w => by kernel_rfl) rfl rfl rfl) (nf rfl) ?_
  refine W.pure (v := .bool true) rfl (wo rfl) rfl rfl (p_pick_true rfl rfl rfl) (nf rfl) ?_
  refine W.pure (v := .bool true) rfl (wo rfl) rfl rfl (p_move rfl rfl) (nf rfl) ?_
  refine W.quiet (v := .agg #[.int .i64 1, .int .i64 1, .int .i64 4, .int .i64 4]) rfl (wo rfl) rfl rfl (f_loadA (j := 6) ta34 ts34 rfl rfl rfl rfl) (nf rfl) ?_
  refine W.pure (v := ptr b4 2) rfl (wo rfl) rfl rfl (p_fieldAddr tf82_2 rfl rfl) (nf rfl) ?_
  refine W.quiet (v := .agg #[.int .i64 1, .int .i64 1, .int .i64 4, .int .i64 4]) rfl (wo rfl) rfl rfl (f_loadSubA (j := 5) (off := 2) (vs := [.int .i64 1, .int .i64 1, .int .i64 4, .int .i64 4]) ta34 ts34 rfl rfl rfl rfl rfl) (nf rfl) ?_
  refine W.pure (v := .bool true) rfl (wo rfl) rfl rfl (p_bin (fun w => by kernel_rfl) (fun w => by kernel_rfl) rfl rfl rfl) (nf rfl) ?_
  refine W.pure (v := .bool true) rfl (wo rfl) rfl rfl (p_pick_true rfl rfl rfl) (nf rfl) ?_
  refine W.pure (v := .bool true) rfl (wo rfl) rfl rfl (p_move rfl rfl) (nf rfl) ?_
  refine W.pure (v := ptr b2 3) rfl (wo rfl) rfl rfl (p_fieldAddr tf52_3 rfl rfl) (nf rfl) ?_
  refine W.quiet (v := .slice none 0 0) rfl (wo rfl) rfl rfl (f_load (j := 7) (off := 3) ta50 rfl rfl rfl rfl) (nf rfl) ?_
  refine W.pure (v := .int .i64 0) rfl (wo rfl) rfl rfl (p_slLen tu50 ⟨_, _, rfl⟩ rfl rfl) (nf rfl) ?_
  refine W.pure (v := ptr b4 1) rfl (wo rfl) rfl rfl (p_fieldAddr tf82_1 rfl rfl) (nf rfl) ?_
  refine W.quiet (v := .slice none 0 0) rfl (wo rfl) rfl rfl (f_load (j := 5) (off := 1) ta80 rfl rfl rfl rfl) (nf rfl) ?_
  refine W.pure (v := .int .i64 0) rfl (wo rfl) rfl rfl (p_slLen tu80 ⟨_, _, rfl⟩ rfl rfl) (nf rfl) ?_
  refine W.pure (v := .bool true) rfl (wo rfl) rfl rfl (p_bin (fun w => by kernel_rfl) (fun w => by kernel_rfl) rfl rfl rfl) (nf rfl) ?_
  refine W.pure (v := .bool true) rfl (wo rfl) rfl rfl (p_pick_true rfl rfl rfl) (nf rfl) ?_
  refine W.pure (v := .bool true) rfl (wo rfl) rfl rfl (p_assign rfl rfl) (nf rfl) ?_
  refine W.doneQ (y := sub [1, 1, 1, 1, 1, 1, 1, 1, 1] B8) rfl ?_
  refine C.seq (x := sub [1, 1, 1, 1, 1, 1, 1, 1, 1, 0] B8) (y := sub [1, 1, 1, 1, 1, 1, 1, 1, 1, 1] B8) ?_
  refine C.seq (x := sub [1, 1, 1, 1, 1, 1, 1, 1, 1, 0, 0] B8) (y := sub [1, 1, 1, 1, 1, 1, 1, 1, 1, 0, 1] B8) ?_
  refine C.region (id := 15) (m := 1) (ops := opsOf (sub [1, 1, 1, 1, 1, 1, 1, 1, 1, 0, 0] B8)) rfl ?_
  refine W.pure (v := .int .i64 0) rfl (wo rfl) rfl rfl (p_assign rfl rfl) (nf rfl) ?_
  refine W.doneQ (y := sub [1, 1, 1, 1, 1, 1, 1, 1, 1, 0, 1] B8) rfl ?_
  refine C.loopB (id := 0) (c := sub [1, 1, 1, 1, 1, 1, 1, 1, 1, 0, 1, 0, 0] B8) (y := sub [1, 1, 1, 1, 1, 1, 1, 1, 1, 1] B8) (fun q : Nat => 0 - q) (fun _ : Nat => [(0, ptr p1 0), (1, .agg kc2), (2, .agg #[.int .u64 0, .int .i64 0, .int .u32 1, .slice none 0 0]), (3, .agg #[.int .i64 1, .int .i64 1, .int .i64 4, .int .i64 4]), (5, ptr b1 0), (6, ptr b2 0), (7, ptr b3 0), (9, ptr b4 0), (10, .bool true), (11, .int .u32 1), (12, .bool true), (13, .int .i64 0), (14, ptr p1 0), (15, .bool true), (16, .bool false), (17, .bool false), (18, ptr b2 0), (19, .int .u64 0), (20, ptr b1 0), (21, .int .u64 0), (22, .bool false), (23, .bool false), (24, .bool false), (25, .agg #[.int .u64 0, .int .i64 0, .int .u32 1, .slice none 0 0]), (26, .bool true), (27, .bool false), (28, .bool false), (29, .agg kc4), (30, .agg kc2), (31, .bool true), (32, ptr p1 0), (33, .agg kc2), (34, .agg kc8), (35, ptr b4 7), (36, .bool false), (42, ptr b4 6), (43, .bool true), (44, .bool true), (48, .bool true), (49, .bool true), (53, .bool true), (54, .bool true), (55, .bool true), (56, ptr b4 0), (57, .int .i64 0), (58, .bool true), (59, .bool true), (60, .bool true), (61, ptr b2 1), (62, .int .i64 0), (63, .bool false), (64, .bool false), (68, ptr b4 6), (69, .bool true), (70, ptr p1 0), (71, ptr p1 0), (72, ptr p1 1), (73, .int .u32 1), (74, ptr b2 1), (75, .int .i64 0), (76, ptr b4 0), (77, .int .i64 0), (78, .bool true), (79, .bool true), (80, ptr b2 2), (81, .int .u32 1), (82, .int .u32 1), (83, .bool true), (84, .bool true), (85, .bool true), (86, .agg #[.int .i64 1, .int .i64 1, .int .i64 4, .int .i64 4]), (87, ptr b4 2), (88, .agg #[.int .i64 1, .int .i64 1, .int .i64 4, .int .i64 4]), (89, .bool true), (90, .bool true), (91, .bool true), (92, ptr b2 3), (93, .slice none 0 0), (94, .int .i64 0), (95, ptr b4 1), (96, .slice none 0 0), (97, .int .i64 0), (98, .bool true), (99, .bool true)]) (fun _ : Nat => [(some p1, .cells (#[.map (some p2), .int .u32 1, .int .i64 0, .map (some p3), .map (some p4), .map (some p5)]) 29 (0, 0)), (some p2, mobj .u32 []), (some p3, mobj .i64 []), (some p4, mobj .i64 []), (some p5, mobj .i64 []), (some b4, .cells kc8 82 (0, 0)), (some b3, .cells (#[.int .i64 1, .int .i64 1, .int .i64 4, .int .i64 4]) 34 (0, 0)), (some b2, .cells (#[.int .u64 0, .int .i64 0, .int .u32 1, .slice none 0 0]) 52 (0, 0)), (some b1, .cells kc2 49 (0, 0))]) (fun q => q ≤ 0) 0 (Nat.zero_le _) (Sub.cons rfl (Sub.cons rfl (Sub.cons rfl (Sub.cons rfl (Sub.cons rfl (Sub.cons rfl (Sub.cons rfl (Sub.cons rfl (Sub.cons rfl (Sub.cons rfl (Sub.cons rfl (Sub.cons rfl (Sub.cons rfl (Sub.cons rfl (Sub.cons rfl (Sub.cons rfl (Sub.cons rfl (Sub.cons rfl (Sub.cons rfl (Sub.cons rfl (Sub.cons rfl (Sub.cons rfl (Sub.cons rfl (Sub.cons rfl (Sub.cons rfl (Sub.cons rfl (Sub.cons rfl (Sub.cons rfl (Sub.cons rfl (Sub.cons rfl (Sub.cons rfl (Sub.cons rfl (Sub.cons rfl (Sub.cons rfl (Sub.cons rfl (Sub.cons rfl (Sub.cons rfl (Sub.cons rfl (Sub.cons rfl (Sub.cons rfl (Sub.cons rfl (Sub.cons rfl (Sub.cons rfl (Sub.cons rfl (Sub.cons rfl (Sub.cons rfl (Sub.cons rfl (Sub.cons rfl (Sub.cons rfl (Sub.cons rfl (Sub.cons rfl (Sub.cons rfl (Sub.cons rfl (Sub.cons rfl (Sub.cons rfl (Sub.cons rfl (Sub.cons rfl (Sub.cons rfl (Sub.cons rfl (Sub.cons rfl (Sub.cons rfl (Sub.cons rfl (Sub.cons rfl (Sub.cons rfl (Sub.cons rfl (Sub.cons rfl (Sub.cons rfl (Sub.cons rfl (Sub.cons rfl (Sub.cons rfl (Sub.cons rfl (Sub.cons rfl (Sub.cons rfl (Sub.cons rfl (Sub.cons rfl (Sub.cons rfl (Sub.cons rfl (Sub.cons rfl (Sub.cons rfl (Sub.cons rfl (Sub.cons rfl (Sub.cons rfl (Sub.cons rfl (Sub.cons rfl (Sub.nil _))))))))))))))))))))))))))))))))))))))))))))))))))))))))))))))))))))))))))))))))))))) rfl rfl (fun q => q = 0) ?_ ?_
  · intro q hq Q' hN hE hR
    have hq2 : q = 0 := by omega
    subst hq2
    · show CW _ _ _ _ _ [(0, ptr p1 0), (1, .agg kc2), (2, .agg #[.int .u64 0, .int .i64 0, .int .u32 1, .slice none 0 0]), (3, .agg #[.int .i64 1, .int .i64 1, .int .i64 4, .int .i64 4]), (5, ptr b1 0), (6, ptr b2 0), (7, ptr b3 0), (9, ptr b4 0), (10, .bool true), (11, .int .u32 1), (12, .bool true), (13, .int .i64 0), (14, ptr p1 0), (15, .bool true), (16, .bool false), (17, .bool false), (18, ptr b2 0), (19, .int .u64 0), (20, ptr b1 0), (21, .int .u64 0), (22, .bool false), (23, .bool false), (24, .bool false), (25, .agg #[.int .u64 0, .int .i64 0, .int .u32 1, .slice none 0 0]), (26, .bool true), (27, .bool false), (28, .bool false), (29, .agg kc4), (30, .agg kc2), (31, .bool true), (32, ptr p1 0), (33, .agg kc2), (34, .agg kc8), (35, ptr b4 7), (36, .bool false), (42, ptr b4 6), (43, .bool true), (44, .bool true), (48, .bool true), (49, .bool true), (53, .bool true), (54, .bool true), (55, .bool true), (56, ptr b4 0), (57, .int .i64 0), (58, .bool true), (59, .bool true), (60, .bool true), (61, ptr b2 1), (62, .int .i64 0), (63, .bool false), (64, .bool false), (68, ptr b4 6), (69, .bool true), (70, ptr p1 0), (71, ptr p1 0), (72, ptr p1 1), (73, .int .u32 1), (74, ptr b2 1), (75, .int .i64 0), (76, ptr b4 0), (77, .int .i64 0), (78, .bool true), (79, .bool true), (80, ptr b2 2), (81, .int .u32 1), (82, .int .u32 1), (83, .bool true), (84, .bool true), (85, .bool true), (86, .agg #[.int .i64 1, .int .i64 1, .int .i64 4, .int .i64 4]), (87, ptr b4 2), (88, .agg #[.int .i64 1, .int .i64 1, .int .i64 4, .int .i64 4]), (89, .bool true), (90, .bool true), (91, .bool true), (92, ptr b2 3), (93, .slice none 0 0), (94, .int .i64 0), (95, ptr b4 1), (96, .slice none 0 0), (97, .int .i64 0), (98, .bool true), (99, .bool true)] ([(some p1, .cells (#[.map (some p2), .int .u32 1, .int .i64 0, .map (some p3), .map (some p4), .map (some p5)]) 29 (0, 0)), (some p2, mobj .u32 []), (some p3, mobj .i64 []), (some p4, mobj .i64 []), (some p5, mobj .i64 []), (some b4, .cells kc8 82 (0, 0)), (some b3, .cells (#[.int .i64 1, .int .i64 1, .int .i64 4, .int .i64 4]) 34 (0, 0)), (some b2, .cells (#[.int .u64 0, .int .i64 0, .int .u32 1, .slice none 0 0]) 52 (0, 0)), (some b1, .cells kc2 49 (0, 0))])
      refine C.seq (x := sub [1, 1, 1, 1, 1, 1, 1, 1, 1, 0, 1, 0, 0, 0] B8) (y := sub [1, 1, 1, 1, 1, 1, 1, 1, 1, 0, 1, 0, 0, 1] B8) ?_
      refine C.seq (x := sub [1, 1, 1, 1, 1, 1, 1, 1, 1, 0, 1, 0, 0, 0, 0] B8) (y := sub [1, 1, 1, 1, 1, 1, 1, 1, 1, 0, 1, 0, 0, 0, 1] B8) ?_
      refine C.region (id := 16) (m := 8) (ops := opsOf (sub [1, 1, 1, 1, 1, 1, 1, 1, 1, 0, 1, 0, 0, 0, 0] B8)) rfl ?_
      refine W.pure (v := .bool true) rfl (wo rfl) rfl rfl (p_move rfl rfl) (nf rfl) ?_
      refine W.pure (v := .bool true) rfl (wo rfl) rfl rfl (p_move rfl rfl) (nf rfl) ?_
      refine W.pure (v := .int .i64 0) rfl (wo rfl) rfl rfl (p_move rfl rfl) (nf rfl) ?_
      refine W.pure (v := ptr b4 1) rfl (wo rfl) rfl rfl (p_fieldAddr tf82_1 rfl rfl) (nf rfl) ?_
      refine W.quiet (v := .slice none 0 0) rfl (wo rfl) rfl rfl (f_load (j := 5) (off := 1) ta80 rfl rfl rfl rfl) (nf rfl) ?_
      refine W.pure (v := .int .i64 0) rfl (wo rfl) rfl rfl (p_slLen tu80 ⟨_, _, rfl⟩ rfl rfl) (nf rfl) ?_
      refine W.pure (v := .bool false) rfl (wo rfl) rfl rfl (p_bin (fun w => by kernel_rfl) (fun w => by kernel_rfl) rfl rfl rfl) (nf rfl) ?_
      refine W.pure (v := .bool false) rfl (wo rfl) rfl rfl (p_pick_true rfl rfl rfl) (nf rfl) ?_
      refine W.doneQ (y := sub [1, 1, 1, 1, 1, 1, 1, 1, 1, 0, 1, 0, 0, 0, 1] B8) rfl ?_
      refine C.cond_false (x := sub [1, 1, 1, 1, 1, 1, 1, 1, 1, 0, 1, 0, 0, 0, 1, 0] B8) (y := sub [1, 1, 1, 1, 1, 1, 1, 1, 1, 0, 1, 0, 0, 0, 1, 1] B8) rfl rfl ?_
      exact C.exit fun a1 w1 ha1 hc1 => hE rfl a1 w1 (ha1.sub (Sub.cons rfl (Sub.cons rfl (Sub.cons rfl (Sub.cons rfl (Sub.cons rfl (Sub.cons rfl (Sub.cons rfl (Sub.cons rfl (Sub.cons rfl (Sub.cons rfl (Sub.cons rfl (Sub.cons rfl (Sub.cons rfl (Sub.cons rfl (Sub.cons rfl (Sub.cons rfl (Sub.cons rfl (Sub.cons rfl (Sub.cons rfl (Sub.cons rfl (Sub.cons rfl (Sub.cons rfl (Sub.cons rfl (Sub.cons rfl (Sub.cons rfl (Sub.cons rfl (Sub.cons rfl (Sub.cons rfl (Sub.cons rfl (Sub.cons rfl (Sub.cons rfl (Sub.cons rfl (Sub.cons rfl (Sub.cons rfl (Sub.cons rfl (Sub.cons rfl (Sub.cons rfl (Sub.cons rfl (Sub.cons rfl (Sub.cons rfl (Sub.cons rfl (Sub.cons rfl (Sub.cons rfl (Sub.cons rfl (Sub.cons rfl (Sub.cons rfl (Sub.cons rfl (Sub.cons rfl (Sub.cons rfl (Sub.cons rfl (Sub.cons rfl (Sub.cons rfl (Sub.cons rfl (Sub.cons rfl (Sub.cons rfl (Sub.cons rfl (Sub.cons rfl (Sub.cons rfl (Sub.cons rfl (Sub.cons rfl (Sub.cons rfl (Sub.cons rfl (Sub.cons rfl (Sub.cons rfl (Sub.cons rfl (Sub.cons rfl (Sub.cons rfl (Sub.cons rfl (Sub.cons rfl (Sub.cons rfl (Sub.cons rfl (Sub.cons rfl (Sub.cons rfl (Sub.cons rfl (Sub.cons rfl (Sub.cons rfl (Sub.cons rfl (Sub.cons rfl (Sub.cons rfl (Sub.cons rfl (Sub.cons rfl (Sub.cons rfl (Sub.cons rfl (Sub.cons rfl (Sub.nil _)))))))))))))))))))))))))))))))))))))))))))))))))))))))))))))))))))))))))))))))))))))) hc1
  intro q hq hqe
  subst hqe
  show CW _ _ _ _ _ [(0, ptr p1 0), (1, .agg kc2), (2, .agg #[.int .u64 0, .int .i64 0, .int .u32 1, .slice none 0 0]), (3, .agg #[.int .i64 1, .int .i64 1, .int .i64 4, .int .i64 4]), (5, ptr b1 0), (6, ptr b2 0), (7, ptr b3 0), (9, ptr b4 0), (10, .bool true), (11, .int .u32 1), (12, .bool true), (13, .int .i64 0), (14, ptr p1 0), (15, .bool true), (16, .bool false), (17, .bool false), (18, ptr b2 0), (19, .int .u64 0), (20, ptr b1 0), (21, .int .u64 0), (22, .bool false), (23, .bool false), (24, .bool false), (25, .agg #[.int .u64 0, .int .i64 0, .int .u32 1, .slice none 0 0]), (26, .bool true), (27, .bool false), (28, .bool false), (29, .agg kc4), (30, .agg kc2), (31, .bool true), (32, ptr p1 0), (33, .agg kc2), (34, .agg kc8), (35, ptr b4 7), (36, .bool false), (42, ptr b4 6), (43, .bool true), (44, .bool true), (48, .bool true), (49, .bool true), (53, .bool true), (54, .bool true), (55, .bool true), (56, ptr b4 0), (57, .int .i64 0), (58, .bool true), (59, .bool true), (60, .bool true), (61, ptr b2 1), (62, .int .i64 0), (63, .bool false), (64, .bool false), (68, ptr b4 6), (69, .bool true), (70, ptr p1 0), (71, ptr p1 0), (72, ptr p1 1), (73, .int .u32 1), (74, ptr b2 1), (75, .int .i64 0), (76, ptr b4 0), (77, .int .i64 0), (78, .bool true), (79, .bool true), (80, ptr b2 2), (81, .int .u32 1), (82, .int .u32 1), (83, .bool true), (84, .bool true), (85, .bool true), (86, .agg #[.int .i64 1, .int .i64 1, .int .i64 4, .int .i64 4]), (87, ptr b4 2), (88, .agg #[.int .i64 1, .int .i64 1, .int .i64 4, .int .i64 4]), (89, .bool true), (90, .bool true), (91, .bool true), (92, ptr b2 3), (93, .slice none 0 0), (94, .int .i64 0), (95, ptr b4 1), (96, .slice none 0 0), (97, .int .i64 0), (98, .bool true), (99, .bool true)] ([(some p1, .cells (#[.map (some p2), .int .u32 1, .int .i64 0, .map (some p3), .map (some p4), .map (some p5)]) 29 (0, 0)), (some p2, mobj .u32 []), (some p3, mobj .i64 []), (some p4, mobj .i64 []), (some p5, mobj .i64 []), (some b4, .cells kc8 82 (0, 0)), (some b3, .cells (#[.int .i64 1, .int .i64 1, .int .i64 4, .int .i64 4]) 34 (0, 0)), (some b2, .cells (#[.int .u64 0, .int .i64 0, .int .u32 1, .slice none 0 0]) 52 (0, 0)), (some b1, .cells kc2 49 (0, 0))])
  refine C.seq (x := sub [1, 1, 1, 1, 1, 1, 1, 1, 1, 1, 0] B8) (y := sub [1, 1, 1, 1, 1, 1, 1, 1, 1, 1, 1] B8) ?_
  refine C.regionD (id := 19) (ops := opsOf (sub [1, 1, 1, 1, 1, 1, 1, 1, 1, 1, 0] B8)) [0, 1, 2, 3, 4, 5, 6, 7, 8, 9, 10, 11, 12, 13, 14, 15, 16, 17, 18, 19, 20, 21, 22, 23, 24, 25, 26, 27, 28] [0, 1, 3, 7, 15, 31, 63, 127, 255, 511, 1023, 2047, 4095, 8191, 16383, 32767, 2047, 67583, 198655, 460799, 2047, 1050623, 4130815, 8325119, 16713727, 33554431, 67108863, 134217727, 268435455] [(.pure, none), (.pure, none), (.pure, none), (.quiet, none), (.pure, none), (.pure, none), (.pure, none), (.pure, none), (.pure, none), (.pure, none), (.pure, none), (.pure, none), (.pure, none), (.pure, none), (.pure, none), (.pure, none), (.pure, none), (.pure, none), (.pure, none), (.pure, none), (.pure, none), (.pure, none), (.pure, none), (.pure, none), (.pure, none), (.pure, none), (.pure, none), (.pure, none), (.pure, none)] (by kernel_rfl) ?_
  intro wD19 hl19
  refine DV.pure (v := .bool true) rfl (wo rfl) rfl rfl rfl (p_move rfl rfl) ?_
  refine DV.pure (v := .bool true) rfl (wo rfl) rfl rfl rfl (p_move rfl rfl) ?_
  refine DV.pure (v := ptr b1 1) rfl (wo rfl) rfl rfl rfl (p_fieldAddr tf49_1 rfl rfl) ?_
  refine DV.quiet (v := .int .i64 1) rfl (wo rfl) rfl rfl rfl (f_load (j := 8) (off := 1) ta44 rfl rfl rfl rfl) ?_
  refine DV.pure (v := .bool true) rfl (wo rfl) rfl rfl rfl (p_bin (fun w => by kernel_rfl) (fun w => by kernel_rfl) rfl rfl rfl) ?_
  refine DV.pure (v := .bool true) rfl (wo rfl) rfl rfl rfl (p_move rfl rfl) ?_
  refine DV.not rfl (wo rfl) rfl rfl ?_
  refine DV.not rfl (wo rfl) rfl rfl ?_
  refine DV.not rfl (wo rfl) rfl rfl ?_
  refine DV.pure (v := .bool true) rfl (wo rfl) rfl rfl rfl (p_pick_true rfl rfl rfl) ?_
  refine DV.pure (v := .bool true) rfl (wo rfl) rfl rfl rfl (p_move rfl rfl) ?_
  refine DV.not rfl (wo rfl) rfl rfl ?_
  refine DV.not rfl (wo rfl) rfl rfl ?_
  refine DV.not rfl (wo rfl) rfl rfl ?_
  refine DV.not rfl (wo rfl) rfl rfl ?_
  refine DV.not rfl (wo rfl) rfl rfl ?_
  refine DV.not rfl (wo rfl) rfl rfl ?_
  refine DV.not rfl (wo rfl) rfl rfl ?_
  refine DV.not rfl (wo rfl) rfl rfl ?_
  refine DV.not rfl (wo rfl) rfl rfl ?_
  refine DV.not rfl (wo rfl) rfl rfl ?_
  refine DV.not rfl (wo rfl) rfl rfl ?_
  refine DV.not rfl (wo rfl) rfl rfl ?_
  refine DV.not rfl (wo rfl) rfl rfl ?_
  refine DV.not rfl (wo rfl) rfl rfl ?_
  refine DV.not rfl (wo rfl) rfl rfl ?_
  refine DV.pure (v := .bool true) rfl (wo rfl) rfl rfl rfl (p_pick_true rfl rfl rfl) ?_
  refine DV.pure (v := .bool true) rfl (wo rfl) rfl rfl rfl (p_pick_true rfl rfl rfl) ?_
  refine DV.pure (v := .bool true) rfl (wo rfl) rfl rfl rfl (p_assign rfl rfl) ?_
  refine DW.doneQ (y := sub [1, 1, 1, 1, 1, 1, 1, 1, 1, 1, 1] B8) hl19 rfl ?_
  exact C.ret (R := fun e w' => ∃ _x : Unit, e = .returned (.bool true) ∧ Cls w0 I' [(some p1, .cells (#[.map (some p2), .int .u32 1, .int .i64 0, .map (some p3), .map (some p4), .map (some p5)]) 29 (0, 0)), (some p2, mobj .u32 []), (some p3, mobj .i64 []), (some p4, mobj .i64 []), (some p5, mobj .i64 [])] w') (rs := [.tmp 8]) (vs := [.bool true]) rfl Tryd.func8 rfl rfl rfl (res_cons (ResV.tmp rfl) res_nil) fun w1 hc1 => ⟨(), rfl, hc1.pick [0, 1, 2, 3, 4] (by decide)⟩
noncomputable def B20 : Code := bodyOf Tryd.f20
theorem tu24 (w : World) : (underlying 24).run Tryd.prog w = .ok (.int .u32) w := by kernel_rfl
theorem tz61 (w : World) : (zeroValue 61).run Tryd.prog w = .ok (.agg #[.int .i64 0, .int .i64 0, .int .i64 0, .int .i64 0, .int .i64 0]) w := by kernel_rfl
noncomputable def B38 : Code := bodyOf Tryd.f38
theorem tf29_2 (a : Addr) (w : World) : (Instr.fieldAt 29 (.pointer (some a)) 2).run Tryd.prog w = .ok (.pointer (some (a.add 2))) w := by kernel_rfl
set_option maxHeartbeats 20000000 in
theorem cw38_41 (p1 p2 p3 p4 p5 : Nat) {I : Mem} : Turn I 38 #[ptr p1 0] [(some p1, .cells (#[.map (some p2), .int .u32 1, .int .i64 0, .map (some p3), .map (some p4), .map (some p5)]) 29 (0, 0)), (some p2, mobj .u32 []), (some p3, mobj .i64 []), (some p4, mobj .i64 []), (some p5, mobj .i64 [])] (fun _ : Unit => .int .i64 1) (fun _ => [(some p1, .cells (#[.map (some p2), .int .u32 1, .int .i64 1, .map (some p3), .map (some p4), .map (some p5)]) 29 (0, 0)), (some p2, mobj .u32 []), (some p3, mobj .i64 []), (some p4, mobj .i64 []), (some p5, mobj .i64 [])]) := fun I' he w0 w hc => by
  refine calls_of_CW (N := 14) Tryd.func38 (show _ = some B38 by kernel_rfl) (by kernel_rfl) rfl (S := [(0, ptr p1 0)]) (by simp) hc ?_
  show CW _ _ _ (sub [] B38) _ _ _
  refine C.seq (x := sub [0] B38) (y := sub [1] B38) ?_
  refine C.region (id := 0) (m := 1) (ops := opsOf (sub [0] B38)) rfl ?_
  refine W.pure (v := .int .i64 0) rfl (wo rfl) rfl rfl (p_assign rfl rfl) (nf rfl) ?_
  refine W.doneQ (y := sub [1] B38) rfl ?_
  refine C.seq (x := sub [1, 0] B38) (y := sub [1, 1] B38) ?_
  refine C.region (id := 1) (m := 8) (ops := opsOf (sub [1, 0] B38)) rfl ?_
  refine W.pure (v := ptr p1 0) rfl (wo rfl) rfl rfl (p_move rfl rfl) (nf rfl) ?_
  refine W.pure (v := ptr p1 0) rfl (wo rfl) rfl rfl (p_nilCheck rfl rfl) (nf rfl) ?_
  refine W.pure (v := ptr p1 2) rfl (wo rfl) rfl rfl (p_fieldAddr tf29_2 rfl rfl) (nf rfl) ?_
  refine W.quiet (v := .int .i64 0) rfl (wo rfl) rfl rfl (f_load (j := 0) (off := 2) ta3 rfl rfl rfl rfl) (nf rfl) ?_
  refine W.pure (v := .int .i64 1) rfl (wo rfl) rfl rfl (p_bin (fun w => by kernel_rfl) (fun w => by kernel_rfl) rfl rfl rfl) (nf rfl) ?_
  refine W.pure (v := ptr p1 0) rfl (wo rfl) rfl rfl (p_nilCheck rfl rfl) (nf rfl) ?_
  refine W.pure (v := ptr p1 2) rfl (wo rfl) rfl rfl (p_fieldAddr tf29_2 rfl rfl) (nf rfl) ?_
  refine W.put (H' := [(some p1, .cells (#[.map (some p2), .int .u32 1, .int .i64 1, .map (some p3), .map (some p4), .map (some p5)]) 29 (0, 0)), (some p2, mobj .u32 []), (some p3, mobj .i64 []), (some p4, mobj .i64 []), (some p5, mobj .i64 [])]) rfl (wo rfl) rfl (f_store (c := #[.map (some p2), .int .u32 1, .int .i64 0, .map (some p3), .map (some p4), .map (some p5)]) (j := 0) (off := 2) (v := .int .i64 1) ts3 rfl rfl (Nat.le_of_ble_eq_true rfl) trivial rfl rfl rfl) (nf rfl) ?_
  refine W.doneQ (y := sub [1, 1] B38) rfl ?_
  refine C.seq (x := sub [1, 1, 0] B38) (y := sub [1, 1, 1] B38) ?_
  refine C.region (id := 2) (m := 5) (ops := opsOf (sub [1, 1, 0] B38)) rfl ?_
  refine W.pure (v := ptr p1 0) rfl (wo rfl) rfl rfl (p_move rfl rfl) (nf rfl) ?_
  refine W.pure (v := ptr p1 0) rfl (wo rfl) rfl rfl (p_nilCheck rfl rfl) (nf rfl) ?_
  refine W.pure (v := ptr p1 2) rfl (wo rfl) rfl rfl (p_fieldAddr tf29_2 rfl rfl) (nf rfl) ?_
  refine W.quiet (v := .int .i64 1) rfl (wo rfl) rfl rfl (f_load (j := 0) (off := 2) ta3 rfl rfl rfl rfl) (nf rfl) ?_
  refine W.pure (v := .int .i64 1) rfl (wo rfl) rfl rfl (p_assign rfl rfl) (nf rfl) ?_
  refine W.doneQ (y := sub [1, 1, 1] B38) rfl ?_
  exact C.ret (R := fun e w' => ∃ _x : Unit, e = .returned (.int .i64 1) ∧ Cls w0 I' [(some p1, .cells (#[.map (some p2), .int .u32 1, .int .i64 1, .map (some p3), .map (some p4), .map (some p5)]) 29 (0, 0)), (some p2, mobj .u32 []), (some p3, mobj .i64 []), (some p4, mobj .i64 []), (some p5, mobj .i64 [])] w') (rs := [.tmp 2]) (vs := [.int .i64 1]) rfl Tryd.func38 rfl rfl rfl (res_cons (ResV.tmp rfl) res_nil) fun w1 hc1 => ⟨(), rfl, hc1.pick [0, 1, 2, 3, 4] (by decide)⟩
theorem en38 (args : Array Value) (w : World) : (callFunc 38 args).run Tryd.prog w = .ok (.enter 38 args) w := by kernel_rfl
set_option maxHeartbeats 20000000 in
theorem cw20_40 (p1 p2 p3 p4 p5 : Nat) {I : Mem} : Turn I 20 #[ptr p1 0, .agg kc2] [(some p1, .cells (#[.map (some p2), .int .u32 1, .int .i64 0, .map (some p3), .map (some p4), .map (some p5)]) 29 (0, 0)), (some p2, mobj .u32 []), (some p3, mobj .i64 []), (some p4, mobj .i64 []), (some p5, mobj .i64 [])] (fun _ : Unit => .int .i64 1) (fun _ => [(some p1, .cells (#[.map (some p2), .int .u32 1, .int .i64 1, .map (some p3), .map (some p4), .map (some p5)]) 29 (0, 0)), (some p2, mobj .u32 []), (some p3, mobj .i64 []), (some p4, mobj .i64 []), (some p5, mobj .i64 [])]) := fun I' he w0 w hc => by
  refine calls_of_CW (N := 72) Tryd.func20 (show _ = some B20 by kernel_rfl) (by kernel_rfl) rfl (S := [(0, ptr p1 0), (1, .agg kc2)]) (by simp) hc ?_
  show CW _ _ _ (sub [] B20) _ _ _
  refine C.seq (x := sub [0] B20) (y := sub [1] B20) ?_
  refine C.region (id := 0) (m := 2) (ops := opsOf (sub [0] B20)) rfl ?_
  refine W.new rfl (wo rfl) rfl rfl (f_box (v := .agg kc2) rfl rfl) (nf rfl) ?_
  intro b1 _
  refine W.heapIs (H2 := [(some b1, .cells kc2 49 (0, 0)), (some p1, .cells (#[.map (some p2), .int .u32 1, .int .i64 0, .map (some p3), .map (some p4), .map (some p5)]) 29 (0, 0)), (some p2, mobj .u32 []), (some p3, mobj .i64 []), (some p4, mobj .i64 []), (some p5, mobj .i64 [])]) rfl ?_
  refine W.pure (v := .int .i64 0) rfl (wo rfl) rfl rfl (p_assign rfl rfl) (nf rfl) ?_
  refine W.doneQ (y := sub [1] B20) rfl ?_
  refine C.seq (x := sub [1, 0] B20) (y := sub [1, 1] B20) ?_
  refine C.regionD (id := 1) (ops := opsOf (sub [1, 0] B20)) [0, 1, 2, 3, 4, 5, 6, 7, 8] [0, 1, 3, 7, 0, 16, 63, 127, 255] [(.pure, none), (.pure, none), (.pure, none), (.quiet, none), (.pure, none), (.quiet, none), (.quiet, none), (.pure, none), (.pure, none)] (by kernel_rfl) ?_
  intro wD1 hl1
  refine DV.pure (v := ptr p1 0) rfl (wo rfl) rfl rfl rfl (p_move rfl rfl) ?_
  refine DV.pure (v := ptr p1 0) rfl (wo rfl) rfl rfl rfl (p_nilCheck rfl rfl) ?_
  refine DV.pure (v := ptr p1 0) rfl (wo rfl) rfl rfl rfl (p_fieldAddr tf29_0 rfl rfl) ?_
  refine DV.quiet (v := .map (some p2)) rfl (wo rfl) rfl rfl rfl (f_load (j := 1) (off := 0) ta23 rfl rfl rfl rfl) ?_
  refine DV.pure (v := ptr b1 2) rfl (wo rfl) rfl rfl rfl (p_fieldAddr tf49_2 rfl rfl) ?_
  refine DV.quiet (v := .int .u32 0) rfl (wo rfl) rfl rfl rfl (f_load (j := 0) (off := 2) ta24 rfl rfl rfl rfl) ?_
  refine DV.quiet (v := .agg #[.int .i64 0, .int .i64 0, .int .i64 0, .int .i64 0, .int .i64 0]) rfl (wo rfl) rfl rfl rfl (f_lookup (j := 2) (a := 0) (l := []) tu23 tu24 tz61 rfl rfl rfl rfl) ?_
  refine DV.pure (v := .int .i64 0) rfl (wo rfl) rfl rfl rfl (p_fieldU (fun w => by kernel_rfl) rfl rfl) ?_
  refine DV.pure (v := .int .i64 0) rfl (wo rfl) rfl rfl rfl (p_assign rfl rfl) ?_
  refine DW.doneQ (y := sub [1, 1] B20) hl1 rfl ?_
  refine C.seq (x := sub [1, 1, 0] B20) (y := sub [1, 1, 1] B20) ?_
  refine C.seq (x := sub [1, 1, 0, 0] B20) (y := sub [1, 1, 0, 1] B20) ?_
  refine C.region (id := 2) (m := 2) (ops := opsOf (sub [1, 1, 0, 0] B20)) rfl ?_
  refine W.pure (v := ptr b1 1) rfl (wo rfl) rfl rfl (p_fieldAddr tf49_1 rfl rfl) (nf rfl) ?_
  refine W.quiet (v := .int .i64 1) rfl (wo rfl) rfl rfl (f_load (j := 0) (off := 1) ta44 rfl rfl rfl rfl) (nf rfl) ?_
  refine W.doneQ (y := sub [1, 1, 0, 1] B20) rfl ?_
  refine C.block (id := 0) (c := sub [1, 1, 0, 1, 0] B20) ?_
  refine C.seq (x := sub [1, 1, 0, 1, 0, 0] B20) (y := sub [1, 1, 0, 1, 0, 1] B20) ?_
  refine C.region (id := 3) (m := 2) (ops := opsOf (sub [1, 1, 0, 1, 0, 0] B20)) rfl ?_
  refine W.pure (v := .bool false) rfl (wo rfl) rfl rfl (p_bin (fun w => by kernel_rfl) (fun w => by kernel_rfl) rfl rfl rfl) (nf rfl) ?_
  refine W.pure (v := .bool false) rfl (wo rfl) rfl rfl (p_assign rfl rfl) (nf rfl) ?_
  refine W.doneQ (y := sub [1, 1, 0, 1, 0, 1] B20) rfl ?_
  refine C.cond_false (x := sub [1, 1, 0, 1, 0, 1, 0] B20) (y := sub [1, 1, 0, 1, 0, 1, 1] B20) rfl rfl ?_
  refine C.seq (x := sub [1, 1, 0, 1, 0, 1, 1, 0] B20) (y := sub [1, 1, 0, 1, 0, 1, 1, 1] B20) ?_
  refine C.region (id := 8) (m := 2) (ops := opsOf (sub [1, 1, 0, 1, 0, 1, 1, 0] B20)) rfl ?_
  refine W.pure (v := .bool false) rfl (wo rfl) rfl rfl (p_bin (fun w => by kernel_rfl) (fun w => by kernel_rfl) rfl rfl rfl) (nf rfl) ?_
  refine W.pure (v := .bool false) rfl (wo rfl) rfl rfl (p_assign rfl rfl) (nf rfl) ?_
  refine W.doneQ (y := sub [1, 1, 0, 1, 0, 1, 1, 1] B20) rfl ?_
  refine C.cond_false (x := sub [1, 1, 0, 1, 0, 1, 1, 1, 0] B20) (y := sub [1, 1, 0, 1, 0, 1, 1, 1, 1] B20) rfl rfl ?_
  refine C.skipQ (y := sub [1, 1, 1] B20) rfl ?_
  refine C.seq (x := sub [1, 1, 1, 0] B20) (y := sub [1, 1, 1, 1] B20) ?_
  refine C.region (id := 15) (m := 3) (ops := opsOf (sub [1, 1, 1, 0] B20)) rfl ?_
  refine W.pure (v := ptr p1 0) rfl (wo rfl) rfl rfl (p_move rfl rfl) (nf rfl) ?_
  refine W.cP (E := [(some p1, .cells (#[.map (some p2), .int .u32 1, .int .i64 0, .map (some p3), .map (some p4), .map (some p5)]) 29 (0, 0)), (some p2, mobj .u32 []), (some p3, mobj .i64 []), (some p4, mobj .i64 []), (some p5, mobj .i64 [])]) (R := [(some b1, .cells kc2 49 (0, 0))]) (caps := #[]) rfl (wo rfl) rfl rfl [1, 2, 3, 4, 5, 0] rfl rfl (cw38_41 p1 p2 p3 p4 p5) rfl (en38 _) rfl rfl rfl (args_val rfl) ?_
  intro _
  refine W.heapIs (H2 := [(some p1, .cells (#[.map (some p2), .int .u32 1, .int .i64 1, .map (some p3), .map (some p4), .map (some p5)]) 29 (0, 0)), (some p2, mobj .u32 []), (some p3, mobj .i64 []), (some p4, mobj .i64 []), (some p5, mobj .i64 []), (some b1, .cells kc2 49 (0, 0))]) rfl ?_
  refine W.pure (v := .int .i64 1) rfl (wo rfl) rfl rfl (p_assign rfl rfl) (nf rfl) ?_
  refine W.doneQ (y := sub [1, 1, 1, 1] B20) rfl ?_
  exact C.ret (R := fun e w' => ∃ _x : Unit, e = .returned (.int .i64 1) ∧ Cls w0 I' [(some p1, .cells (#[.map (some p2), .int .u32 1, .int .i64 1, .map (some p3), .map (some p4), .map (some p5)]) 29 (0, 0)), (some p2, mobj .u32 []), (some p3, mobj .i64 []), (some p4, mobj .i64 []), (some p5, mobj .i64 [])] w') (rs := [.tmp 4]) (vs := [.int .i64 1]) rfl Tryd.func20 rfl rfl rfl (res_cons (ResV.tmp rfl) res_nil) fun w1 hc1 => ⟨(), rfl, hc1.pick [0, 1, 2, 3, 4] (by decide)⟩
theorem en20 (args : Array Value) (w : World) : (callFunc 20 args).run Tryd.prog w = .ok (.enter 20 args) w := by kernel_rfl
noncomputable def B21 : Code := bodyOf Tryd.f21
noncomputable def B39 : Code := bodyOf Tryd.f39
theorem tf34_0 (a : Addr) (w : World) : (Instr.fieldAt 34 (.pointer (some a)) 0).run Tryd.prog w = .ok (.pointer (some (a.add 0))) w := by kernel_rfl
theorem tf34_1 (a : Addr) (w : World) : (Instr.fieldAt 34 (.pointer (some a)) 1).run Tryd.prog w = .ok (.pointer (some (a.add 1))) w := by kernel_rfl
theorem ta31 (w : World) : (isAgg 31).run Tryd.prog w = .ok false w := by kernel_rfl
theorem tf34_3 (a : Addr) (w : World) : (Instr.fieldAt 34 (.pointer (some a)) 3).run Tryd.prog w = .ok (.pointer (some (a.add 3))) w := by kernel_rfl
theorem tf34_2 (a : Addr) (w : World) : (Instr.fieldAt 34 (.pointer (some a)) 2).run Tryd.prog w = .ok (.pointer (some (a.add 2))) w := by kernel_rfl
set_option maxHeartbeats 20000000 in
theorem cw40_44 {I : Mem} : Turn I 40 #[.int .i64 4, .int .i64 4] [] (fun _ : Unit => .bool true) (fun _ => []) := fun I' he w0 w hc => by
  refine calls_of_CW (N := 13) Tryd.func40 (show _ = some B40 by kernel_rfl) (by kernel_rfl) rfl (S := [(0, .int .i64 4), (1, .int .i64 4)]) (by simp) hc ?_
  show CW _ _ _ (sub [] B40) _ _ _
  refine C.seq (x := sub [0] B40) (y := sub [1] B40) ?_
  refine C.region (id := 0) (m := 1) (ops := opsOf (sub [0] B40)) rfl ?_
  refine W.pure (v := .bool false) rfl (wo rfl) rfl rfl (p_assign rfl rfl) (nf rfl) ?_
  refine W.doneQ (y := sub [1] B40) rfl ?_
  refine C.seq (x := sub [1, 0] B40) (y := sub [1, 1] B40) ?_
  refine C.region (id := 1) (m := 9) (ops := opsOf (sub [1, 0] B40)) rfl ?_
  refine W.pure (v := .int .i64 4) rfl (wo rfl) rfl rfl (p_move rfl rfl) (nf rfl) ?_
  refine W.pure (v := .bool true) rfl (wo rfl) rfl rfl (p_bin (fun w => by kernel_rfl) (fun w => by kernel_rfl) rfl rfl rfl) (nf rfl) ?_
  refine W.pure (v := .bool true) rfl (wo rfl) rfl rfl (p_move rfl rfl) (nf rfl) ?_
  refine W.pure (v := .int .i64 4) rfl (wo rfl) rfl rfl (p_move rfl rfl) (nf rfl) ?_
  refine W.pure (v := .int .i64 4) rfl (wo rfl) rfl rfl (p_move rfl rfl) (nf rfl) ?_
  refine W.pure (v := .int .i64 0) rfl (wo rfl) rfl rfl (p_bin (fun w => by kernel_rfl) (fun w => by kernel_rfl) rfl rfl rfl) (nf rfl) ?_
  refine W.pure (v := .bool true) rfl (wo rfl) rfl rfl (p_bin (fun w => by kernel_rfl) (fun w => by kernel_rfl) rfl rfl rfl) (nf rfl) ?_
  refine W.pure (v := .bool true) rfl (wo rfl) rfl rfl (p_pick_true rfl rfl rfl) (nf rfl) ?_
  refine W.pure (v := .bool true) rfl (wo rfl) rfl rfl (p_assign rfl rfl) (nf rfl) ?_
  refine W.doneQ (y := sub [1, 1] B40) rfl ?_
  exact C.ret (R := fun e w' => ∃ _x : Unit, e = .returned (.bool true) ∧ Cls w0 I' [] w') (rs := [.tmp 4]) (vs := [.bool true]) rfl Tryd.func40 rfl rfl rfl (res_cons (ResV.tmp rfl) res_nil) fun w1 hc1 => ⟨(), rfl, hc1.pick [] (by decide)⟩
set_option maxHeartbeats 20000000 in
theorem cw39_43 {I : Mem} : Turn I 39 #[.agg #[.int .i64 1, .int .i64 1, .int .i64 4, .int .i64 4]] [] (fun _ : Unit => .bool true) (fun _ => []) := fun I' he w0 w hc => by
  refine calls_of_CW (N := 43) Tryd.func39 (show _ = some B39 by kernel_rfl) (by kernel_rfl) rfl (S := [(0, .agg #[.int .i64 1, .int .i64 1, .int .i64 4, .int .i64 4])]) (by simp) hc ?_
  show CW _ _ _ (sub [] B39) _ _ _
  refine C.seq (x := sub [0] B39) (y := sub [1] B39) ?_
  refine C.region (id := 0) (m := 2) (ops := opsOf (sub [0] B39)) rfl ?_
  refine W.new rfl (wo rfl) rfl rfl (f_box (v := .agg #[.int .i64 1, .int .i64 1, .int .i64 4, .int .i64 4]) rfl rfl) (nf rfl) ?_
  intro b1 _
  refine W.heapIs (H2 := [(some b1, .cells (#[.int .i64 1, .int .i64 1, .int .i64 4, .int .i64 4]) 34 (0, 0))]) rfl ?_
  refine W.pure (v := .bool false) rfl (wo rfl) rfl rfl (p_assign rfl rfl) (nf rfl) ?_
  refine W.doneQ (y := sub [1] B39) rfl ?_
  refine C.seq (x := sub [1, 0] B39) (y := sub [1, 1] B39) ?_
  refine C.regionD (id := 1) (ops := opsOf (sub [1, 0] B39)) [0, 1, 2, 3, 4, 5, 6, 7, 8, 9, 10, 11, 12, 13, 14, 15, 16, 17, 18, 19, 20, 21, 22, 23, 24, 25, 26, 27, 28, 29, 30, 31, 32, 33, 34, 35, 36, 37, 38, 39, 40] [0, 1, 3, 7, 15, 31, 63, 127, 255, 511, 1023, 2047, 4095, 8191, 16383, 32767, 65535, 32767, 163839, 425983, 1048575, 2097151, 4194303, 8388607, 16777215, 8388607, 41943039, 134217727, 268435455, 536870911, 1073741823, 2147483647, 4294967295, 8589934591, 17179869183, 34359738367, 68719476735, 137438953471, 274877906943, 549755813887, 1099511627775] [(.pure, none), (.quiet, none), (.keep, none), (.pure, none), (.pure, none), (.pure, none), (.quiet, none), (.pure, none), (.pure, none), (.pure, none), (.pure, none), (.quiet, none), (.pure, none), (.pure, none), (.pure, none), (.pure, none), (.quiet, none), (.pure, none), (.quiet, none), (.keep, none), (.keep, none), (.pure, none), (.pure, none), (.pure, none), (.quiet, none), (.pure, none), (.quiet, none), (.keep, none), (.pure, none), (.pure, none), (.pure, none), (.quiet, none), (.pure, none), (.pure, none), (.pure, none), (.pure, none), (.pure, none), (.pure, none), (.pure, none), (.pure, none), (.pure, none)] (by kernel_rfl) ?_
  intro wD1 hl1
  refine DV.pure (v := ptr b1 0) rfl (wo rfl) rfl rfl rfl (p_fieldAddr tf34_0 rfl rfl) ?_
  refine DV.quiet (v := .int .i64 1) rfl (wo rfl) rfl rfl rfl (f_load (j := 0) (off := 0) ta30 rfl rfl rfl rfl) ?_
  refine DV.cPk (E := []) (R := [(some b1, .cells (#[.int .i64 1, .int .i64 1, .int .i64 4, .int .i64 4]) 34 (0, 0))]) (caps := #[]) rfl (wo rfl) rfl rfl rfl [0] rfl rfl (cw57_34) (fun x p hp => hp) rfl (en57 _) rfl rfl rfl (args_val rfl) ?_
  intro _
  refine DV.pure (v := .bool true) rfl (wo rfl) rfl rfl rfl (p_bin (fun w => by kernel_rfl) (fun w => by kernel_rfl) rfl rfl rfl) ?_
  refine DV.pure (v := .bool true) rfl (wo rfl) rfl rfl rfl (p_move rfl rfl) ?_
  refine DV.pure (v := ptr b1 1) rfl (wo rfl) rfl rfl rfl (p_fieldAddr tf34_1 rfl rfl) ?_
  refine DV.quiet (v := .int .i64 1) rfl (wo rfl) rfl rfl rfl (f_load (j := 0) (off := 1) ta31 rfl rfl rfl rfl) ?_
  refine DV.pure (v := .bool true) rfl (wo rfl) rfl rfl rfl (p_bin (fun w => by kernel_rfl) (fun w => by kernel_rfl) rfl rfl rfl) ?_
  refine DV.pure (v := .bool true) rfl (wo rfl) rfl rfl rfl (p_pick_true rfl rfl rfl) ?_
  refine DV.pure (v := .bool true) rfl (wo rfl) rfl rfl rfl (p_move rfl rfl) ?_
  refine DV.pure (v := ptr b1 1) rfl (wo rfl) rfl rfl rfl (p_fieldAddr tf34_1 rfl rfl) ?_
  refine DV.quiet (v := .int .i64 1) rfl (wo rfl) rfl rfl rfl (f_load (j := 0) (off := 1) ta31 rfl rfl rfl rfl) ?_
  refine DV.pure (v := .bool true) rfl (wo rfl) rfl rfl rfl (p_bin (fun w => by kernel_rfl) (fun w => by kernel_rfl) rfl rfl rfl) ?_
  refine DV.pure (v := .bool true) rfl (wo rfl) rfl rfl rfl (p_pick_true rfl rfl rfl) ?_
  refine DV.pure (v := .bool true) rfl (wo rfl) rfl rfl rfl (p_move rfl rfl) ?_
  refine DV.pure (v := ptr b1 3) rfl (wo rfl) rfl rfl rfl (p_fieldAddr tf34_3 rfl rfl) ?_
  refine DV.quiet (v := .int .i64 4) rfl (wo rfl) rfl rfl rfl (f_load (j := 0) (off := 3) ta32 rfl rfl rfl rfl) ?_
  refine DV.pure (v := ptr b1 0) rfl (wo rfl) rfl rfl rfl (p_fieldAddr tf34_0 rfl rfl) ?_
  refine DV.quiet (v := .int .i64 1) rfl (wo rfl) rfl rfl rfl (f_load (j := 0) (off := 0) ta30 rfl rfl rfl rfl) ?_
  refine DV.cPk (E := []) (R := [(some b1, .cells (#[.int .i64 1, .int .i64 1, .int .i64 4, .int .i64 4]) 34 (0, 0))]) (caps := #[]) rfl (wo rfl) rfl rfl rfl [0] rfl rfl (cw57_34) (fun x p hp => hp) rfl (en57 _) rfl rfl rfl (args_val rfl) ?_
  intro _
  refine DV.cPk (E := []) (R := [(some b1, .cells (#[.int .i64 1, .int .i64 1, .int .i64 4, .int .i64 4]) 34 (0, 0))]) (caps := #[]) rfl (wo rfl) rfl rfl rfl [0] rfl rfl (cw40_37) (fun x p hp => hp) rfl (en40 _) rfl rfl rfl (args_val rfl) ?_
  intro _
  refine DV.pure (v := .bool true) rfl (wo rfl) rfl rfl rfl (p_pick_true rfl rfl rfl) ?_
  refine DV.pure (v := .bool true) rfl (wo rfl) rfl rfl rfl (p_move rfl rfl) ?_
  refine DV.pure (v := ptr b1 2) rfl (wo rfl) rfl rfl rfl (p_fieldAddr tf34_2 rfl rfl) ?_
  refine DV.quiet (v := .int .i64 4) rfl (wo rfl) rfl rfl rfl (f_load (j := 0) (off := 2) ta32 rfl rfl rfl rfl) ?_
  refine DV.pure (v := ptr b1 3) rfl (wo rfl) rfl rfl rfl (p_fieldAddr tf34_3 rfl rfl) ?_
  refine DV.quiet (v := .int .i64 4) rfl (wo rfl) rfl rfl rfl (f_load (j := 0) (off := 3) ta32 rfl rfl rfl rfl) ?_
  refine DV.cPk (E := []) (R := [(some b1, .cells (#[.int .i64 1, .int .i64 1, .int .i64 4, .int .i64 4]) 34 (0, 0))]) (caps := #[]) rfl (wo rfl) rfl rfl rfl [0] rfl rfl (cw40_44) (fun x p hp => hp) rfl (en40 _) rfl rfl rfl (args_val rfl) ?_
  intro _
  refine DV.pure (v := .bool true) rfl (wo rfl) rfl rfl rfl (p_pick_true rfl rfl rfl) ?_
  refine DV.pure (v := .bool true) rfl (wo rfl) rfl rfl rfl (p_move rfl rfl) ?_
  refine DV.pure (v := ptr b1 1) rfl (wo rfl) rfl rfl rfl (p_fieldAddr tf34_1 rfl rfl) ?_
  refine DV.quiet (v := .int .i64 1) rfl (wo rfl) rfl rfl rfl (f_load (j := 0) (off := 1) ta31 rfl rfl rfl rfl) ?_
  refine DV.pure (v := .bool true) rfl (wo rfl) rfl rfl rfl (p_bin (fun w => by kernel_rfl) (fun w => by kernel_rfl) rfl rfl rfl) ?_
  refine DV.pure (v := .bool true) rfl (wo rfl) rfl rfl rfl (p_move rfl rfl) ?_
  refine DV.not rfl (wo rfl) rfl rfl ?_
  refine DV.not rfl (wo rfl) rfl rfl ?_
  refine DV.not rfl (wo rfl) rfl rfl ?_
  refine DV.not rfl (wo rfl) rfl rfl ?_
  refine DV.pure (v := .bool true) rfl (wo rfl) rfl rfl rfl (p_pick_true rfl rfl rfl) ?_
  refine DV.pure (v := .bool true) rfl (wo rfl) rfl rfl rfl (p_pick_true rfl rfl rfl) ?_
  refine DV.pure (v := .bool true) rfl (wo rfl) rfl rfl rfl (p_assign rfl rfl) ?_
  refine DW.doneQ (y := sub [1, 1] B39) hl1 rfl ?_
  exact C.ret (R := fun e w' => ∃ _x : Unit, e = .returned (.bool true) ∧ Cls w0 I' [] w') (rs := [.tmp 2]) (vs := [.bool true]) rfl Tryd.func39 rfl rfl rfl (res_cons (ResV.tmp rfl) res_nil) fun w1 hc1 => ⟨(), rfl, hc1.pick [] (by decide)⟩
theorem en39 (args : Array Value) (w : World) : (callFunc 39 args).run Tryd.prog w = .ok (.enter 39 args) w := by kernel_rfl
end Go.Proofs.YtfcedjmgddloiaaDoor
