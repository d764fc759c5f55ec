import Derived.Test.YtfcedjmgddloiaaDoorCwM4
namespace Go.Proofs.YtfcedjmgddloiaaDoor
open Go Go.HW Go.RowKit
set_option linter.unusedVariables false
set_option linter.unusedSimpArgs false
set_option maxRecDepth 20000

set_option maxHeartbeats 20000000 in
theorem cw3_1 {I : Mem} : Turn I 3 #[] [] (fun _ : Unit => .bool true) (fun _ => []) := fun I' he w0 w hc => by
  refine calls_of_CWm (N := 79) Tryd.func3 (show _ = some B3 by kernel_rfl) (by kernel_rfl) rfl (S := []) (by simp) hc ?_
  show CW _ _ _ (sub [] B3) _ _ _
  refine C.seq (x := sub [0] B3) (y := sub [1] B3) ?_
  refine C.region (id := 0) (m := 1) (ops := opsOf (sub [0] B3)) rfl ?_
  refine W.pure (v := .bool false) rfl (wo rfl) rfl rfl (p_assign rfl rfl) (nf rfl) ?_
  refine W.doneQ (y := sub [1] B3) rfl ?_
  refine C.seq (x := sub [1, 0] B3) (y := sub [1, 1] B3) ?_
  refine C.region (id := 1) (m := 1) (ops := opsOf (sub [1, 0] B3)) rfl ?_
  refine W.pure (v := .pointer none) rfl (wo rfl) rfl rfl (p_assign rfl rfl) (nf rfl) ?_
  refine W.doneQ (y := sub [1, 1] B3) rfl ?_
  refine C.seq (x := sub [1, 1, 0] B3) (y := sub [1, 1, 1] B3) ?_
  refine C.region (id := 2) (m := 3) (ops := opsOf (sub [1, 1, 0] B3)) rfl ?_
  refine W.pure (v := .agg #[.map none, .int .u32 0, .int .i64 0, .map none, .map none, .map none]) rfl (wo rfl) rfl rfl (p_build (vs := []) (fun w => by kernel_rfl) rfl rfl) (nf rfl) ?_
  refine W.new rfl (wo rfl) rfl rfl (f_box (v := .agg #[.map none, .int .u32 0, .int .i64 0, .map none, .map none, .map none]) rfl rfl) (nf rfl) ?_
  intro b1 _
  refine W.heapIs (H2 := [(some b1, .cells (#[.map none, .int .u32 0, .int .i64 0, .map none, .map none, .map none]) 29 (0, 0))]) rfl ?_
  refine W.pure (v := ptr b1 0) rfl (wo rfl) rfl rfl (p_assign rfl rfl) (nf rfl) ?_
  refine W.doneQ (y := sub [1, 1, 1] B3) rfl ?_
  refine C.seq (x := sub [1, 1, 1, 0] B3) (y := sub [1, 1, 1, 1] B3) ?_
  refine C.region (id := 3) (m := 8) (ops := opsOf (sub [1, 1, 1, 0] B3)) rfl ?_
  refine W.pure (v := .pointer none) rfl (wo rfl) rfl rfl (p_move rfl rfl) (nf rfl) ?_
  refine W.cP (E := []) (R := [(some b1, .cells (#[.map none, .int .u32 0, .int .i64 0, .map none, .map none, .map none]) 29 (0, 0))]) (caps := #[]) rfl (wo rfl) rfl rfl [0] rfl rfl (cw4_2) rfl (en4 _) rfl rfl rfl (args_val rfl) ?_
  intro _
  refine W.heapIs (H2 := [(some b1, .cells (#[.map none, .int .u32 0, .int .i64 0, .map none, .map none, .map none]) 29 (0, 0))]) rfl ?_
  refine W.pure (v := .tuple #[.agg #[.int .i64 0, .int .i64 0, .int .i64 0, .int .i64 0], .bool false]) rfl (wo rfl) rfl rfl (p_move rfl rfl) (nf rfl) ?_
  refine W.pure (v := .agg #[.int .i64 0, .int .i64 0, .int .i64 0, .int .i64 0]) rfl (wo rfl) rfl rfl (p_extract rfl rfl rfl) (nf rfl) ?_
  refine W.pure (v := .bool false) rfl (wo rfl) rfl rfl (p_extract rfl rfl rfl) (nf rfl) ?_
  refine W.new rfl (wo rfl) rfl rfl (f_alloc tz34 rfl) (nf rfl) ?_
  intro b2 _
  refine W.heapIs (H2 := [(some b2, .cells (#[.int .i64 0, .int .i64 0, .int .i64 0, .int .i64 0]) 34 (0, 0)), (some b1, .cells (#[.map none, .int .u32 0, .int .i64 0, .map none, .map none, .map none]) 29 (0, 0))]) rfl ?_
  refine W.put (H' := [(some b2, .cells (#[.int .i64 0, .int .i64 0, .int .i64 0, .int .i64 0]) 34 (0, 0)), (some b1, .cells (#[.map none, .int .u32 0, .int .i64 0, .map none, .map none, .map none]) 29 (0, 0))]) rfl (wo rfl) rfl (f_storeA (j := 0) (c2 := #[.int .i64 0, .int .i64 0, .int .i64 0, .int .i64 0]) ts34 rfl rfl rfl (one_all rfl) rfl rfl rfl) (nf rfl) ?_
  refine W.pure (v := .bool false) rfl (wo rfl) rfl rfl (p_assign rfl rfl) (nf rfl) ?_
  refine W.doneQ (y := sub [1, 1, 1, 1] B3) rfl ?_
  refine C.seq (x := sub [1, 1, 1, 1, 0] B3) (y := sub [1, 1, 1, 1, 1] B3) ?_
  refine C.region (id := 4) (m := 2) (ops := opsOf (sub [1, 1, 1, 1, 0] B3)) rfl ?_
  refine W.new rfl (wo rfl) rfl rfl (f_alloc tz3 rfl) (nf rfl) ?_
  intro b3 _
  refine W.heapIs (H2 := [(some b3, .cells (#[.int .i64 0]) 3 (0, 0)), (some b2, .cells (#[.int .i64 0, .int .i64 0, .int .i64 0, .int .i64 0]) 34 (0, 0)), (some b1, .cells (#[.map none, .int .u32 0, .int .i64 0, .map none, .map none, .map none]) 29 (0, 0))]) rfl ?_
  refine W.put (H' := [(some b3, .cells (#[.int .i64 0]) 3 (0, 0)), (some b2, .cells (#[.int .i64 0, .int .i64 0, .int .i64 0, .int .i64 0]) 34 (0, 0)), (some b1, .cells (#[.map none, .int .u32 0, .int .i64 0, .map none, .map none, .map none]) 29 (0, 0))]) rfl (wo rfl) rfl (f_store (c := #[.int .i64 0]) (j := 0) (off := 0) (v := .int .i64 0) ts3 rfl rfl (Nat.le_of_ble_eq_true rfl) trivial rfl rfl rfl) (nf rfl) ?_
  refine W.doneQ (y := sub [1, 1, 1, 1, 1] B3) rfl ?_
  refine C.seq (x := sub [1, 1, 1, 1, 1, 0] B3) (y := sub [1, 1, 1, 1, 1, 1] B3) ?_
  refine C.seq (x := sub [1, 1, 1, 1, 1, 0, 0] B3) (y := sub [1, 1, 1, 1, 1, 0, 1] B3) ?_
  refine C.region (id := 5) (m := 3) (ops := opsOf (sub [1, 1, 1, 1, 1, 0, 0] B3)) rfl ?_
  refine W.pure (v := ptr b1 0) rfl (wo rfl) rfl rfl (p_move rfl rfl) (nf rfl) ?_
  refine W.cP (E := [(some b1, .cells (#[.map none, .int .u32 0, .int .i64 0, .map none, .map none, .map none]) 29 (0, 0))]) (R := [(some b3, .cells (#[.int .i64 0]) 3 (0, 0)), (some b2, .cells (#[.int .i64 0, .int .i64 0, .int .i64 0, .int .i64 0]) 34 (0, 0))]) (caps := #[]) rfl (wo rfl) rfl rfl [2, 0, 1] rfl rfl (cw5_4 b1) rfl (en5 _) rfl rfl rfl (args_val rfl) ?_
  rintro ⟨b4, b5⟩
  refine W.heapIs (H2 := [(some b4, .cells (#[.slice none 0 0]) 63 (0, 0)), (some b5, .cells (#[.slice none 0 0]) 64 (0, 0)), (some b1, .cells (#[.map none, .int .u32 0, .int .i64 0, .map none, .map none, .map none]) 29 (0, 0)), (some b3, .cells (#[.int .i64 0]) 3 (0, 0)), (some b2, .cells (#[.int .i64 0, .int .i64 0, .int .i64 0, .int .i64 0]) 34 (0, 0))]) rfl ?_
  refine W.pure (v := .bool false) rfl (wo rfl) rfl rfl (p_bin (fun w => by kernel_rfl) (fun w => by kernel_rfl) rfl rfl rfl) (nf rfl) ?_
  refine W.doneQ (y := sub [1, 1, 1, 1, 1, 0, 1] B3) rfl ?_
  refine C.cond_false (x := sub [1, 1, 1, 1, 1, 0, 1, 0] B3) (y := sub [1, 1, 1, 1, 1, 0, 1, 1] B3) rfl rfl ?_
  refine C.skipQ (y := sub [1, 1, 1, 1, 1, 1] B3) rfl ?_
  refine C.seq (x := sub [1, 1, 1, 1, 1, 1, 0] B3) (y := sub [1, 1, 1, 1, 1, 1, 1] B3) ?_
  refine C.seq (x := sub [1, 1, 1, 1, 1, 1, 0, 0] B3) (y := sub [1, 1, 1, 1, 1, 1, 0, 1] B3) ?_
  refine C.region (id := 7) (m := 2) (ops := opsOf (sub [1, 1, 1, 1, 1, 1, 0, 0] B3)) rfl ?_
  refine W.pure (v := ptr b1 0) rfl (wo rfl) rfl rfl (p_move rfl rfl) (nf rfl) ?_
  refine W.cP (E := [(some b1, .cells (#[.map none, .int .u32 0, .int .i64 0, .map none, .map none, .map none]) 29 (0, 0))]) (R := [(some b4, .cells (#[.slice none 0 0]) 63 (0, 0)), (some b5, .cells (#[.slice none 0 0]) 64 (0, 0)), (some b3, .cells (#[.int .i64 0]) 3 (0, 0)), (some b2, .cells (#[.int .i64 0, .int .i64 0, .int .i64 0, .int .i64 0]) 34 (0, 0))]) (caps := #[]) rfl (wo rfl) rfl rfl [2, 0, 1, 3, 4] rfl rfl (cw5_4 b1) rfl (en5 _) rfl rfl rfl (args_val rfl) ?_
  rintro ⟨b6, b7⟩
  refine W.heapIs (H2 := [(some b6, .cells (#[.slice none 0 0]) 63 (0, 0)), (some b7, .cells (#[.slice none 0 0]) 64 (0, 0)), (some b1, .cells (#[.map none, .int .u32 0, .int .i64 0, .map none, .map none, .map none]) 29 (0, 0)), (some b4, .cells (#[.slice none 0 0]) 63 (0, 0)), (some b5, .cells (#[.slice none 0 0]) 64 (0, 0)), (some b3, .cells (#[.int .i64 0]) 3 (0, 0)), (some b2, .cells (#[.int .i64 0, .int .i64 0, .int .i64 0, .int .i64 0]) 34 (0, 0))]) rfl ?_
  refine W.doneQ (y := sub [1, 1, 1, 1, 1, 1, 0, 1] B3) rfl ?_
  refine C.block (id := 0) (c := sub [1, 1, 1, 1, 1, 1, 0, 1, 0] B3) ?_
  refine C.rangeNil (E := [(some b6, .cells (#[.slice none 0 0]) 63 (0, 0)), (some b7, .cells (#[.slice none 0 0]) 64 (0, 0))]) (R := [(some b1, .cells (#[.map none, .int .u32 0, .int .i64 0, .map none, .map none, .map none]) 29 (0, 0)), (some b4, .cells (#[.slice none 0 0]) 63 (0, 0)), (some b5, .cells (#[.slice none 0 0]) 64 (0, 0)), (some b3, .cells (#[.int .i64 0]) 3 (0, 0)), (some b2, .cells (#[.int .i64 0, .int .i64 0, .int .i64 0, .int .i64 0]) 34 (0, 0))]) (y := sub [1, 1, 1, 1, 1, 1, 1] B3) [0, 1, 2, 3, 4, 5, 6] rfl rfl rfl rfl ea19 (fun ly => cw19_6 ly b6 b7) ?_
  intro b8 _
  refine MC.seq (x := sub [1, 1, 1, 1, 1, 1, 1, 0] B3) (y := sub [1, 1, 1, 1, 1, 1, 1, 1] B3) ?_
  refine MC.region (id := 9) (m := 58) (ops := opsOf (sub [1, 1, 1, 1, 1, 1, 1, 0] B3)) rfl ?_
  refine MW.pure (v := .bool false) rfl (wo rfl) rfl rfl (p_move rfl rfl) (nf rfl) ?_
  refine MW.pure (v := .bool true) rfl (wo rfl) rfl rfl (p_not (p := false) rfl rfl) (nf rfl) ?_
  refine MW.pure (v := .bool true) rfl (wo rfl) rfl rfl (p_move rfl rfl) (nf rfl) ?_
  refine MW.quiet (v := .int .i64 0) rfl (wo rfl) rfl rfl (f_load (j := 5) (off := 0) ta3 rfl rfl rfl rfl) (nf rfl) ?_
  refine MW.pure (v := .bool true) rfl (wo rfl) rfl rfl (p_bin (fun w => by kernel_rfl) (fun w => by kernel_rfl) rfl rfl rfl) (nf rfl) ?_
  refine MW.pure (v := .bool true) rfl (wo rfl) rfl rfl (p_pick_true rfl rfl rfl) (nf rfl) ?_
  refine MW.pure (v := .bool true) rfl (wo rfl) rfl rfl (p_move rfl rfl) (nf rfl) ?_
  refine MW.pure (v := .pointer none) rfl (wo rfl) rfl rfl (p_move rfl rfl) (nf rfl) ?_
  refine MW.pure (v := .agg kc1) rfl (wo rfl) rfl rfl (p_build (vs := []) (fun w => by kernel_rfl) rfl rfl) (nf rfl) ?_
  refine MW.pure (v := .agg #[.int .u64 0, .int .i64 0, .int .u32 0, .slice none 0 0]) rfl (wo rfl) rfl rfl (p_build (vs := []) (fun w => by kernel_rfl) rfl rfl) (nf rfl) ?_
  refine MW.pure (v := .agg #[.int .i64 0, .int .i64 0, .int .i64 0, .int .i64 0]) rfl (wo rfl) rfl rfl (p_build (vs := []) (fun w => by kernel_rfl) rfl rfl) (nf rfl) ?_
  refine MW.cP (E := []) (R := [(some b6, .cells (#[.slice none 0 0]) 63 (0, 0)), (some b7, .cells (#[.slice none 0 0]) 64 (0, 0)), (some b1, .cells (#[.map none, .int .u32 0, .int .i64 0, .map none, .map none, .map none]) 29 (0, 0)), (some b4, .cells (#[.slice none 0 0]) 63 (0, 0)), (some b5, .cells (#[.slice none 0 0]) 64 (0, 0)), (some b3, .cells (#[.int .i64 0]) 3 (0, 0)), (some b2, .cells (#[.int .i64 0, .int .i64 0, .int .i64 0, .int .i64 0]) 34 (0, 0)), (some b8, .deferred (some []))]) (caps := #[]) rfl (wo rfl) rfl rfl [0, 1, 2, 3, 4, 5, 6, 7] rfl rfl (cw7_7) rfl (en7 _) rfl rfl rfl (args_val rfl) ?_
  intro _
  refine MW.heapIs (H2 := [(some b6, .cells (#[.slice none 0 0]) 63 (0, 0)), (some b7, .cells (#[.slice none 0 0]) 64 (0, 0)), (some b1, .cells (#[.map none, .int .u32 0, .int .i64 0, .map none, .map none, .map none]) 29 (0, 0)), (some b4, .cells (#[.slice none 0 0]) 63 (0, 0)), (some b5, .cells (#[.slice none 0 0]) 64 (0, 0)), (some b3, .cells (#[.int .i64 0]) 3 (0, 0)), (some b2, .cells (#[.int .i64 0, .int .i64 0, .int .i64 0, .int .i64 0]) 34 (0, 0)), (some b8, .deferred (some []))]) rfl ?_
  refine MW.cP (E := []) (R := [(some b6, .cells (#[.slice none 0 0]) 63 (0, 0)), (some b7, .cells (#[.slice none 0 0]) 64 (0, 0)), (some b1, .cells (#[.map none, .int .u32 0, .int .i64 0, .map none, .map none, .map none]) 29 (0, 0)), (some b4, .cells (#[.slice none 0 0]) 63 (0, 0)), (some b5, .cells (#[.slice none 0 0]) 64 (0, 0)), (some b3, .cells (#[.int .i64 0]) 3 (0, 0)), (some b2, .cells (#[.int .i64 0, .int .i64 0, .int .i64 0, .int .i64 0]) 34 (0, 0)), (some b8, .deferred (some []))]) (caps := #[]) rfl (wo rfl) rfl rfl [0, 1, 2, 3, 4, 5, 6, 7] rfl rfl (cw6_8) rfl (en6 _) rfl rfl rfl (args_val rfl) ?_
  intro _
  refine MW.heapIs (H2 := [(some b6, .cells (#[.slice none 0 0]) 63 (0, 0)), (some b7, .cells (#[.slice none 0 0]) 64 (0, 0)), (some b1, .cells (#[.map none, .int .u32 0, .int .i64 0, .map none, .map none, .map none]) 29 (0, 0)), (some b4, .cells (#[.slice none 0 0]) 63 (0, 0)), (some b5, .cells (#[.slice none 0 0]) 64 (0, 0)), (some b3, .cells (#[.int .i64 0]) 3 (0, 0)), (some b2, .cells (#[.int .i64 0, .int .i64 0, .int .i64 0, .int .i64 0]) 34 (0, 0)), (some b8, .deferred (some []))]) rfl ?_
  refine MW.pure (v := .bool true) rfl (wo rfl) rfl rfl (p_bin (fun w => by kernel_rfl) (fun w => by kernel_rfl) rfl rfl rfl) (nf rfl) ?_
  refine MW.pure (v := .bool true) rfl (wo rfl) rfl rfl (p_pick_true rfl rfl rfl) (nf rfl) ?_
  refine MW.pure (v := .bool true) rfl (wo rfl) rfl rfl (p_move rfl rfl) (nf rfl) ?_
  refine MW.pure (v := ptr b1 0) rfl (wo rfl) rfl rfl (p_move rfl rfl) (nf rfl) ?_
  refine MW.pure (v := .agg kc1) rfl (wo rfl) rfl rfl (p_build (vs := []) (fun w => by kernel_rfl) rfl rfl) (nf rfl) ?_
  refine MW.pure (v := .agg #[.int .u64 0, .int .i64 0, .int .u32 0, .slice none 0 0]) rfl (wo rfl) rfl rfl (p_build (vs := []) (fun w => by kernel_rfl) rfl rfl) (nf rfl) ?_
  refine MW.pure (v := .agg #[.int .i64 0, .int .i64 0, .int .i64 0, .int .i64 0]) rfl (wo rfl) rfl rfl (p_build (vs := []) (fun w => by kernel_rfl) rfl rfl) (nf rfl) ?_
  refine MW.cP (E := [(some b1, .cells (#[.map none, .int .u32 0, .int .i64 0, .map none, .map none, .map none]) 29 (0, 0))]) (R := [(some b6, .cells (#[.slice none 0 0]) 63 (0, 0)), (some b7, .cells (#[.slice none 0 0]) 64 (0, 0)), (some b4, .cells (#[.slice none 0 0]) 63 (0, 0)), (some b5, .cells (#[.slice none 0 0]) 64 (0, 0)), (some b3, .cells (#[.int .i64 0]) 3 (0, 0)), (some b2, .cells (#[.int .i64 0, .int .i64 0, .int .i64 0, .int .i64 0]) 34 (0, 0)), (some b8, .deferred (some []))]) (caps := #[]) rfl (wo rfl) rfl rfl [2, 0, 1, 3, 4, 5, 6, 7] rfl rfl (cw8_9 b1) rfl (en8 _) rfl rfl rfl (args_val rfl) ?_
  intro _
  refine MW.heapIs (H2 := [(some b1, .cells (#[.map none, .int .u32 0, .int .i64 0, .map none, .map none, .map none]) 29 (0, 0)), (some b6, .cells (#[.slice none 0 0]) 63 (0, 0)), (some b7, .cells (#[.slice none 0 0]) 64 (0, 0)), (some b4, .cells (#[.slice none 0 0]) 63 (0, 0)), (some b5, .cells (#[.slice none 0 0]) 64 (0, 0)), (some b3, .cells (#[.int .i64 0]) 3 (0, 0)), (some b2, .cells (#[.int .i64 0, .int .i64 0, .int .i64 0, .int .i64 0]) 34 (0, 0)), (some b8, .deferred (some []))]) rfl ?_
  refine MW.pure (v := .bool true) rfl (wo rfl) rfl rfl (p_not (p := false) rfl rfl) (nf rfl) ?_
  refine MW.pure (v := .bool true) rfl (wo rfl) rfl rfl (p_pick_true rfl rfl rfl) (nf rfl) ?_
  refine MW.pure (v := .bool true) rfl (wo rfl) rfl rfl (p_move rfl rfl) (nf rfl) ?_
  refine MW.pure (v := .pointer none) rfl (wo rfl) rfl rfl (p_move rfl rfl) (nf rfl) ?_
  refine MW.cP (E := []) (R := [(some b1, .cells (#[.map none, .int .u32 0, .int .i64 0, .map none, .map none, .map none]) 29 (0, 0)), (some b6, .cells (#[.slice none 0 0]) 63 (0, 0)), (some b7, .cells (#[.slice none 0 0]) 64 (0, 0)), (some b4, .cells (#[.slice none 0 0]) 63 (0, 0)), (some b5, .cells (#[.slice none 0 0]) 64 (0, 0)), (some b3, .cells (#[.int .i64 0]) 3 (0, 0)), (some b2, .cells (#[.int .i64 0, .int .i64 0, .int .i64 0, .int .i64 0]) 34 (0, 0)), (some b8, .deferred (some []))]) (caps := #[]) rfl (wo rfl) rfl rfl [0, 1, 2, 3, 4, 5, 6, 7] rfl rfl (cw9_10) rfl (en9 _) rfl rfl rfl (args_val rfl) ?_
  intro _
  refine MW.heapIs (H2 := [(some b1, .cells (#[.map none, .int .u32 0, .int .i64 0, .map none, .map none, .map none]) 29 (0, 0)), (some b6, .cells (#[.slice none 0 0]) 63 (0, 0)), (some b7, .cells (#[.slice none 0 0]) 64 (0, 0)), (some b4, .cells (#[.slice none 0 0]) 63 (0, 0)), (some b5, .cells (#[.slice none 0 0]) 64 (0, 0)), (some b3, .cells (#[.int .i64 0]) 3 (0, 0)), (some b2, .cells (#[.int .i64 0, .int .i64 0, .int .i64 0, .int .i64 0]) 34 (0, 0)), (some b8, .deferred (some []))]) rfl ?_
  refine MW.pure (v := .bool true) rfl (wo rfl) rfl rfl (p_bin (fun w => by kernel_rfl) (fun w => by kernel_rfl) rfl rfl rfl) (nf rfl) ?_
  refine MW.pure (v := .bool true) rfl (wo rfl) rfl rfl (p_pick_true rfl rfl rfl) (nf rfl) ?_
  refine MW.pure (v := .bool true) rfl (wo rfl) rfl rfl (p_move rfl rfl) (nf rfl) ?_
  refine MW.pure (v := ptr b1 0) rfl (wo rfl) rfl rfl (p_move rfl rfl) (nf rfl) ?_
  refine MW.cP (E := [(some b1, .cells (#[.map none, .int .u32 0, .int .i64 0, .map none, .map none, .map none]) 29 (0, 0))]) (R := [(some b6, .cells (#[.slice none 0 0]) 63 (0, 0)), (some b7, .cells (#[.slice none 0 0]) 64 (0, 0)), (some b4, .cells (#[.slice none 0 0]) 63 (0, 0)), (some b5, .cells (#[.slice none 0 0]) 64 (0, 0)), (some b3, .cells (#[.int .i64 0]) 3 (0, 0)), (some b2, .cells (#[.int .i64 0, .int .i64 0, .int .i64 0, .int .i64 0]) 34 (0, 0)), (some b8, .deferred (some []))]) (caps := #[]) rfl (wo rfl) rfl rfl [0, 1, 2, 3, 4, 5, 6, 7] rfl rfl (cw10_11 b1) rfl (en10 _) rfl rfl rfl (args_val rfl) ?_
  intro _
  refine MW.heapIs (H2 := [(some b1, .cells (#[.map none, .int .u32 0, .int .i64 0, .map none, .map none, .map none]) 29 (0, 0)), (some b6, .cells (#[.slice none 0 0]) 63 (0, 0)), (some b7, .cells (#[.slice none 0 0]) 64 (0, 0)), (some b4, .cells (#[.slice none 0 0]) 63 (0, 0)), (some b5, .cells (#[.slice none 0 0]) 64 (0, 0)), (some b3, .cells (#[.int .i64 0]) 3 (0, 0)), (some b2, .cells (#[.int .i64 0, .int .i64 0, .int .i64 0, .int .i64 0]) 34 (0, 0)), (some b8, .deferred (some []))]) rfl ?_
  refine MW.pure (v := .bool true) rfl (wo rfl) rfl rfl (p_not (p := false) rfl rfl) (nf rfl) ?_
  refine MW.pure (v := .bool true) rfl (wo rfl) rfl rfl (p_pick_true rfl rfl rfl) (nf rfl) ?_
  refine MW.pure (v := .bool true) rfl (wo rfl) rfl rfl (p_move rfl rfl) (nf rfl) ?_
  refine MW.pure (v := .pointer none) rfl (wo rfl) rfl rfl (p_move rfl rfl) (nf rfl) ?_
  refine MW.cP (E := []) (R := [(some b1, .cells (#[.map none, .int .u32 0, .int .i64 0, .map none, .map none, .map none]) 29 (0, 0)), (some b6, .cells (#[.slice none 0 0]) 63 (0, 0)), (some b7, .cells (#[.slice none 0 0]) 64 (0, 0)), (some b4, .cells (#[.slice none 0 0]) 63 (0, 0)), (some b5, .cells (#[.slice none 0 0]) 64 (0, 0)), (some b3, .cells (#[.int .i64 0]) 3 (0, 0)), (some b2, .cells (#[.int .i64 0, .int .i64 0, .int .i64 0, .int .i64 0]) 34 (0, 0)), (some b8, .deferred (some []))]) (caps := #[]) rfl (wo rfl) rfl rfl [0, 1, 2, 3, 4, 5, 6, 7] rfl rfl (cw11_12) rfl (en11 _) rfl rfl rfl (args_val rfl) ?_
  intro _
  refine MW.heapIs (H2 := [(some b1, .cells (#[.map none, .int .u32 0, .int .i64 0, .map none, .map none, .map none]) 29 (0, 0)), (some b6, .cells (#[.slice none 0 0]) 63 (0, 0)), (some b7, .cells (#[.slice none 0 0]) 64 (0, 0)), (some b4, .cells (#[.slice none 0 0]) 63 (0, 0)), (some b5, .cells (#[.slice none 0 0]) 64 (0, 0)), (some b3, .cells (#[.int .i64 0]) 3 (0, 0)), (some b2, .cells (#[.int .i64 0, .int .i64 0, .int .i64 0, .int .i64 0]) 34 (0, 0)), (some b8, .deferred (some []))]) rfl ?_
  refine MW.pure (v := .bool true) rfl (wo rfl) rfl rfl (p_bin (fun w => by kernel_rfl) (fun w => by kernel_rfl) rfl rfl rfl) (nf rfl) ?_
  refine MW.pure (v := .bool true) rfl (wo rfl) rfl rfl (p_pick_true rfl rfl rfl) (nf rfl) ?_
  refine MW.pure (v := .bool true) rfl (wo rfl) rfl rfl (p_move rfl rfl) (nf rfl) ?_
  refine MW.pure (v := ptr b1 0) rfl (wo rfl) rfl rfl (p_move rfl rfl) (nf rfl) ?_
  refine MW.cP (E := [(some b1, .cells (#[.map none, .int .u32 0, .int .i64 0, .map none, .map none, .map none]) 29 (0, 0))]) (R := [(some b6, .cells (#[.slice none 0 0]) 63 (0, 0)), (some b7, .cells (#[.slice none 0 0]) 64 (0, 0)), (some b4, .cells (#[.slice none 0 0]) 63 (0, 0)), (some b5, .cells (#[.slice none 0 0]) 64 (0, 0)), (some b3, .cells (#[.int .i64 0]) 3 (0, 0)), (some b2, .cells (#[.int .i64 0, .int .i64 0, .int .i64 0, .int .i64 0]) 34 (0, 0)), (some b8, .deferred (some []))]) (caps := #[]) rfl (wo rfl) rfl rfl [0, 1, 2, 3, 4, 5, 6, 7] rfl rfl (cw12_13 b1) rfl (en12 _) rfl rfl rfl (args_val rfl) ?_
  intro _
  refine MW.heapIs (H2 := [(some b1, .cells (#[.map none, .int .u32 0, .int .i64 0, .map none, .map none, .map none]) 29 (0, 0)), (some b6, .cells (#[.slice none 0 0]) 63 (0, 0)), (some b7, .cells (#[.slice none 0 0]) 64 (0, 0)), (some b4, .cells (#[.slice none 0 0]) 63 (0, 0)), (some b5, .cells (#[.slice none 0 0]) 64 (0, 0)), (some b3, .cells (#[.int .i64 0]) 3 (0, 0)), (some b2, .cells (#[.int .i64 0, .int .i64 0, .int .i64 0, .int .i64 0]) 34 (0, 0)), (some b8, .deferred (some []))]) rfl ?_
  refine MW.pure (v := .bool true) rfl (wo rfl) rfl rfl (p_bin (fun w => by kernel_rfl) (fun w => by kernel_rfl) rfl rfl rfl) (nf rfl) ?_
  refine MW.pure (v := .bool true) rfl (wo rfl) rfl rfl (p_pick_true rfl rfl rfl) (nf rfl) ?_
  refine MW.pure (v := .bool true) rfl (wo rfl) rfl rfl (p_move rfl rfl) (nf rfl) ?_
  refine MW.pure (v := .pointer none) rfl (wo rfl) rfl rfl (p_move rfl rfl) (nf rfl) ?_
  refine MW.pure (v := ptr b1 0) rfl (wo rfl) rfl rfl (p_move rfl rfl) (nf rfl) ?_
  refine MW.cP (E := [(some b1, .cells (#[.map none, .int .u32 0, .int .i64 0, .map none, .map none, .map none]) 29 (0, 0))]) (R := [(some b6, .cells (#[.slice none 0 0]) 63 (0, 0)), (some b7, .cells (#[.slice none 0 0]) 64 (0, 0)), (some b4, .cells (#[.slice none 0 0]) 63 (0, 0)), (some b5, .cells (#[.slice none 0 0]) 64 (0, 0)), (some b3, .cells (#[.int .i64 0]) 3 (0, 0)), (some b2, .cells (#[.int .i64 0, .int .i64 0, .int .i64 0, .int .i64 0]) 34 (0, 0)), (some b8, .deferred (some []))]) (caps := #[]) rfl (wo rfl) rfl rfl [0, 1, 2, 3, 4, 5, 6, 7] rfl rfl (cw13_14 b1) rfl (en13 _) rfl rfl rfl (args_val rfl) ?_
  intro _
  refine MW.heapIs (H2 := [(some b1, .cells (#[.map none, .int .u32 0, .int .i64 0, .map none, .map none, .map none]) 29 (0, 0)), (some b6, .cells (#[.slice none 0 0]) 63 (0, 0)), (some b7, .cells (#[.slice none 0 0]) 64 (0, 0)), (some b4, .cells (#[.slice none 0 0]) 63 (0, 0)), (some b5, .cells (#[.slice none 0 0]) 64 (0, 0)), (some b3, .cells (#[.int .i64 0]) 3 (0, 0)), (some b2, .cells (#[.int .i64 0, .int .i64 0, .int .i64 0, .int .i64 0]) 34 (0, 0)), (some b8, .deferred (some []))]) rfl ?_
  refine MW.pure (v := .bool true) rfl (wo rfl) rfl rfl (p_pick_true rfl rfl rfl) (nf rfl) ?_
  refine MW.pure (v := .bool true) rfl (wo rfl) rfl rfl (p_move rfl rfl) (nf rfl) ?_
  refine MW.pure (v := .pointer none) rfl (wo rfl) rfl rfl (p_move rfl rfl) (nf rfl) ?_
  refine MW.cP (E := []) (R := [(some b1, .cells (#[.map none, .int .u32 0, .int .i64 0, .map none, .map none, .map none]) 29 (0, 0)), (some b6, .cells (#[.slice none 0 0]) 63 (0, 0)), (some b7, .cells (#[.slice none 0 0]) 64 (0, 0)), (some b4, .cells (#[.slice none 0 0]) 63 (0, 0)), (some b5, .cells (#[.slice none 0 0]) 64 (0, 0)), (some b3, .cells (#[.int .i64 0]) 3 (0, 0)), (some b2, .cells (#[.int .i64 0, .int .i64 0, .int .i64 0, .int .i64 0]) 34 (0, 0)), (some b8, .deferred (some []))]) (caps := #[]) rfl (wo rfl) rfl rfl [0, 1, 2, 3, 4, 5, 6, 7] rfl rfl (cw14_15) rfl (en14 _) rfl rfl rfl (args_val rfl) ?_
  rintro ⟨b9, b10, b11, b12, b13⟩
  refine MW.heapIs (H2 := [(some b9, .cells (#[.map (some b10), .int .u32 1, .int .i64 0, .map (some b11), .map (some b12), .map (some b13)]) 29 (0, 0)), (some b10, mobj .u32 []), (some b11, mobj .i64 []), (some b12, mobj .i64 []), (some b13, mobj .i64 []), (some b1, .cells (#[.map none, .int .u32 0, .int .i64 0, .map none, .map none, .map none]) 29 (0, 0)), (some b6, .cells (#[.slice none 0 0]) 63 (0, 0)), (some b7, .cells (#[.slice none 0 0]) 64 (0, 0)), (some b4, .cells (#[.slice none 0 0]) 63 (0, 0)), (some b5, .cells (#[.slice none 0 0]) 64 (0, 0)), (some b3, .cells (#[.int .i64 0]) 3 (0, 0)), (some b2, .cells (#[.int .i64 0, .int .i64 0, .int .i64 0, .int .i64 0]) 34 (0, 0)), (some b8, .deferred (some []))]) rfl ?_
  refine MW.cP (E := [(some b9, .cells (#[.map (some b10), .int .u32 1, .int .i64 0, .map (some b11), .map (some b12), .map (some b13)]) 29 (0, 0)), (some b10, mobj .u32 []), (some b11, mobj .i64 []), (some b12, mobj .i64 []), (some b13, mobj .i64 [])]) (R := [(some b1, .cells (#[.map none, .int .u32 0, .int .i64 0, .map none, .map none, .map none]) 29 (0, 0)), (some b6, .cells (#[.slice none 0 0]) 63 (0, 0)), (some b7, .cells (#[.slice none 0 0]) 64 (0, 0)), (some b4, .cells (#[.slice none 0 0]) 63 (0, 0)), (some b5, .cells (#[.slice none 0 0]) 64 (0, 0)), (some b3, .cells (#[.int .i64 0]) 3 (0, 0)), (some b2, .cells (#[.int .i64 0, .int .i64 0, .int .i64 0, .int .i64 0]) 34 (0, 0)), (some b8, .deferred (some []))]) (caps := #[]) rfl (wo rfl) rfl rfl [0, 1, 2, 3, 4, 5, 6, 7, 8, 9, 10, 11, 12] rfl rfl (cw13_16 b9 b10 b11 b12 b13) rfl (en13 _) rfl rfl rfl (args_val rfl) ?_
  intro _
  refine MW.heapIs (H2 := [(some b9, .cells (#[.map (some b10), .int .u32 1, .int .i64 0, .map (some b11), .map (some b12), .map (some b13)]) 29 (0, 0)), (some b10, mobj .u32 []), (some b11, mobj .i64 []), (some b12, mobj .i64 []), (some b13, mobj .i64 []), (some b1, .cells (#[.map none, .int .u32 0, .int .i64 0, .map none, .map none, .map none]) 29 (0, 0)), (some b6, .cells (#[.slice none 0 0]) 63 (0, 0)), (some b7, .cells (#[.slice none 0 0]) 64 (0, 0)), (some b4, .cells (#[.slice none 0 0]) 63 (0, 0)), (some b5, .cells (#[.slice none 0 0]) 64 (0, 0)), (some b3, .cells (#[.int .i64 0]) 3 (0, 0)), (some b2, .cells (#[.int .i64 0, .int .i64 0, .int .i64 0, .int .i64 0]) 34 (0, 0)), (some b8, .deferred (some []))]) rfl ?_
  refine MW.pure (v := .bool true) rfl (wo rfl) rfl rfl (p_not (p := false) rfl rfl) (nf rfl) ?_
  refine MW.pure (v := .bool true) rfl (wo rfl) rfl rfl (p_pick_true rfl rfl rfl) (nf rfl) ?_
  refine MW.pure (v := .bool true) rfl (wo rfl) rfl rfl (p_move rfl rfl) (nf rfl) ?_
  refine MW.cP (E := []) (R := [(some b9, .cells (#[.map (some b10), .int .u32 1, .int .i64 0, .map (some b11), .map (some b12), .map (some b13)]) 29 (0, 0)), (some b10, mobj .u32 []), (some b11, mobj .i64 []), (some b12, mobj .i64 []), (some b13, mobj .i64 []), (some b1, .cells (#[.map none, .int .u32 0, .int .i64 0, .map none, .map none, .map none]) 29 (0, 0)), (some b6, .cells (#[.slice none 0 0]) 63 (0, 0)), (some b7, .cells (#[.slice none 0 0]) 64 (0, 0)), (some b4, .cells (#[.slice none 0 0]) 63 (0, 0)), (some b5, .cells (#[.slice none 0 0]) 64 (0, 0)), (some b3, .cells (#[.int .i64 0]) 3 (0, 0)), (some b2, .cells (#[.int .i64 0, .int .i64 0, .int .i64 0, .int .i64 0]) 34 (0, 0)), (some b8, .deferred (some []))]) (caps := #[]) rfl (wo rfl) rfl rfl [0, 1, 2, 3, 4, 5, 6, 7, 8, 9, 10, 11, 12] rfl rfl (cw15_18) rfl (en15 _) rfl rfl rfl (args_val rfl) ?_
  intro _
  refine MW.heapIs (H2 := [(some b9, .cells (#[.map (some b10), .int .u32 1, .int .i64 0, .map (some b11), .map (some b12), .map (some b13)]) 29 (0, 0)), (some b10, mobj .u32 []), (some b11, mobj .i64 []), (some b12, mobj .i64 []), (some b13, mobj .i64 []), (some b1, .cells (#[.map none, .int .u32 0, .int .i64 0, .map none, .map none, .map none]) 29 (0, 0)), (some b6, .cells (#[.slice none 0 0]) 63 (0, 0)), (some b7, .cells (#[.slice none 0 0]) 64 (0, 0)), (some b4, .cells (#[.slice none 0 0]) 63 (0, 0)), (some b5, .cells (#[.slice none 0 0]) 64 (0, 0)), (some b3, .cells (#[.int .i64 0]) 3 (0, 0)), (some b2, .cells (#[.int .i64 0, .int .i64 0, .int .i64 0, .int .i64 0]) 34 (0, 0)), (some b8, .deferred (some []))]) rfl ?_
  refine MW.pure (v := .bool true) rfl (wo rfl) rfl rfl (p_pick_true rfl rfl rfl) (nf rfl) ?_
  refine MW.pure (v := .bool true) rfl (wo rfl) rfl rfl (p_assign rfl rfl) (nf rfl) ?_
  refine MW.doneQ (y := sub [1, 1, 1, 1, 1, 1, 1, 1] B3) rfl ?_
  exact MC.ret (D := b8) (G := [(some b9, .cells (#[.map (some b10), .int .u32 1, .int .i64 0, .map (some b11), .map (some b12), .map (some b13)]) 29 (0, 0)), (some b10, mobj .u32 []), (some b11, mobj .i64 []), (some b12, mobj .i64 []), (some b13, mobj .i64 []), (some b1, .cells (#[.map none, .int .u32 0, .int .i64 0, .map none, .map none, .map none]) 29 (0, 0)), (some b6, .cells (#[.slice none 0 0]) 63 (0, 0)), (some b7, .cells (#[.slice none 0 0]) 64 (0, 0)), (some b4, .cells (#[.slice none 0 0]) 63 (0, 0)), (some b5, .cells (#[.slice none 0 0]) 64 (0, 0)), (some b3, .cells (#[.int .i64 0]) 3 (0, 0)), (some b2, .cells (#[.int .i64 0, .int .i64 0, .int .i64 0, .int .i64 0]) 34 (0, 0))]) (R := fun e w' => ∃ _x : Unit, e = .returned (.bool true) ∧ Cls w0 I' [] w') (rs := [.tmp 0]) (vs := [.bool true]) rfl Tryd.func3 rfl rfl rfl (res_cons (ResV.tmp rfl) res_nil) [12, 0, 1, 2, 3, 4, 5, 6, 7, 8, 9, 10, 11] rfl rfl (fun w1 hc1 => ⟨(), rfl, hc1.pick [] (by decide)⟩)
end Go.Proofs.YtfcedjmgddloiaaDoor
