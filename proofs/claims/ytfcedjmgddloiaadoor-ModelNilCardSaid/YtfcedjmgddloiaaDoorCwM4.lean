import Derived.Test.YtfcedjmgddloiaaDoorCwM3
namespace Go.Proofs.YtfcedjmgddloiaaDoor
open Go Go.HW Go.RowKit
set_option linter.unusedVariables false
set_option linter.unusedSimpArgs false
set_option maxRecDepth 20000

set_option maxHeartbeats 20000000 in
theorem cw47_55 {I : Mem} : Turn I 47 #[.agg #[.int .i64 1, .int .i64 1, .int .i64 4, .int .i64 4], .int .i64 9] [] (fun _ : Unit => .int .i64 12) (fun _ => []) := fun I' he w0 w hc => by
  refine calls_of_CW (N := 20) Tryd.func47 (show _ = some B47 by kernel_rfl) (by kernel_rfl) rfl (S := [(0, .agg #[.int .i64 1, .int .i64 1, .int .i64 4, .int .i64 4]), (1, .int .i64 9)]) (by simp) hc ?_
  show CW _ _ _ (sub [] B47) _ _ _
  refine C.seq (x := sub [0] B47) (y := sub [1] B47) ?_
  refine C.region (id := 0) (m := 2) (ops := opsOf (sub [0] B47)) rfl ?_
  refine W.new rfl (wo rfl) rfl rfl (f_box (v := .agg #[.int .i64 1, .int .i64 1, .int .i64 4, .int .i64 4]) rfl rfl) (nf rfl) ?_
  intro b1 _
  refine W.heapIs (H2 := [(some b1, .cells (#[.int .i64 1, .int .i64 1, .int .i64 4, .int .i64 4]) 34 (0, 0))]) rfl ?_
  refine W.pure (v := .int .i64 0) rfl (wo rfl) rfl rfl (p_assign rfl rfl) (nf rfl) ?_
  refine W.doneQ (y := sub [1] B47) rfl ?_
  refine C.seq (x := sub [1, 0] B47) (y := sub [1, 1] B47) ?_
  refine C.region (id := 1) (m := 4) (ops := opsOf (sub [1, 0] B47)) rfl ?_
  refine W.cP (E := []) (R := [(some b1, .cells (#[.int .i64 1, .int .i64 1, .int .i64 4, .int .i64 4]) 34 (0, 0))]) (caps := #[]) rfl (wo rfl) rfl rfl [0] rfl rfl (cw69_56) rfl (en69 _) rfl rfl rfl (args_val rfl) ?_
  rintro ⟨b2, b3, b4, b5, b6, b7⟩
  refine W.heapIs (H2 := [(some b2, mobj .i64 [(3, .func (.func 86) #[] #[]), (11, .func (.func 86) #[] #[]), (10, .func (.func 86) #[] #[]), (4, .func (.func 87) #[] #[]), (5, .func (.func 85) #[] #[ptr b3 0]), (7, .func (.func 85) #[] #[ptr b4 0]), (8, .func (.func 85) #[] #[ptr b5 0]), (9, .func (.func 85) #[] #[ptr b6 0]), (12, .func (.func 85) #[] #[ptr b7 0]), (13, .func (.func 88) #[] #[])]), (some b3, .cells (#[.int .i64 4]) 32 (0, 0)), (some b4, .cells (#[.int .i64 8]) 32 (0, 0)), (some b5, .cells (#[.int .i64 16]) 32 (0, 0)), (some b6, .cells (#[.int .i64 1]) 32 (0, 0)), (some b7, .cells (#[.int .i64 32]) 32 (0, 0)), (some b1, .cells (#[.int .i64 1, .int .i64 1, .int .i64 4, .int .i64 4]) 34 (0, 0))]) rfl ?_
  refine W.pure (v := .int .i64 9) rfl (wo rfl) rfl rfl (p_move rfl rfl) (nf rfl) ?_
  refine W.quiet (v := .func (.func 85) #[] #[ptr b6 0]) rfl (wo rfl) rfl rfl (f_lookup (j := 0) (a := 9) (l := [(3, .func (.func 86) #[] #[]), (11, .func (.func 86) #[] #[]), (10, .func (.func 86) #[] #[]), (4, .func (.func 87) #[] #[]), (5, .func (.func 85) #[] #[ptr b3 0]), (7, .func (.func 85) #[] #[ptr b4 0]), (8, .func (.func 85) #[] #[ptr b5 0]), (9, .func (.func 85) #[] #[ptr b6 0]), (12, .func (.func 85) #[] #[ptr b7 0]), (13, .func (.func 88) #[] #[])]) tu123 tu44 tz71 rfl rfl rfl rfl) (nf rfl) ?_
  refine W.pure (v := .func (.func 85) #[] #[ptr b6 0]) rfl (wo rfl) rfl rfl (p_assign rfl rfl) (nf rfl) ?_
  refine W.doneQ (y := sub [1, 1] B47) rfl ?_
  refine C.seq (x := sub [1, 1, 0] B47) (y := sub [1, 1, 1] B47) ?_
  refine C.seq (x := sub [1, 1, 0, 0] B47) (y := sub [1, 1, 0, 1] B47) ?_
  refine C.region (id := 2) (m := 7) (ops := opsOf (sub [1, 1, 0, 0] B47)) rfl ?_
  refine W.quiet (v := .agg #[.int .i64 1, .int .i64 1, .int .i64 4, .int .i64 4]) rfl (wo rfl) rfl rfl (f_loadA (j := 6) ta34 ts34 rfl rfl rfl rfl) (nf rfl) ?_
  refine W.cP (E := []) (R := [(some b2, mobj .i64 [(3, .func (.func 86) #[] #[]), (11, .func (.func 86) #[] #[]), (10, .func (.func 86) #[] #[]), (4, .func (.func 87) #[] #[]), (5, .func (.func 85) #[] #[ptr b3 0]), (7, .func (.func 85) #[] #[ptr b4 0]), (8, .func (.func 85) #[] #[ptr b5 0]), (9, .func (.func 85) #[] #[ptr b6 0]), (12, .func (.func 85) #[] #[ptr b7 0]), (13, .func (.func 88) #[] #[])]), (some b3, .cells (#[.int .i64 4]) 32 (0, 0)), (some b4, .cells (#[.int .i64 8]) 32 (0, 0)), (some b5, .cells (#[.int .i64 16]) 32 (0, 0)), (some b6, .cells (#[.int .i64 1]) 32 (0, 0)), (some b7, .cells (#[.int .i64 32]) 32 (0, 0)), (some b1, .cells (#[.int .i64 1, .int .i64 1, .int .i64 4, .int .i64 4]) 34 (0, 0))]) (caps := #[]) rfl (wo rfl) rfl rfl [0, 1, 2, 3, 4, 5, 6] rfl rfl (cw39_43) rfl (en39 _) rfl rfl rfl (args_val rfl) ?_
  intro _
  refine W.heapIs (H2 := [(some b2, mobj .i64 [(3, .func (.func 86) #[] #[]), (11, .func (.func 86) #[] #[]), (10, .func (.func 86) #[] #[]), (4, .func (.func 87) #[] #[]), (5, .func (.func 85) #[] #[ptr b3 0]), (7, .func (.func 85) #[] #[ptr b4 0]), (8, .func (.func 85) #[] #[ptr b5 0]), (9, .func (.func 85) #[] #[ptr b6 0]), (12, .func (.func 85) #[] #[ptr b7 0]), (13, .func (.func 88) #[] #[])]), (some b3, .cells (#[.int .i64 4]) 32 (0, 0)), (some b4, .cells (#[.int .i64 8]) 32 (0, 0)), (some b5, .cells (#[.int .i64 16]) 32 (0, 0)), (some b6, .cells (#[.int .i64 1]) 32 (0, 0)), (some b7, .cells (#[.int .i64 32]) 32 (0, 0)), (some b1, .cells (#[.int .i64 1, .int .i64 1, .int .i64 4, .int .i64 4]) 34 (0, 0))]) rfl ?_
  refine W.pure (v := .bool false) rfl (wo rfl) rfl rfl (p_not (p := true) rfl rfl) (nf rfl) ?_
  refine W.pure (v := .bool false) rfl (wo rfl) rfl rfl (p_move rfl rfl) (nf rfl) ?_
  refine W.pure (v := .func (.func 85) #[] #[ptr b6 0]) rfl (wo rfl) rfl rfl (p_move rfl rfl) (nf rfl) ?_
  refine W.pure (v := .bool false) rfl (wo rfl) rfl rfl (p_bin (fun w => by kernel_rfl) (fun w => by kernel_rfl) rfl rfl rfl) (nf rfl) ?_
  refine W.pure (v := .bool false) rfl (wo rfl) rfl rfl (p_pick_false rfl rfl rfl) (nf rfl) ?_
  refine W.doneQ (y := sub [1, 1, 0, 1] B47) rfl ?_
  refine C.cond_false (x := sub [1, 1, 0, 1, 0] B47) (y := sub [1, 1, 0, 1, 1] B47) rfl rfl ?_
  refine C.skipQ (y := sub [1, 1, 1] B47) rfl ?_
  refine C.seq (x := sub [1, 1, 1, 0] B47) (y := sub [1, 1, 1, 1] B47) ?_
  refine C.region (id := 4) (m := 5) (ops := opsOf (sub [1, 1, 1, 0] B47)) rfl ?_
  refine W.pure (v := .func (.func 85) #[] #[ptr b6 0]) rfl (wo rfl) rfl rfl (p_move rfl rfl) (nf rfl) ?_
  refine W.quiet (v := .agg #[.int .i64 1, .int .i64 1, .int .i64 4, .int .i64 4]) rfl (wo rfl) rfl rfl (f_loadA (j := 6) ta34 ts34 rfl rfl rfl rfl) (nf rfl) ?_
  refine W.cP (E := [(some b6, .cells (#[.int .i64 1]) 32 (0, 0))]) (R := [(some b2, mobj .i64 [(3, .func (.func 86) #[] #[]), (11, .func (.func 86) #[] #[]), (10, .func (.func 86) #[] #[]), (4, .func (.func 87) #[] #[]), (5, .func (.func 85) #[] #[ptr b3 0]), (7, .func (.func 85) #[] #[ptr b4 0]), (8, .func (.func 85) #[] #[ptr b5 0]), (9, .func (.func 85) #[] #[ptr b6 0]), (12, .func (.func 85) #[] #[ptr b7 0]), (13, .func (.func 88) #[] #[])]), (some b3, .cells (#[.int .i64 4]) 32 (0, 0)), (some b4, .cells (#[.int .i64 8]) 32 (0, 0)), (some b5, .cells (#[.int .i64 16]) 32 (0, 0)), (some b7, .cells (#[.int .i64 32]) 32 (0, 0)), (some b1, .cells (#[.int .i64 1, .int .i64 1, .int .i64 4, .int .i64 4]) 34 (0, 0))]) (caps := #[ptr b6 0]) rfl (wo rfl) rfl rfl [4, 0, 1, 2, 3, 5, 6] rfl rfl (cw85_62 b6) rfl (en85 _) rfl rfl rfl (args_val rfl) ?_
  intro _
  refine W.heapIs (H2 := [(some b6, .cells (#[.int .i64 1]) 32 (0, 0)), (some b2, mobj .i64 [(3, .func (.func 86) #[] #[]), (11, .func (.func 86) #[] #[]), (10, .func (.func 86) #[] #[]), (4, .func (.func 87) #[] #[]), (5, .func (.func 85) #[] #[ptr b3 0]), (7, .func (.func 85) #[] #[ptr b4 0]), (8, .func (.func 85) #[] #[ptr b5 0]), (9, .func (.func 85) #[] #[ptr b6 0]), (12, .func (.func 85) #[] #[ptr b7 0]), (13, .func (.func 88) #[] #[])]), (some b3, .cells (#[.int .i64 4]) 32 (0, 0)), (some b4, .cells (#[.int .i64 8]) 32 (0, 0)), (some b5, .cells (#[.int .i64 16]) 32 (0, 0)), (some b7, .cells (#[.int .i64 32]) 32 (0, 0)), (some b1, .cells (#[.int .i64 1, .int .i64 1, .int .i64 4, .int .i64 4]) 34 (0, 0))]) rfl ?_
  refine W.cP (E := []) (R := [(some b6, .cells (#[.int .i64 1]) 32 (0, 0)), (some b2, mobj .i64 [(3, .func (.func 86) #[] #[]), (11, .func (.func 86) #[] #[]), (10, .func (.func 86) #[] #[]), (4, .func (.func 87) #[] #[]), (5, .func (.func 85) #[] #[ptr b3 0]), (7, .func (.func 85) #[] #[ptr b4 0]), (8, .func (.func 85) #[] #[ptr b5 0]), (9, .func (.func 85) #[] #[ptr b6 0]), (12, .func (.func 85) #[] #[ptr b7 0]), (13, .func (.func 88) #[] #[])]), (some b3, .cells (#[.int .i64 4]) 32 (0, 0)), (some b4, .cells (#[.int .i64 8]) 32 (0, 0)), (some b5, .cells (#[.int .i64 16]) 32 (0, 0)), (some b7, .cells (#[.int .i64 32]) 32 (0, 0)), (some b1, .cells (#[.int .i64 1, .int .i64 1, .int .i64 4, .int .i64 4]) 34 (0, 0))]) (caps := #[]) rfl (wo rfl) rfl rfl [0, 1, 2, 3, 4, 5, 6] rfl rfl (cw70_63) rfl (en70 _) rfl rfl rfl (args_val rfl) ?_
  intro _
  refine W.heapIs (H2 := [(some b6, .cells (#[.int .i64 1]) 32 (0, 0)), (some b2, mobj .i64 [(3, .func (.func 86) #[] #[]), (11, .func (.func 86) #[] #[]), (10, .func (.func 86) #[] #[]), (4, .func (.func 87) #[] #[]), (5, .func (.func 85) #[] #[ptr b3 0]), (7, .func (.func 85) #[] #[ptr b4 0]), (8, .func (.func 85) #[] #[ptr b5 0]), (9, .func (.func 85) #[] #[ptr b6 0]), (12, .func (.func 85) #[] #[ptr b7 0]), (13, .func (.func 88) #[] #[])]), (some b3, .cells (#[.int .i64 4]) 32 (0, 0)), (some b4, .cells (#[.int .i64 8]) 32 (0, 0)), (some b5, .cells (#[.int .i64 16]) 32 (0, 0)), (some b7, .cells (#[.int .i64 32]) 32 (0, 0)), (some b1, .cells (#[.int .i64 1, .int .i64 1, .int .i64 4, .int .i64 4]) 34 (0, 0))]) rfl ?_
  refine W.pure (v := .int .i64 12) rfl (wo rfl) rfl rfl (p_assign rfl rfl) (nf rfl) ?_
  refine W.doneQ (y := sub [1, 1, 1, 1] B47) rfl ?_
  exact C.ret (R := fun e w' => ∃ _x : Unit, e = .returned (.int .i64 12) ∧ Cls w0 I' [] w') (rs := [.tmp 4]) (vs := [.int .i64 12]) rfl Tryd.func47 rfl rfl rfl (res_cons (ResV.tmp rfl) res_nil) fun w1 hc1 => ⟨(), rfl, hc1.pick [] (by decide)⟩
theorem en47 (args : Array Value) (w : World) : (callFunc 47 args).run Tryd.prog w = .ok (.enter 47 args) w := by kernel_rfl
def kc11 : Array Value := #[.int .i64 12, .slice none 0 0, .int .i64 0, .int .i64 0, .int .i64 0, .int .i64 0, .bool false, .bool false]
set_option maxHeartbeats 20000000 in
theorem cw25_64 {I : Mem} : Turn I 25 #[.int .i64 12] [] (fun _ : Unit => .agg kc11) (fun _ => []) := fun I' he w0 w hc => by
  refine calls_of_CW (N := 5) Tryd.func25 (show _ = some B25 by kernel_rfl) (by kernel_rfl) rfl (S := [(0, .int .i64 12)]) (by simp) hc ?_
  show CW _ _ _ (sub [] B25) _ _ _
  refine C.seq (x := sub [0] B25) (y := sub [1] B25) ?_
  refine C.region (id := 0) (m := 1) (ops := opsOf (sub [0] B25)) rfl ?_
  refine W.new rfl (wo rfl) rfl rfl (f_alloc tz82 rfl) (nf rfl) ?_
  intro b1 _
  refine W.heapIs (H2 := [(some b1, .cells kc3 82 (0, 0))]) rfl ?_
  refine W.doneQ (y := sub [1] B25) rfl ?_
  refine C.seq (x := sub [1, 0] B25) (y := sub [1, 1] B25) ?_
  refine C.region (id := 1) (m := 3) (ops := opsOf (sub [1, 0] B25)) rfl ?_
  refine W.pure (v := .int .i64 12) rfl (wo rfl) rfl rfl (p_move rfl rfl) (nf rfl) ?_
  refine W.pure (v := .agg kc11) rfl (wo rfl) rfl rfl (p_build (vs := [(0, .int .i64 12)]) (fun w => by kernel_rfl) rfl rfl) (nf rfl) ?_
  refine W.put (H' := [(some b1, .cells kc11 82 (0, 0))]) rfl (wo rfl) rfl (f_storeA (j := 0) (c2 := kc11) ts82 rfl rfl rfl (one_all rfl) rfl rfl rfl) (nf rfl) ?_
  refine W.doneQ (y := sub [1, 1] B25) rfl ?_
  exact C.ret (R := fun e w' => ∃ _x : Unit, e = .returned (.agg kc11) ∧ Cls w0 I' [] w') (rs := [.cell 2 82]) (vs := [.agg kc11]) rfl Tryd.func25 rfl rfl rfl (res_cons (ResV.cell (j := 0) ta82 ts82 rfl rfl rfl) res_nil) fun w1 hc1 => ⟨(), rfl, hc1.pick [] (by decide)⟩
set_option maxHeartbeats 20000000 in
theorem cw27_54 (p1 p2 p3 p4 p5 : Nat) {I : Mem} : Turn I 27 #[ptr p1 0, .agg kc9] [(some p1, .cells (#[.map (some p2), .int .u32 2, .int .i64 1, .map (some p3), .map (some p4), .map (some p5)]) 29 (0, 0)), (some p2, mobj .u32 [(1, .agg #[.int .i64 1, .int .i64 1, .int .i64 4, .int .i64 4, .int .i64 1])]), (some p3, mobj .i64 []), (some p4, mobj .i64 []), (some p5, mobj .i64 [])] (fun _ : Unit => .agg kc11) (fun _ => [(some p1, .cells (#[.map (some p2), .int .u32 2, .int .i64 1, .map (some p3), .map (some p4), .map (some p5)]) 29 (0, 0)), (some p2, mobj .u32 [(1, .agg #[.int .i64 1, .int .i64 1, .int .i64 4, .int .i64 4, .int .i64 1])]), (some p3, mobj .i64 []), (some p4, mobj .i64 []), (some p5, mobj .i64 [])]) := fun I' he w0 w hc => by
  refine calls_of_CW (N := 101) Tryd.func27 (show _ = some B27 by kernel_rfl) (by kernel_rfl) rfl (S := [(0, ptr p1 0), (1, .agg kc9)]) (by simp) hc ?_
  show CW _ _ _ (sub [] B27) _ _ _
  refine C.seq (x := sub [0] B27) (y := sub [1] B27) ?_
  refine C.region (id := 0) (m := 2) (ops := opsOf (sub [0] B27)) rfl ?_
  refine W.new rfl (wo rfl) rfl rfl (f_box (v := .agg kc9) rfl rfl) (nf rfl) ?_
  intro b1 _
  refine W.heapIs (H2 := [(some b1, .cells kc9 49 (0, 0)), (some p1, .cells (#[.map (some p2), .int .u32 2, .int .i64 1, .map (some p3), .map (some p4), .map (some p5)]) 29 (0, 0)), (some p2, mobj .u32 [(1, .agg #[.int .i64 1, .int .i64 1, .int .i64 4, .int .i64 4, .int .i64 1])]), (some p3, mobj .i64 []), (some p4, mobj .i64 []), (some p5, mobj .i64 [])]) rfl ?_
  refine W.new rfl (wo rfl) rfl rfl (f_alloc tz82 rfl) (nf rfl) ?_
  intro b2 _
  refine W.heapIs (H2 := [(some b2, .cells kc3 82 (0, 0)), (some b1, .cells kc9 49 (0, 0)), (some p1, .cells (#[.map (some p2), .int .u32 2, .int .i64 1, .map (some p3), .map (some p4), .map (some p5)]) 29 (0, 0)), (some p2, mobj .u32 [(1, .agg #[.int .i64 1, .int .i64 1, .int .i64 4, .int .i64 4, .int .i64 1])]), (some p3, mobj .i64 []), (some p4, mobj .i64 []), (some p5, mobj .i64 [])]) rfl ?_
  refine W.doneQ (y := sub [1] B27) rfl ?_
  refine C.seq (x := sub [1, 0] B27) (y := sub [1, 1] B27) ?_
  refine C.seq (x := sub [1, 0, 0] B27) (y := sub [1, 0, 1] B27) ?_
  refine C.region (id := 1) (m := 2) (ops := opsOf (sub [1, 0, 0] B27)) rfl ?_
  refine W.pure (v := ptr b1 1) rfl (wo rfl) rfl rfl (p_fieldAddr tf49_1 rfl rfl) (nf rfl) ?_
  refine W.quiet (v := .int .i64 9) rfl (wo rfl) rfl rfl (f_load (j := 1) (off := 1) ta44 rfl rfl rfl rfl) (nf rfl) ?_
  refine W.doneQ (y := sub [1, 0, 1] B27) rfl ?_
  refine C.block (id := 0) (c := sub [1, 0, 1, 0] B27) ?_
  refine C.seq (x := sub [1, 0, 1, 0, 0] B27) (y := sub [1, 0, 1, 0, 1] B27) ?_
  refine C.region (id := 2) (m := 2) (ops := opsOf (sub [1, 0, 1, 0, 0] B27)) rfl ?_
  refine W.pure (v := .bool false) rfl (wo rfl) rfl rfl (p_bin (fun w => by kernel_rfl) (fun w => by kernel_rfl) rfl rfl rfl) (nf rfl) ?_
  refine W.pure (v := .bool false) rfl (wo rfl) rfl rfl (p_assign rfl rfl) (nf rfl) ?_
  refine W.doneQ (y := sub [1, 0, 1, 0, 1] B27) rfl ?_
  refine C.cond_false (x := sub [1, 0, 1, 0, 1, 0] B27) (y := sub [1, 0, 1, 0, 1, 1] B27) rfl rfl ?_
  refine C.seq (x := sub [1, 0, 1, 0, 1, 1, 0] B27) (y := sub [1, 0, 1, 0, 1, 1, 1] B27) ?_
  refine C.region (id := 4) (m := 2) (ops := opsOf (sub [1, 0, 1, 0, 1, 1, 0] B27)) rfl ?_
  refine W.pure (v := .bool false) rfl (wo rfl) rfl rfl (p_bin (fun w => by kernel_rfl) (fun w => by kernel_rfl) rfl rfl rfl) (nf rfl) ?_
  refine W.pure (v := .bool false) rfl (wo rfl) rfl rfl (p_assign rfl rfl) (nf rfl) ?_
  refine W.doneQ (y := sub [1, 0, 1, 0, 1, 1, 1] B27) rfl ?_
  refine C.cond_false (x := sub [1, 0, 1, 0, 1, 1, 1, 0] B27) (y := sub [1, 0, 1, 0, 1, 1, 1, 1] B27) rfl rfl ?_
  refine C.seq (x := sub [1, 0, 1, 0, 1, 1, 1, 1, 0] B27) (y := sub [1, 0, 1, 0, 1, 1, 1, 1, 1] B27) ?_
  refine C.region (id := 6) (m := 2) (ops := opsOf (sub [1, 0, 1, 0, 1, 1, 1, 1, 0] B27)) rfl ?_
  refine W.pure (v := .bool false) rfl (wo rfl) rfl rfl (p_bin (fun w => by kernel_rfl) (fun w => by kernel_rfl) rfl rfl rfl) (nf rfl) ?_
  refine W.pure (v := .bool false) rfl (wo rfl) rfl rfl (p_assign rfl rfl) (nf rfl) ?_
  refine W.doneQ (y := sub [1, 0, 1, 0, 1, 1, 1, 1, 1] B27) rfl ?_
  refine C.cond_false (x := sub [1, 0, 1, 0, 1, 1, 1, 1, 1, 0] B27) (y := sub [1, 0, 1, 0, 1, 1, 1, 1, 1, 1] B27) rfl rfl ?_
  refine C.skipQ (y := sub [1, 1] B27) rfl ?_
  refine C.seq (x := sub [1, 1, 0] B27) (y := sub [1, 1, 1] B27) ?_
  refine C.regionD (id := 8) (ops := opsOf (sub [1, 1, 0] B27)) [0, 1, 2, 3, 4, 5, 6, 7, 8, 9, 10, 11, 12] [0, 1, 3, 7, 0, 16, 63, 127, 255, 255, 0, 1535, 4095] [(.pure, none), (.pure, none), (.pure, none), (.quiet, none), (.pure, none), (.quiet, none), (.quiet, none), (.pure, none), (.pure, none), (.pure, none), (.alloc, none), (.store, none), (.pure, none)] (by kernel_rfl) ?_
  intro wD8 hl8
  refine DV.pure (v := ptr p1 0) rfl (wo rfl) rfl rfl rfl (p_move rfl rfl) ?_
  refine DV.pure (v := ptr p1 0) rfl (wo rfl) rfl rfl rfl (p_nilCheck rfl rfl) ?_
  refine DV.pure (v := ptr p1 0) rfl (wo rfl) rfl rfl rfl (p_fieldAddr tf29_0 rfl rfl) ?_
  refine DV.quiet (v := .map (some p2)) rfl (wo rfl) rfl rfl rfl (f_load (j := 2) (off := 0) ta23 rfl rfl rfl rfl) ?_
  refine DV.pure (v := ptr b1 2) rfl (wo rfl) rfl rfl rfl (p_fieldAddr tf49_2 rfl rfl) ?_
  refine DV.quiet (v := .int .u32 1) rfl (wo rfl) rfl rfl rfl (f_load (j := 1) (off := 2) ta24 rfl rfl rfl rfl) ?_
  refine DV.quiet (v := .tuple #[.agg #[.int .i64 1, .int .i64 1, .int .i64 4, .int .i64 4, .int .i64 1], .bool true]) rfl (wo rfl) rfl rfl rfl (f_lookupOk (j := 3) (a := 1) (l := [(1, .agg #[.int .i64 1, .int .i64 1, .int .i64 4, .int .i64 4, .int .i64 1])]) tu23 tu24 tz61 rfl rfl rfl rfl) ?_
  refine DV.pure (v := .tuple #[.agg #[.int .i64 1, .int .i64 1, .int .i64 4, .int .i64 4, .int .i64 1], .bool true]) rfl (wo rfl) rfl rfl rfl (p_move rfl rfl) ?_
  refine DV.pure (v := .agg #[.int .i64 1, .int .i64 1, .int .i64 4, .int .i64 4, .int .i64 1]) rfl (wo rfl) rfl rfl rfl (p_extract rfl rfl rfl) ?_
  refine DV.pure (v := .bool true) rfl (wo rfl) rfl rfl rfl (p_extract rfl rfl rfl) ?_
  refine DW.new rfl rfl rfl rfl rfl (f_alloc tz61 rfl) ?_
  intro b3 _
  refine DW.put (H' := [(some b3, .cells (#[.int .i64 1, .int .i64 1, .int .i64 4, .int .i64 4, .int .i64 1]) 61 (0, 0)), (some b2, .cells kc3 82 (0, 0)), (some b1, .cells kc9 49 (0, 0)), (some p1, .cells (#[.map (some p2), .int .u32 2, .int .i64 1, .map (some p3), .map (some p4), .map (some p5)]) 29 (0, 0)), (some p2, mobj .u32 [(1, .agg #[.int .i64 1, .int .i64 1, .int .i64 4, .int .i64 4, .int .i64 1])]), (some p3, mobj .i64 []), (some p4, mobj .i64 []), (some p5, mobj .i64 [])]) rfl rfl rfl rfl rfl (f_storeA (j := 0) (c2 := #[.int .i64 1, .int .i64 1, .int .i64 4, .int .i64 4, .int .i64 1]) ts61 rfl rfl rfl (one_all rfl) rfl rfl rfl) ?_
  refine DV.pure (v := .bool true) rfl (wo rfl) rfl rfl rfl (p_assign rfl rfl) ?_
  refine DW.doneQ (y := sub [1, 1, 1] B27) hl8 rfl ?_
  refine C.seq (x := sub [1, 1, 1, 0] B27) (y := sub [1, 1, 1, 1] B27) ?_
  refine C.seq (x := sub [1, 1, 1, 0, 0] B27) (y := sub [1, 1, 1, 0, 1] B27) ?_
  refine C.region (id := 9) (m := 2) (ops := opsOf (sub [1, 1, 1, 0, 0] B27)) rfl ?_
  refine W.pure (v := .bool true) rfl (wo rfl) rfl rfl (p_move rfl rfl) (nf rfl) ?_
  refine W.pure (v := .bool false) rfl (wo rfl) rfl rfl (p_not (p := true) rfl rfl) (nf rfl) ?_
  refine W.doneQ (y := sub [1, 1, 1, 0, 1] B27) rfl ?_
  refine C.cond_false (x := sub [1, 1, 1, 0, 1, 0] B27) (y := sub [1, 1, 1, 0, 1, 1] B27) rfl rfl ?_
  refine C.skipQ (y := sub [1, 1, 1, 1] B27) rfl ?_
  refine C.seq (x := sub [1, 1, 1, 1, 0] B27) (y := sub [1, 1, 1, 1, 1] B27) ?_
  refine C.seq (x := sub [1, 1, 1, 1, 0, 0] B27) (y := sub [1, 1, 1, 1, 0, 1] B27) ?_
  refine C.region (id := 11) (m := 6) (ops := opsOf (sub [1, 1, 1, 1, 0, 0] B27)) rfl ?_
  refine W.pure (v := ptr b3 0) rfl (wo rfl) rfl rfl (p_fieldAddr tf61_0 rfl rfl) (nf rfl) ?_
  refine W.quiet (v := .agg #[.int .i64 1, .int .i64 1, .int .i64 4, .int .i64 4]) rfl (wo rfl) rfl rfl (f_loadSubA (j := 0) (off := 0) (vs := [.int .i64 1, .int .i64 1, .int .i64 4, .int .i64 4]) ta34 ts34 rfl rfl rfl rfl rfl) (nf rfl) ?_
  refine W.pure (v := ptr b1 1) rfl (wo rfl) rfl rfl (p_fieldAddr tf49_1 rfl rfl) (nf rfl) ?_
  refine W.quiet (v := .int .i64 9) rfl (wo rfl) rfl rfl (f_load (j := 2) (off := 1) ta44 rfl rfl rfl rfl) (nf rfl) ?_
  refine W.cP (E := []) (R := [(some b3, .cells (#[.int .i64 1, .int .i64 1, .int .i64 4, .int .i64 4, .int .i64 1]) 61 (0, 0)), (some b2, .cells kc3 82 (0, 0)), (some b1, .cells kc9 49 (0, 0)), (some p1, .cells (#[.map (some p2), .int .u32 2, .int .i64 1, .map (some p3), .map (some p4), .map (some p5)]) 29 (0, 0)), (some p2, mobj .u32 [(1, .agg #[.int .i64 1, .int .i64 1, .int .i64 4, .int .i64 4, .int .i64 1])]), (some p3, mobj .i64 []), (some p4, mobj .i64 []), (some p5, mobj .i64 [])]) (caps := #[]) rfl (wo rfl) rfl rfl [0, 1, 2, 3, 4, 5, 6, 7] rfl rfl (cw47_55) rfl (en47 _) rfl rfl rfl (args_val rfl) ?_
  intro _
  refine W.heapIs (H2 := [(some b3, .cells (#[.int .i64 1, .int .i64 1, .int .i64 4, .int .i64 4, .int .i64 1]) 61 (0, 0)), (some b2, .cells kc3 82 (0, 0)), (some b1, .cells kc9 49 (0, 0)), (some p1, .cells (#[.map (some p2), .int .u32 2, .int .i64 1, .map (some p3), .map (some p4), .map (some p5)]) 29 (0, 0)), (some p2, mobj .u32 [(1, .agg #[.int .i64 1, .int .i64 1, .int .i64 4, .int .i64 4, .int .i64 1])]), (some p3, mobj .i64 []), (some p4, mobj .i64 []), (some p5, mobj .i64 [])]) rfl ?_
  refine W.pure (v := .int .i64 12) rfl (wo rfl) rfl rfl (p_assign rfl rfl) (nf rfl) ?_
  refine W.doneQ (y := sub [1, 1, 1, 1, 0, 1] B27) rfl ?_
  refine C.seq (x := sub [1, 1, 1, 1, 0, 1, 0] B27) (y := sub [1, 1, 1, 1, 0, 1, 1] B27) ?_
  refine C.region (id := 12) (m := 2) (ops := opsOf (sub [1, 1, 1, 1, 0, 1, 0] B27)) rfl ?_
  refine W.pure (v := .int .i64 12) rfl (wo rfl) rfl rfl (p_move rfl rfl) (nf rfl) ?_
  refine W.pure (v := .bool true) rfl (wo rfl) rfl rfl (p_bin (fun w => by kernel_rfl) (fun w => by kernel_rfl) rfl rfl rfl) (nf rfl) ?_
  refine W.doneQ (y := sub [1, 1, 1, 1, 0, 1, 1] B27) rfl ?_
  refine C.cond_true (x := sub [1, 1, 1, 1, 0, 1, 1, 0] B27) (y := sub [1, 1, 1, 1, 0, 1, 1, 1] B27) rfl rfl ?_
  refine C.seq (x := sub [1, 1, 1, 1, 0, 1, 1, 0, 0] B27) (y := sub [1, 1, 1, 1, 0, 1, 1, 0, 1] B27) ?_
  refine C.region (id := 13) (m := 3) (ops := opsOf (sub [1, 1, 1, 1, 0, 1, 1, 0, 0] B27)) rfl ?_
  refine W.pure (v := .int .i64 12) rfl (wo rfl) rfl rfl (p_move rfl rfl) (nf rfl) ?_
  refine W.cP (E := []) (R := [(some b3, .cells (#[.int .i64 1, .int .i64 1, .int .i64 4, .int .i64 4, .int .i64 1]) 61 (0, 0)), (some b2, .cells kc3 82 (0, 0)), (some b1, .cells kc9 49 (0, 0)), (some p1, .cells (#[.map (some p2), .int .u32 2, .int .i64 1, .map (some p3), .map (some p4), .map (some p5)]) 29 (0, 0)), (some p2, mobj .u32 [(1, .agg #[.int .i64 1, .int .i64 1, .int .i64 4, .int .i64 4, .int .i64 1])]), (some p3, mobj .i64 []), (some p4, mobj .i64 []), (some p5, mobj .i64 [])]) (caps := #[]) rfl (wo rfl) rfl rfl [0, 1, 2, 3, 4, 5, 6, 7] rfl rfl (cw25_64) rfl (en25 _) rfl rfl rfl (args_val rfl) ?_
  intro _
  refine W.heapIs (H2 := [(some b3, .cells (#[.int .i64 1, .int .i64 1, .int .i64 4, .int .i64 4, .int .i64 1]) 61 (0, 0)), (some b2, .cells kc3 82 (0, 0)), (some b1, .cells kc9 49 (0, 0)), (some p1, .cells (#[.map (some p2), .int .u32 2, .int .i64 1, .map (some p3), .map (some p4), .map (some p5)]) 29 (0, 0)), (some p2, mobj .u32 [(1, .agg #[.int .i64 1, .int .i64 1, .int .i64 4, .int .i64 4, .int .i64 1])]), (some p3, mobj .i64 []), (some p4, mobj .i64 []), (some p5, mobj .i64 [])]) rfl ?_
  refine W.put (H' := [(some b3, .cells (#[.int .i64 1, .int .i64 1, .int .i64 4, .int .i64 4, .int .i64 1]) 61 (0, 0)), (some b2, .cells kc11 82 (0, 0)), (some b1, .cells kc9 49 (0, 0)), (some p1, .cells (#[.map (some p2), .int .u32 2, .int .i64 1, .map (some p3), .map (some p4), .map (some p5)]) 29 (0, 0)), (some p2, mobj .u32 [(1, .agg #[.int .i64 1, .int .i64 1, .int .i64 4, .int .i64 4, .int .i64 1])]), (some p3, mobj .i64 []), (some p4, mobj .i64 []), (some p5, mobj .i64 [])]) rfl (wo rfl) rfl (f_storeA (j := 1) (c2 := kc11) ts82 rfl rfl rfl (one_all rfl) rfl rfl rfl) (nf rfl) ?_
  refine W.doneQ (y := sub [1, 1, 1, 1, 0, 1, 1, 0, 1] B27) rfl ?_
  exact C.ret (R := fun e w' => ∃ _x : Unit, e = .returned (.agg kc11) ∧ Cls w0 I' [(some p1, .cells (#[.map (some p2), .int .u32 2, .int .i64 1, .map (some p3), .map (some p4), .map (some p5)]) 29 (0, 0)), (some p2, mobj .u32 [(1, .agg #[.int .i64 1, .int .i64 1, .int .i64 4, .int .i64 4, .int .i64 1])]), (some p3, mobj .i64 []), (some p4, mobj .i64 []), (some p5, mobj .i64 [])] w') (rs := [.cell 4 82]) (vs := [.agg kc11]) rfl Tryd.func27 rfl rfl rfl (res_cons (ResV.cell (j := 1) ta82 ts82 rfl rfl rfl) res_nil) fun w1 hc1 => ⟨(), rfl, hc1.pick [3, 4, 5, 6, 7] (by decide)⟩
set_option maxHeartbeats 20000000 in
theorem cw8_46 (p1 p2 p3 p4 p5 p6 p7 : Nat) {I : Mem} : Turn I 8 #[ptr p1 0, .agg kc9, .agg #[.int .u64 0, .int .i64 0, .int .u32 0, .slice (some ⟨p6, 0, none⟩) 1 1], .agg #[.int .i64 0, .int .i64 0, .int .i64 0, .int .i64 0]] [(some p1, .cells (#[.map (some p2), .int .u32 2, .int .i64 1, .map (some p3), .map (some p4), .map (some p5)]) 29 (0, 0)), (some p2, mobj .u32 [(1, .agg #[.int .i64 1, .int .i64 1, .int .i64 4, .int .i64 4, .int .i64 1])]), (some p3, mobj .i64 []), (some p4, mobj .i64 []), (some p5, mobj .i64 []), (some p6, .cells (#[.slice (some ⟨p7, 0, none⟩) 32 32]) 47 (0, 0)), (some p7, .cells kc7 5 (0, 0))] (fun _ : Unit => .bool false) (fun _ => [(some p1, .cells (#[.map (some p2), .int .u32 2, .int .i64 1, .map (some p3), .map (some p4), .map (some p5)]) 29 (0, 0)), (some p2, mobj .u32 [(1, .agg #[.int .i64 1, .int .i64 1, .int .i64 4, .int .i64 4, .int .i64 1])]), (some p3, mobj .i64 []), (some p4, mobj .i64 []), (some p5, mobj .i64 []), (some p6, .cells (#[.slice (some ⟨p7, 0, none⟩) 32 32]) 47 (0, 0)), (some p7, .cells kc7 5 (0, 0))]) := fun I' he w0 w hc => by
  refine calls_of_CW (N := 158) Tryd.func8 (show _ = some B8 by kernel_rfl) (by kernel_rfl) rfl (S := [(0, ptr p1 0), (1, .agg kc9), (2, .agg #[.int .u64 0, .int .i64 0, .int .u32 0, .slice (some ⟨p6, 0, none⟩) 1 1]), (3, .agg #[.int .i64 0, .int .i64 0, .int .i64 0, .int .i64 0])]) (by simp) hc ?_
  show CW _ _ _ (sub [] B8) _ _ _
  refine C.seq (x := sub [0] B8) (y := sub [1] B8) ?_
  refine C.region (id := 0) (m := 4) (ops := opsOf (sub [0] B8)) rfl ?_
  refine W.new rfl (wo rfl) rfl rfl (f_box (v := .agg kc9) rfl rfl) (nf rfl) ?_
  intro b1 _
  refine W.heapIs (H2 := [(some b1, .cells kc9 49 (0, 0)), (some p1, .cells (#[.map (some p2), .int .u32 2, .int .i64 1, .map (some p3), .map (some p4), .map (some p5)]) 29 (0, 0)), (some p2, mobj .u32 [(1, .agg #[.int .i64 1, .int .i64 1, .int .i64 4, .int .i64 4, .int .i64 1])]), (some p3, mobj .i64 []), (some p4, mobj .i64 []), (some p5, mobj .i64 []), (some p6, .cells (#[.slice (some ⟨p7, 0, none⟩) 32 32]) 47 (0, 0)), (some p7, .cells kc7 5 (0, 0))]) rfl ?_
  refine W.new rfl (wo rfl) rfl rfl (f_box (v := .agg #[.int .u64 0, .int .i64 0, .int .u32 0, .slice (some ⟨p6, 0, none⟩) 1 1]) rfl rfl) (nf rfl) ?_
  intro b2 _
  refine W.heapIs (H2 := [(some b2, .cells (#[.int .u64 0, .int .i64 0, .int .u32 0, .slice (some ⟨p6, 0, none⟩) 1 1]) 52 (0, 0)), (some b1, .cells kc9 49 (0, 0)), (some p1, .cells (#[.map (some p2), .int .u32 2, .int .i64 1, .map (some p3), .map (some p4), .map (some p5)]) 29 (0, 0)), (some p2, mobj .u32 [(1, .agg #[.int .i64 1, .int .i64 1, .int .i64 4, .int .i64 4, .int .i64 1])]), (some p3, mobj .i64 []), (some p4, mobj .i64 []), (some p5, mobj .i64 []), (some p6, .cells (#[.slice (some ⟨p7, 0, none⟩) 32 32]) 47 (0, 0)), (some p7, .cells kc7 5 (0, 0))]) rfl ?_
  refine W.new rfl (wo rfl) rfl rfl (f_box (v := .agg #[.int .i64 0, .int .i64 0, .int .i64 0, .int .i64 0]) rfl rfl) (nf rfl) ?_
  intro b3 _
  refine W.heapIs (H2 := [(some b3, .cells (#[.int .i64 0, .int .i64 0, .int .i64 0, .int .i64 0]) 34 (0, 0)), (some b2, .cells (#[.int .u64 0, .int .i64 0, .int .u32 0, .slice (some ⟨p6, 0, none⟩) 1 1]) 52 (0, 0)), (some b1, .cells kc9 49 (0, 0)), (some p1, .cells (#[.map (some p2), .int .u32 2, .int .i64 1, .map (some p3), .map (some p4), .map (some p5)]) 29 (0, 0)), (some p2, mobj .u32 [(1, .agg #[.int .i64 1, .int .i64 1, .int .i64 4, .int .i64 4, .int .i64 1])]), (some p3, mobj .i64 []), (some p4, mobj .i64 []), (some p5, mobj .i64 []), (some p6, .cells (#[.slice (some ⟨p7, 0, none⟩) 32 32]) 47 (0, 0)), (some p7, .cells kc7 5 (0, 0))]) rfl ?_
  refine W.pure (v := .bool false) rfl (wo rfl) rfl rfl (p_assign rfl rfl) (nf rfl) ?_
  refine W.doneQ (y := sub [1] B8) rfl ?_
  refine C.seq (x := sub [1, 0] B8) (y := sub [1, 1] B8) ?_
  refine C.seq (x := sub [1, 0, 0] B8) (y := sub [1, 0, 1] B8) ?_
  refine C.region (id := 1) (m := 15) (ops := opsOf (sub [1, 0, 0] B8)) rfl ?_
  refine W.pure (v := ptr p1 0) rfl (wo rfl) rfl rfl (p_move rfl rfl) (nf rfl) ?_
  refine W.cP (E := [(some p1, .cells (#[.map (some p2), .int .u32 2, .int .i64 1, .map (some p3), .map (some p4), .map (some p5)]) 29 (0, 0)), (some p2, mobj .u32 [(1, .agg #[.int .i64 1, .int .i64 1, .int .i64 4, .int .i64 4, .int .i64 1])]), (some p3, mobj .i64 []), (some p4, mobj .i64 []), (some p5, mobj .i64 [])]) (R := [(some b3, .cells (#[.int .i64 0, .int .i64 0, .int .i64 0, .int .i64 0]) 34 (0, 0)), (some b2, .cells (#[.int .u64 0, .int .i64 0, .int .u32 0, .slice (some ⟨p6, 0, none⟩) 1 1]) 52 (0, 0)), (some b1, .cells kc9 49 (0, 0)), (some p6, .cells (#[.slice (some ⟨p7, 0, none⟩) 32 32]) 47 (0, 0)), (some p7, .cells kc7 5 (0, 0))]) (caps := #[]) rfl (wo rfl) rfl rfl [3, 4, 5, 6, 7, 0, 1, 2, 8, 9] rfl rfl (cw16_47 p1 p2 p3 p4 p5) rfl (en16 _) rfl rfl rfl (args_val rfl) ?_
  intro _
  refine W.heapIs (H2 := [(some p1, .cells (#[.map (some p2), .int .u32 2, .int .i64 1, .map (some p3), .map (some p4), .map (some p5)]) 29 (0, 0)), (some p2, mobj .u32 [(1, .agg #[.int .i64 1, .int .i64 1, .int .i64 4, .int .i64 4, .int .i64 1])]), (some p3, mobj .i64 []), (some p4, mobj .i64 []), (some p5, mobj .i64 []), (some b3, .cells (#[.int .i64 0, .int .i64 0, .int .i64 0, .int .i64 0]) 34 (0, 0)), (some b2, .cells (#[.int .u64 0, .int .i64 0, .int .u32 0, .slice (some ⟨p6, 0, none⟩) 1 1]) 52 (0, 0)), (some b1, .cells kc9 49 (0, 0)), (some p6, .cells (#[.slice (some ⟨p7, 0, none⟩) 32 32]) 47 (0, 0)), (some p7, .cells kc7 5 (0, 0))]) rfl ?_
  refine W.pure (v := .bool false) rfl (wo rfl) rfl rfl (p_not (p := true) rfl rfl) (nf rfl) ?_
  refine W.pure (v := .bool false) rfl (wo rfl) rfl rfl (p_move rfl rfl) (nf rfl) ?_
  refine W.pure (v := ptr b2 0) rfl (wo rfl) rfl rfl (p_fieldAddr tf52_0 rfl rfl) (nf rfl) ?_
  refine W.quiet (v := .int .u64 0) rfl (wo rfl) rfl rfl (f_load (j := 6) (off := 0) ta43 rfl rfl rfl rfl) (nf rfl) ?_
  refine W.pure (v := ptr b1 0) rfl (wo rfl) rfl rfl (p_fieldAddr tf49_0 rfl rfl) (nf rfl) ?_
  refine W.quiet (v := .int .u64 0) rfl (wo rfl) rfl rfl (f_load (j := 7) (off := 0) ta43 rfl rfl rfl rfl) (nf rfl) ?_
  refine W.pure (v := .bool false) rfl (wo rfl) rfl rfl (p_bin (fun w => by kernel_rfl) (fun w => by kernel_rfl) rfl rfl rfl) (nf rfl) ?_
  refine W.pure (v := .bool false) rfl (wo rfl) rfl rfl (p_pick_false rfl rfl rfl) (nf rfl) ?_
  refine W.pure (v := .bool false) rfl (wo rfl) rfl rfl (p_move rfl rfl) (nf rfl) ?_
  refine W.quiet (v := .agg #[.int .u64 0, .int .i64 0, .int .u32 0, .slice (some ⟨p6, 0, none⟩) 1 1]) rfl (wo rfl) rfl rfl (f_loadA (j := 6) ta52 ts52 rfl rfl rfl rfl) (nf rfl) ?_
  refine W.cP (E := [(some p6, .cells (#[.slice (some ⟨p7, 0, none⟩) 32 32]) 47 (0, 0)), (some p7, .cells kc7 5 (0, 0))]) (R := [(some p1, .cells (#[.map (some p2), .int .u32 2, .int .i64 1, .map (some p3), .map (some p4), .map (some p5)]) 29 (0, 0)), (some p2, mobj .u32 [(1, .agg #[.int .i64 1, .int .i64 1, .int .i64 4, .int .i64 4, .int .i64 1])]), (some p3, mobj .i64 []), (some p4, mobj .i64 []), (some p5, mobj .i64 []), (some b3, .cells (#[.int .i64 0, .int .i64 0, .int .i64 0, .int .i64 0]) 34 (0, 0)), (some b2, .cells (#[.int .u64 0, .int .i64 0, .int .u32 0, .slice (some ⟨p6, 0, none⟩) 1 1]) 52 (0, 0)), (some b1, .cells kc9 49 (0, 0))]) (caps := #[]) rfl (wo rfl) rfl rfl [8, 9, 0, 1, 2, 3, 4, 5, 6, 7] rfl rfl (cw24_48 p6 p7) rfl (en24 _) rfl rfl rfl (args_val rfl) ?_
  intro _
  refine W.heapIs (H2 := [(some p6, .cells (#[.slice (some ⟨p7, 0, none⟩) 32 32]) 47 (0, 0)), (some p7, .cells kc7 5 (0, 0)), (some p1, .cells (#[.map (some p2), .int .u32 2, .int .i64 1, .map (some p3), .map (some p4), .map (some p5)]) 29 (0, 0)), (some p2, mobj .u32 [(1, .agg #[.int .i64 1, .int .i64 1, .int .i64 4, .int .i64 4, .int .i64 1])]), (some p3, mobj .i64 []), (some p4, mobj .i64 []), (some p5, mobj .i64 []), (some b3, .cells (#[.int .i64 0, .int .i64 0, .int .i64 0, .int .i64 0]) 34 (0, 0)), (some b2, .cells (#[.int .u64 0, .int .i64 0, .int .u32 0, .slice (some ⟨p6, 0, none⟩) 1 1]) 52 (0, 0)), (some b1, .cells kc9 49 (0, 0))]) rfl ?_
  refine W.pure (v := .bool false) rfl (wo rfl) rfl rfl (p_not (p := true) rfl rfl) (nf rfl) ?_
  refine W.pure (v := .bool false) rfl (wo rfl) rfl rfl (p_pick_false rfl rfl rfl) (nf rfl) ?_
  refine W.doneQ (y := sub [1, 0, 1] B8) rfl ?_
  refine C.cond_false (x := sub [1, 0, 1, 0] B8) (y := sub [1, 0, 1, 1] B8) rfl rfl ?_
  refine C.skipQ (y := sub [1, 1] B8) rfl ?_
  refine C.seq (x := sub [1, 1, 0] B8) (y := sub [1, 1, 1] B8) ?_
  refine C.region (id := 3) (m := 3) (ops := opsOf (sub [1, 1, 0] B8)) rfl ?_
  refine W.cP (E := []) (R := [(some p6, .cells (#[.slice (some ⟨p7, 0, none⟩) 32 32]) 47 (0, 0)), (some p7, .cells kc7 5 (0, 0)), (some p1, .cells (#[.map (some p2), .int .u32 2, .int .i64 1, .map (some p3), .map (some p4), .map (some p5)]) 29 (0, 0)), (some p2, mobj .u32 [(1, .agg #[.int .i64 1, .int .i64 1, .int .i64 4, .int .i64 4, .int .i64 1])]), (some p3, mobj .i64 []), (some p4, mobj .i64 []), (some p5, mobj .i64 []), (some b3, .cells (#[.int .i64 0, .int .i64 0, .int .i64 0, .int .i64 0]) 34 (0, 0)), (some b2, .cells (#[.int .u64 0, .int .i64 0, .int .u32 0, .slice (some ⟨p6, 0, none⟩) 1 1]) 52 (0, 0)), (some b1, .cells kc9 49 (0, 0))]) (caps := #[]) rfl (wo rfl) rfl rfl [0, 1, 2, 3, 4, 5, 6, 7, 8, 9] rfl rfl (cw25_22) rfl (en25 _) rfl rfl rfl (args_val rfl) ?_
  intro _
  refine W.heapIs (H2 := [(some p6, .cells (#[.slice (some ⟨p7, 0, none⟩) 32 32]) 47 (0, 0)), (some p7, .cells kc7 5 (0, 0)), (some p1, .cells (#[.map (some p2), .int .u32 2, .int .i64 1, .map (some p3), .map (some p4), .map (some p5)]) 29 (0, 0)), (some p2, mobj .u32 [(1, .agg #[.int .i64 1, .int .i64 1, .int .i64 4, .int .i64 4, .int .i64 1])]), (some p3, mobj .i64 []), (some p4, mobj .i64 []), (some p5, mobj .i64 []), (some b3, .cells (#[.int .i64 0, .int .i64 0, .int .i64 0, .int .i64 0]) 34 (0, 0)), (some b2, .cells (#[.int .u64 0, .int .i64 0, .int .u32 0, .slice (some ⟨p6, 0, none⟩) 1 1]) 52 (0, 0)), (some b1, .cells kc9 49 (0, 0))]) rfl ?_
  refine W.new rfl (wo rfl) rfl rfl (f_alloc tz82 rfl) (nf rfl) ?_
  intro b4 _
  refine W.heapIs (H2 := [(some b4, .cells kc3 82 (0, 0)), (some p6, .cells (#[.slice (some ⟨p7, 0, none⟩) 32 32]) 47 (0, 0)), (some p7, .cells kc7 5 (0, 0)), (some p1, .cells (#[.map (some p2), .int .u32 2, .int .i64 1, .map (some p3), .map (some p4), .map (some p5)]) 29 (0, 0)), (some p2, mobj .u32 [(1, .agg #[.int .i64 1, .int .i64 1, .int .i64 4, .int .i64 4, .int .i64 1])]), (some p3, mobj .i64 []), (some p4, mobj .i64 []), (some p5, mobj .i64 []), (some b3, .cells (#[.int .i64 0, .int .i64 0, .int .i64 0, .int .i64 0]) 34 (0, 0)), (some b2, .cells (#[.int .u64 0, .int .i64 0, .int .u32 0, .slice (some ⟨p6, 0, none⟩) 1 1]) 52 (0, 0)), (some b1, .cells kc9 49 (0, 0))]) rfl ?_
  refine W.put (H' := [(some b4, .cells kc4 82 (0, 0)), (some p6, .cells (#[.slice (some ⟨p7, 0, none⟩) 32 32]) 47 (0, 0)), (some p7, .cells kc7 5 (0, 0)), (some p1, .cells (#[.map (some p2), .int .u32 2, .int .i64 1, .map (some p3), .map (some p4), .map (some p5)]) 29 (0, 0)), (some p2, mobj .u32 [(1, .agg #[.int .i64 1, .int .i64 1, .int .i64 4, .int .i64 4, .int .i64 1])]), (some p3, mobj .i64 []), (some p4, mobj .i64 []), (some p5, mobj .i64 []), (some b3, .cells (#[.int .i64 0, .int .i64 0, .int .i64 0, .int .i64 0]) 34 (0, 0)), (some b2, .cells (#[.int .u64 0, .int .i64 0, .int .u32 0, .slice (some ⟨p6, 0, none⟩) 1 1]) 52 (0, 0)), (some b1, .cells kc9 49 (0, 0))]) rfl (wo rfl) rfl (f_storeA (j := 0) (c2 := kc4) ts82 rfl rfl rfl (one_all rfl) rfl rfl rfl) (nf rfl) ?_
  refine W.doneQ (y := sub [1, 1, 1] B8) rfl ?_
  refine C.seq (x := sub [1, 1, 1, 0] B8) (y := sub [1, 1, 1, 1] B8) ?_
  refine C.seq (x := sub [1, 1, 1, 0, 0] B8) (y := sub [1, 1, 1, 0, 1] B8) ?_
  refine C.region (id := 4) (m := 2) (ops := opsOf (sub [1, 1, 1, 0, 0] B8)) rfl ?_
  refine W.quiet (v := .agg kc9) rfl (wo rfl) rfl rfl (f_loadA (j := 10) ta49 ts49 rfl rfl rfl rfl) (nf rfl) ?_
  refine W.cP (E := []) (R := [(some b4, .cells kc4 82 (0, 0)), (some p6, .cells (#[.slice (some ⟨p7, 0, none⟩) 32 32]) 47 (0, 0)), (some p7, .cells kc7 5 (0, 0)), (some p1, .cells (#[.map (some p2), .int .u32 2, .int .i64 1, .map (some p3), .map (some p4), .map (some p5)]) 29 (0, 0)), (some p2, mobj .u32 [(1, .agg #[.int .i64 1, .int .i64 1, .int .i64 4, .int .i64 4, .int .i64 1])]), (some p3, mobj .i64 []), (some p4, mobj .i64 []), (some p5, mobj .i64 []), (some b3, .cells (#[.int .i64 0, .int .i64 0, .int .i64 0, .int .i64 0]) 34 (0, 0)), (some b2, .cells (#[.int .u64 0, .int .i64 0, .int .u32 0, .slice (some ⟨p6, 0, none⟩) 1 1]) 52 (0, 0)), (some b1, .cells kc9 49 (0, 0))]) (caps := #[]) rfl (wo rfl) rfl rfl [0, 1, 2, 3, 4, 5, 6, 7, 8, 9, 10] rfl rfl (cw26_49) rfl (en26 _) rfl rfl rfl (args_val rfl) ?_
  intro _
  refine W.heapIs (H2 := [(some b4, .cells kc4 82 (0, 0)), (some p6, .cells (#[.slice (some ⟨p7, 0, none⟩) 32 32]) 47 (0, 0)), (some p7, .cells kc7 5 (0, 0)), (some p1, .cells (#[.map (some p2), .int .u32 2, .int .i64 1, .map (some p3), .map (some p4), .map (some p5)]) 29 (0, 0)), (some p2, mobj .u32 [(1, .agg #[.int .i64 1, .int .i64 1, .int .i64 4, .int .i64 4, .int .i64 1])]), (some p3, mobj .i64 []), (some p4, mobj .i64 []), (some p5, mobj .i64 []), (some b3, .cells (#[.int .i64 0, .int .i64 0, .int .i64 0, .int .i64 0]) 34 (0, 0)), (some b2, .cells (#[.int .u64 0, .int .i64 0, .int .u32 0, .slice (some ⟨p6, 0, none⟩) 1 1]) 52 (0, 0)), (some b1, .cells kc9 49 (0, 0))]) rfl ?_
  refine W.doneQ (y := sub [1, 1, 1, 0, 1] B8) rfl ?_
  refine C.cond_true (x := sub [1, 1, 1, 0, 1, 0] B8) (y := sub [1, 1, 1, 0, 1, 1] B8) rfl rfl ?_
  refine C.region (id := 5) (m := 4) (ops := opsOf (sub [1, 1, 1, 0, 1, 0] B8)) rfl ?_
  refine W.pure (v := ptr p1 0) rfl (wo rfl) rfl rfl (p_move rfl rfl) (nf rfl) ?_
  refine W.quiet (v := .agg kc9) rfl (wo rfl) rfl rfl (f_loadA (j := 10) ta49 ts49 rfl rfl rfl rfl) (nf rfl) ?_
  refine W.cP (E := [(some p1, .cells (#[.map (some p2), .int .u32 2, .int .i64 1, .map (some p3), .map (some p4), .map (some p5)]) 29 (0, 0)), (some p2, mobj .u32 [(1, .agg #[.int .i64 1, .int .i64 1, .int .i64 4, .int .i64 4, .int .i64 1])]), (some p3, mobj .i64 []), (some p4, mobj .i64 []), (some p5, mobj .i64 [])]) (R := [(some b4, .cells kc4 82 (0, 0)), (some p6, .cells (#[.slice (some ⟨p7, 0, none⟩) 32 32]) 47 (0, 0)), (some p7, .cells kc7 5 (0, 0)), (some b3, .cells (#[.int .i64 0, .int .i64 0, .int .i64 0, .int .i64 0]) 34 (0, 0)), (some b2, .cells (#[.int .u64 0, .int .i64 0, .int .u32 0, .slice (some ⟨p6, 0, none⟩) 1 1]) 52 (0, 0)), (some b1, .cells kc9 49 (0, 0))]) (caps := #[]) rfl (wo rfl) rfl rfl [3, 4, 5, 6, 7, 0, 1, 2, 8, 9, 10] rfl rfl (cw27_54 p1 p2 p3 p4 p5) rfl (en27 _) rfl rfl rfl (args_val rfl) ?_
  intro _
  refine W.heapIs (H2 := [(some p1, .cells (#[.map (some p2), .int .u32 2, .int .i64 1, .map (some p3), .map (some p4), .map (some p5)]) 29 (0, 0)), (some p2, mobj .u32 [(1, .agg #[.int .i64 1, .int .i64 1, .int .i64 4, .int .i64 4, .int .i64 1])]), (some p3, mobj .i64 []), (some p4, mobj .i64 []), (some p5, mobj .i64 []), (some b4, .cells kc4 82 (0, 0)), (some p6, .cells (#[.slice (some ⟨p7, 0, none⟩) 32 32]) 47 (0, 0)), (some p7, .cells kc7 5 (0, 0)), (some b3, .cells (#[.int .i64 0, .int .i64 0, .int .i64 0, .int .i64 0]) 34 (0, 0)), (some b2, .cells (#[.int .u64 0, .int .i64 0, .int .u32 0, .slice (some ⟨p6, 0, none⟩) 1 1]) 52 (0, 0)), (some b1, .cells kc9 49 (0, 0))]) rfl ?_
  refine W.put (H' := [(some p1, .cells (#[.map (some p2), .int .u32 2, .int .i64 1, .map (some p3), .map (some p4), .map (some p5)]) 29 (0, 0)), (some p2, mobj .u32 [(1, .agg #[.int .i64 1, .int .i64 1, .int .i64 4, .int .i64 4, .int .i64 1])]), (some p3, mobj .i64 []), (some p4, mobj .i64 []), (some p5, mobj .i64 []), (some b4, .cells kc11 82 (0, 0)), (some p6, .cells (#[.slice (some ⟨p7, 0, none⟩) 32 32]) 47 (0, 0)), (some p7, .cells kc7 5 (0, 0)), (some b3, .cells (#[.int .i64 0, .int .i64 0, .int .i64 0, .int .i64 0]) 34 (0, 0)), (some b2, .cells (#[.int .u64 0, .int .i64 0, .int .u32 0, .slice (some ⟨p6, 0, none⟩) 1 1]) 52 (0, 0)), (some b1, .cells kc9 49 (0, 0))]) rfl (wo rfl) rfl (f_storeA (j := 5) (c2 := kc11) ts82 rfl rfl rfl (one_all rfl) rfl rfl rfl) (nf rfl) ?_
  refine W.doneQ (y := sub [1, 1, 1, 1] B8) rfl ?_
  refine C.seq (x := sub [1, 1, 1, 1, 0] B8) (y := sub [1, 1, 1, 1, 1] B8) ?_
  refine C.seq (x := sub [1, 1, 1, 1, 0, 0] B8) (y := sub [1, 1, 1, 1, 0, 1] B8) ?_
  refine C.region (id := 6) (m := 2) (ops := opsOf (sub [1, 1, 1, 1, 0, 0] B8)) rfl ?_
  refine W.pure (v := ptr b4 7) rfl (wo rfl) rfl rfl (p_fieldAddr tf82_4 rfl rfl) (nf rfl) ?_
  refine W.quiet (v := .bool false) rfl (wo rfl) rfl rfl (f_load (j := 5) (off := 7) ta4 rfl rfl rfl rfl) (nf rfl) ?_
  refine W.doneQ (y := sub [1, 1, 1, 1, 0, 1] B8) rfl ?_
  refine C.cond_false (x := sub [1, 1, 1, 1, 0, 1, 0] B8) (y := sub [1, 1, 1, 1, 0, 1, 1] B8) rfl rfl ?_
  refine C.skipQ (y := sub [1, 1, 1, 1, 1] B8) rfl ?_
  refine C.seq (x := sub [1, 1, 1, 1, 1, 0] B8) (y := sub [1, 1, 1, 1, 1, 1] B8) ?_
  refine C.seq (x := sub [1, 1, 1, 1, 1, 0, 0] B8) (y := sub [1, 1, 1, 1, 1, 0, 1] B8) ?_
  refine C.region (id := 8) (m := 13) (ops := opsOf (sub [1, 1, 1, 1, 1, 0, 0] B8)) rfl ?_
  refine W.pure (v := ptr b4 6) rfl (wo rfl) rfl rfl (p_fieldAddr tf82_3 rfl rfl) (nf rfl) ?_
  refine W.quiet (v := .bool false) rfl (wo rfl) rfl rfl (f_load (j := 5) (off := 6) ta4 rfl rfl rfl rfl) (nf rfl) ?_
  refine W.pure (v := .bool false) rfl (wo rfl) rfl rfl (p_move rfl rfl) (nf rfl) ?_
  refine W.pure (v := ptr b1 1) rfl (wo rfl) rfl rfl (p_fieldAddr tf49_1 rfl rfl) (nf rfl) ?_
  refine W.quiet (v := .int .i64 9) rfl (wo rfl) rfl rfl (f_load (j := 10) (off := 1) ta44 rfl rfl rfl rfl) (nf rfl) ?_
  refine W.pure (v := .bool false) rfl (wo rfl) rfl rfl (p_bin (fun w => by kernel_rfl) (fun w => by kernel_rfl) rfl rfl rfl) (nf rfl) ?_
  refine W.pure (v := .bool false) rfl (wo rfl) rfl rfl (p_pick_false rfl rfl rfl) (nf rfl) ?_
  refine W.pure (v := .bool false) rfl (wo rfl) rfl rfl (p_move rfl rfl) (nf rfl) ?_
  refine W.pure (v := ptr b1 1) rfl (wo rfl) rfl rfl (p_fieldAddr tf49_1 rfl rfl) (nf rfl) ?_
  refine W.quiet (v := .int .i64 9) rfl (wo rfl) rfl rfl (f_load (j := 10) (off := 1) ta44 rfl rfl rfl rfl) (nf rfl) ?_
  refine W.pure (v := .bool false) rfl (wo rfl) rfl rfl (p_bin (fun w => by kernel_rfl) (fun w => by kernel_rfl) rfl rfl rfl) (nf rfl) ?_
  refine W.pure (v := .bool false) rfl (wo rfl) rfl rfl (p_pick_false rfl rfl rfl) (nf rfl) ?_
  refine W.pure (v := .bool false) rfl (wo rfl) rfl rfl (p_assign rfl rfl) (nf rfl) ?_
  refine W.doneQ (y := sub [1, 1, 1, 1, 1, 0, 1] B8) rfl ?_
  refine C.seq (x := sub [1, 1, 1, 1, 1, 0, 1, 0] B8) (y := sub [1, 1, 1, 1, 1, 0, 1, 1] B8) ?_
  refine C.region (id := 9) (m := 11) (ops := opsOf (sub [1, 1, 1, 1, 1, 0, 1, 0] B8)) rfl ?_
  refine W.pure (v := .bool false) rfl (wo rfl) rfl rfl (p_move rfl rfl) (nf rfl) ?_
  refine W.pure (v := .bool false) rfl (wo rfl) rfl rfl (p_move rfl rfl) (nf rfl) ?_
  refine W.not rfl (wo rfl) rfl rfl ?_
  refine W.not rfl (wo rfl) rfl rfl ?_
  refine W.not rfl (wo rfl) rfl rfl ?_
  refine W.pure (v := .bool false) rfl (wo rfl) rfl rfl (p_pick_false rfl rfl rfl) (nf rfl) ?_
  refine W.pure (v := .bool false) rfl (wo rfl) rfl rfl (p_move rfl rfl) (nf rfl) ?_
  refine W.not rfl (wo rfl) rfl rfl ?_
  refine W.not rfl (wo rfl) rfl rfl ?_
  refine W.not rfl (wo rfl) rfl rfl ?_
  refine W.pure (v := .bool false) rfl (wo rfl) rfl rfl (p_pick_false rfl rfl rfl) (nf rfl) ?_
  refine W.doneQ (y := sub [1, 1, 1, 1, 1, 0, 1, 1] B8) rfl ?_
  refine C.cond_false (x := sub [1, 1, 1, 1, 1, 0, 1, 1, 0] B8) (y := sub [1, 1, 1, 1, 1, 0, 1, 1, 1] B8) rfl rfl ?_
  refine C.skipQ (y := sub [1, 1, 1, 1, 1, 1] B8) rfl ?_
  refine C.seq (x := sub [1, 1, 1, 1, 1, 1, 0] B8) (y := sub [1, 1, 1, 1, 1, 1, 1] B8) ?_
  refine C.region (id := 11) (m := 1) (ops := opsOf (sub [1, 1, 1, 1, 1, 1, 0] B8)) rfl ?_
  refine W.pure (v := .int .u32 0) rfl (wo rfl) rfl rfl (p_assign rfl rfl) (nf rfl) ?_
  refine W.doneQ (y := sub [1, 1, 1, 1, 1, 1, 1] B8) rfl ?_
  refine C.seq (x := sub [1, 1, 1, 1, 1, 1, 1, 0] B8) (y := sub [1, 1, 1, 1, 1, 1, 1, 1] B8) ?_
  refine C.seq (x := sub [1, 1, 1, 1, 1, 1, 1, 0, 0] B8) (y := sub [1, 1, 1, 1, 1, 1, 1, 0, 1] B8) ?_
  refine C.region (id := 12) (m := 2) (ops := opsOf (sub [1, 1, 1, 1, 1, 1, 1, 0, 0] B8)) rfl ?_
  refine W.pure (v := ptr b4 6) rfl (wo rfl) rfl rfl (p_fieldAddr tf82_3 rfl rfl) (nf rfl) ?_
  refine W.quiet (v := .bool false) rfl (wo rfl) rfl rfl (f_load (j := 5) (off := 6) ta4 rfl rfl rfl rfl) (nf rfl) ?_
  refine W.doneQ (y := sub [1, 1, 1, 1, 1, 1, 1, 0, 1] B8) rfl ?_
  refine C.cond_false (x := sub [1, 1, 1, 1, 1, 1, 1, 0, 1, 0] B8) (y := sub [1, 1, 1, 1, 1, 1, 1, 0, 1, 1] B8) rfl rfl ?_
  refine C.skipQ (y := sub [1, 1, 1, 1, 1, 1, 1, 1] B8) rfl ?_
  refine C.seq (x := sub [1, 1, 1, 1, 1, 1, 1, 1, 0] B8) (y := sub [1, 1, 1, 1, 1, 1, 1, 1, 1] B8) ?_
  refine C.region (id := 14) (m := 27) (ops := opsOf (sub [1, 1, 1, 1, 1, 1, 1, 1, 0] B8)) rfl ?_
  refine W.pure (v := ptr b2 1) rfl (wo rfl) rfl rfl (p_fieldAddr tf52_1 rfl rfl) (nf rfl) ?_
  refine W.quiet (v := .int .i64 0) rfl (wo rfl) rfl rfl (f_load (j := 9) (off := 1) ta3 rfl rfl rfl rfl) (nf rfl) ?_
  refine W.pure (v := ptr b4 0) rfl (wo rfl) rfl rfl (p_fieldAddr tf82_0 rfl rfl) (nf rfl) ?_
  refine W.quiet (v := .int .i64 12) rfl (wo rfl) rfl rfl (f_load (j := 5) (off := 0) ta41 rfl rfl rfl rfl) (nf rfl) ?_
  refine W.pure (v := .bool false) rfl (wo rfl) rfl rfl (p_bin (fun w => by kernel_rfl) (fun w => by kernel_rfl) rfl rfl rfl) (nf rfl) ?_
  refine W.pure (v := .bool false) rfl (wo rfl) rfl rfl (p_move rfl rfl) (nf rfl) ?_
  refine W.not rfl (wo rfl) rfl rfl ?_
  refine W.not rfl (wo rfl) rfl rfl ?_
  refine W.not rfl (wo rfl) rfl rfl ?_
  refine W.not rfl (wo rfl) rfl rfl ?_
  refine W.pure (v := .bool false) rfl (wo rfl) rfl rfl (p_pick_false rfl rfl rfl) (nf rfl) ?_
  refine W.pure (v := .bool false) rfl (wo rfl) rfl rfl (p_move rfl rfl) (nf rfl) ?_
  refine W.not rfl (wo rfl) rfl rfl ?_
  refine W.not rfl (wo rfl) rfl rfl ?_
  refine W.not rfl (wo rfl) rfl rfl ?_
  refine W.not rfl (wo rfl) rfl rfl ?_
  refine W.pure (v := .bool false) rfl (wo rfl) rfl rfl (p_pick_false rfl rfl rfl) (nf rfl) ?_
  refine W.pure (v := .bool false) rfl (wo rfl) rfl rfl (p_move rfl rfl) (nf rfl) ?_
  refine W.not rfl (wo rfl) rfl rfl ?_
  refine W.not rfl (wo rfl) rfl rfl ?_
  refine W.not rfl (wo rfl) rfl rfl ?_
  refine W.not rfl (wo rfl) rfl rfl ?_
  refine W.not rfl (wo rfl) rfl rfl ?_
  refine W.not rfl (wo rfl) rfl rfl ?_
  refine W.not rfl (wo rfl) rfl rfl ?_
  refine W.pure (v := .bool false) rfl (wo rfl) rfl rfl (p_pick_false rfl rfl rfl) (nf rfl) ?_
  refine W.pure (v := .bool false) rfl (wo rfl) rfl rfl (p_assign rfl rfl) (nf rfl) ?_
  refine W.doneQ (y := sub [1, 1, 1, 1, 1, 1, 1, 1, 1] B8) rfl ?_
  refine C.seq (x := sub [1, 1, 1, 1, 1, 1, 1, 1, 1, 0] B8) (y := sub [1, 1, 1, 1, 1, 1, 1, 1, 1, 1] B8) ?_
  refine C.seq (x := sub [1, 1, 1, 1, 1, 1, 1, 1, 1, 0, 0] B8) (y := sub [1, 1, 1, 1, 1, 1, 1, 1, 1, 0, 1] B8) ?_
  refine C.region (id := 15) (m := 1) (ops := opsOf (sub [1, 1, 1, 1, 1, 1, 1, 1, 1, 0, 0] B8)) rfl ?_
  refine W.pure (v := .int .i64 0) rfl (wo rfl) rfl rfl (p_assign rfl rfl) (nf rfl) ?_
  refine W.doneQ (y := sub [1, 1, 1, 1, 1, 1, 1, 1, 1, 0, 1] B8) rfl ?_
  refine C.loopB (id := 0) (c := sub [1, 1, 1, 1, 1, 1, 1, 1, 1, 0, 1, 0, 0] B8) (y := sub [1, 1, 1, 1, 1, 1, 1, 1, 1, 1] B8) (fun q : Nat => 0 - q) (fun _ : Nat => [(0, ptr p1 0), (1, .agg kc9), (2, .agg #[.int .u64 0, .int .i64 0, .int .u32 0, .slice (some ⟨p6, 0, none⟩) 1 1]), (3, .agg #[.int .i64 0, .int .i64 0, .int .i64 0, .int .i64 0]), (5, ptr b1 0), (6, ptr b2 0), (7, ptr b3 0), (9, ptr b4 0), (10, .bool false), (11, .int .u32 0), (12, .bool false), (13, .int .i64 0), (14, ptr p1 0), (15, .bool true), (16, .bool false), (17, .bool false), (18, ptr b2 0), (19, .int .u64 0), (20, ptr b1 0), (21, .int .u64 0), (22, .bool false), (23, .bool false), (24, .bool false), (25, .agg #[.int .u64 0, .int .i64 0, .int .u32 0, .slice (some ⟨p6, 0, none⟩) 1 1]), (26, .bool true), (27, .bool false), (28, .bool false), (29, .agg kc4), (30, .agg kc9), (31, .bool true), (32, ptr p1 0), (33, .agg kc9), (34, .agg kc11), (35, ptr b4 7), (36, .bool false), (42, ptr b4 6), (43, .bool false), (44, .bool false), (45, ptr b1 1), (46, .int .i64 9), (47, .bool false), (48, .bool false), (49, .bool false), (50, ptr b1 1), (51, .int .i64 9), (52, .bool false), (53, .bool false), (54, .bool false), (55, .bool false), (59, .bool false), (60, .bool false), (64, .bool false), (68, ptr b4 6), (69, .bool false), (74, ptr b2 1), (75, .int .i64 0), (76, ptr b4 0), (77, .int .i64 12), (78, .bool false), (79, .bool false), (84, .bool false), (85, .bool false), (90, .bool false), (91, .bool false), (99, .bool false)]) (fun _ : Nat => [(some p1, .cells (#[.map (some p2), .int .u32 2, .int .i64 1, .map (some p3), .map (some p4), .map (some p5)]) 29 (0, 0)), (some p2, mobj .u32 [(1, .agg #[.int .i64 1, .int .i64 1, .int .i64 4, .int .i64 4, .int .i64 1])]), (some p3, mobj .i64 []), (some p4, mobj .i64 []), (some p5, mobj .i64 []), (some b4, .cells kc11 82 (0, 0)), (some p6, .cells (#[.slice (some ⟨p7, 0, none⟩) 32 32]) 47 (0, 0)), (some p7, .cells kc7 5 (0, 0)), (some b3, .cells (#[.int .i64 0, .int .i64 0, .int .i64 0, .int .i64 0]) 34 (0, 0)), (some b2, .cells (#[.int .u64 0, .int .i64 0, .int .u32 0, .slice (some ⟨p6, 0, none⟩) 1 1]) 52 (0, 0)), (some b1, .cells kc9 49 (0, 0))]) (fun q => q ≤ 0) 0 (Nat.zero_le _) (Sub.cons rfl (Sub.cons rfl (Sub.cons rfl (Sub.cons rfl (Sub.cons rfl (Sub.cons rfl (Sub.cons rfl (Sub.cons rfl (Sub.cons rfl (Sub.cons rfl (Sub.cons rfl (Sub.cons rfl (Sub.cons rfl (Sub.cons rfl (Sub.cons rfl (Sub.cons rfl (Sub.cons rfl (Sub.cons rfl (Sub.cons rfl (Sub.cons rfl (Sub.cons rfl (Sub.cons rfl (Sub.cons rfl (Sub.cons rfl (Sub.cons rfl (Sub.cons rfl (Sub.cons rfl (Sub.cons rfl (Sub.cons rfl (Sub.cons rfl (Sub.cons rfl (Sub.cons rfl (Sub.cons rfl (Sub.cons rfl (Sub.cons rfl (Sub.cons rfl (Sub.cons rfl (Sub.cons rfl (Sub.cons rfl (Sub.cons rfl (Sub.cons rfl (Sub.cons rfl (Sub.cons rfl (Sub.cons rfl (Sub.cons rfl (Sub.cons rfl (Sub.cons rfl (Sub.cons rfl (Sub.cons rfl (Sub.cons rfl (Sub.cons rfl (Sub.cons rfl (Sub.cons rfl (Sub.cons rfl (Sub.cons rfl (Sub.cons rfl (Sub.cons rfl (Sub.cons rfl (Sub.cons rfl (Sub.cons rfl (Sub.cons rfl (Sub.cons rfl (Sub.cons rfl (Sub.cons rfl (Sub.cons rfl (Sub.nil _)))))))))))))))))))))))))))))))))))))))))))))))))))))))))))))))))) rfl rfl (fun q => q = 0) ?_ ?_
  · intro q hq Q' hN hE hR
    have hq2 : q = 0 := by omega
    subst hq2
    · show CW _ _ _ _ _ [(0, ptr p1 0), (1, .agg kc9), (2, .agg #[.int .u64 0, .int .i64 0, .int .u32 0, .slice (some ⟨p6, 0, none⟩) 1 1]), (3, .agg #[.int .i64 0, .int .i64 0, .int .i64 0, .int .i64 0]), (5, ptr b1 0), (6, ptr b2 0), (7, ptr b3 0), (9, ptr b4 0), (10, .bool false), (11, .int .u32 0), (12, .bool false), (13, .int .i64 0), (14, ptr p1 0), (15, .bool true), (16, .bool false), (17, .bool false), (18, ptr b2 0), (19, .int .u64 0), (20, ptr b1 0), (21, .int .u64 0), (22, .bool false), (23, .bool false), (24, .bool false), (25, .agg #[.int .u64 0, .int .i64 0, .int .u32 0, .slice (some ⟨p6, 0, none⟩) 1 1]), (26, .bool true), (27, .bool false), (28, .bool false), (29, .agg kc4), (30, .agg kc9), (31, .bool true), (32, ptr p1 0), (33, .agg kc9), (34, .agg kc11), (35, ptr b4 7), (36, .bool false), (42, ptr b4 6), (43, .bool false), (44, .bool false), (45, ptr b1 1), (46, .int .i64 9), (47, .bool false), (48, .bool false), (49, .bool false), (50, ptr b1 1), (51, .int .i64 9), (52, .bool false), (53, .bool false), (54, .bool false), (55, .bool false), (59, .bool false), (60, .bool false), (64, .bool false), (68, ptr b4 6), (69, .bool false), (74, ptr b2 1), (75, .int .i64 0), (76, ptr b4 0), (77, .int .i64 12), (78, .bool false), (79, .bool false), (84, .bool false), (85, .bool false), (90, .bool false), (91, .bool false), (99, .bool false)] ([(some p1, .cells (#[.map (some p2), .int .u32 2, .int .i64 1, .map (some p3), .map (some p4), .map (some p5)]) 29 (0, 0)), (some p2, mobj .u32 [(1, .agg #[.int .i64 1, .int .i64 1, .int .i64 4, .int .i64 4, .int .i64 1])]), (some p3, mobj .i64 []), (some p4, mobj .i64 []), (some p5, mobj .i64 []), (some b4, .cells kc11 82 (0, 0)), (some p6, .cells (#[.slice (some ⟨p7, 0, none⟩) 32 32]) 47 (0, 0)), (some p7, .cells kc7 5 (0, 0)), (some b3, .cells (#[.int .i64 0, .int .i64 0, .int .i64 0, .int .i64 0]) 34 (0, 0)), (some b2, .cells (#[.int .u64 0, .int .i64 0, .int .u32 0, .slice (some ⟨p6, 0, none⟩) 1 1]) 52 (0, 0)), (some b1, .cells kc9 49 (0, 0))])
      refine C.seq (x := sub [1, 1, 1, 1, 1, 1, 1, 1, 1, 0, 1, 0, 0, 0] B8) (y := sub [1, 1, 1, 1, 1, 1, 1, 1, 1, 0, 1, 0, 0, 1] B8) ?_
      refine C.seq (x := sub [1, 1, 1, 1, 1, 1, 1, 1, 1, 0, 1, 0, 0, 0, 0] B8) (y := sub [1, 1, 1, 1, 1, 1, 1, 1, 1, 0, 1, 0, 0, 0, 1] B8) ?_
      refine C.region (id := 16) (m := 8) (ops := opsOf (sub [1, 1, 1, 1, 1, 1, 1, 1, 1, 0, 1, 0, 0, 0, 0] B8)) rfl ?_
      refine W.pure (v := .bool false) rfl (wo rfl) rfl rfl (p_move rfl rfl) (nf rfl) ?_
      refine W.pure (v := .bool false) rfl (wo rfl) rfl rfl (p_move rfl rfl) (nf rfl) ?_
      refine W.not rfl (wo rfl) rfl rfl ?_
      refine W.not rfl (wo rfl) rfl rfl ?_
      refine W.not rfl (wo rfl) rfl rfl ?_
      refine W.not rfl (wo rfl) rfl rfl ?_
      refine W.not rfl (wo rfl) rfl rfl ?_
      refine W.pure (v := .bool false) rfl (wo rfl) rfl rfl (p_pick_false rfl rfl rfl) (nf rfl) ?_
      refine W.doneQ (y := sub [1, 1, 1, 1, 1, 1, 1, 1, 1, 0, 1, 0, 0, 0, 1] B8) rfl ?_
      refine C.cond_false (x := sub [1, 1, 1, 1, 1, 1, 1, 1, 1, 0, 1, 0, 0, 0, 1, 0] B8) (y := sub [1, 1, 1, 1, 1, 1, 1, 1, 1, 0, 1, 0, 0, 0, 1, 1] B8) rfl rfl ?_
      exact C.exit fun a1 w1 ha1 hc1 => hE rfl a1 w1 (ha1.sub (Sub.cons rfl (Sub.cons rfl (Sub.cons rfl (Sub.cons rfl (Sub.cons rfl (Sub.cons rfl (Sub.cons rfl (Sub.cons rfl (Sub.cons rfl (Sub.cons rfl (Sub.cons rfl (Sub.cons rfl (Sub.cons rfl (Sub.cons rfl (Sub.cons rfl (Sub.cons rfl (Sub.cons rfl (Sub.cons rfl (Sub.cons rfl (Sub.cons rfl (Sub.cons rfl (Sub.cons rfl (Sub.cons rfl (Sub.cons rfl (Sub.cons rfl (Sub.cons rfl (Sub.cons rfl (Sub.cons rfl (Sub.cons rfl (Sub.cons rfl (Sub.cons rfl (Sub.cons rfl (Sub.cons rfl (Sub.cons rfl (Sub.cons rfl (Sub.cons rfl (Sub.cons rfl (Sub.cons rfl (Sub.cons rfl (Sub.cons rfl (Sub.cons rfl (Sub.cons rfl (Sub.cons rfl (Sub.cons rfl (Sub.cons rfl (Sub.cons rfl (Sub.cons rfl (Sub.cons rfl (Sub.cons rfl (Sub.cons rfl (Sub.cons rfl (Sub.cons rfl (Sub.cons rfl (Sub.cons rfl (Sub.cons rfl (Sub.cons rfl (Sub.cons rfl (Sub.cons rfl (Sub.cons rfl (Sub.cons rfl (Sub.cons rfl (Sub.cons rfl (Sub.cons rfl (Sub.cons rfl (Sub.cons rfl (Sub.nil _))))))))))))))))))))))))))))))))))))))))))))))))))))))))))))))))))) hc1
  intro q hq hqe
  subst hqe
  show CW _ _ _ _ _ [(0, ptr p1 0), (1, .agg kc9), (2, .agg #[.int .u64 0, .int .i64 0, .int .u32 0, .slice (some ⟨p6, 0, none⟩) 1 1]), (3, .agg #[.int .i64 0, .int .i64 0, .int .i64 0, .int .i64 0]), (5, ptr b1 0), (6, ptr b2 0), (7, ptr b3 0), (9, ptr b4 0), (10, .bool false), (11, .int .u32 0), (12, .bool false), (13, .int .i64 0), (14, ptr p1 0), (15, .bool true), (16, .bool false), (17, .bool false), (18, ptr b2 0), (19, .int .u64 0), (20, ptr b1 0), (21, .int .u64 0), (22, .bool false), (23, .bool false), (24, .bool false), (25, .agg #[.int .u64 0, .int .i64 0, .int .u32 0, .slice (some ⟨p6, 0, none⟩) 1 1]), (26, .bool true), (27, .bool false), (28, .bool false), (29, .agg kc4), (30, .agg kc9), (31, .bool true), (32, ptr p1 0), (33, .agg kc9), (34, .agg kc11), (35, ptr b4 7), (36, .bool false), (42, ptr b4 6), (43, .bool false), (44, .bool false), (45, ptr b1 1), (46, .int .i64 9), (47, .bool false), (48, .bool false), (49, .bool false), (50, ptr b1 1), (51, .int .i64 9), (52, .bool false), (53, .bool false), (54, .bool false), (55, .bool false), (59, .bool false), (60, .bool false), (64, .bool false), (68, ptr b4 6), (69, .bool false), (74, ptr b2 1), (75, .int .i64 0), (76, ptr b4 0), (77, .int .i64 12), (78, .bool false), (79, .bool false), (84, .bool false), (85, .bool false), (90, .bool false), (91, .bool false), (99, .bool false)] ([(some p1, .cells (#[.map (some p2), .int .u32 2, .int .i64 1, .map (some p3), .map (some p4), .map (some p5)]) 29 (0, 0)), (some p2, mobj .u32 [(1, .agg #[.int .i64 1, .int .i64 1, .int .i64 4, .int .i64 4, .int .i64 1])]), (some p3, mobj .i64 []), (some p4, mobj .i64 []), (some p5, mobj .i64 []), (some b4, .cells kc11 82 (0, 0)), (some p6, .cells (#[.slice (some ⟨p7, 0, none⟩) 32 32]) 47 (0, 0)), (some p7, .cells kc7 5 (0, 0)), (some b3, .cells (#[.int .i64 0, .int .i64 0, .int .i64 0, .int .i64 0]) 34 (0, 0)), (some b2, .cells (#[.int .u64 0, .int .i64 0, .int .u32 0, .slice (some ⟨p6, 0, none⟩) 1 1]) 52 (0, 0)), (some b1, .cells kc9 49 (0, 0))])
  refine C.seq (x := sub [1, 1, 1, 1, 1, 1, 1, 1, 1, 1, 0] B8) (y := sub [1, 1, 1, 1, 1, 1, 1, 1, 1, 1, 1] B8) ?_
  refine C.regionD (id := 19) (ops := opsOf (sub [1, 1, 1, 1, 1, 1, 1, 1, 1, 1, 0] B8)) [0, 1, 2, 3, 4, 5, 6, 7, 8, 9, 10, 11, 12, 13, 14, 15, 16, 17, 18, 19, 20, 21, 22, 23, 24, 25, 26, 27, 28] [0, 1, 3, 7, 15, 31, 63, 127, 255, 511, 1023, 2047, 4095, 8191, 16383, 32767, 2047, 67583, 198655, 460799, 2047, 1050623, 4130815, 8325119, 16713727, 33554431, 67108863, 134217727, 268435455] [(.pure, none), (.pure, none), (.pure, none), (.pure, none), (.pure, none), (.pure, none), (.pure, none), (.pure, none), (.pure, none), (.pure, none), (.pure, none), (.pure, none), (.pure, none), (.pure, none), (.pure, none), (.pure, none), (.pure, none), (.pure, none), (.pure, none), (.pure, none), (.pure, none), (.pure, none), (.pure, none), (.pure, none), (.pure, none), (.pure, none), (.pure, none), (.pure, none), (.pure, none)] (by kernel_rfl) ?_
  intro wD19 hl19
  refine DV.pure (v := .bool false) rfl (wo rfl) rfl rfl rfl (p_move rfl rfl) ?_
  refine DV.pure (v := .bool false) rfl (wo rfl) rfl rfl rfl (p_move rfl rfl) ?_
  refine DV.not rfl (wo rfl) rfl rfl ?_
  refine DV.not rfl (wo rfl) rfl rfl ?_
  refine DV.not rfl (wo rfl) rfl rfl ?_
  refine DV.not rfl (wo rfl) rfl rfl ?_
  refine DV.not rfl (Wn.undef rfl rfl rfl) rfl rfl ?_
  refine DV.not rfl (Wn.undef rfl rfl rfl) rfl rfl ?_
  refine DV.not rfl (Wn.undef rfl rfl rfl) rfl rfl ?_
  refine DV.not rfl (wo rfl) rfl rfl ?_
  refine DV.not rfl (wo rfl) rfl rfl ?_
  refine DV.not rfl (Wn.undef rfl rfl rfl) rfl rfl ?_
  refine DV.not rfl (Wn.undef rfl rfl rfl) rfl rfl ?_
  refine DV.not rfl (Wn.undef rfl rfl rfl) rfl rfl ?_
  refine DV.not rfl (Wn.undef rfl rfl rfl) rfl rfl ?_
  refine DV.not rfl (Wn.undef rfl rfl rfl) rfl rfl ?_
  refine DV.not rfl (Wn.undef rfl rfl rfl) rfl rfl ?_
  refine DV.not rfl (Wn.undef rfl rfl rfl) rfl rfl ?_
  refine DV.not rfl (Wn.undef rfl rfl rfl) rfl rfl ?_
  refine DV.not rfl (Wn.undef rfl rfl rfl) rfl rfl ?_
  refine DV.not rfl (Wn.undef rfl rfl rfl) rfl rfl ?_
  refine DV.not rfl (Wn.undef rfl rfl rfl) rfl rfl ?_
  refine DV.not rfl (Wn.undef rfl rfl rfl) rfl rfl ?_
  refine DV.not rfl (Wn.undef rfl rfl rfl) rfl rfl ?_
  refine DV.not rfl (Wn.undef rfl rfl rfl) rfl rfl ?_
  refine DV.not rfl (Wn.undef rfl rfl rfl) rfl rfl ?_
  refine DV.not rfl (wo rfl) rfl rfl ?_
  refine DV.pure (v := .bool false) rfl (wo rfl) rfl rfl rfl (p_pick_false rfl rfl rfl) ?_
  refine DV.pure (v := .bool false) rfl (wo rfl) rfl rfl rfl (p_assign rfl rfl) ?_
  refine DW.doneQ (y := sub [1, 1, 1, 1, 1, 1, 1, 1, 1, 1, 1] B8) hl19 rfl ?_
  exact C.ret (R := fun e w' => ∃ _x : Unit, e = .returned (.bool false) ∧ Cls w0 I' [(some p1, .cells (#[.map (some p2), .int .u32 2, .int .i64 1, .map (some p3), .map (some p4), .map (some p5)]) 29 (0, 0)), (some p2, mobj .u32 [(1, .agg #[.int .i64 1, .int .i64 1, .int .i64 4, .int .i64 4, .int .i64 1])]), (some p3, mobj .i64 []), (some p4, mobj .i64 []), (some p5, mobj .i64 []), (some p6, .cells (#[.slice (some ⟨p7, 0, none⟩) 32 32]) 47 (0, 0)), (some p7, .cells kc7 5 (0, 0))] w') (rs := [.tmp 8]) (vs := [.bool false]) rfl Tryd.func8 rfl rfl rfl (res_cons (ResV.tmp rfl) res_nil) fun w1 hc1 => ⟨(), rfl, hc1.pick [0, 1, 2, 3, 4, 6, 7] (by decide)⟩
set_option maxHeartbeats 20000000 in
theorem cw9_65 (p1 p2 p3 p4 p5 : Nat) {I : Mem} : Turn I 9 #[ptr p1 0, .int .u32 1] [(some p1, .cells (#[.map (some p2), .int .u32 2, .int .i64 1, .map (some p3), .map (some p4), .map (some p5)]) 29 (0, 0)), (some p2, mobj .u32 [(1, .agg #[.int .i64 1, .int .i64 1, .int .i64 4, .int .i64 4, .int .i64 1])]), (some p3, mobj .i64 []), (some p4, mobj .i64 []), (some p5, mobj .i64 [])] (fun _ : Unit => .int .i64 1) (fun _ => [(some p1, .cells (#[.map (some p2), .int .u32 2, .int .i64 1, .map (some p3), .map (some p4), .map (some p5)]) 29 (0, 0)), (some p2, mobj .u32 [(1, .agg #[.int .i64 1, .int .i64 1, .int .i64 4, .int .i64 4, .int .i64 1])]), (some p3, mobj .i64 []), (some p4, mobj .i64 []), (some p5, mobj .i64 [])]) := fun I' he w0 w hc => by
  refine calls_of_CW (N := 15) Tryd.func9 (show _ = some B9 by kernel_rfl) (by kernel_rfl) rfl (S := [(0, ptr p1 0), (1, .int .u32 1)]) (by simp) hc ?_
  show CW _ _ _ (sub [] B9) _ _ _
  refine C.seq (x := sub [0] B9) (y := sub [1] B9) ?_
  refine C.region (id := 0) (m := 1) (ops := opsOf (sub [0] B9)) rfl ?_
  refine W.pure (v := .int .i64 0) rfl (wo rfl) rfl rfl (p_assign rfl rfl) (nf rfl) ?_
  refine W.doneQ (y := sub [1] B9) rfl ?_
  refine C.seq (x := sub [1, 0] B9) (y := sub [1, 1] B9) ?_
  refine C.seq (x := sub [1, 0, 0] B9) (y := sub [1, 0, 1] B9) ?_
  refine C.region (id := 1) (m := 3) (ops := opsOf (sub [1, 0, 0] B9)) rfl ?_
  refine W.pure (v := ptr p1 0) rfl (wo rfl) rfl rfl (p_move rfl rfl) (nf rfl) ?_
  refine W.cP (E := [(some p1, .cells (#[.map (some p2), .int .u32 2, .int .i64 1, .map (some p3), .map (some p4), .map (some p5)]) 29 (0, 0)), (some p2, mobj .u32 [(1, .agg #[.int .i64 1, .int .i64 1, .int .i64 4, .int .i64 4, .int .i64 1])]), (some p3, mobj .i64 []), (some p4, mobj .i64 []), (some p5, mobj .i64 [])]) (R := []) (caps := #[]) rfl (wo rfl) rfl rfl [0, 1, 2, 3, 4] rfl rfl (cw16_47 p1 p2 p3 p4 p5) rfl (en16 _) rfl rfl rfl (args_val rfl) ?_
  intro _
  refine W.heapIs (H2 := [(some p1, .cells (#[.map (some p2), .int .u32 2, .int .i64 1, .map (some p3), .map (some p4), .map (some p5)]) 29 (0, 0)), (some p2, mobj .u32 [(1, .agg #[.int .i64 1, .int .i64 1, .int .i64 4, .int .i64 4, .int .i64 1])]), (some p3, mobj .i64 []), (some p4, mobj .i64 []), (some p5, mobj .i64 [])]) rfl ?_
  refine W.pure (v := .bool false) rfl (wo rfl) rfl rfl (p_not (p := true) rfl rfl) (nf rfl) ?_
  refine W.doneQ (y := sub [1, 0, 1] B9) rfl ?_
  refine C.cond_false (x := sub [1, 0, 1, 0] B9) (y := sub [1, 0, 1, 1] B9) rfl rfl ?_
  refine C.skipQ (y := sub [1, 1] B9) rfl ?_
  refine C.seq (x := sub [1, 1, 0] B9) (y := sub [1, 1, 1] B9) ?_
  refine C.region (id := 3) (m := 8) (ops := opsOf (sub [1, 1, 0] B9)) rfl ?_
  refine W.pure (v := ptr p1 0) rfl (wo rfl) rfl rfl (p_move rfl rfl) (nf rfl) ?_
  refine W.pure (v := ptr p1 0) rfl (wo rfl) rfl rfl (p_nilCheck rfl rfl) (nf rfl) ?_
  refine W.pure (v := ptr p1 0) rfl (wo rfl) rfl rfl (p_fieldAddr tf29_0 rfl rfl) (nf rfl) ?_
  refine W.quiet (v := .map (some p2)) rfl (wo rfl) rfl rfl (f_load (j := 0) (off := 0) ta23 rfl rfl rfl rfl) (nf rfl) ?_
  refine W.pure (v := .int .u32 1) rfl (wo rfl) rfl rfl (p_move rfl rfl) (nf rfl) ?_
  refine W.quiet (v := .agg #[.int .i64 1, .int .i64 1, .int .i64 4, .int .i64 4, .int .i64 1]) rfl (wo rfl) rfl rfl (f_lookup (j := 1) (a := 1) (l := [(1, .agg #[.int .i64 1, .int .i64 1, .int .i64 4, .int .i64 4, .int .i64 1])]) tu23 tu24 tz61 rfl rfl rfl rfl) (nf rfl) ?_
  refine W.pure (v := .int .i64 1) rfl (wo rfl) rfl rfl (p_fieldU (fun w => by kernel_rfl) rfl rfl) (nf rfl) ?_
  refine W.pure (v := .int .i64 1) rfl (wo rfl) rfl rfl (p_assign rfl rfl) (nf rfl) ?_
  refine W.doneQ (y := sub [1, 1, 1] B9) rfl ?_
  exact C.ret (R := fun e w' => ∃ _x : Unit, e = .returned (.int .i64 1) ∧ Cls w0 I' [(some p1, .cells (#[.map (some p2), .int .u32 2, .int .i64 1, .map (some p3), .map (some p4), .map (some p5)]) 29 (0, 0)), (some p2, mobj .u32 [(1, .agg #[.int .i64 1, .int .i64 1, .int .i64 4, .int .i64 4, .int .i64 1])]), (some p3, mobj .i64 []), (some p4, mobj .i64 []), (some p5, mobj .i64 [])] w') (rs := [.tmp 4]) (vs := [.int .i64 1]) rfl Tryd.func9 rfl rfl rfl (res_cons (ResV.tmp rfl) res_nil) fun w1 hc1 => ⟨(), rfl, hc1.pick [0, 1, 2, 3, 4] (by decide)⟩
theorem tf29_3 (a : Addr) (w : World) : (Instr.fieldAt 29 (.pointer (some a)) 3).run Tryd.prog w = .ok (.pointer (some (a.add 3))) w := by kernel_rfl
theorem ta25 (w : World) : (isAgg 25).run Tryd.prog w = .ok false w := by kernel_rfl
theorem tu25 (w : World) : (underlying 25).run Tryd.prog w = .ok (.map 3 72) w := by kernel_rfl
theorem tu3 (w : World) : (underlying 3).run Tryd.prog w = .ok (.int .i64) w := by kernel_rfl
theorem tz72 (w : World) : (zeroValue 72).run Tryd.prog w = .ok (.agg #[.bool false]) w := by kernel_rfl
set_option maxHeartbeats 20000000 in
theorem cw10_66 (p1 p2 p3 p4 p5 : Nat) {I : Mem} : Turn I 10 #[ptr p1 0, .int .i64 1] [(some p1, .cells (#[.map (some p2), .int .u32 2, .int .i64 1, .map (some p3), .map (some p4), .map (some p5)]) 29 (0, 0)), (some p2, mobj .u32 [(1, .agg #[.int .i64 1, .int .i64 1, .int .i64 4, .int .i64 4, .int .i64 1])]), (some p3, mobj .i64 []), (some p4, mobj .i64 []), (some p5, mobj .i64 [])] (fun _ : Unit => .bool true) (fun _ => [(some p1, .cells (#[.map (some p2), .int .u32 2, .int .i64 1, .map (some p3), .map (some p4), .map (some p5)]) 29 (0, 0)), (some p2, mobj .u32 [(1, .agg #[.int .i64 1, .int .i64 1, .int .i64 4, .int .i64 4, .int .i64 1])]), (some p3, mobj .i64 []), (some p4, mobj .i64 []), (some p5, mobj .i64 [])]) := fun I' he w0 w hc => by
  refine calls_of_CW (N := 29) Tryd.func10 (show _ = some B10 by kernel_rfl) (by kernel_rfl) rfl (S := [(0, ptr p1 0), (1, .int .i64 1)]) (by simp) hc ?_
  show CW _ _ _ (sub [] B10) _ _ _
  refine C.seq (x := sub [0] B10) (y := sub [1] B10) ?_
  refine C.region (id := 0) (m := 1) (ops := opsOf (sub [0] B10)) rfl ?_
  refine W.pure (v := .bool false) rfl (wo rfl) rfl rfl (p_assign rfl rfl) (nf rfl) ?_
  refine W.doneQ (y := sub [1] B10) rfl ?_
  refine C.seq (x := sub [1, 0] B10) (y := sub [1, 1] B10) ?_
  refine C.region (id := 1) (m := 25) (ops := opsOf (sub [1, 0] B10)) rfl ?_
  refine W.pure (v := ptr p1 0) rfl (wo rfl) rfl rfl (p_move rfl rfl) (nf rfl) ?_
  refine W.cP (E := [(some p1, .cells (#[.map (some p2), .int .u32 2, .int .i64 1, .map (some p3), .map (some p4), .map (some p5)]) 29 (0, 0)), (some p2, mobj .u32 [(1, .agg #[.int .i64 1, .int .i64 1, .int .i64 4, .int .i64 4, .int .i64 1])]), (some p3, mobj .i64 []), (some p4, mobj .i64 []), (some p5, mobj .i64 [])]) (R := []) (caps := #[]) rfl (wo rfl) rfl rfl [0, 1, 2, 3, 4] rfl rfl (cw16_47 p1 p2 p3 p4 p5) rfl (en16 _) rfl rfl rfl (args_val rfl) ?_
  intro _
  refine W.heapIs (H2 := [(some p1, .cells (#[.map (some p2), .int .u32 2, .int .i64 1, .map (some p3), .map (some p4), .map (some p5)]) 29 (0, 0)), (some p2, mobj .u32 [(1, .agg #[.int .i64 1, .int .i64 1, .int .i64 4, .int .i64 4, .int .i64 1])]), (some p3, mobj .i64 []), (some p4, mobj .i64 []), (some p5, mobj .i64 [])]) rfl ?_
  refine W.pure (v := .bool true) rfl (wo rfl) rfl rfl (p_move rfl rfl) (nf rfl) ?_
  refine W.pure (v := .int .i64 1) rfl (wo rfl) rfl rfl (p_move rfl rfl) (nf rfl) ?_
  refine W.pure (v := .bool true) rfl (wo rfl) rfl rfl (p_bin (fun w => by kernel_rfl) (fun w => by kernel_rfl) rfl rfl rfl) (nf rfl) ?_
  refine W.pure (v := .bool true) rfl (wo rfl) rfl rfl (p_pick_true rfl rfl rfl) (nf rfl) ?_
  refine W.pure (v := .bool true) rfl (wo rfl) rfl rfl (p_move rfl rfl) (nf rfl) ?_
  refine W.pure (v := .int .i64 1) rfl (wo rfl) rfl rfl (p_move rfl rfl) (nf rfl) ?_
  refine W.pure (v := ptr p1 0) rfl (wo rfl) rfl rfl (p_move rfl rfl) (nf rfl) ?_
  refine W.pure (v := ptr p1 0) rfl (wo rfl) rfl rfl (p_nilCheck rfl rfl) (nf rfl) ?_
  refine W.pure (v := ptr p1 2) rfl (wo rfl) rfl rfl (p_fieldAddr tf29_2 rfl rfl) (nf rfl) ?_
  refine W.quiet (v := .int .i64 1) rfl (wo rfl) rfl rfl (f_load (j := 0) (off := 2) ta3 rfl rfl rfl rfl) (nf rfl) ?_
  refine W.pure (v := .bool true) rfl (wo rfl) rfl rfl (p_bin (fun w => by kernel_rfl) (fun w => by kernel_rfl) rfl rfl rfl) (nf rfl) ?_
  refine W.pure (v := .bool true) rfl (wo rfl) rfl rfl (p_pick_true rfl rfl rfl) (nf rfl) ?_
  refine W.pure (v := .bool true) rfl (wo rfl) rfl rfl (p_move rfl rfl) (nf rfl) ?_
  refine W.pure (v := ptr p1 0) rfl (wo rfl) rfl rfl (p_move rfl rfl) (nf rfl) ?_
  refine W.pure (v := ptr p1 0) rfl (wo rfl) rfl rfl (p_nilCheck rfl rfl) (nf rfl) ?_
  refine W.pure (v := ptr p1 3) rfl (wo rfl) rfl rfl (p_fieldAddr tf29_3 rfl rfl) (nf rfl) ?_
  refine W.quiet (v := .map (some p3)) rfl (wo rfl) rfl rfl (f_load (j := 0) (off := 3) ta25 rfl rfl rfl rfl) (nf rfl) ?_
  refine W.pure (v := .int .i64 1) rfl (wo rfl) rfl rfl (p_move rfl rfl) (nf rfl) ?_
  refine W.quiet (v := .agg #[.bool false]) rfl (wo rfl) rfl rfl (f_lookup (j := 2) (a := 1) (l := []) tu25 tu3 tz72 rfl rfl rfl rfl) (nf rfl) ?_
  refine W.pure (v := .bool false) rfl (wo rfl) rfl rfl (p_fieldU (fun w => by kernel_rfl) rfl rfl) (nf rfl) ?_
  refine W.pure (v := .bool true) rfl (wo rfl) rfl rfl (p_not (p := false) rfl rfl) (nf rfl) ?_
  refine W.pure (v := .bool true) rfl (wo rfl) rfl rfl (p_pick_true rfl rfl rfl) (nf rfl) ?_
  refine W.pure (v := .bool true) rfl (wo rfl) rfl rfl (p_assign rfl rfl) (nf rfl) ?_
  refine W.doneQ (y := sub [1, 1] B10) rfl ?_
  exact C.ret (R := fun e w' => ∃ _x : Unit, e = .returned (.bool true) ∧ Cls w0 I' [(some p1, .cells (#[.map (some p2), .int .u32 2, .int .i64 1, .map (some p3), .map (some p4), .map (some p5)]) 29 (0, 0)), (some p2, mobj .u32 [(1, .agg #[.int .i64 1, .int .i64 1, .int .i64 4, .int .i64 4, .int .i64 1])]), (some p3, mobj .i64 []), (some p4, mobj .i64 []), (some p5, mobj .i64 [])] w') (rs := [.tmp 4]) (vs := [.bool true]) rfl Tryd.func10 rfl rfl rfl (res_cons (ResV.tmp rfl) res_nil) fun w1 hc1 => ⟨(), rfl, hc1.pick [0, 1, 2, 3, 4] (by decide)⟩
set_option maxHeartbeats 20000000 in
theorem cw15_18 {I : Mem} : Turn I 15 #[] [] (fun _ : Unit => .bool true) (fun _ => []) := fun I' he w0 w hc => by
  refine calls_of_CW (N := 35) Tryd.func15 (show _ = some B15 by kernel_rfl) (by kernel_rfl) rfl (S := []) (by simp) hc ?_
  show CW _ _ _ (sub [] B15) _ _ _
  refine C.seq (x := sub [0] B15) (y := sub [1] B15) ?_
  refine C.region (id := 0) (m := 1) (ops := opsOf (sub [0] B15)) rfl ?_
  refine W.pure (v := .bool false) rfl (wo rfl) rfl rfl (p_assign rfl rfl) (nf rfl) ?_
  refine W.doneQ (y := sub [1] B15) rfl ?_
  refine C.seq (x := sub [1, 0] B15) (y := sub [1, 1] B15) ?_
  refine C.region (id := 1) (m := 2) (ops := opsOf (sub [1, 0] B15)) rfl ?_
  refine W.cP (E := []) (R := []) (caps := #[]) rfl (wo rfl) rfl rfl [] rfl rfl (cw14_15) rfl (en14 _) rfl rfl rfl (args_val rfl) ?_
  rintro ⟨b1, b2, b3, b4, b5⟩
  refine W.heapIs (H2 := [(some b1, .cells (#[.map (some b2), .int .u32 1, .int .i64 0, .map (some b3), .map (some b4), .map (some b5)]) 29 (0, 0)), (some b2, mobj .u32 []), (some b3, mobj .i64 []), (some b4, mobj .i64 []), (some b5, mobj .i64 [])]) rfl ?_
  refine W.pure (v := ptr b1 0) rfl (wo rfl) rfl rfl (p_assign rfl rfl) (nf rfl) ?_
  refine W.doneQ (y := sub [1, 1] B15) rfl ?_
  refine C.seq (x := sub [1, 1, 0] B15) (y := sub [1, 1, 1] B15) ?_
  refine C.seq (x := sub [1, 1, 0, 0] B15) (y := sub [1, 1, 0, 1] B15) ?_
  refine C.region (id := 2) (m := 2) (ops := opsOf (sub [1, 1, 0, 0] B15)) rfl ?_
  refine W.pure (v := ptr b1 0) rfl (wo rfl) rfl rfl (p_move rfl rfl) (nf rfl) ?_
  refine W.pure (v := .bool false) rfl (wo rfl) rfl rfl (p_bin (fun w => by kernel_rfl) (fun w => by kernel_rfl) rfl rfl rfl) (nf rfl) ?_
  refine W.doneQ (y := sub [1, 1, 0, 1] B15) rfl ?_
  refine C.cond_false (x := sub [1, 1, 0, 1, 0] B15) (y := sub [1, 1, 0, 1, 1] B15) rfl rfl ?_
  refine C.skipQ (y := sub [1, 1, 1] B15) rfl ?_
  refine C.seq (x := sub [1, 1, 1, 0] B15) (y := sub [1, 1, 1, 1] B15) ?_
  refine C.region (id := 4) (m := 3) (ops := opsOf (sub [1, 1, 1, 0] B15)) rfl ?_
  refine W.pure (v := .agg #[.int .i64 1, .int .i64 1, .int .i64 4, .int .i64 4]) rfl (wo rfl) rfl rfl (p_build (vs := [(0, .int .i64 1), (1, .int .i64 1), (2, .int .i64 4), (3, .int .i64 4)]) (fun w => by kernel_rfl) rfl rfl) (nf rfl) ?_
  refine W.new rfl (wo rfl) rfl rfl (f_alloc tz34 rfl) (nf rfl) ?_
  intro b6 _
  refine W.heapIs (H2 := [(some b6, .cells (#[.int .i64 0, .int .i64 0, .int .i64 0, .int .i64 0]) 34 (0, 0)), (some b1, .cells (#[.map (some b2), .int .u32 1, .int .i64 0, .map (some b3), .map (some b4), .map (some b5)]) 29 (0, 0)), (some b2, mobj .u32 []), (some b3, mobj .i64 []), (some b4, mobj .i64 []), (some b5, mobj .i64 [])]) rfl ?_
  refine W.put (H' := [(some b6, .cells (#[.int .i64 1, .int .i64 1, .int .i64 4, .int .i64 4]) 34 (0, 0)), (some b1, .cells (#[.map (some b2), .int .u32 1, .int .i64 0, .map (some b3), .map (some b4), .map (some b5)]) 29 (0, 0)), (some b2, mobj .u32 []), (some b3, mobj .i64 []), (some b4, mobj .i64 []), (some b5, mobj .i64 [])]) rfl (wo rfl) rfl (f_storeA (j := 0) (c2 := #[.int .i64 1, .int .i64 1, .int .i64 4, .int .i64 4]) ts34 rfl rfl rfl (one_all rfl) rfl rfl rfl) (nf rfl) ?_
  refine W.doneQ (y := sub [1, 1, 1, 1] B15) rfl ?_
  refine C.seq (x := sub [1, 1, 1, 1, 0] B15) (y := sub [1, 1, 1, 1, 1] B15) ?_
  refine C.region (id := 5) (m := 6) (ops := opsOf (sub [1, 1, 1, 1, 0] B15)) rfl ?_
  refine W.pure (v := ptr b1 0) rfl (wo rfl) rfl rfl (p_move rfl rfl) (nf rfl) ?_
  refine W.pure (v := .agg kc2) rfl (wo rfl) rfl rfl (p_build (vs := [(1, .int .i64 1), (4, .int .i64 1), (5, .int .i64 4)]) (fun w => by kernel_rfl) rfl rfl) (nf rfl) ?_
  refine W.pure (v := .agg #[.int .u64 0, .int .i64 0, .int .u32 1, .slice none 0 0]) rfl (wo rfl) rfl rfl (p_build (vs := [(2, .int .u32 1)]) (fun w => by kernel_rfl) rfl rfl) (nf rfl) ?_
  refine W.quiet (v := .agg #[.int .i64 1, .int .i64 1, .int .i64 4, .int .i64 4]) rfl (wo rfl) rfl rfl (f_loadA (j := 0) ta34 ts34 rfl rfl rfl rfl) (nf rfl) ?_
  refine W.cP (E := [(some b1, .cells (#[.map (some b2), .int .u32 1, .int .i64 0, .map (some b3), .map (some b4), .map (some b5)]) 29 (0, 0)), (some b2, mobj .u32 []), (some b3, mobj .i64 []), (some b4, mobj .i64 []), (some b5, mobj .i64 [])]) (R := [(some b6, .cells (#[.int .i64 1, .int .i64 1, .int .i64 4, .int .i64 4]) 34 (0, 0))]) (caps := #[]) rfl (wo rfl) rfl rfl [1, 2, 3, 4, 5, 0] rfl rfl (cw7_19 b1 b2 b3 b4 b5) rfl (en7 _) rfl rfl rfl (args_val rfl) ?_
  intro _
  refine W.heapIs (H2 := [(some b1, .cells (#[.map (some b2), .int .u32 2, .int .i64 1, .map (some b3), .map (some b4), .map (some b5)]) 29 (0, 0)), (some b2, mobj .u32 [(1, .agg #[.int .i64 1, .int .i64 1, .int .i64 4, .int .i64 4, .int .i64 1])]), (some b3, mobj .i64 []), (some b4, mobj .i64 []), (some b5, mobj .i64 []), (some b6, .cells (#[.int .i64 1, .int .i64 1, .int .i64 4, .int .i64 4]) 34 (0, 0))]) rfl ?_
  refine W.pure (v := .int .i64 0) rfl (wo rfl) rfl rfl (p_assign rfl rfl) (nf rfl) ?_
  refine W.doneQ (y := sub [1, 1, 1, 1, 1] B15) rfl ?_
  refine C.seq (x := sub [1, 1, 1, 1, 1, 0] B15) (y := sub [1, 1, 1, 1, 1, 1] B15) ?_
  refine C.region (id := 6) (m := 23) (ops := opsOf (sub [1, 1, 1, 1, 1, 0] B15)) rfl ?_
  refine W.pure (v := .int .i64 0) rfl (wo rfl) rfl rfl (p_move rfl rfl) (nf rfl) ?_
  refine W.cP (E := []) (R := [(some b1, .cells (#[.map (some b2), .int .u32 2, .int .i64 1, .map (some b3), .map (some b4), .map (some b5)]) 29 (0, 0)), (some b2, mobj .u32 [(1, .agg #[.int .i64 1, .int .i64 1, .int .i64 4, .int .i64 4, .int .i64 1])]), (some b3, mobj .i64 []), (some b4, mobj .i64 []), (some b5, mobj .i64 []), (some b6, .cells (#[.int .i64 1, .int .i64 1, .int .i64 4, .int .i64 4]) 34 (0, 0))]) (caps := #[]) rfl (wo rfl) rfl rfl [0, 1, 2, 3, 4, 5] rfl rfl (cw6_45) rfl (en6 _) rfl rfl rfl (args_val rfl) ?_
  intro _
  refine W.heapIs (H2 := [(some b1, .cells (#[.map (some b2), .int .u32 2, .int .i64 1, .map (some b3), .map (some b4), .map (some b5)]) 29 (0, 0)), (some b2, mobj .u32 [(1, .agg #[.int .i64 1, .int .i64 1, .int .i64 4, .int .i64 4, .int .i64 1])]), (some b3, mobj .i64 []), (some b4, mobj .i64 []), (some b5, mobj .i64 []), (some b6, .cells (#[.int .i64 1, .int .i64 1, .int .i64 4, .int .i64 4]) 34 (0, 0))]) rfl ?_
  refine W.pure (v := .bool true) rfl (wo rfl) rfl rfl (p_bin (fun w => by kernel_rfl) (fun w => by kernel_rfl) rfl rfl rfl) (nf rfl) ?_
  refine W.pure (v := .bool true) rfl (wo rfl) rfl rfl (p_move rfl rfl) (nf rfl) ?_
  refine W.pure (v := ptr b1 0) rfl (wo rfl) rfl rfl (p_move rfl rfl) (nf rfl) ?_
  refine W.pure (v := .agg kc9) rfl (wo rfl) rfl rfl (p_build (vs := [(1, .int .i64 9), (2, .int .u32 1)]) (fun w => by kernel_rfl) rfl rfl) (nf rfl) ?_
  refine W.new rfl (wo rfl) rfl rfl (f_make (n := 32) elem47 (by decide) (by decide) rfl rfl rfl) (nf rfl) ?_
  intro b7 _
  refine W.heapIs (H2 := [(some b7, .cells kc7 5 (0, 0)), (some b1, .cells (#[.map (some b2), .int .u32 2, .int .i64 1, .map (some b3), .map (some b4), .map (some b5)]) 29 (0, 0)), (some b2, mobj .u32 [(1, .agg #[.int .i64 1, .int .i64 1, .int .i64 4, .int .i64 4, .int .i64 1])]), (some b3, mobj .i64 []), (some b4, mobj .i64 []), (some b5, mobj .i64 []), (some b6, .cells (#[.int .i64 1, .int .i64 1, .int .i64 4, .int .i64 4]) 34 (0, 0))]) rfl ?_
  refine W.new rfl (wo rfl) rfl rfl (f_buildS (n := 1) (cells := #[.slice (some ⟨b7, 0, none⟩) 32 32]) (vs := [(0, .slice (some ⟨b7, 0, none⟩) 32 32)]) elem50 (by decide) (by decide) (by kernel_rfl) rfl (args_val2 rfl)) (nf rfl) ?_
  intro b8 _
  refine W.heapIs (H2 := [(some b8, .cells (#[.slice (some ⟨b7, 0, none⟩) 32 32]) 47 (0, 0)), (some b7, .cells kc7 5 (0, 0)), (some b1, .cells (#[.map (some b2), .int .u32 2, .int .i64 1, .map (some b3), .map (some b4), .map (some b5)]) 29 (0, 0)), (some b2, mobj .u32 [(1, .agg #[.int .i64 1, .int .i64 1, .int .i64 4, .int .i64 4, .int .i64 1])]), (some b3, mobj .i64 []), (some b4, mobj .i64 []), (some b5, mobj .i64 []), (some b6, .cells (#[.int .i64 1, .int .i64 1, .int .i64 4, .int .i64 4]) 34 (0, 0))]) rfl ?_
  refine W.pure (v := .agg #[.int .u64 0, .int .i64 0, .int .u32 0, .slice (some ⟨b8, 0, none⟩) 1 1]) rfl (wo rfl) rfl rfl (p_build (vs := [(3, .slice (some ⟨b8, 0, none⟩) 1 1)]) (fun w => by kernel_rfl) rfl rfl) (nf rfl) ?_
  refine W.pure (v := .agg #[.int .i64 0, .int .i64 0, .int .i64 0, .int .i64 0]) rfl (wo rfl) rfl rfl (p_build (vs := []) (fun w => by kernel_rfl) rfl rfl) (nf rfl) ?_
  refine W.cP (E := [(some b1, .cells (#[.map (some b2), .int .u32 2, .int .i64 1, .map (some b3), .map (some b4), .map (some b5)]) 29 (0, 0)), (some b2, mobj .u32 [(1, .agg #[.int .i64 1, .int .i64 1, .int .i64 4, .int .i64 4, .int .i64 1])]), (some b3, mobj .i64 []), (some b4, mobj .i64 []), (some b5, mobj .i64 []), (some b8, .cells (#[.slice (some ⟨b7, 0, none⟩) 32 32]) 47 (0, 0)), (some b7, .cells kc7 5 (0, 0))]) (R := [(some b6, .cells (#[.int .i64 1, .int .i64 1, .int .i64 4, .int .i64 4]) 34 (0, 0))]) (caps := #[]) rfl (wo rfl) rfl rfl [2, 3, 4, 5, 6, 0, 1, 7] rfl rfl (cw8_46 b1 b2 b3 b4 b5 b8 b7) rfl (en8 _) rfl rfl rfl (args_val rfl) ?_
  intro _
  refine W.heapIs (H2 := [(some b1, .cells (#[.map (some b2), .int .u32 2, .int .i64 1, .map (some b3), .map (some b4), .map (some b5)]) 29 (0, 0)), (some b2, mobj .u32 [(1, .agg #[.int .i64 1, .int .i64 1, .int .i64 4, .int .i64 4, .int .i64 1])]), (some b3, mobj .i64 []), (some b4, mobj .i64 []), (some b5, mobj .i64 []), (some b8, .cells (#[.slice (some ⟨b7, 0, none⟩) 32 32]) 47 (0, 0)), (some b7, .cells kc7 5 (0, 0)), (some b6, .cells (#[.int .i64 1, .int .i64 1, .int .i64 4, .int .i64 4]) 34 (0, 0))]) rfl ?_
  refine W.pure (v := .bool true) rfl (wo rfl) rfl rfl (p_not (p := false) rfl rfl) (nf rfl) ?_
  refine W.pure (v := .bool true) rfl (wo rfl) rfl rfl (p_pick_true rfl rfl rfl) (nf rfl) ?_
  refine W.pure (v := .bool true) rfl (wo rfl) rfl rfl (p_move rfl rfl) (nf rfl) ?_
  refine W.pure (v := ptr b1 0) rfl (wo rfl) rfl rfl (p_move rfl rfl) (nf rfl) ?_
  refine W.cP (E := [(some b1, .cells (#[.map (some b2), .int .u32 2, .int .i64 1, .map (some b3), .map (some b4), .map (some b5)]) 29 (0, 0)), (some b2, mobj .u32 [(1, .agg #[.int .i64 1, .int .i64 1, .int .i64 4, .int .i64 4, .int .i64 1])]), (some b3, mobj .i64 []), (some b4, mobj .i64 []), (some b5, mobj .i64 [])]) (R := [(some b8, .cells (#[.slice (some ⟨b7, 0, none⟩) 32 32]) 47 (0, 0)), (some b7, .cells kc7 5 (0, 0)), (some b6, .cells (#[.int .i64 1, .int .i64 1, .int .i64 4, .int .i64 4]) 34 (0, 0))]) (caps := #[]) rfl (wo rfl) rfl rfl [0, 1, 2, 3, 4, 5, 6, 7] rfl rfl (cw9_65 b1 b2 b3 b4 b5) rfl (en9 _) rfl rfl rfl (args_val rfl) ?_
  intro _
  refine W.heapIs (H2 := [(some b1, .cells (#[.map (some b2), .int .u32 2, .int .i64 1, .map (some b3), .map (some b4), .map (some b5)]) 29 (0, 0)), (some b2, mobj .u32 [(1, .agg #[.int .i64 1, .int .i64 1, .int .i64 4, .int .i64 4, .int .i64 1])]), (some b3, mobj .i64 []), (some b4, mobj .i64 []), (some b5, mobj .i64 []), (some b8, .cells (#[.slice (some ⟨b7, 0, none⟩) 32 32]) 47 (0, 0)), (some b7, .cells kc7 5 (0, 0)), (some b6, .cells (#[.int .i64 1, .int .i64 1, .int .i64 4, .int .i64 4]) 34 (0, 0))]) rfl ?_
  refine W.pure (v := .bool true) rfl (wo rfl) rfl rfl (p_bin (fun w => by kernel_rfl) (fun w => by kernel_rfl) rfl rfl rfl) (nf rfl) ?_
  refine W.pure (v := .bool true) rfl (wo rfl) rfl rfl (p_pick_true rfl rfl rfl) (nf rfl) ?_
  refine W.pure (v := .bool true) rfl (wo rfl) rfl rfl (p_move rfl rfl) (nf rfl) ?_
  refine W.pure (v := ptr b1 0) rfl (wo rfl) rfl rfl (p_move rfl rfl) (nf rfl) ?_
  refine W.cP (E := [(some b1, .cells (#[.map (some b2), .int .u32 2, .int .i64 1, .map (some b3), .map (some b4), .map (some b5)]) 29 (0, 0)), (some b2, mobj .u32 [(1, .agg #[.int .i64 1, .int .i64 1, .int .i64 4, .int .i64 4, .int .i64 1])]), (some b3, mobj .i64 []), (some b4, mobj .i64 []), (some b5, mobj .i64 [])]) (R := [(some b8, .cells (#[.slice (some ⟨b7, 0, none⟩) 32 32]) 47 (0, 0)), (some b7, .cells kc7 5 (0, 0)), (some b6, .cells (#[.int .i64 1, .int .i64 1, .int .i64 4, .int .i64 4]) 34 (0, 0))]) (caps := #[]) rfl (wo rfl) rfl rfl [0, 1, 2, 3, 4, 5, 6, 7] rfl rfl (cw10_66 b1 b2 b3 b4 b5) rfl (en10 _) rfl rfl rfl (args_val rfl) ?_
  intro _
  refine W.heapIs (H2 := [(some b1, .cells (#[.map (some b2), .int .u32 2, .int .i64 1, .map (some b3), .map (some b4), .map (some b5)]) 29 (0, 0)), (some b2, mobj .u32 [(1, .agg #[.int .i64 1, .int .i64 1, .int .i64 4, .int .i64 4, .int .i64 1])]), (some b3, mobj .i64 []), (some b4, mobj .i64 []), (some b5, mobj .i64 []), (some b8, .cells (#[.slice (some ⟨b7, 0, none⟩) 32 32]) 47 (0, 0)), (some b7, .cells kc7 5 (0, 0)), (some b6, .cells (#[.int .i64 1, .int .i64 1, .int .i64 4, .int .i64 4]) 34 (0, 0))]) rfl ?_
  refine W.pure (v := .bool true) rfl (wo rfl) rfl rfl (p_pick_true rfl rfl rfl) (nf rfl) ?_
  refine W.pure (v := .bool true) rfl (wo rfl) rfl rfl (p_assign rfl rfl) (nf rfl) ?_
  refine W.doneQ (y := sub [1, 1, 1, 1, 1, 1] B15) rfl ?_
  exact C.ret (R := fun e w' => ∃ _x : Unit, e = .returned (.bool true) ∧ Cls w0 I' [] w') (rs := [.tmp 0]) (vs := [.bool true]) rfl Tryd.func15 rfl rfl rfl (res_cons (ResV.tmp rfl) res_nil) fun w1 hc1 => ⟨(), rfl, hc1.pick [] (by decide)⟩
theorem en15 (args : Array Value) (w : World) : (callFunc 15 args).run Tryd.prog w = .ok (.enter 15 args) w := by kernel_rfl
end Go.Proofs.YtfcedjmgddloiaaDoor
