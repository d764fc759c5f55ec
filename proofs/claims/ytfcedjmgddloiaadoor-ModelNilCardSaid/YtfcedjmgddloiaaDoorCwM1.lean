import Derived.Test.YtfcedjmgddloiaaDoorCwD
namespace Go.Proofs.YtfcedjmgddloiaaDoor
open Go Go.HW Go.RowKit
set_option linter.unusedVariables false
set_option linter.unusedSimpArgs false
set_option maxRecDepth 20000

noncomputable def B3 : Code := bodyOf Tryd.f3
noncomputable def B4 : Code := bodyOf Tryd.f4
theorem tz34 (w : World) : (zeroValue 34).run Tryd.prog w = .ok (.agg #[.int .i64 0, .int .i64 0, .int .i64 0, .int .i64 0]) w := by kernel_rfl
noncomputable def B16 : Code := bodyOf Tryd.f16
set_option maxHeartbeats 20000000 in
theorem cw16_3 {I : Mem} : Turn I 16 #[.pointer none] [] (fun _ : Unit => .bool false) (fun _ => []) := fun I' he w0 w hc => by
  refine calls_of_CW (N := 12) Tryd.func16 (show _ = some B16 by kernel_rfl) (by kernel_rfl) rfl (S := [(0, .pointer none)]) (by simp) hc ?_
  show CW _ _ _ (sub [] B16) _ _ _
  refine C.seq (x := sub [0] B16) (y := sub [1] B16) ?_
  refine C.region (id := 0) (m := 1) (ops := opsOf (sub [0] B16)) rfl ?_
  refine W.pure (v := .bool false) rfl (wo rfl) rfl rfl (p_assign rfl rfl) (nf rfl) ?_
  refine W.doneQ (y := sub [1] B16) rfl ?_
  refine C.seq (x := sub [1, 0] B16) (y := sub [1, 1] B16) ?_
  refine C.region (id := 1) (m := 10) (ops := opsOf (sub [1, 0] B16)) rfl ?_
  refine W.pure (v := .pointer none) rfl (wo rfl) rfl rfl (p_move rfl rfl) (nf rfl) ?_
  refine W.pure (v := .bool false) rfl (wo rfl) rfl rfl (p_bin (fun w => by kernel_rfl) (fun w => by kernel_rfl) rfl rfl rfl) (nf rfl) ?_
  refine W.pure (v := .bool false) rfl (wo rfl) rfl rfl (p_move rfl rfl) (nf rfl) ?_
  refine W.not rfl (wo rfl) rfl rfl ?_
  refine W.not rfl (wo rfl) rfl rfl ?_
  refine W.not rfl (wo rfl) rfl rfl ?_
  refine W.not rfl (wo rfl) rfl rfl ?_
  refine W.not rfl (wo rfl) rfl rfl ?_
  refine W.pure (v := .bool false) rfl (wo rfl) rfl rfl (p_pick_false rfl rfl rfl) (nf rfl) ?_
  refine W.pure (v := .bool false) rfl (wo rfl) rfl rfl (p_assign rfl rfl) (nf rfl) ?_
  refine W.doneQ (y := sub [1, 1] B16) rfl ?_
  exact C.ret (R := fun e w' => ∃ _x : Unit, e = .returned (.bool false) ∧ Cls w0 I' [] w') (rs := [.tmp 2]) (vs := [.bool false]) rfl Tryd.func16 rfl rfl rfl (res_cons (ResV.tmp rfl) res_nil) fun w1 hc1 => ⟨(), rfl, hc1.pick [] (by decide)⟩
theorem en16 (args : Array Value) (w : World) : (callFunc 16 args).run Tryd.prog w = .ok (.enter 16 args) w := by kernel_rfl
theorem ts34 (w : World) : (sizeOf 34).run Tryd.prog w = .ok 4 w := by kernel_rfl
theorem ta34 (w : World) : (isAgg 34).run Tryd.prog w = .ok true w := by kernel_rfl
set_option maxHeartbeats 20000000 in
theorem cw4_2 {I : Mem} : Turn I 4 #[.pointer none, .int .u32 1] [] (fun _ : Unit => .tuple #[.agg #[.int .i64 0, .int .i64 0, .int .i64 0, .int .i64 0], .bool false]) (fun _ => []) := fun I' he w0 w hc => by
  refine calls_of_CW (N := 24) Tryd.func4 (show _ = some B4 by kernel_rfl) (by kernel_rfl) rfl (S := [(0, .pointer none), (1, .int .u32 1)]) (by simp) hc ?_
  show CW _ _ _ (sub [] B4) _ _ _
  refine C.seq (x := sub [0] B4) (y := sub [1] B4) ?_
  refine C.region (id := 0) (m := 2) (ops := opsOf (sub [0] B4)) rfl ?_
  refine W.new rfl (wo rfl) rfl rfl (f_alloc tz34 rfl) (nf rfl) ?_
  intro b1 _
  refine W.heapIs (H2 := [(some b1, .cells (#[.int .i64 0, .int .i64 0, .int .i64 0, .int .i64 0]) 34 (0, 0))]) rfl ?_
  refine W.pure (v := .bool false) rfl (wo rfl) rfl rfl (p_assign rfl rfl) (nf rfl) ?_
  refine W.doneQ (y := sub [1] B4) rfl ?_
  refine C.seq (x := sub [1, 0] B4) (y := sub [1, 1] B4) ?_
  refine C.seq (x := sub [1, 0, 0] B4) (y := sub [1, 0, 1] B4) ?_
  refine C.region (id := 1) (m := 3) (ops := opsOf (sub [1, 0, 0] B4)) rfl ?_
  refine W.pure (v := .pointer none) rfl (wo rfl) rfl rfl (p_move rfl rfl) (nf rfl) ?_
  refine W.cP (E := []) (R := [(some b1, .cells (#[.int .i64 0, .int .i64 0, .int .i64 0, .int .i64 0]) 34 (0, 0))]) (caps := #[]) rfl (wo rfl) rfl rfl [0] rfl rfl (cw16_3) rfl (en16 _) rfl rfl rfl (args_val rfl) ?_
  intro _
  refine W.heapIs (H2 := [(some b1, .cells (#[.int .i64 0, .int .i64 0, .int .i64 0, .int .i64 0]) 34 (0, 0))]) rfl ?_
  refine W.pure (v := .bool true) rfl (wo rfl) rfl rfl (p_not (p := false) rfl rfl) (nf rfl) ?_
  refine W.doneQ (y := sub [1, 0, 1] B4) rfl ?_
  refine C.cond_true (x := sub [1, 0, 1, 0] B4) (y := sub [1, 0, 1, 1] B4) rfl rfl ?_
  refine C.seq (x := sub [1, 0, 1, 0, 0] B4) (y := sub [1, 0, 1, 0, 1] B4) ?_
  refine C.region (id := 2) (m := 3) (ops := opsOf (sub [1, 0, 1, 0, 0] B4)) rfl ?_
  refine W.pure (v := .agg #[.int .i64 0, .int .i64 0, .int .i64 0, .int .i64 0]) rfl (wo rfl) rfl rfl (p_build (vs := []) (fun w => by kernel_rfl) rfl rfl) (nf rfl) ?_
  refine W.put (H' := [(some b1, .cells (#[.int .i64 0, .int .i64 0, .int .i64 0, .int .i64 0]) 34 (0, 0))]) rfl (wo rfl) rfl (f_storeA (j := 0) (c2 := #[.int .i64 0, .int .i64 0, .int .i64 0, .int .i64 0]) ts34 rfl rfl rfl (one_all rfl) rfl rfl rfl) (nf rfl) ?_
  refine W.pure (v := .bool false) rfl (wo rfl) rfl rfl (p_assign rfl rfl) (nf rfl) ?_
  refine W.doneQ (y := sub [1, 0, 1, 0, 1] B4) rfl ?_
  exact C.ret (R := fun e w' => ∃ _x : Unit, e = .returned (.tuple #[.agg #[.int .i64 0, .int .i64 0, .int .i64 0, .int .i64 0], .bool false]) ∧ Cls w0 I' [] w') (rs := [.cell 4 34, .tmp 5]) (vs := [.agg #[.int .i64 0, .int .i64 0, .int .i64 0, .int .i64 0], .bool false]) rfl Tryd.func4 rfl rfl rfl (res_cons (ResV.cell (j := 0) ta34 ts34 rfl rfl rfl) (res_cons (ResV.tmp rfl) res_nil)) fun w1 hc1 => ⟨(), rfl, hc1.pick [] (by decide)⟩
theorem en4 (args : Array Value) (w : World) : (callFunc 4 args).run Tryd.prog w = .ok (.enter 4 args) w := by kernel_rfl
theorem tz3 (w : World) : (zeroValue 3).run Tryd.prog w = .ok (.int .i64 0) w := by kernel_rfl
theorem ts3 (w : World) : (sizeOf 3).run Tryd.prog w = .ok 1 w := by kernel_rfl
noncomputable def B5 : Code := bodyOf Tryd.f5
theorem tz63 (w : World) : (zeroValue 63).run Tryd.prog w = .ok (.slice none 0 0) w := by kernel_rfl
theorem tz64 (w : World) : (zeroValue 64).run Tryd.prog w = .ok (.slice none 0 0) w := by kernel_rfl
theorem tf29_0 (a : Addr) (w : World) : (Instr.fieldAt 29 (.pointer (some a)) 0).run Tryd.prog w = .ok (.pointer (some (a.add 0))) w := by kernel_rfl
theorem ta23 (w : World) : (isAgg 23).run Tryd.prog w = .ok false w := by kernel_rfl
set_option maxHeartbeats 20000000 in
theorem cw16_5 (p1 : Nat) {I : Mem} : Turn I 16 #[ptr p1 0] [(some p1, .cells (#[.map none, .int .u32 0, .int .i64 0, .map none, .map none, .map none]) 29 (0, 0))] (fun _ : Unit => .bool false) (fun _ => [(some p1, .cells (#[.map none, .int .u32 0, .int .i64 0, .map none, .map none, .map none]) 29 (0, 0))]) := fun I' he w0 w hc => by
  refine calls_of_CW (N := 12) Tryd.func16 (show _ = some B16 by kernel_rfl) (by kernel_rfl) rfl (S := [(0, ptr p1 0)]) (by simp) hc ?_
  show CW _ _ _ (sub [] B16) _ _ _
  refine C.seq (x := sub [0] B16) (y := sub [1] B16) ?_
  refine C.region (id := 0) (m := 1) (ops := opsOf (sub [0] B16)) rfl ?_
  refine W.pure (v := .bool false) rfl (wo rfl) rfl rfl (p_assign rfl rfl) (nf rfl) ?_
  refine W.doneQ (y := sub [1] B16) rfl ?_
  refine C.seq (x := sub [1, 0] B16) (y := sub [1, 1] B16) ?_
  refine C.region (id := 1) (m := 10) (ops := opsOf (sub [1, 0] B16)) rfl ?_
  refine W.pure (v := ptr p1 0) rfl (wo rfl) rfl rfl (p_move rfl rfl) (nf rfl) ?_
  refine W.pure (v := .bool true) rfl (wo rfl) rfl rfl (p_bin (fun w => by kernel_rfl) (fun w => by kernel_rfl) rfl rfl rfl) (nf rfl) ?_
  refine W.pure (v := .bool true) rfl (wo rfl) rfl rfl (p_move rfl rfl) (nf rfl) ?_
  refine W.pure (v := ptr p1 0) rfl (wo rfl) rfl rfl (p_move rfl rfl) (nf rfl) ?_
  refine W.pure (v := ptr p1 0) rfl (wo rfl) rfl rfl (p_nilCheck rfl rfl) (nf rfl) ?_
  refine W.pure (v := ptr p1 0) rfl (wo rfl) rfl rfl (p_fieldAddr tf29_0 rfl rfl) (nf rfl) ?_
  refine W.quiet (v := .map none) rfl (wo rfl) rfl rfl (f_load (j := 0) (off := 0) ta23 rfl rfl rfl rfl) (nf rfl) ?_
  refine W.pure (v := .bool false) rfl (wo rfl) rfl rfl (p_bin (fun w => by kernel_rfl) (fun w => by kernel_rfl) rfl rfl rfl) (nf rfl) ?_
  refine W.pure (v := .bool false) rfl (wo rfl) rfl rfl (p_pick_true rfl rfl rfl) (nf rfl) ?_
  refine W.pure (v := .bool false) rfl (wo rfl) rfl rfl (p_assign rfl rfl) (nf rfl) ?_
  refine W.doneQ (y := sub [1, 1] B16) rfl ?_
  exact C.ret (R := fun e w' => ∃ _x : Unit, e = .returned (.bool false) ∧ Cls w0 I' [(some p1, .cells (#[.map none, .int .u32 0, .int .i64 0, .map none, .map none, .map none]) 29 (0, 0))] w') (rs := [.tmp 2]) (vs := [.bool false]) rfl Tryd.func16 rfl rfl rfl (res_cons (ResV.tmp rfl) res_nil) fun w1 hc1 => ⟨(), rfl, hc1.pick [0] (by decide)⟩
theorem ta63 (w : World) : (isAgg 63).run Tryd.prog w = .ok false w := by kernel_rfl
theorem tu63 (w : World) : (underlying 63).run Tryd.prog w = .ok (.slice 24) w := by kernel_rfl
set_option maxHeartbeats 20000000 in
theorem cw5_4 (p1 : Nat) {I : Mem} : Turn I 5 #[ptr p1 0] [(some p1, .cells (#[.map none, .int .u32 0, .int .i64 0, .map none, .map none, .map none]) 29 (0, 0))] (fun x : Nat × Nat => .func (.func 19) #[] #[ptr (x.1) 0, ptr (x.2) 0]) (fun x => [(some (x.1), .cells (#[.slice none 0 0]) 63 (0, 0)), (some (x.2), .cells (#[.slice none 0 0]) 64 (0, 0)), (some p1, .cells (#[.map none, .int .u32 0, .int .i64 0, .map none, .map none, .map none]) 29 (0, 0))]) := fun I' he w0 w hc => by
  refine calls_of_CW (N := 33) Tryd.func5 (show _ = some B5 by kernel_rfl) (by kernel_rfl) rfl (S := [(0, ptr p1 0)]) (by simp) hc ?_
  show CW _ _ _ (sub [] B5) _ _ _
  refine C.seq (x := sub [0] B5) (y := sub [1] B5) ?_
  refine C.region (id := 0) (m := 1) (ops := opsOf (sub [0] B5)) rfl ?_
  refine W.pure (v := .nilFunc) rfl (wo rfl) rfl rfl (p_assign rfl rfl) (nf rfl) ?_
  refine W.doneQ (y := sub [1] B5) rfl ?_
  refine C.seq (x := sub [1, 0] B5) (y := sub [1, 1] B5) ?_
  refine C.region (id := 1) (m := 1) (ops := opsOf (sub [1, 0] B5)) rfl ?_
  refine W.new rfl (wo rfl) rfl rfl (f_alloc tz63 rfl) (nf rfl) ?_
  intro b1 _
  refine W.heapIs (H2 := [(some b1, .cells (#[.slice none 0 0]) 63 (0, 0)), (some p1, .cells (#[.map none, .int .u32 0, .int .i64 0, .map none, .map none, .map none]) 29 (0, 0))]) rfl ?_
  refine W.doneQ (y := sub [1, 1] B5) rfl ?_
  refine C.seq (x := sub [1, 1, 0] B5) (y := sub [1, 1, 1] B5) ?_
  refine C.region (id := 2) (m := 1) (ops := opsOf (sub [1, 1, 0] B5)) rfl ?_
  refine W.new rfl (wo rfl) rfl rfl (f_alloc tz64 rfl) (nf rfl) ?_
  intro b2 _
  refine W.heapIs (H2 := [(some b2, .cells (#[.slice none 0 0]) 64 (0, 0)), (some b1, .cells (#[.slice none 0 0]) 63 (0, 0)), (some p1, .cells (#[.map none, .int .u32 0, .int .i64 0, .map none, .map none, .map none]) 29 (0, 0))]) rfl ?_
  refine W.doneQ (y := sub [1, 1, 1] B5) rfl ?_
  refine C.seq (x := sub [1, 1, 1, 0] B5) (y := sub [1, 1, 1, 1] B5) ?_
  refine C.seq (x := sub [1, 1, 1, 0, 0] B5) (y := sub [1, 1, 1, 0, 1] B5) ?_
  refine C.region (id := 3) (m := 2) (ops := opsOf (sub [1, 1, 1, 0, 0] B5)) rfl ?_
  refine W.pure (v := ptr p1 0) rfl (wo rfl) rfl rfl (p_move rfl rfl) (nf rfl) ?_
  refine W.cP (E := [(some p1, .cells (#[.map none, .int .u32 0, .int .i64 0, .map none, .map none, .map none]) 29 (0, 0))]) (R := [(some b2, .cells (#[.slice none 0 0]) 64 (0, 0)), (some b1, .cells (#[.slice none 0 0]) 63 (0, 0))]) (caps := #[]) rfl (wo rfl) rfl rfl [2, 0, 1] rfl rfl (cw16_5 p1) rfl (en16 _) rfl rfl rfl (args_val rfl) ?_
  intro _
  refine W.heapIs (H2 := [(some p1, .cells (#[.map none, .int .u32 0, .int .i64 0, .map none, .map none, .map none]) 29 (0, 0)), (some b2, .cells (#[.slice none 0 0]) 64 (0, 0)), (some b1, .cells (#[.slice none 0 0]) 63 (0, 0))]) rfl ?_
  refine W.doneQ (y := sub [1, 1, 1, 0, 1] B5) rfl ?_
  refine C.cond_false (x := sub [1, 1, 1, 0, 1, 0] B5) (y := sub [1, 1, 1, 0, 1, 1] B5) rfl rfl ?_
  refine C.skipQ (y := sub [1, 1, 1, 1] B5) rfl ?_
  refine C.seq (x := sub [1, 1, 1, 1, 0] B5) (y := sub [1, 1, 1, 1, 1] B5) ?_
  refine C.seq (x := sub [1, 1, 1, 1, 0, 0] B5) (y := sub [1, 1, 1, 1, 0, 1] B5) ?_
  refine C.region (id := 5) (m := 3) (ops := opsOf (sub [1, 1, 1, 1, 0, 0] B5)) rfl ?_
  refine W.quiet (v := .slice none 0 0) rfl (wo rfl) rfl rfl (f_load (j := 2) (off := 0) ta63 rfl rfl rfl rfl) (nf rfl) ?_
  refine W.pure (v := .int .i64 0) rfl (wo rfl) rfl rfl (p_slLen tu63 ⟨_, _, rfl⟩ rfl rfl) (nf rfl) ?_
  refine W.pure (v := .int .i64 0) rfl (wo rfl) rfl rfl (p_move rfl rfl) (nf rfl) ?_
  refine W.doneQ (y := sub [1, 1, 1, 1, 0, 1] B5) rfl ?_
  refine C.loopB (id := 0) (c := sub [1, 1, 1, 1, 0, 1, 0, 0] B5) (y := sub [1, 1, 1, 1, 1] B5) (fun q : Nat => 0 - q) (fun _ : Nat => [(0, ptr p1 0), (3, ptr b1 0), (4, ptr b2 0), (7, ptr p1 0), (8, .bool false), (15, .slice none 0 0), (16, .int .i64 0), (17, .int .i64 0)]) (fun _ : Nat => [(some p1, .cells (#[.map none, .int .u32 0, .int .i64 0, .map none, .map none, .map none]) 29 (0, 0)), (some b2, .cells (#[.slice none 0 0]) 64 (0, 0)), (some b1, .cells (#[.slice none 0 0]) 63 (0, 0))]) (fun q => q ≤ 0) 0 (Nat.zero_le _) (Sub.cons rfl (Sub.cons rfl (Sub.cons rfl (Sub.cons rfl (Sub.cons rfl (Sub.cons rfl (Sub.cons rfl (Sub.cons rfl (Sub.nil _))))))))) rfl rfl (fun q => q = 0) ?_ ?_
  · intro q hq Q' hN hE hR
    have hq2 : q = 0 := by omega
    subst hq2
    · show CW _ _ _ _ _ [(0, ptr p1 0), (3, ptr b1 0), (4, ptr b2 0), (7, ptr p1 0), (8, .bool false), (15, .slice none 0 0), (16, .int .i64 0), (17, .int .i64 0)] ([(some p1, .cells (#[.map none, .int .u32 0, .int .i64 0, .map none, .map none, .map none]) 29 (0, 0)), (some b2, .cells (#[.slice none 0 0]) 64 (0, 0)), (some b1, .cells (#[.slice none 0 0]) 63 (0, 0))])
      refine C.seq (x := sub [1, 1, 1, 1, 0, 1, 0, 0, 0] B5) (y := sub [1, 1, 1, 1, 0, 1, 0, 0, 1] B5) ?_
      refine C.region (id := 6) (m := 1) (ops := opsOf (sub [1, 1, 1, 1, 0, 1, 0, 0, 0] B5)) rfl ?_
      refine W.pure (v := .bool false) rfl (wo rfl) rfl rfl (p_bin (fun w => by kernel_rfl) (fun w => by kernel_rfl) rfl rfl rfl) (nf rfl) ?_
      refine W.doneQ (y := sub [1, 1, 1, 1, 0, 1, 0, 0, 1] B5) rfl ?_
      refine C.seq (x := sub [1, 1, 1, 1, 0, 1, 0, 0, 1, 0] B5) (y := sub [1, 1, 1, 1, 0, 1, 0, 0, 1, 1] B5) ?_
      refine C.cond_false (x := sub [1, 1, 1, 1, 0, 1, 0, 0, 1, 0, 0] B5) (y := sub [1, 1, 1, 1, 0, 1, 0, 0, 1, 0, 1] B5) rfl rfl ?_
      exact C.exit fun a1 w1 ha1 hc1 => hE rfl a1 w1 (ha1.sub (Sub.cons rfl (Sub.cons rfl (Sub.cons rfl (Sub.cons rfl (Sub.cons rfl (Sub.cons rfl (Sub.cons rfl (Sub.cons rfl (Sub.nil _)))))))))) hc1
  intro q hq hqe
  subst hqe
  show CW _ _ _ _ _ [(0, ptr p1 0), (3, ptr b1 0), (4, ptr b2 0), (7, ptr p1 0), (8, .bool false), (15, .slice none 0 0), (16, .int .i64 0), (17, .int .i64 0)] ([(some p1, .cells (#[.map none, .int .u32 0, .int .i64 0, .map none, .map none, .map none]) 29 (0, 0)), (some b2, .cells (#[.slice none 0 0]) 64 (0, 0)), (some b1, .cells (#[.slice none 0 0]) 63 (0, 0))])
  refine C.seq (x := sub [1, 1, 1, 1, 1, 0] B5) (y := sub [1, 1, 1, 1, 1, 1] B5) ?_
  refine C.region (id := 10) (m := 2) (ops := opsOf (sub [1, 1, 1, 1, 1, 0] B5)) rfl ?_
  refine W.pure (v := .func (.func 19) #[] #[ptr b1 0, ptr b2 0]) rfl (wo rfl) rfl rfl (p_makeFunc rfl (args_val rfl)) (nf rfl) ?_
  refine W.pure (v := .func (.func 19) #[] #[ptr b1 0, ptr b2 0]) rfl (wo rfl) rfl rfl (p_assign rfl rfl) (nf rfl) ?_
  refine W.doneQ (y := sub [1, 1, 1, 1, 1, 1] B5) rfl ?_
  exact C.ret (R := fun e w' => ∃ x : Nat × Nat, e = .returned (.func (.func 19) #[] #[ptr (x.1) 0, ptr (x.2) 0]) ∧ Cls w0 I' [(some (x.1), .cells (#[.slice none 0 0]) 63 (0, 0)), (some (x.2), .cells (#[.slice none 0 0]) 64 (0, 0)), (some p1, .cells (#[.map none, .int .u32 0, .int .i64 0, .map none, .map none, .map none]) 29 (0, 0))] w') (rs := [.tmp 2]) (vs := [.func (.func 19) #[] #[ptr b1 0, ptr b2 0]]) rfl Tryd.func5 rfl rfl rfl (res_cons (ResV.tmp rfl) res_nil) fun w1 hc1 => ⟨(b1, b2), rfl, hc1.pick [2, 1, 0] (by decide)⟩
theorem en5 (args : Array Value) (w : World) : (callFunc 5 args).run Tryd.prog w = .ok (.enter 5 args) w := by kernel_rfl
noncomputable def B19 : Code := bodyOf Tryd.f19
set_option maxHeartbeats 20000000 in
theorem cw19_6 (ly p1 p2 : Nat) {I : Mem} : Turn I 19 #[.func (.yield ly) #[] #[], ptr p1 0, ptr p2 0] [(some p1, .cells (#[.slice none 0 0]) 63 (0, 0)), (some p2, .cells (#[.slice none 0 0]) 64 (0, 0))] (fun _ : Unit => .tuple #[]) (fun _ => [(some p1, .cells (#[.slice none 0 0]) 63 (0, 0)), (some p2, .cells (#[.slice none 0 0]) 64 (0, 0))]) := fun I' he w0 w hc => by
  refine calls_of_CW (N := 22) Tryd.func19 (show _ = some B19 by kernel_rfl) (by kernel_rfl) rfl (S := [(0, .func (.yield ly) #[] #[]), (1, ptr p1 0), (2, ptr p2 0)]) (by simp) hc ?_
  show CW _ _ _ (sub [] B19) _ _ _
  refine C.seq (x := sub [0] B19) (y := sub [1] B19) ?_
  refine C.region (id := 0) (m := 3) (ops := opsOf (sub [0] B19)) rfl ?_
  refine W.quiet (v := .slice none 0 0) rfl (wo rfl) rfl rfl (f_load (j := 0) (off := 0) ta63 rfl rfl rfl rfl) (nf rfl) ?_
  refine W.pure (v := .int .i64 0) rfl (wo rfl) rfl rfl (p_slLen tu63 ⟨_, _, rfl⟩ rfl rfl) (nf rfl) ?_
  refine W.pure (v := .int .i64 0) rfl (wo rfl) rfl rfl (p_move rfl rfl) (nf rfl) ?_
  refine W.doneQ (y := sub [1] B19) rfl ?_
  refine C.loopE (id := 0) (c := sub [1, 0, 0] B19) (fun q : Nat => 0 - q) (fun _ : Nat => [(0, .func (.yield ly) #[] #[]), (1, ptr p1 0), (2, ptr p2 0), (6, .slice none 0 0), (7, .int .i64 0), (8, .int .i64 0)]) (fun _ : Nat => [(some p1, .cells (#[.slice none 0 0]) 63 (0, 0)), (some p2, .cells (#[.slice none 0 0]) 64 (0, 0))]) (fun q => q ≤ 0) 0 (Nat.zero_le _) (Sub.cons rfl (Sub.cons rfl (Sub.cons rfl (Sub.cons rfl (Sub.cons rfl (Sub.cons rfl (Sub.nil _))))))) rfl (fun q => q = 0) ?_ ?_
  · intro q hq Q' hN hE hR
    have hq2 : q = 0 := by omega
    subst hq2
    · show CW _ _ _ _ _ [(0, .func (.yield ly) #[] #[]), (1, ptr p1 0), (2, ptr p2 0), (6, .slice none 0 0), (7, .int .i64 0), (8, .int .i64 0)] ([(some p1, .cells (#[.slice none 0 0]) 63 (0, 0)), (some p2, .cells (#[.slice none 0 0]) 64 (0, 0))])
      refine C.seq (x := sub [1, 0, 0, 0] B19) (y := sub [1, 0, 0, 1] B19) ?_
      refine C.region (id := 1) (m := 1) (ops := opsOf (sub [1, 0, 0, 0] B19)) rfl ?_
      refine W.pure (v := .bool false) rfl (wo rfl) rfl rfl (p_bin (fun w => by kernel_rfl) (fun w => by kernel_rfl) rfl rfl rfl) (nf rfl) ?_
      refine W.doneQ (y := sub [1, 0, 0, 1] B19) rfl ?_
      refine C.seq (x := sub [1, 0, 0, 1, 0] B19) (y := sub [1, 0, 0, 1, 1] B19) ?_
      refine C.cond_false (x := sub [1, 0, 0, 1, 0, 0] B19) (y := sub [1, 0, 0, 1, 0, 1] B19) rfl rfl ?_
      exact C.exit fun a1 w1 ha1 hc1 => hE rfl a1 w1 (ha1.sub (Sub.cons rfl (Sub.cons rfl (Sub.cons rfl (Sub.cons rfl (Sub.cons rfl (Sub.cons rfl (Sub.nil _)))))))) hc1
  intro q hq hqe
  subst hqe
  exact C.endQ (R := fun e w' => ∃ _x : Unit, e = .returned (.tuple #[]) ∧ Cls w0 I' [(some p1, .cells (#[.slice none 0 0]) 63 (0, 0)), (some p2, .cells (#[.slice none 0 0]) 64 (0, 0))] w') (rs := []) (vs := []) rfl Tryd.func19 rfl rfl rfl res_nil fun w1 hc1 => ⟨(), rfl, hc1.pick [0, 1] (by decide)⟩
theorem ea19 (args : Array Value) (w : World) : (callFunc 19 args).run Tryd.prog w = .ok (.enter 19 args) w := by kernel_rfl
theorem ta3 (w : World) : (isAgg 3).run Tryd.prog w = .ok false w := by kernel_rfl
def kc1 : Array Value := #[.int .u64 0, .int .i64 0, .int .u32 0, .int .u32 0, .int .i64 0, .int .i64 0, .int .u8 0, .int .u8 0, .int .u8 0, .int .u8 0, .int .u8 0, .int .u8 0, .int .u8 0, .int .u8 0, .int .u8 0, .int .u8 0, .int .u8 0, .int .u8 0, .int .u8 0, .int .u8 0, .int .u8 0, .int .u8 0, .int .u8 0, .int .u8 0, .int .u8 0, .int .u8 0, .int .u8 0, .int .u8 0, .int .u8 0, .int .u8 0, .int .u8 0, .int .u8 0, .int .u8 0, .int .u8 0, .int .u8 0, .int .u8 0, .int .u8 0, .int .u8 0, .slice none 0 0]
noncomputable def B7 : Code := bodyOf Tryd.f7
set_option maxHeartbeats 20000000 in
theorem cw7_7 {I : Mem} : Turn I 7 #[.pointer none, .agg kc1, .agg #[.int .u64 0, .int .i64 0, .int .u32 0, .slice none 0 0], .agg #[.int .i64 0, .int .i64 0, .int .i64 0, .int .i64 0]] [] (fun _ : Unit => .int .i64 1) (fun _ => []) := fun I' he w0 w hc => by
  refine calls_of_CW (N := 139) Tryd.func7 (show _ = some B7 by kernel_rfl) (by kernel_rfl) rfl (S := [(0, .pointer none), (1, .agg kc1), (2, .agg #[.int .u64 0, .int .i64 0, .int .u32 0, .slice none 0 0]), (3, .agg #[.int .i64 0, .int .i64 0, .int .i64 0, .int .i64 0])]) (by simp) hc ?_
  show CW _ _ _ (sub [] B7) _ _ _
  refine C.seq (x := sub [0] B7) (y := sub [1] B7) ?_
  refine C.region (id := 0) (m := 4) (ops := opsOf (sub [0] B7)) rfl ?_
  refine W.new rfl (wo rfl) rfl rfl (f_box (v := .agg kc1) rfl rfl) (nf rfl) ?_
  intro b1 _
  refine W.heapIs (H2 := [(some b1, .cells kc1 49 (0, 0))]) rfl ?_
  refine W.new rfl (wo rfl) rfl rfl (f_box (v := .agg #[.int .u64 0, .int .i64 0, .int .u32 0, .slice none 0 0]) rfl rfl) (nf rfl) ?_
  intro b2 _
  refine W.heapIs (H2 := [(some b2, .cells (#[.int .u64 0, .int .i64 0, .int .u32 0, .slice none 0 0]) 52 (0, 0)), (some b1, .cells kc1 49 (0, 0))]) rfl ?_
  refine W.new rfl (wo rfl) rfl rfl (f_box (v := .agg #[.int .i64 0, .int .i64 0, .int .i64 0, .int .i64 0]) rfl rfl) (nf rfl) ?_
  intro b3 _
  refine W.heapIs (H2 := [(some b3, .cells (#[.int .i64 0, .int .i64 0, .int .i64 0, .int .i64 0]) 34 (0, 0)), (some b2, .cells (#[.int .u64 0, .int .i64 0, .int .u32 0, .slice none 0 0]) 52 (0, 0)), (some b1, .cells kc1 49 (0, 0))]) rfl ?_
  refine W.pure (v := .int .i64 0) rfl (wo rfl) rfl rfl (p_assign rfl rfl) (nf rfl) ?_
  refine W.doneQ (y := sub [1] B7) rfl ?_
  refine C.seq (x := sub [1, 0] B7) (y := sub [1, 1] B7) ?_
  refine C.block (id := 0) (c := sub [1, 0, 0] B7) ?_
  refine C.seq (x := sub [1, 0, 0, 0] B7) (y := sub [1, 0, 0, 1] B7) ?_
  refine C.region (id := 1) (m := 4) (ops := opsOf (sub [1, 0, 0, 0] B7)) rfl ?_
  refine W.pure (v := .pointer none) rfl (wo rfl) rfl rfl (p_move rfl rfl) (nf rfl) ?_
  refine W.cP (E := []) (R := [(some b3, .cells (#[.int .i64 0, .int .i64 0, .int .i64 0, .int .i64 0]) 34 (0, 0)), (some b2, .cells (#[.int .u64 0, .int .i64 0, .int .u32 0, .slice none 0 0]) 52 (0, 0)), (some b1, .cells kc1 49 (0, 0))]) (caps := #[]) rfl (wo rfl) rfl rfl [0, 1, 2] rfl rfl (cw16_3) rfl (en16 _) rfl rfl rfl (args_val rfl) ?_
  intro _
  refine W.heapIs (H2 := [(some b3, .cells (#[.int .i64 0, .int .i64 0, .int .i64 0, .int .i64 0]) 34 (0, 0)), (some b2, .cells (#[.int .u64 0, .int .i64 0, .int .u32 0, .slice none 0 0]) 52 (0, 0)), (some b1, .cells kc1 49 (0, 0))]) rfl ?_
  refine W.pure (v := .bool true) rfl (wo rfl) rfl rfl (p_not (p := false) rfl rfl) (nf rfl) ?_
  refine W.pure (v := .bool true) rfl (wo rfl) rfl rfl (p_assign rfl rfl) (nf rfl) ?_
  refine W.doneQ (y := sub [1, 0, 0, 1] B7) rfl ?_
  refine C.cond_true (x := sub [1, 0, 0, 1, 0] B7) (y := sub [1, 0, 0, 1, 1] B7) rfl rfl ?_
  refine C.seq (x := sub [1, 0, 0, 1, 0, 0] B7) (y := sub [1, 0, 0, 1, 0, 1] B7) ?_
  refine C.region (id := 2) (m := 1) (ops := opsOf (sub [1, 0, 0, 1, 0, 0] B7)) rfl ?_
  refine W.pure (v := .int .i64 1) rfl (wo rfl) rfl rfl (p_assign rfl rfl) (nf rfl) ?_
  refine W.doneQ (y := sub [1, 0, 0, 1, 0, 1] B7) rfl ?_
  exact C.ret (R := fun e w' => ∃ _x : Unit, e = .returned (.int .i64 1) ∧ Cls w0 I' [] w') (rs := [.tmp 8]) (vs := [.int .i64 1]) rfl Tryd.func7 rfl rfl rfl (res_cons (ResV.tmp rfl) res_nil) fun w1 hc1 => ⟨(), rfl, hc1.pick [] (by decide)⟩
theorem en7 (args : Array Value) (w : World) : (callFunc 7 args).run Tryd.prog w = .ok (.enter 7 args) w := by kernel_rfl
noncomputable def B6 : Code := bodyOf Tryd.f6
set_option maxHeartbeats 20000000 in
theorem cw6_8 {I : Mem} : Turn I 6 #[.int .i64 1] [] (fun _ : Unit => .int .i64 1) (fun _ => []) := fun I' he w0 w hc => by
  refine calls_of_CW (N := 4) Tryd.func6 (show _ = some B6 by kernel_rfl) (by kernel_rfl) rfl (S := [(0, .int .i64 1)]) (by simp) hc ?_
  show CW _ _ _ (sub [] B6) _ _ _
  refine C.seq (x := sub [0] B6) (y := sub [1] B6) ?_
  refine C.region (id := 0) (m := 1) (ops := opsOf (sub [0] B6)) rfl ?_
  refine W.pure (v := .int .i64 0) rfl (wo rfl) rfl rfl (p_assign rfl rfl) (nf rfl) ?_
  refine W.doneQ (y := sub [1] B6) rfl ?_
  refine C.seq (x := sub [1, 0] B6) (y := sub [1, 1] B6) ?_
  refine C.region (id := 1) (m := 2) (ops := opsOf (sub [1, 0] B6)) rfl ?_
  refine W.pure (v := .int .i64 1) rfl (wo rfl) rfl rfl (p_move rfl rfl) (nf rfl) ?_
  refine W.pure (v := .int .i64 1) rfl (wo rfl) rfl rfl (p_assign rfl rfl) (nf rfl) ?_
  refine W.doneQ (y := sub [1, 1] B6) rfl ?_
  exact C.ret (R := fun e w' => ∃ _x : Unit, e = .returned (.int .i64 1) ∧ Cls w0 I' [] w') (rs := [.tmp 2]) (vs := [.int .i64 1]) rfl Tryd.func6 rfl rfl rfl (res_cons (ResV.tmp rfl) res_nil) fun w1 hc1 => ⟨(), rfl, hc1.pick [] (by decide)⟩
theorem en6 (args : Array Value) (w : World) : (callFunc 6 args).run Tryd.prog w = .ok (.enter 6 args) w := by kernel_rfl
noncomputable def B8 : Code := bodyOf Tryd.f8
set_option maxHeartbeats 20000000 in
theorem cw8_9 (p1 : Nat) {I : Mem} : Turn I 8 #[ptr p1 0, .agg kc1, .agg #[.int .u64 0, .int .i64 0, .int .u32 0, .slice none 0 0], .agg #[.int .i64 0, .int .i64 0, .int .i64 0, .int .i64 0]] [(some p1, .cells (#[.map none, .int .u32 0, .int .i64 0, .map none, .map none, .map none]) 29 (0, 0))] (fun _ : Unit => .bool false) (fun _ => [(some p1, .cells (#[.map none, .int .u32 0, .int .i64 0, .map none, .map none, .map none]) 29 (0, 0))]) := fun I' he w0 w hc => by
  refine calls_of_CW (N := 158) Tryd.func8 (show _ = some B8 by kernel_rfl) (by kernel_rfl) rfl (S := [(0, ptr p1 0), (1, .agg kc1), (2, .agg #[.int .u64 0, .int .i64 0, .int .u32 0, .slice none 0 0]), (3, .agg #[.int .i64 0, .int .i64 0, .int .i64 0, .int .i64 0])]) (by simp) hc ?_
  show CW _ _ _ (sub [] B8) _ _ _
  refine C.seq (x := sub [0] B8) (y := sub [1] B8) ?_
  refine C.region (id := 0) (m := 4) (ops := opsOf (sub [0] B8)) rfl ?_
  refine W.new rfl (wo rfl) rfl rfl (f_box (v := .agg kc1) rfl rfl) (nf rfl) ?_
  intro b1 _
  refine W.heapIs (H2 := [(some b1, .cells kc1 49 (0, 0)), (some p1, .cells (#[.map none, .int .u32 0, .int .i64 0, .map none, .map none, .map none]) 29 (0, 0))]) rfl ?_
  refine W.new rfl (wo rfl) rfl rfl (f_box (v := .agg #[.int .u64 0, .int .i64 0, .int .u32 0, .slice none 0 0]) rfl rfl) (nf rfl) ?_
  intro b2 _
  refine W.heapIs (H2 := [(some b2, .cells (#[.int .u64 0, .int .i64 0, .int .u32 0, .slice none 0 0]) 52 (0, 0)), (some b1, .cells kc1 49 (0, 0)), (some p1, .cells (#[.map none, .int .u32 0, .int .i64 0, .map none, .map none, .map none]) 29 (0, 0))]) rfl ?_
  refine W.new rfl (wo rfl) rfl rfl (f_box (v := .agg #[.int .i64 0, .int .i64 0, .int .i64 0, .int .i64 0]) rfl rfl) (nf rfl) ?_
  intro b3 _
  refine W.heapIs (H2 := [(some b3, .cells (#[.int .i64 0, .int .i64 0, .int .i64 0, .int .i64 0]) 34 (0, 0)), (some b2, .cells (#[.int .u64 0, .int .i64 0, .int .u32 0, .slice none 0 0]) 52 (0, 0)), (some b1, .cells kc1 49 (0, 0)), (some p1, .cells (#[.map none, .int .u32 0, .int .i64 0, .map none, .map none, .map none]) 29 (0, 0))]) rfl ?_
  refine W.pure (v := .bool false) rfl (wo rfl) rfl rfl (p_assign rfl rfl) (nf rfl) ?_
  refine W.doneQ (y := sub [1] B8) rfl ?_
  refine C.seq (x := sub [1, 0] B8) (y := sub [1, 1] B8) ?_
  refine C.seq (x := sub [1, 0, 0] B8) (y := sub [1, 0, 1] B8) ?_
  refine C.region (id := 1) (m := 15) (ops := opsOf (sub [1, 0, 0] B8)) rfl ?_
  refine W.pure (v := ptr p1 0) rfl (wo rfl) rfl rfl (p_move rfl rfl) (nf rfl) ?_
  refine W.cP (E := [(some p1, .cells (#[.map none, .int .u32 0, .int .i64 0, .map none, .map none, .map none]) 29 (0, 0))]) (R := [(some b3, .cells (#[.int .i64 0, .int .i64 0, .int .i64 0, .int .i64 0]) 34 (0, 0)), (some b2, .cells (#[.int .u64 0, .int .i64 0, .int .u32 0, .slice none 0 0]) 52 (0, 0)), (some b1, .cells kc1 49 (0, 0))]) (caps := #[]) rfl (wo rfl) rfl rfl [3, 0, 1, 2] rfl rfl (cw16_5 p1) rfl (en16 _) rfl rfl rfl (args_val rfl) ?_
  intro _
  refine W.heapIs (H2 := [(some p1, .cells (#[.map none, .int .u32 0, .int .i64 0, .map none, .map none, .map none]) 29 (0, 0)), (some b3, .cells (#[.int .i64 0, .int .i64 0, .int .i64 0, .int .i64 0]) 34 (0, 0)), (some b2, .cells (#[.int .u64 0, .int .i64 0, .int .u32 0, .slice none 0 0]) 52 (0, 0)), (some b1, .cells kc1 49 (0, 0))]) rfl ?_
  refine W.pure (v := .bool true) rfl (wo rfl) rfl rfl (p_not (p := false) rfl rfl) (nf rfl) ?_
  refine W.pure (v := .bool true) rfl (wo rfl) rfl rfl (p_move rfl rfl) (nf rfl) ?_
  refine W.not rfl (wo rfl) rfl rfl ?_
  refine W.not rfl (wo rfl) rfl rfl ?_
  refine W.not rfl (wo rfl) rfl rfl ?_
  refine W.not rfl (wo rfl) rfl rfl ?_
  refine W.not rfl (wo rfl) rfl rfl ?_
  refine W.pure (v := .bool true) rfl (wo rfl) rfl rfl (p_pick_true rfl rfl rfl) (nf rfl) ?_
  refine W.pure (v := .bool true) rfl (wo rfl) rfl rfl (p_move rfl rfl) (nf rfl) ?_
  refine W.not rfl (wo rfl) rfl rfl ?_
  refine W.not rfl (wo rfl) rfl rfl ?_
  refine W.not rfl (wo rfl) rfl rfl ?_
  refine W.pure (v := .bool true) rfl (wo rfl) rfl rfl (p_pick_true rfl rfl rfl) (nf rfl) ?_
  refine W.doneQ (y := sub [1, 0, 1] B8) rfl ?_
  refine C.cond_true (x := sub [1, 0, 1, 0] B8) (y := sub [1, 0, 1, 1] B8) rfl rfl ?_
  refine C.seq (x := sub [1, 0, 1, 0, 0] B8) (y := sub [1, 0, 1, 0, 1] B8) ?_
  refine C.region (id := 2) (m := 1) (ops := opsOf (sub [1, 0, 1, 0, 0] B8)) rfl ?_
  refine W.pure (v := .bool false) rfl (wo rfl) rfl rfl (p_assign rfl rfl) (nf rfl) ?_
  refine W.doneQ (y := sub [1, 0, 1, 0, 1] B8) rfl ?_
  exact C.ret (R := fun e w' => ∃ _x : Unit, e = .returned (.bool false) ∧ Cls w0 I' [(some p1, .cells (#[.map none, .int .u32 0, .int .i64 0, .map none, .map none, .map none]) 29 (0, 0))] w') (rs := [.tmp 8]) (vs := [.bool false]) rfl Tryd.func8 rfl rfl rfl (res_cons (ResV.tmp rfl) res_nil) fun w1 hc1 => ⟨(), rfl, hc1.pick [0] (by decide)⟩
theorem en8 (args : Array Value) (w : World) : (callFunc 8 args).run Tryd.prog w = .ok (.enter 8 args) w := by kernel_rfl
noncomputable def B9 : Code := bodyOf Tryd.f9
set_option maxHeartbeats 20000000 in
theorem cw9_10 {I : Mem} : Turn I 9 #[.pointer none, .int .u32 1] [] (fun _ : Unit => .int .i64 0) (fun _ => []) := fun I' he w0 w hc => by
  refine calls_of_CW (N := 15) Tryd.func9 (show _ = some B9 by kernel_rfl) (by kernel_rfl) rfl (S := [(0, .pointer none), (1, .int .u32 1)]) (by simp) hc ?_
  show CW _ _ _ (sub [] B9) _ _ _
  refine C.seq (x := sub [0] B9) (y := sub [1] B9) ?_
  refine C.region (id := 0) (m := 1) (ops := opsOf (sub [0] B9)) rfl ?_
  refine W.pure (v := .int .i64 0) rfl (wo rfl) rfl rfl (p_assign rfl rfl) (nf rfl) ?_
  refine W.doneQ (y := sub [1] B9) rfl ?_
  refine C.seq (x := sub [1, 0] B9) (y := sub [1, 1] B9) ?_
  refine C.seq (x := sub [1, 0, 0] B9) (y := sub [1, 0, 1] B9) ?_
  refine C.region (id := 1) (m := 3) (ops := opsOf (sub [1, 0, 0] B9)) rfl ?_
  refine W.pure (v := .pointer none) rfl (wo rfl) rfl rfl (p_move rfl rfl) (nf rfl) ?_
  refine W.cP (E := []) (R := []) (caps := #[]) rfl (wo rfl) rfl rfl [] rfl rfl (cw16_3) rfl (en16 _) rfl rfl rfl (args_val rfl) ?_
  intro _
  refine W.heapIs (H2 := []) rfl ?_
  refine W.pure (v := .bool true) rfl (wo rfl) rfl rfl (p_not (p := false) rfl rfl) (nf rfl) ?_
  refine W.doneQ (y := sub [1, 0, 1] B9) rfl ?_
  refine C.cond_true (x := sub [1, 0, 1, 0] B9) (y := sub [1, 0, 1, 1] B9) rfl rfl ?_
  refine C.seq (x := sub [1, 0, 1, 0, 0] B9) (y := sub [1, 0, 1, 0, 1] B9) ?_
  refine C.region (id := 2) (m := 1) (ops := opsOf (sub [1, 0, 1, 0, 0] B9)) rfl ?_
  refine W.pure (v := .int .i64 0) rfl (wo rfl) rfl rfl (p_assign rfl rfl) (nf rfl) ?_
  refine W.doneQ (y := sub [1, 0, 1, 0, 1] B9) rfl ?_
  exact C.ret (R := fun e w' => ∃ _x : Unit, e = .returned (.int .i64 0) ∧ Cls w0 I' [] w') (rs := [.tmp 4]) (vs := [.int .i64 0]) rfl Tryd.func9 rfl rfl rfl (res_cons (ResV.tmp rfl) res_nil) fun w1 hc1 => ⟨(), rfl, hc1.pick [] (by decide)⟩
theorem en9 (args : Array Value) (w : World) : (callFunc 9 args).run Tryd.prog w = .ok (.enter 9 args) w := by kernel_rfl
noncomputable def B10 : Code := bodyOf Tryd.f10
set_option maxHeartbeats 20000000 in
theorem cw10_11 (p1 : Nat) {I : Mem} : Turn I 10 #[ptr p1 0, .int .i64 1] [(some p1, .cells (#[.map none, .int .u32 0, .int .i64 0, .map none, .map none, .map none]) 29 (0, 0))] (fun _ : Unit => .bool false) (fun _ => [(some p1, .cells (#[.map none, .int .u32 0, .int .i64 0, .map none, .map none, .map none]) 29 (0, 0))]) := fun I' he w0 w hc => by
  refine calls_of_CW (N := 29) Tryd.func10 (show _ = some B10 by kernel_rfl) (by kernel_rfl) rfl (S := [(0, ptr p1 0), (1, .int .i64 1)]) (by simp) hc ?_
  show CW _ _ _ (sub [] B10) _ _ _
  refine C.seq (x := sub [0] B10) (y := sub [1] B10) ?_
  refine C.region (id := 0) (m := 1) (ops := opsOf (sub [0] B10)) rfl ?_
  refine W.pure (v := .bool false) rfl (wo rfl) rfl rfl (p_assign rfl rfl) (nf rfl) ?_
  refine W.doneQ (y := sub [1] B10) rfl ?_
  refine C.seq (x := sub [1, 0] B10) (y := sub [1, 1] B10) ?_
  refine C.region (id := 1) (m := 25) (ops := opsOf (sub [1, 0] B10)) rfl ?_
  refine W.pure (v := ptr p1 0) rfl (wo rfl) rfl rfl (p_move rfl rfl) (nf rfl) ?_
  refine W.cP (E := [(some p1, .cells (#[.map none, .int .u32 0, .int .i64 0, .map none, .map none, .map none]) 29 (0, 0))]) (R := []) (caps := #[]) rfl (wo rfl) rfl rfl [0] rfl rfl (cw16_5 p1) rfl (en16 _) rfl rfl rfl (args_val rfl) ?_
  intro _
  refine W.heapIs (H2 := [(some p1, .cells (#[.map none, .int .u32 0, .int .i64 0, .map none, .map none, .map none]) 29 (0, 0))]) rfl ?_
  refine W.pure (v := .bool false) rfl (wo rfl) rfl rfl (p_move rfl rfl) (nf rfl) ?_
  refine W.not rfl (wo rfl) rfl rfl ?_
  refine W.not rfl (wo rfl) rfl rfl ?_
  refine W.pure (v := .bool false) rfl (wo rfl) rfl rfl (p_pick_false rfl rfl rfl) (nf rfl) ?_
  refine W.pure (v := .bool false) rfl (wo rfl) rfl rfl (p_move rfl rfl) (nf rfl) ?_
  refine W.not rfl (wo rfl) rfl rfl ?_
  refine W.not rfl (wo rfl) rfl rfl ?_
  refine W.not rfl (wo rfl) rfl rfl ?_
  refine W.not rfl (wo rfl) rfl rfl ?_
  refine W.not rfl (wo rfl) rfl rfl ?_
  refine W.not rfl (wo rfl) rfl rfl ?_
  refine W.pure (v := .bool false) rfl (wo rfl) rfl rfl (p_pick_false rfl rfl rfl) (nf rfl) ?_
  refine W.pure (v := .bool false) rfl (wo rfl) rfl rfl (p_move rfl rfl) (nf rfl) ?_
  refine W.not rfl (wo rfl) rfl rfl ?_
  refine W.not rfl (wo rfl) rfl rfl ?_
  refine W.not rfl (wo rfl) rfl rfl ?_
  refine W.not rfl (wo rfl) rfl rfl ?_
  refine W.not rfl (wo rfl) rfl rfl ?_
  refine W.not rfl (wo rfl) rfl rfl ?_
  refine W.not rfl (wo rfl) rfl rfl ?_
  refine W.not rfl (wo rfl) rfl rfl ?_
  refine W.pure (v := .bool false) rfl (wo rfl) rfl rfl (p_pick_false rfl rfl rfl) (nf rfl) ?_
  refine W.pure (v := .bool false) rfl (wo rfl) rfl rfl (p_assign rfl rfl) (nf rfl) ?_
  refine W.doneQ (y := sub [1, 1] B10) rfl ?_
  exact C.ret (R := fun e w' => ∃ _x : Unit, e = .returned (.bool false) ∧ Cls w0 I' [(some p1, .cells (#[.map none, .int .u32 0, .int .i64 0, .map none, .map none, .map none]) 29 (0, 0))] w') (rs := [.tmp 4]) (vs := [.bool false]) rfl Tryd.func10 rfl rfl rfl (res_cons (ResV.tmp rfl) res_nil) fun w1 hc1 => ⟨(), rfl, hc1.pick [0] (by decide)⟩
theorem en10 (args : Array Value) (w : World) : (callFunc 10 args).run Tryd.prog w = .ok (.enter 10 args) w := by kernel_rfl
noncomputable def B11 : Code := bodyOf Tryd.f11
set_option maxHeartbeats 20000000 in
theorem cw11_12 {I : Mem} : Turn I 11 #[.pointer none] [] (fun _ : Unit => .int .u32 0) (fun _ => []) := fun I' he w0 w hc => by
  refine calls_of_CW (N := 10) Tryd.func11 (show _ = some B11 by kernel_rfl) (by kernel_rfl) rfl (S := [(0, .pointer none)]) (by simp) hc ?_
  show CW _ _ _ (sub [] B11) _ _ _
  refine C.seq (x := sub [0] B11) (y := sub [1] B11) ?_
  refine C.region (id := 0) (m := 1) (ops := opsOf (sub [0] B11)) rfl ?_
  refine W.pure (v := .int .u32 0) rfl (wo rfl) rfl rfl (p_assign rfl rfl) (nf rfl) ?_
  refine W.doneQ (y := sub [1] B11) rfl ?_
  refine C.seq (x := sub [1, 0] B11) (y := sub [1, 1] B11) ?_
  refine C.seq (x := sub [1, 0, 0] B11) (y := sub [1, 0, 1] B11) ?_
  refine C.region (id := 1) (m := 3) (ops := opsOf (sub [1, 0, 0] B11)) rfl ?_
  refine W.pure (v := .pointer none) rfl (wo rfl) rfl rfl (p_move rfl rfl) (nf rfl) ?_
  refine W.cP (E := []) (R := []) (caps := #[]) rfl (wo rfl) rfl rfl [] rfl rfl (cw16_3) rfl (en16 _) rfl rfl rfl (args_val rfl) ?_
  intro _
  refine W.heapIs (H2 := []) rfl ?_
  refine W.pure (v := .bool true) rfl (wo rfl) rfl rfl (p_not (p := false) rfl rfl) (nf rfl) ?_
  refine W.doneQ (y := sub [1, 0, 1] B11) rfl ?_
  refine C.cond_true (x := sub [1, 0, 1, 0] B11) (y := sub [1, 0, 1, 1] B11) rfl rfl ?_
  refine C.seq (x := sub [1, 0, 1, 0, 0] B11) (y := sub [1, 0, 1, 0, 1] B11) ?_
  refine C.region (id := 2) (m := 1) (ops := opsOf (sub [1, 0, 1, 0, 0] B11)) rfl ?_
  refine W.pure (v := .int .u32 0) rfl (wo rfl) rfl rfl (p_assign rfl rfl) (nf rfl) ?_
  refine W.doneQ (y := sub [1, 0, 1, 0, 1] B11) rfl ?_
  exact C.ret (R := fun e w' => ∃ _x : Unit, e = .returned (.int .u32 0) ∧ Cls w0 I' [] w') (rs := [.tmp 2]) (vs := [.int .u32 0]) rfl Tryd.func11 rfl rfl rfl (res_cons (ResV.tmp rfl) res_nil) fun w1 hc1 => ⟨(), rfl, hc1.pick [] (by decide)⟩
theorem en11 (args : Array Value) (w : World) : (callFunc 11 args).run Tryd.prog w = .ok (.enter 11 args) w := by kernel_rfl
noncomputable def B12 : Code := bodyOf Tryd.f12
set_option maxHeartbeats 20000000 in
theorem cw12_13 (p1 : Nat) {I : Mem} : Turn I 12 #[ptr p1 0] [(some p1, .cells (#[.map none, .int .u32 0, .int .i64 0, .map none, .map none, .map none]) 29 (0, 0))] (fun _ : Unit => .pointer none) (fun _ => [(some p1, .cells (#[.map none, .int .u32 0, .int .i64 0, .map none, .map none, .map none]) 29 (0, 0))]) := fun I' he w0 w hc => by
  refine calls_of_CW (N := 36) Tryd.func12 (show _ = some B12 by kernel_rfl) (by kernel_rfl) rfl (S := [(0, ptr p1 0)]) (by simp) hc ?_
  show CW _ _ _ (sub [] B12) _ _ _
  refine C.seq (x := sub [0] B12) (y := sub [1] B12) ?_
  refine C.region (id := 0) (m := 1) (ops := opsOf (sub [0] B12)) rfl ?_
  refine W.pure (v := .pointer none) rfl (wo rfl) rfl rfl (p_assign rfl rfl) (nf rfl) ?_
  refine W.doneQ (y := sub [1] B12) rfl ?_
  refine C.seq (x := sub [1, 0] B12) (y := sub [1, 1] B12) ?_
  refine C.seq (x := sub [1, 0, 0] B12) (y := sub [1, 0, 1] B12) ?_
  refine C.region (id := 1) (m := 3) (ops := opsOf (sub [1, 0, 0] B12)) rfl ?_
  refine W.pure (v := ptr p1 0) rfl (wo rfl) rfl rfl (p_move rfl rfl) (nf rfl) ?_
  refine W.cP (E := [(some p1, .cells (#[.map none, .int .u32 0, .int .i64 0, .map none, .map none, .map none]) 29 (0, 0))]) (R := []) (caps := #[]) rfl (wo rfl) rfl rfl [0] rfl rfl (cw16_5 p1) rfl (en16 _) rfl rfl rfl (args_val rfl) ?_
  intro _
  refine W.heapIs (H2 := [(some p1, .cells (#[.map none, .int .u32 0, .int .i64 0, .map none, .map none, .map none]) 29 (0, 0))]) rfl ?_
  refine W.pure (v := .bool true) rfl (wo rfl) rfl rfl (p_not (p := false) rfl rfl) (nf rfl) ?_
  refine W.doneQ (y := sub [1, 0, 1] B12) rfl ?_
  refine C.cond_true (x := sub [1, 0, 1, 0] B12) (y := sub [1, 0, 1, 1] B12) rfl rfl ?_
  refine C.seq (x := sub [1, 0, 1, 0, 0] B12) (y := sub [1, 0, 1, 0, 1] B12) ?_
  refine C.region (id := 2) (m := 1) (ops := opsOf (sub [1, 0, 1, 0, 0] B12)) rfl ?_
  refine W.pure (v := .pointer none) rfl (wo rfl) rfl rfl (p_assign rfl rfl) (nf rfl) ?_
  refine W.doneQ (y := sub [1, 0, 1, 0, 1] B12) rfl ?_
  exact C.ret (R := fun e w' => ∃ _x : Unit, e = .returned (.pointer none) ∧ Cls w0 I' [(some p1, .cells (#[.map none, .int .u32 0, .int .i64 0, .map none, .map none, .map none]) 29 (0, 0))] w') (rs := [.tmp 2]) (vs := [.pointer none]) rfl Tryd.func12 rfl rfl rfl (res_cons (ResV.tmp rfl) res_nil) fun w1 hc1 => ⟨(), rfl, hc1.pick [0] (by decide)⟩
theorem en12 (args : Array Value) (w : World) : (callFunc 12 args).run Tryd.prog w = .ok (.enter 12 args) w := by kernel_rfl
noncomputable def B13 : Code := bodyOf Tryd.f13
set_option maxHeartbeats 20000000 in
theorem cw13_14 (p1 : Nat) {I : Mem} : Turn I 13 #[.pointer none, ptr p1 0] [(some p1, .cells (#[.map none, .int .u32 0, .int .i64 0, .map none, .map none, .map none]) 29 (0, 0))] (fun _ : Unit => .bool true) (fun _ => [(some p1, .cells (#[.map none, .int .u32 0, .int .i64 0, .map none, .map none, .map none]) 29 (0, 0))]) := fun I' he w0 w hc => by
  refine calls_of_CW (N := 49) Tryd.func13 (show _ = some B13 by kernel_rfl) (by kernel_rfl) rfl (S := [(0, .pointer none), (1, ptr p1 0)]) (by simp) hc ?_
  show CW _ _ _ (sub [] B13) _ _ _
  refine C.seq (x := sub [0] B13) (y := sub [1] B13) ?_
  refine C.region (id := 0) (m := 1) (ops := opsOf (sub [0] B13)) rfl ?_
  refine W.pure (v := .bool false) rfl (wo rfl) rfl rfl (p_assign rfl rfl) (nf rfl) ?_
  refine W.doneQ (y := sub [1] B13) rfl ?_
  refine C.seq (x := sub [1, 0] B13) (y := sub [1, 1] B13) ?_
  refine C.seq (x := sub [1, 0, 0] B13) (y := sub [1, 0, 1] B13) ?_
  refine C.region (id := 1) (m := 8) (ops := opsOf (sub [1, 0, 0] B13)) rfl ?_
  refine W.pure (v := .pointer none) rfl (wo rfl) rfl rfl (p_move rfl rfl) (nf rfl) ?_
  refine W.cP (E := []) (R := [(some p1, .cells (#[.map none, .int .u32 0, .int .i64 0, .map none, .map none, .map none]) 29 (0, 0))]) (caps := #[]) rfl (wo rfl) rfl rfl [0] rfl rfl (cw16_3) rfl (en16 _) rfl rfl rfl (args_val rfl) ?_
  intro _
  refine W.heapIs (H2 := [(some p1, .cells (#[.map none, .int .u32 0, .int .i64 0, .map none, .map none, .map none]) 29 (0, 0))]) rfl ?_
  refine W.pure (v := .bool true) rfl (wo rfl) rfl rfl (p_not (p := false) rfl rfl) (nf rfl) ?_
  refine W.pure (v := .bool true) rfl (wo rfl) rfl rfl (p_move rfl rfl) (nf rfl) ?_
  refine W.not rfl (wo rfl) rfl rfl ?_
  refine W.not rfl (wo rfl) rfl rfl ?_
  refine W.not rfl (wo rfl) rfl rfl ?_
  refine W.pure (v := .bool true) rfl (wo rfl) rfl rfl (p_pick_true rfl rfl rfl) (nf rfl) ?_
  refine W.doneQ (y := sub [1, 0, 1] B13) rfl ?_
  refine C.cond_true (x := sub [1, 0, 1, 0] B13) (y := sub [1, 0, 1, 1] B13) rfl rfl ?_
  refine C.seq (x := sub [1, 0, 1, 0, 0] B13) (y := sub [1, 0, 1, 0, 1] B13) ?_
  refine C.region (id := 2) (m := 6) (ops := opsOf (sub [1, 0, 1, 0, 0] B13)) rfl ?_
  refine W.pure (v := .pointer none) rfl (wo rfl) rfl rfl (p_move rfl rfl) (nf rfl) ?_
  refine W.cP (E := []) (R := [(some p1, .cells (#[.map none, .int .u32 0, .int .i64 0, .map none, .map none, .map none]) 29 (0, 0))]) (caps := #[]) rfl (wo rfl) rfl rfl [0] rfl rfl (cw16_3) rfl (en16 _) rfl rfl rfl (args_val rfl) ?_
  intro _
  refine W.heapIs (H2 := [(some p1, .cells (#[.map none, .int .u32 0, .int .i64 0, .map none, .map none, .map none]) 29 (0, 0))]) rfl ?_
  refine W.pure (v := ptr p1 0) rfl (wo rfl) rfl rfl (p_move rfl rfl) (nf rfl) ?_
  refine W.cP (E := [(some p1, .cells (#[.map none, .int .u32 0, .int .i64 0, .map none, .map none, .map none]) 29 (0, 0))]) (R := []) (caps := #[]) rfl (wo rfl) rfl rfl [0] rfl rfl (cw16_5 p1) rfl (en16 _) rfl rfl rfl (args_val rfl) ?_
  intro _
  refine W.heapIs (H2 := [(some p1, .cells (#[.map none, .int .u32 0, .int .i64 0, .map none, .map none, .map none]) 29 (0, 0))]) rfl ?_
  refine W.pure (v := .bool true) rfl (wo rfl) rfl rfl (p_bin (fun w => by kernel_rfl) (fun w => by kernel_rfl) rfl rfl rfl) (nf rfl) ?_
  refine W.pure (v := .bool true) rfl (wo rfl) rfl rfl (p_assign rfl rfl) (nf rfl) ?_
  refine W.doneQ (y := sub [1, 0, 1, 0, 1] B13) rfl ?_
  exact C.ret (R := fun e w' => ∃ _x : Unit, e = .returned (.bool true) ∧ Cls w0 I' [(some p1, .cells (#[.map none, .int .u32 0, .int .i64 0, .map none, .map none, .map none]) 29 (0, 0))] w') (rs := [.tmp 4]) (vs := [.bool true]) rfl Tryd.func13 rfl rfl rfl (res_cons (ResV.tmp rfl) res_nil) fun w1 hc1 => ⟨(), rfl, hc1.pick [0] (by decide)⟩
theorem en13 (args : Array Value) (w : World) : (callFunc 13 args).run Tryd.prog w = .ok (.enter 13 args) w := by kernel_rfl
noncomputable def B14 : Code := bodyOf Tryd.f14
set_option maxHeartbeats 20000000 in
theorem cw14_15 {I : Mem} : Turn I 14 #[] [] (fun x : Nat × Nat × Nat × Nat × Nat => ptr (x.1) 0) (fun x => [(some (x.1), .cells (#[.map (some (x.2.1)), .int .u32 1, .int .i64 0, .map (some (x.2.2.1)), .map (some (x.2.2.2.1)), .map (some (x.2.2.2.2))]) 29 (0, 0)), (some (x.2.1), mobj .u32 []), (some (x.2.2.1), mobj .i64 []), (some (x.2.2.2.1), mobj .i64 []), (some (x.2.2.2.2), mobj .i64 [])]) := fun I' he w0 w hc => by
  refine calls_of_CW (N := 7) Tryd.func14 (show _ = some B14 by kernel_rfl) (by kernel_rfl) rfl (S := []) (by simp) hc ?_
  show CW _ _ _ (sub [] B14) _ _ _
  refine C.seq (x := sub [0] B14) (y := sub [1] B14) ?_
  refine C.region (id := 0) (m := 1) (ops := opsOf (sub [0] B14)) rfl ?_
  refine W.pure (v := .pointer none) rfl (wo rfl) rfl rfl (p_assign rfl rfl) (nf rfl) ?_
  refine W.doneQ (y := sub [1] B14) rfl ?_
  refine C.seq (x := sub [1, 0] B14) (y := sub [1, 1] B14) ?_
  refine C.region (id := 1) (m := 7) (ops := opsOf (sub [1, 0] B14)) rfl ?_
  refine W.new rfl (wo rfl) rfl rfl (f_makeMap (k := .u32) rfl) (nf rfl) ?_
  intro b1 _
  refine W.heapIs (H2 := [(some b1, mobj .u32 [])]) rfl ?_
  refine W.new rfl (wo rfl) rfl rfl (f_makeMap (k := .i64) rfl) (nf rfl) ?_
  intro b2 _
  refine W.heapIs (H2 := [(some b2, mobj .i64 []), (some b1, mobj .u32 [])]) rfl ?_
  refine W.new rfl (wo rfl) rfl rfl (f_makeMap (k := .i64) rfl) (nf rfl) ?_
  intro b3 _
  refine W.heapIs (H2 := [(some b3, mobj .i64 []), (some b2, mobj .i64 []), (some b1, mobj .u32 [])]) rfl ?_
  refine W.new rfl (wo rfl) rfl rfl (f_makeMap (k := .i64) rfl) (nf rfl) ?_
  intro b4 _
  refine W.heapIs (H2 := [(some b4, mobj .i64 []), (some b3, mobj .i64 []), (some b2, mobj .i64 []), (some b1, mobj .u32 [])]) rfl ?_
  refine W.pure (v := .agg #[.map (some b1), .int .u32 1, .int .i64 0, .map (some b2), .map (some b3), .map (some b4)]) rfl (wo rfl) rfl rfl (p_build (vs := [(0, .map (some b1)), (1, .int .u32 1), (3, .map (some b2)), (4, .map (some b3)), (5, .map (some b4))]) (fun w => by kernel_rfl) rfl rfl) (nf rfl) ?_
  refine W.new rfl (wo rfl) rfl rfl (f_box (v := .agg #[.map (some b1), .int .u32 1, .int .i64 0, .map (some b2), .map (some b3), .map (some b4)]) rfl rfl) (nf rfl) ?_
  intro b5 _
  refine W.heapIs (H2 := [(some b5, .cells (#[.map (some b1), .int .u32 1, .int .i64 0, .map (some b2), .map (some b3), .map (some b4)]) 29 (0, 0)), (some b4, mobj .i64 []), (some b3, mobj .i64 []), (some b2, mobj .i64 []), (some b1, mobj .u32 [])]) rfl ?_
  refine W.pure (v := ptr b5 0) rfl (wo rfl) rfl rfl (p_assign rfl rfl) (nf rfl) ?_
  refine W.doneQ (y := sub [1, 1] B14) rfl ?_
  exact C.ret (R := fun e w' => ∃ x : Nat × Nat × Nat × Nat × Nat, e = .returned (ptr (x.1) 0) ∧ Cls w0 I' [(some (x.1), .cells (#[.map (some (x.2.1)), .int .u32 1, .int .i64 0, .map (some (x.2.2.1)), .map (some (x.2.2.2.1)), .map (some (x.2.2.2.2))]) 29 (0, 0)), (some (x.2.1), mobj .u32 []), (some (x.2.2.1), mobj .i64 []), (some (x.2.2.2.1), mobj .i64 []), (some (x.2.2.2.2), mobj .i64 [])] w') (rs := [.tmp 0]) (vs := [ptr b5 0]) rfl Tryd.func14 rfl rfl rfl (res_cons (ResV.tmp rfl) res_nil) fun w1 hc1 => ⟨(b5, b1, b2, b3, b4), rfl, hc1.pick [0, 4, 3, 2, 1] (by decide)⟩
theorem en14 (args : Array Value) (w : World) : (callFunc 14 args).run Tryd.prog w = .ok (.enter 14 args) w := by kernel_rfl
set_option maxHeartbeats 20000000 in
theorem cw16_17 (p1 p2 p3 p4 p5 : Nat) {I : Mem} : Turn I 16 #[ptr p1 0] [(some p1, .cells (#[.map (some p2), .int .u32 1, .int .i64 0, .map (some p3), .map (some p4), .map (some p5)]) 29 (0, 0)), (some p2, mobj .u32 []), (some p3, mobj .i64 []), (some p4, mobj .i64 []), (some p5, mobj .i64 [])] (fun _ : Unit => .bool true) (fun _ => [(some p1, .cells (#[.map (some p2), .int .u32 1, .int .i64 0, .map (some p3), .map (some p4), .map (some p5)]) 29 (0, 0)), (some p2, mobj .u32 []), (some p3, mobj .i64 []), (some p4, mobj .i64 []), (some p5, mobj .i64 [])]) := fun I' he w0 w hc => by
  refine calls_of_CW (N := 12) Tryd.func16 (show _ = some B16 by kernel_rfl) (by kernel_rfl) rfl (S := [(0, ptr p1 0)]) (by simp) hc ?_
  show CW _ _ _ (sub [] B16) _ _ _
  refine C.seq (x := sub [0] B16) (y := sub [1] B16) ?_
  refine C.region (id := 0) (m := 1) (ops := opsOf (sub [0] B16)) rfl ?_
  refine W.pure (v := .bool false) rfl (wo rfl) rfl rfl (p_assign rfl rfl) (nf rfl) ?_
  refine W.doneQ (y := sub [1] B16) rfl ?_
  refine C.seq (x := sub [1, 0] B16) (y := sub [1, 1] B16) ?_
  refine C.region (id := 1) (m := 10) (ops := opsOf (sub [1, 0] B16)) rfl ?_
  refine W.pure (v := ptr p1 0) rfl (wo rfl) rfl rfl (p_move rfl rfl) (nf rfl) ?_
  refine W.pure (v := .bool true) rfl (wo rfl) rfl rfl (p_bin (fun w => by kernel_rfl) (fun w => by kernel_rfl) rfl rfl rfl) (nf rfl) ?_
  refine W.pure (v := .bool true) rfl (wo rfl) rfl rfl (p_move rfl rfl) (nf rfl) ?_
  refine W.pure (v := ptr p1 0) rfl (wo rfl) rfl rfl (p_move rfl rfl) (nf rfl) ?_
  refine W.pure (v := ptr p1 0) rfl (wo rfl) rfl rfl (p_nilCheck rfl rfl) (nf rfl) ?_
  refine W.pure (v := ptr p1 0) rfl (wo rfl) rfl rfl (p_fieldAddr tf29_0 rfl rfl) (nf rfl) ?_
  refine W.quiet (v := .map (some p2)) rfl (wo rfl) rfl rfl (f_load (j := 0) (off := 0) ta23 rfl rfl rfl rfl) (nf rfl) ?_
  refine W.pure (v := .bool true) rfl (wo rfl) rfl rfl (p_bin (fun w => by kernel_rfl) (fun w => by kernel_rfl) rfl rfl rfl) (nf rfl) ?_
  refine W.pure (v := .bool true) rfl (wo rfl) rfl rfl (p_pick_true rfl rfl rfl) (nf rfl) ?_
  refine W.pure (v := .bool true) rfl (wo rfl) rfl rfl (p_assign rfl rfl) (nf rfl) ?_
  refine W.doneQ (y := sub [1, 1] B16) rfl ?_
  exact C.ret (R := fun e w' => ∃ _x : Unit, e = .returned (.bool true) ∧ Cls w0 I' [(some p1, .cells (#[.map (some p2), .int .u32 1, .int .i64 0, .map (some p3), .map (some p4), .map (some p5)]) 29 (0, 0)), (some p2, mobj .u32 []), (some p3, mobj .i64 []), (some p4, mobj .i64 []), (some p5, mobj .i64 [])] w') (rs := [.tmp 2]) (vs := [.bool true]) rfl Tryd.func16 rfl rfl rfl (res_cons (ResV.tmp rfl) res_nil) fun w1 hc1 => ⟨(), rfl, hc1.pick [0, 1, 2, 3, 4] (by decide)⟩
set_option maxHeartbeats 20000000 in
theorem cw13_16 (p1 p2 p3 p4 p5 : Nat) {I : Mem} : Turn I 13 #[.pointer none, ptr p1 0] [(some p1, .cells (#[.map (some p2), .int .u32 1, .int .i64 0, .map (some p3), .map (some p4), .map (some p5)]) 29 (0, 0)), (some p2, mobj .u32 []), (some p3, mobj .i64 []), (some p4, mobj .i64 []), (some p5, mobj .i64 [])] (fun _ : Unit => .bool false) (fun _ => [(some p1, .cells (#[.map (some p2), .int .u32 1, .int .i64 0, .map (some p3), .map (some p4), .map (some p5)]) 29 (0, 0)), (some p2, mobj .u32 []), (some p3, mobj .i64 []), (some p4, mobj .i64 []), (some p5, mobj .i64 [])]) := fun I' he w0 w hc => by
  refine calls_of_CW (N := 49) Tryd.func13 (show _ = some B13 by kernel_rfl) (by kernel_rfl) rfl (S := [(0, .pointer none), (1, ptr p1 0)]) (by simp) hc ?_
  show CW _ _ _ (sub [] B13) _ _ _
  refine C.seq (x := sub [0] B13) (y := sub [1] B13) ?_
  refine C.region (id := 0) (m := 1) (ops := opsOf (sub [0] B13)) rfl ?_
  refine W.pure (v := .bool false) rfl (wo rfl) rfl rfl (p_assign rfl rfl) (nf rfl) ?_
  refine W.doneQ (y := sub [1] B13) rfl ?_
  refine C.seq (x := sub [1, 0] B13) (y := sub [1, 1] B13) ?_
  refine C.seq (x := sub [1, 0, 0] B13) (y := sub [1, 0, 1] B13) ?_
  refine C.region (id := 1) (m := 8) (ops := opsOf (sub [1, 0, 0] B13)) rfl ?_
  refine W.pure (v := .pointer none) rfl (wo rfl) rfl rfl (p_move rfl rfl) (nf rfl) ?_
  refine W.cP (E := []) (R := [(some p1, .cells (#[.map (some p2), .int .u32 1, .int .i64 0, .map (some p3), .map (some p4), .map (some p5)]) 29 (0, 0)), (some p2, mobj .u32 []), (some p3, mobj .i64 []), (some p4, mobj .i64 []), (some p5, mobj .i64 [])]) (caps := #[]) rfl (wo rfl) rfl rfl [0, 1, 2, 3, 4] rfl rfl (cw16_3) rfl (en16 _) rfl rfl rfl (args_val rfl) ?_
  intro _
  refine W.heapIs (H2 := [(some p1, .cells (#[.map (some p2), .int .u32 1, .int .i64 0, .map (some p3), .map (some p4), .map (some p5)]) 29 (0, 0)), (some p2, mobj .u32 []), (some p3, mobj .i64 []), (some p4, mobj .i64 []), (some p5, mobj .i64 [])]) rfl ?_
  refine W.pure (v := .bool true) rfl (wo rfl) rfl rfl (p_not (p := false) rfl rfl) (nf rfl) ?_
  refine W.pure (v := .bool true) rfl (wo rfl) rfl rfl (p_move rfl rfl) (nf rfl) ?_
  refine W.not rfl (wo rfl) rfl rfl ?_
  refine W.not rfl (wo rfl) rfl rfl ?_
  refine W.not rfl (wo rfl) rfl rfl ?_
  refine W.pure (v := .bool true) rfl (wo rfl) rfl rfl (p_pick_true rfl rfl rfl) (nf rfl) ?_
  refine W.doneQ (y := sub [1, 0, 1] B13) rfl ?_
  refine C.cond_true (x := sub [1, 0, 1, 0] B13) (y := sub [1, 0, 1, 1] B13) rfl rfl ?_
  refine C.seq (x := sub [1, 0, 1, 0, 0] B13) (y := sub [1, 0, 1, 0, 1] B13) ?_
  refine C.region (id := 2) (m := 6) (ops := opsOf (sub [1, 0, 1, 0, 0] B13)) rfl ?_
  refine W.pure (v := .pointer none) rfl (wo rfl) rfl rfl (p_move rfl rfl) (nf rfl) ?_
  refine W.cP (E := []) (R := [(some p1, .cells (#[.map (some p2), .int .u32 1, .int .i64 0, .map (some p3), .map (some p4), .map (some p5)]) 29 (0, 0)), (some p2, mobj .u32 []), (some p3, mobj .i64 []), (some p4, mobj .i64 []), (some p5, mobj .i64 [])]) (caps := #[]) rfl (wo rfl) rfl rfl [0, 1, 2, 3, 4] rfl rfl (cw16_3) rfl (en16 _) rfl rfl rfl (args_val rfl) ?_
  intro _
  refine W.heapIs (H2 := [(some p1, .cells (#[.map (some p2), .int .u32 1, .int .i64 0, .map (some p3), .map (some p4), .map (some p5)]) 29 (0, 0)), (some p2, mobj .u32 []), (some p3, mobj .i64 []), (some p4, mobj .i64 []), (some p5, mobj .i64 [])]) rfl ?_
  refine W.pure (v := ptr p1 0) rfl (wo rfl) rfl rfl (p_move rfl rfl) (nf rfl) ?_
  refine W.cP (E := [(some p1, .cells (#[.map (some p2), .int .u32 1, .int .i64 0, .map (some p3), .map (some p4), .map (some p5)]) 29 (0, 0)), (some p2, mobj .u32 []), (some p3, mobj .i64 []), (some p4, mobj .i64 []), (some p5, mobj .i64 [])]) (R := []) (caps := #[]) rfl (wo rfl) rfl rfl [0, 1, 2, 3, 4] rfl rfl (cw16_17 p1 p2 p3 p4 p5) rfl (en16 _) rfl rfl rfl (args_val rfl) ?_
  intro _
  refine W.heapIs (H2 := [(some p1, .cells (#[.map (some p2), .int .u32 1, .int .i64 0, .map (some p3), .map (some p4), .map (some p5)]) 29 (0, 0)), (some p2, mobj .u32 []), (some p3, mobj .i64 []), (some p4, mobj .i64 []), (some p5, mobj .i64 [])]) rfl ?_
  refine W.pure (v := .bool false) rfl (wo rfl) rfl rfl (p_bin (fun w => by kernel_rfl) (fun w => by kernel_rfl) rfl rfl rfl) (nf rfl) ?_
  refine W.pure (v := .bool false) rfl (wo rfl) rfl rfl (p_assign rfl rfl) (nf rfl) ?_
  refine W.doneQ (y := sub [1, 0, 1, 0, 1] B13) rfl ?_
  exact C.ret (R := fun e w' => ∃ _x : Unit, e = .returned (.bool false) ∧ Cls w0 I' [(some p1, .cells (#[.map (some p2), .int .u32 1, .int .i64 0, .map (some p3), .map (some p4), .map (some p5)]) 29 (0, 0)), (some p2, mobj .u32 []), (some p3, mobj .i64 []), (some p4, mobj .i64 []), (some p5, mobj .i64 [])] w') (rs := [.tmp 4]) (vs := [.bool false]) rfl Tryd.func13 rfl rfl rfl (res_cons (ResV.tmp rfl) res_nil) fun w1 hc1 => ⟨(), rfl, hc1.pick [0, 1, 2, 3, 4] (by decide)⟩
noncomputable def B15 : Code := bodyOf Tryd.f15
def kc2 : Array Value := #[.int .u64 0, .int .i64 1, .int .u32 0, .int .u32 0, .int .i64 1, .int .i64 4, .int .u8 0, .int .u8 0, .int .u8 0, .int .u8 0, .int .u8 0, .int .u8 0, .int .u8 0, .int .u8 0, .int .u8 0, .int .u8 0, .int .u8 0, .int .u8 0, .int .u8 0, .int .u8 0, .int .u8 0, .int .u8 0, .int .u8 0, .int .u8 0, .int .u8 0, .int .u8 0, .int .u8 0, .int .u8 0, .int .u8 0, .int .u8 0, .int .u8 0, .int .u8 0, .int .u8 0, .int .u8 0, .int .u8 0, .int .u8 0, .int .u8 0, .int .u8 0, .slice none 0 0]
theorem ta49 (w : World) : (isAgg 49).run Tryd.prog w = .ok true w := by kernel_rfl
theorem ts49 (w : World) : (sizeOf 49).run Tryd.prog w = .ok 39 w := by kernel_rfl
theorem ta52 (w : World) : (isAgg 52).run Tryd.prog w = .ok true w := by kernel_rfl
theorem ts52 (w : World) : (sizeOf 52).run Tryd.prog w = .ok 4 w := by kernel_rfl
theorem tf52_0 (a : Addr) (w : World) : (Instr.fieldAt 52 (.pointer (some a)) 0).run Tryd.prog w = .ok (.pointer (some (a.add 0))) w := by kernel_rfl
theorem ta43 (w : World) : (isAgg 43).run Tryd.prog w = .ok false w := by kernel_rfl
theorem tf49_0 (a : Addr) (w : World) : (Instr.fieldAt 49 (.pointer (some a)) 0).run Tryd.prog w = .ok (.pointer (some (a.add 0))) w := by kernel_rfl
noncomputable def B24 : Code := bodyOf Tryd.f24
theorem tf52_3 (a : Addr) (w : World) : (Instr.fieldAt 52 (.pointer (some a)) 3).run Tryd.prog w = .ok (.pointer (some (a.add 3))) w := by kernel_rfl
theorem ta50 (w : World) : (isAgg 50).run Tryd.prog w = .ok false w := by kernel_rfl
theorem tu50 (w : World) : (underlying 50).run Tryd.prog w = .ok (.slice 47) w := by kernel_rfl
theorem tf52_1 (a : Addr) (w : World) : (Instr.fieldAt 52 (.pointer (some a)) 1).run Tryd.prog w = .ok (.pointer (some (a.add 1))) w := by kernel_rfl
set_option maxHeartbeats 20000000 in
theorem cw24_21 {I : Mem} : Turn I 24 #[.agg #[.int .u64 0, .int .i64 0, .int .u32 1, .slice none 0 0]] [] (fun _ : Unit => .bool true) (fun _ => []) := fun I' he w0 w hc => by
  refine calls_of_CW (N := 53) Tryd.func24 (show _ = some B24 by kernel_rfl) (by kernel_rfl) rfl (S := [(0, .agg #[.int .u64 0, .int .i64 0, .int .u32 1, .slice none 0 0])]) (by simp) hc ?_
  show CW _ _ _ (sub [] B24) _ _ _
  refine C.seq (x := sub [0] B24) (y := sub [1] B24) ?_
  refine C.region (id := 0) (m := 2) (ops := opsOf (sub [0] B24)) rfl ?_
  refine W.new rfl (wo rfl) rfl rfl (f_box (v := .agg #[.int .u64 0, .int .i64 0, .int .u32 1, .slice none 0 0]) rfl rfl) (nf rfl) ?_
  intro b1 _
  refine W.heapIs (H2 := [(some b1, .cells (#[.int .u64 0, .int .i64 0, .int .u32 1, .slice none 0 0]) 52 (0, 0))]) rfl ?_
  refine W.pure (v := .bool false) rfl (wo rfl) rfl rfl (p_assign rfl rfl) (nf rfl) ?_
  refine W.doneQ (y := sub [1] B24) rfl ?_
  refine C.seq (x := sub [1, 0] B24) (y := sub [1, 1] B24) ?_
  refine C.region (id := 1) (m := 1) (ops := opsOf (sub [1, 0] B24)) rfl ?_
  refine W.pure (v := .int .i64 0) rfl (wo rfl) rfl rfl (p_assign rfl rfl) (nf rfl) ?_
  refine W.doneQ (y := sub [1, 1] B24) rfl ?_
  refine C.seq (x := sub [1, 1, 0] B24) (y := sub [1, 1, 1] B24) ?_
  refine C.seq (x := sub [1, 1, 0, 0] B24) (y := sub [1, 1, 0, 1] B24) ?_
  refine C.region (id := 2) (m := 4) (ops := opsOf (sub [1, 1, 0, 0] B24)) rfl ?_
  refine W.pure (v := ptr b1 3) rfl (wo rfl) rfl rfl (p_fieldAddr tf52_3 rfl rfl) (nf rfl) ?_
  refine W.quiet (v := .slice none 0 0) rfl (wo rfl) rfl rfl (f_load (j := 0) (off := 3) ta50 rfl rfl rfl rfl) (nf rfl) ?_
  refine W.pure (v := .int .i64 0) rfl (wo rfl) rfl rfl (p_slLen tu50 ⟨_, _, rfl⟩ rfl rfl) (nf rfl) ?_
  refine W.pure (v := .int .i64 0) rfl (wo rfl) rfl rfl (p_move rfl rfl) (nf rfl) ?_
  refine W.doneQ (y := sub [1, 1, 0, 1] B24) rfl ?_
  refine C.loopB (id := 0) (c := sub [1, 1, 0, 1, 0, 0] B24) (y := sub [1, 1, 1] B24) (fun q : Nat => 0 - q) (fun _ : Nat => [(0, .agg #[.int .u64 0, .int .i64 0, .int .u32 1, .slice none 0 0]), (1, ptr b1 0), (3, .int .i64 0), (6, ptr b1 3), (7, .slice none 0 0), (8, .int .i64 0), (9, .int .i64 0)]) (fun _ : Nat => [(some b1, .cells (#[.int .u64 0, .int .i64 0, .int .u32 1, .slice none 0 0]) 52 (0, 0))]) (fun q => q ≤ 0) 0 (Nat.zero_le _) (Sub.cons rfl (Sub.cons rfl (Sub.cons rfl (Sub.cons rfl (Sub.cons rfl (Sub.cons rfl (Sub.cons rfl (Sub.nil _)))))))) rfl rfl (fun q => q = 0) ?_ ?_
  · intro q hq Q' hN hE hR
    have hq2 : q = 0 := by omega
    subst hq2
    · show CW _ _ _ _ _ [(0, .agg #[.int .u64 0, .int .i64 0, .int .u32 1, .slice none 0 0]), (1, ptr b1 0), (3, .int .i64 0), (6, ptr b1 3), (7, .slice none 0 0), (8, .int .i64 0), (9, .int .i64 0)] ([(some b1, .cells (#[.int .u64 0, .int .i64 0, .int .u32 1, .slice none 0 0]) 52 (0, 0))])
      refine C.seq (x := sub [1, 1, 0, 1, 0, 0, 0] B24) (y := sub [1, 1, 0, 1, 0, 0, 1] B24) ?_
      refine C.region (id := 3) (m := 1) (ops := opsOf (sub [1, 1, 0, 1, 0, 0, 0] B24)) rfl ?_
      refine W.pure (v := .bool false) rfl (wo rfl) rfl rfl (p_bin (fun w => by kernel_rfl) (fun w => by kernel_rfl) rfl rfl rfl) (nf rfl) ?_
      refine W.doneQ (y := sub [1, 1, 0, 1, 0, 0, 1] B24) rfl ?_
      refine C.seq (x := sub [1, 1, 0, 1, 0, 0, 1, 0] B24) (y := sub [1, 1, 0, 1, 0, 0, 1, 1] B24) ?_
      refine C.cond_false (x := sub [1, 1, 0, 1, 0, 0, 1, 0, 0] B24) (y := sub [1, 1, 0, 1, 0, 0, 1, 0, 1] B24) rfl rfl ?_
      exact C.exit fun a1 w1 ha1 hc1 => hE rfl a1 w1 (ha1.sub (Sub.cons rfl (Sub.cons rfl (Sub.cons rfl (Sub.cons rfl (Sub.cons rfl (Sub.cons rfl (Sub.cons rfl (Sub.nil _))))))))) hc1
  intro q hq hqe
  subst hqe
  show CW _ _ _ _ _ [(0, .agg #[.int .u64 0, .int .i64 0, .int .u32 1, .slice none 0 0]), (1, ptr b1 0), (3, .int .i64 0), (6, ptr b1 3), (7, .slice none 0 0), (8, .int .i64 0), (9, .int .i64 0)] ([(some b1, .cells (#[.int .u64 0, .int .i64 0, .int .u32 1, .slice none 0 0]) 52 (0, 0))])
  refine C.seq (x := sub [1, 1, 1, 0] B24) (y := sub [1, 1, 1, 1] B24) ?_
  refine C.region (id := 7) (m := 35) (ops := opsOf (sub [1, 1, 1, 0] B24)) rfl ?_
  refine W.pure (v := ptr b1 1) rfl (wo rfl) rfl rfl (p_fieldAddr tf52_1 rfl rfl) (nf rfl) ?_
  refine W.quiet (v := .int .i64 0) rfl (wo rfl) rfl rfl (f_load (j := 0) (off := 1) ta3 rfl rfl rfl rfl) (nf rfl) ?_
  refine W.pure (v := .bool true) rfl (wo rfl) rfl rfl (p_bin (fun w => by kernel_rfl) (fun w => by kernel_rfl) rfl rfl rfl) (nf rfl) ?_
  refine W.pure (v := .bool true) rfl (wo rfl) rfl rfl (p_move rfl rfl) (nf rfl) ?_
  refine W.pure (v := ptr b1 1) rfl (wo rfl) rfl rfl (p_fieldAddr tf52_1 rfl rfl) (nf rfl) ?_
  refine W.quiet (v := .int .i64 0) rfl (wo rfl) rfl rfl (f_load (j := 0) (off := 1) ta3 rfl rfl rfl rfl) (nf rfl) ?_
  refine W.pure (v := .bool true) rfl (wo rfl) rfl rfl (p_bin (fun w => by kernel_rfl) (fun w => by kernel_rfl) rfl rfl rfl) (nf rfl) ?_
  refine W.pure (v := .bool true) rfl (wo rfl) rfl rfl (p_pick_true rfl rfl rfl) (nf rfl) ?_
  refine W.pure (v := .bool true) rfl (wo rfl) rfl rfl (p_move rfl rfl) (nf rfl) ?_
  refine W.pure (v := ptr b1 3) rfl (wo rfl) rfl rfl (p_fieldAddr tf52_3 rfl rfl) (nf rfl) ?_
  refine W.quiet (v := .slice none 0 0) rfl (wo rfl) rfl rfl (f_load (j := 0) (off := 3) ta50 rfl rfl rfl rfl) (nf rfl) ?_
  refine W.pure (v := .int .i64 0) rfl (wo rfl) rfl rfl (p_slLen tu50 ⟨_, _, rfl⟩ rfl rfl) (nf rfl) ?_
  refine W.pure (v := .bool true) rfl (wo rfl) rfl rfl (p_bin (fun w => by kernel_rfl) (fun w => by kernel_rfl) rfl rfl rfl) (nf rfl) ?_
  refine W.pure (v := .bool true) rfl (wo rfl) rfl rfl (p_pick_true rfl rfl rfl) (nf rfl) ?_
  refine W.pure (v := .bool true) rfl (wo rfl) rfl rfl (p_move rfl rfl) (nf rfl) ?_
  refine W.pure (v := .int .i64 0) rfl (wo rfl) rfl rfl (p_move rfl rfl) (nf rfl) ?_
  refine W.pure (v := .bool true) rfl (wo rfl) rfl rfl (p_bin (fun w => by kernel_rfl) (fun w => by kernel_rfl) rfl rfl rfl) (nf rfl) ?_
  refine W.pure (v := .bool true) rfl (wo rfl) rfl rfl (p_pick_true rfl rfl rfl) (nf rfl) ?_
  refine W.pure (v := .bool true) rfl (wo rfl) rfl rfl (p_move rfl rfl) (nf rfl) ?_
  refine W.pure (v := ptr b1 1) rfl (wo rfl) rfl rfl (p_fieldAddr tf52_1 rfl rfl) (nf rfl) ?_
  refine W.quiet (v := .int .i64 0) rfl (wo rfl) rfl rfl (f_load (j := 0) (off := 1) ta3 rfl rfl rfl rfl) (nf rfl) ?_
  refine W.pure (v := .bool true) rfl (wo rfl) rfl rfl (p_bin (fun w => by kernel_rfl) (fun w => by kernel_rfl) rfl rfl rfl) (nf rfl) ?_
  refine W.pure (v := .bool true) rfl (wo rfl) rfl rfl (p_move rfl rfl) (nf rfl) ?_
  refine W.not rfl (wo rfl) rfl rfl ?_
  refine W.not rfl (wo rfl) rfl rfl ?_
  refine W.not rfl (wo rfl) rfl rfl ?_
  refine W.not rfl (wo rfl) rfl rfl ?_
  refine W.not rfl (Wn.undef rfl rfl rfl) rfl rfl ?_
  refine W.not rfl (Wn.undef rfl rfl rfl) rfl rfl ?_
  refine W.not rfl (Wn.undef rfl rfl rfl) rfl rfl ?_
  refine W.not rfl (Wn.undef rfl rfl rfl) rfl rfl ?_
  refine W.not rfl (wo rfl) rfl rfl ?_
  refine W.pure (v := .bool true) rfl (wo rfl) rfl rfl (p_pick_true rfl rfl rfl) (nf rfl) ?_
  refine W.pure (v := .bool true) rfl (wo rfl) rfl rfl (p_pick_true rfl rfl rfl) (nf rfl) ?_
  refine W.pure (v := .bool true) rfl (wo rfl) rfl rfl (p_assign rfl rfl) (nf rfl) ?_
  refine W.doneQ (y := sub [1, 1, 1, 1] B24) rfl ?_
  exact C.ret (R := fun e w' => ∃ _x : Unit, e = .returned (.bool true) ∧ Cls w0 I' [] w') (rs := [.tmp 2]) (vs := [.bool true]) rfl Tryd.func24 rfl rfl rfl (res_cons (ResV.tmp rfl) res_nil) fun w1 hc1 => ⟨(), rfl, hc1.pick [] (by decide)⟩
theorem en24 (args : Array Value) (w : World) : (callFunc 24 args).run Tryd.prog w = .ok (.enter 24 args) w := by kernel_rfl
noncomputable def B25 : Code := bodyOf Tryd.f25
def kc3 : Array Value := #[.int .i64 0, .slice none 0 0, .int .i64 0, .int .i64 0, .int .i64 0, .int .i64 0, .bool false, .bool false]
theorem tz82 (w : World) : (zeroValue 82).run Tryd.prog w = .ok (.agg kc3) w := by kernel_rfl
def kc4 : Array Value := #[.int .i64 2, .slice none 0 0, .int .i64 0, .int .i64 0, .int .i64 0, .int .i64 0, .bool false, .bool false]
theorem ts82 (w : World) : (sizeOf 82).run Tryd.prog w = .ok 8 w := by kernel_rfl
theorem ta82 (w : World) : (isAgg 82).run Tryd.prog w = .ok true w := by kernel_rfl
set_option maxHeartbeats 20000000 in
theorem cw25_22 {I : Mem} : Turn I 25 #[.int .i64 2] [] (fun _ : Unit => .agg kc4) (fun _ => []) := fun I' he w0 w hc => by
  refine calls_of_CW (N := 5) Tryd.func25 (show _ = some B25 by kernel_rfl) (by kernel_rfl) rfl (S := [(0, .int .i64 2)]) (by simp) hc ?_
  show CW _ _ _ (sub [] B25) _ _ _
  refine C.seq (x := sub [0] B25) (y := sub [1] B25) ?_
  refine C.region (id := 0) (m := 1) (ops := opsOf (sub [0] B25)) rfl ?_
  refine W.new rfl (wo rfl) rfl rfl (f_alloc tz82 rfl) (nf rfl) ?_
  intro b1 _
  refine W.heapIs (H2 := [(some b1, .cells kc3 82 (0, 0))]) rfl ?_
  refine W.doneQ (y := sub [1] B25) rfl ?_
  refine C.seq (x := sub [1, 0] B25) (y := sub [1, 1] B25) ?_
  refine C.region (id := 1) (m := 3) (ops := opsOf (sub [1, 0] B25)) rfl ?_
  refine W.pure (v := .int .i64 2) rfl (wo rfl) rfl rfl (p_move rfl rfl) (nf rfl) ?_
  refine W.pure (v := .agg kc4) rfl (wo rfl) rfl rfl (p_build (vs := [(0, .int .i64 2)]) (fun w => by kernel_rfl) rfl rfl) (nf rfl) ?_
  refine W.put (H' := [(some b1, .cells kc4 82 (0, 0))]) rfl (wo rfl) rfl (f_storeA (j := 0) (c2 := kc4) ts82 rfl rfl rfl (one_all rfl) rfl rfl rfl) (nf rfl) ?_
  refine W.doneQ (y := sub [1, 1] B25) rfl ?_
  exact C.ret (R := fun e w' => ∃ _x : Unit, e = .returned (.agg kc4) ∧ Cls w0 I' [] w') (rs := [.cell 2 82]) (vs := [.agg kc4]) rfl Tryd.func25 rfl rfl rfl (res_cons (ResV.cell (j := 0) ta82 ts82 rfl rfl rfl) res_nil) fun w1 hc1 => ⟨(), rfl, hc1.pick [] (by decide)⟩
theorem en25 (args : Array Value) (w : World) : (callFunc 25 args).run Tryd.prog w = .ok (.enter 25 args) w := by kernel_rfl
noncomputable def B26 : Code := bodyOf Tryd.f26
noncomputable def B42 : Code := bodyOf Tryd.f42
theorem tz49 (w : World) : (zeroValue 49).run Tryd.prog w = .ok (.agg kc1) w := by kernel_rfl
theorem tf49_1 (a : Addr) (w : World) : (Instr.fieldAt 49 (.pointer (some a)) 1).run Tryd.prog w = .ok (.pointer (some (a.add 1))) w := by kernel_rfl
theorem ta44 (w : World) : (isAgg 44).run Tryd.prog w = .ok false w := by kernel_rfl
def kc5 : Array Value := #[.int .u64 0, .int .i64 1, .int .u32 0, .int .u32 0, .int .i64 0, .int .i64 0, .int .u8 0, .int .u8 0, .int .u8 0, .int .u8 0, .int .u8 0, .int .u8 0, .int .u8 0, .int .u8 0, .int .u8 0, .int .u8 0, .int .u8 0, .int .u8 0, .int .u8 0, .int .u8 0, .int .u8 0, .int .u8 0, .int .u8 0, .int .u8 0, .int .u8 0, .int .u8 0, .int .u8 0, .int .u8 0, .int .u8 0, .int .u8 0, .int .u8 0, .int .u8 0, .int .u8 0, .int .u8 0, .int .u8 0, .int .u8 0, .int .u8 0, .int .u8 0, .slice none 0 0]
theorem tu116 (w : World) : (underlying 116).run Tryd.prog w = .ok (.map 21 1) w := by kernel_rfl
theorem tu21 (w : World) : (underlying 21).run Tryd.prog w = .ok (.int .i32) w := by kernel_rfl
noncomputable def B43 : Code := bodyOf Tryd.f43
noncomputable def B65 : Code := bodyOf Tryd.f65
theorem tu118 (w : World) : (underlying 118).run Tryd.prog w = .ok (.map 44 117) w := by kernel_rfl
theorem tu44 (w : World) : (underlying 44).run Tryd.prog w = .ok (.int .i64) w := by kernel_rfl
set_option maxHeartbeats 20000000 in
theorem cw65_26 {I : Mem} : Turn I 65 #[] [] (fun x : Nat => .map (some x)) (fun x => [(some x, mobj .i64 [(1, .agg #[str [116, 97]]), (2, .agg #[str [116, 97, 107]]), (3, .agg #[str [104]]), (4, .agg #[str [104]]), (5, .agg #[str [104, 100]]), (6, .agg #[str [104, 111]]), (7, .agg #[str [104, 97, 100]]), (8, .agg #[str [104, 116, 97, 100]]), (9, .agg #[str [104]]), (10, .agg #[str [104, 97]]), (11, .agg #[str [104]]), (12, .agg #[str [104, 100]]), (13, .agg #[str [104, 100]])])]) := fun I' he w0 w hc => by
  refine calls_of_CW (N := 16) Tryd.func65 (show _ = some B65 by kernel_rfl) (by kernel_rfl) rfl (S := []) (by simp) hc ?_
  show CW _ _ _ (sub [] B65) _ _ _
  refine C.seq (x := sub [0] B65) (y := sub [1] B65) ?_
  refine C.region (id := 0) (m := 1) (ops := opsOf (sub [0] B65)) rfl ?_
  refine W.pure (v := .map none) rfl (wo rfl) rfl rfl (p_assign rfl rfl) (nf rfl) ?_
  refine W.doneQ (y := sub [1] B65) rfl ?_
  refine C.seq (x := sub [1, 0] B65) (y := sub [1, 1] B65) ?_
  refine C.region (id := 1) (m := 29) (ops := opsOf (sub [1, 0] B65)) rfl ?_
  refine W.new rfl (wo rfl) rfl rfl (f_makeMap (k := .i64) rfl) (nf rfl) ?_
  intro b1 _
  refine W.heapIs (H2 := [(some b1, mobj .i64 [])]) rfl ?_
  refine W.pure (v := .agg #[str [116, 97]]) rfl (wo rfl) rfl rfl (p_build (vs := [(0, str [116, 97])]) (fun w => by kernel_rfl) rfl rfl) (nf rfl) ?_
  refine W.put (H' := [(some b1, mobj .i64 [(1, .agg #[str [116, 97]])])]) rfl (wo rfl) rfl (f_insert (j := 0) (l := []) (v := .agg #[str [116, 97]]) tu118 tu44 rfl rfl rfl rfl rfl rfl) (nf rfl) ?_
  refine W.pure (v := .agg #[str [116, 97, 107]]) rfl (wo rfl) rfl rfl (p_build (vs := [(0, str [116, 97, 107])]) (fun w => by kernel_rfl) rfl rfl) (nf rfl) ?_
  refine W.put (H' := [(some b1, mobj .i64 [(1, .agg #[str [116, 97]]), (2, .agg #[str [116, 97, 107]])])]) rfl (wo rfl) rfl (f_insert (j := 0) (l := [(1, .agg #[str [116, 97]])]) (v := .agg #[str [116, 97, 107]]) tu118 tu44 rfl rfl rfl rfl rfl rfl) (nf rfl) ?_
  refine W.pure (v := .agg #[str [104]]) rfl (wo rfl) rfl rfl (p_build (vs := [(0, str [104])]) (fun w => by kernel_rfl) rfl rfl) (nf rfl) ?_
  refine W.put (H' := [(some b1, mobj .i64 [(1, .agg #[str [116, 97]]), (2, .agg #[str [116, 97, 107]]), (3, .agg #[str [104]])])]) rfl (wo rfl) rfl (f_insert (j := 0) (l := [(1, .agg #[str [116, 97]]), (2, .agg #[str [116, 97, 107]])]) (v := .agg #[str [104]]) tu118 tu44 rfl rfl rfl rfl rfl rfl) (nf rfl) ?_
  refine W.pure (v := .agg #[str [104]]) rfl (wo rfl) rfl rfl (p_build (vs := [(0, str [104])]) (fun w => by kernel_rfl) rfl rfl) (nf rfl) ?_
  refine W.put (H' := [(some b1, mobj .i64 [(1, .agg #[str [116, 97]]), (2, .agg #[str [116, 97, 107]]), (3, .agg #[str [104]]), (4, .agg #[str [104]])])]) rfl (wo rfl) rfl (f_insert (j := 0) (l := [(1, .agg #[str [116, 97]]), (2, .agg #[str [116, 97, 107]]), (3, .agg #[str [104]])]) (v := .agg #[str [104]]) tu118 tu44 rfl rfl rfl rfl rfl rfl) (nf rfl) ?_
  refine W.pure (v := .agg #[str [104, 100]]) rfl (wo rfl) rfl rfl (p_build (vs := [(0, str [104, 100])]) (fun w => by kernel_rfl) rfl rfl) (nf rfl) ?_
  refine W.put (H' := [(some b1, mobj .i64 [(1, .agg #[str [116, 97]]), (2, .agg #[str [116, 97, 107]]), (3, .agg #[str [104]]), (4, .agg #[str [104]]), (5, .agg #[str [104, 100]])])]) rfl (wo rfl) rfl (f_insert (j := 0) (l := [(1, .agg #[str [116, 97]]), (2, .agg #[str [116, 97, 107]]), (3, .agg #[str [104]]), (4, .agg #[str [104]])]) (v := .agg #[str [104, 100]]) tu118 tu44 rfl rfl rfl rfl rfl rfl) (nf rfl) ?_
  refine W.pure (v := .agg #[str [104, 111]]) rfl (wo rfl) rfl rfl (p_build (vs := [(0, str [104, 111])]) (fun w => by kernel_rfl) rfl rfl) (nf rfl) ?_
  refine W.put (H' := [(some b1, mobj .i64 [(1, .agg #[str [116, 97]]), (2, .agg #[str [116, 97, 107]]), (3, .agg #[str [104]]), (4, .agg #[str [104]]), (5, .agg #[str [104, 100]]), (6, .agg #[str [104, 111]])])]) rfl (wo rfl) rfl (f_insert (j := 0) (l := [(1, .agg #[str [116, 97]]), (2, .agg #[str [116, 97, 107]]), (3, .agg #[str [104]]), (4, .agg #[str [104]]), (5, .agg #[str [104, 100]])]) (v := .agg #[str [104, 111]]) tu118 tu44 rfl rfl rfl rfl rfl rfl) (nf rfl) ?_
  refine W.pure (v := .agg #[str [104, 97, 100]]) rfl (wo rfl) rfl rfl (p_build (vs := [(0, str [104, 97, 100])]) (fun w => by kernel_rfl) rfl rfl) (nf rfl) ?_
  refine W.put (H' := [(some b1, mobj .i64 [(1, .agg #[str [116, 97]]), (2, .agg #[str [116, 97, 107]]), (3, .agg #[str [104]]), (4, .agg #[str [104]]), (5, .agg #[str [104, 100]]), (6, .agg #[str [104, 111]]), (7, .agg #[str [104, 97, 100]])])]) rfl (wo rfl) rfl (f_insert (j := 0) (l := [(1, .agg #[str [116, 97]]), (2, .agg #[str [116, 97, 107]]), (3, .agg #[str [104]]), (4, .agg #[str [104]]), (5, .agg #[str [104, 100]]), (6, .agg #[str [104, 111]])]) (v := .agg #[str [104, 97, 100]]) tu118 tu44 rfl rfl rfl rfl rfl rfl) (nf rfl) ?_
  refine W.pure (v := .agg #[str [104, 116, 97, 100]]) rfl (wo rfl) rfl rfl (p_build (vs := [(0, str [104, 116, 97, 100])]) (fun w => by kernel_rfl) rfl rfl) (nf rfl) ?_
  refine W.put (H' := [(some b1, mobj .i64 [(1, .agg #[str [116, 97]]), (2, .agg #[str [116, 97, 107]]), (3, .agg #[str [104]]), (4, .agg #[str [104]]), (5, .agg #[str [104, 100]]), (6, .agg #[str [104, 111]]), (7, .agg #[str [104, 97, 100]]), (8, .agg #[str [104, 116, 97, 100]])])]) rfl (wo rfl) rfl (f_insert (j := 0) (l := [(1, .agg #[str [116, 97]]), (2, .agg #[str [116, 97, 107]]), (3, .agg #[str [104]]), (4, .agg #[str [104]]), (5, .agg #[str [104, 100]]), (6, .agg #[str [104, 111]]), (7, .agg #[str [104, 97, 100]])]) (v := .agg #[str [104, 116, 97, 100]]) tu118 tu44 rfl rfl rfl rfl rfl rfl) (nf rfl) ?_
  refine W.pure (v := .agg #[str [104]]) rfl (wo rfl) rfl rfl (p_build (vs := [(0, str [104])]) (fun w => by kernel_rfl) rfl rfl) (nf rfl) ?_
  refine W.put (H' := [(some b1, mobj .i64 [(1, .agg #[str [116, 97]]), (2, .agg #[str [116, 97, 107]]), (3, .agg #[str [104]]), (4, .agg #[str [104]]), (5, .agg #[str [104, 100]]), (6, .agg #[str [104, 111]]), (7, .agg #[str [104, 97, 100]]), (8, .agg #[str [104, 116, 97, 100]]), (9, .agg #[str [104]])])]) rfl (wo rfl) rfl (f_insert (j := 0) (l := [(1, .agg #[str [116, 97]]), (2, .agg #[str [116, 97, 107]]), (3, .agg #[str [104]]), (4, .agg #[str [104]]), (5, .agg #[str [104, 100]]), (6, .agg #[str [104, 111]]), (7, .agg #[str [104, 97, 100]]), (8, .agg #[str [104, 116, 97, 100]])]) (v := .agg #[str [104]]) tu118 tu44 rfl rfl rfl rfl rfl rfl) (nf rfl) ?_
  refine W.pure (v := .agg #[str [104, 97]]) rfl (wo rfl) rfl rfl (p_build (vs := [(0, str [104, 97])]) (fun w => by kernel_rfl) rfl rfl) (nf rfl) ?_
  refine W.put (H' := [(some b1, mobj .i64 [(1, .agg #[str [116, 97]]), (2, .agg #[str [116, 97, 107]]), (3, .agg #[str [104]]), (4, .agg #[str [104]]), (5, .agg #[str [104, 100]]), (6, .agg #[str [104, 111]]), (7, .agg #[str [104, 97, 100]]), (8, .agg #[str [104, 116, 97, 100]]), (9, .agg #[str [104]]), (10, .agg #[str [104, 97]])])]) rfl (wo rfl) rfl (f_insert (j := 0) (l := [(1, .agg #[str [116, 97]]), (2, .agg #[str [116, 97, 107]]), (3, .agg #[str [104]]), (4, .agg #[str [104]]), (5, .agg #[str [104, 100]]), (6, .agg #[str [104, 111]]), (7, .agg #[str [104, 97, 100]]), (8, .agg #[str [104, 116, 97, 100]]), (9, .agg #[str [104]])]) (v := .agg #[str [104, 97]]) tu118 tu44 rfl rfl rfl rfl rfl rfl) (nf rfl) ?_
  refine W.pure (v := .agg #[str [104]]) rfl (wo rfl) rfl rfl (p_build (vs := [(0, str [104])]) (fun w => by kernel_rfl) rfl rfl) (nf rfl) ?_
  refine W.put (H' := [(some b1, mobj .i64 [(1, .agg #[str [116, 97]]), (2, .agg #[str [116, 97, 107]]), (3, .agg #[str [104]]), (4, .agg #[str [104]]), (5, .agg #[str [104, 100]]), (6, .agg #[str [104, 111]]), (7, .agg #[str [104, 97, 100]]), (8, .agg #[str [104, 116, 97, 100]]), (9, .agg #[str [104]]), (10, .agg #[str [104, 97]]), (11, .agg #[str [104]])])]) rfl (wo rfl) rfl (f_insert (j := 0) (l := [(1, .agg #[str [116, 97]]), (2, .agg #[str [116, 97, 107]]), (3, .agg #[str [104]]), (4, .agg #[str [104]]), (5, .agg #[str [104, 100]]), (6, .agg #[str [104, 111]]), (7, .agg #[str [104, 97, 100]]), (8, .agg #[str [104, 116, 97, 100]]), (9, .agg #[str [104]]), (10, .agg #[str [104, 97]])]) (v := .agg #[str [104]]) tu118 tu44 rfl rfl rfl rfl rfl rfl) (nf rfl) ?_
  refine W.pure (v := .agg #[str [104, 100]]) rfl (wo rfl) rfl rfl (p_build (vs := [(0, str [104, 100])]) (fun w => by kernel_rfl) rfl rfl) (nf rfl) ?_
  refine W.put (H' := [(some b1, mobj .i64 [(1, .agg #[str [116, 97]]), (2, .agg #[str [116, 97, 107]]), (3, .agg #[str [104]]), (4, .agg #[str [104]]), (5, .agg #[str [104, 100]]), (6, .agg #[str [104, 111]]), (7, .agg #[str [104, 97, 100]]), (8, .agg #[str [104, 116, 97, 100]]), (9, .agg #[str [104]]), (10, .agg #[str [104, 97]]), (11, .agg #[str [104]]), (12, .agg #[str [104, 100]])])]) rfl (wo rfl) rfl (f_insert (j := 0) (l := [(1, .agg #[str [116, 97]]), (2, .agg #[str [116, 97, 107]]), (3, .agg #[str [104]]), (4, .agg #[str [104]]), (5, .agg #[str [104, 100]]), (6, .agg #[str [104, 111]]), (7, .agg #[str [104, 97, 100]]), (8, .agg #[str [104, 116, 97, 100]]), (9, .agg #[str [104]]), (10, .agg #[str [104, 97]]), (11, .agg #[str [104]])]) (v := .agg #[str [104, 100]]) tu118 tu44 rfl rfl rfl rfl rfl rfl) (nf rfl) ?_
  refine W.pure (v := .agg #[str [104, 100]]) rfl (wo rfl) rfl rfl (p_build (vs := [(0, str [104, 100])]) (fun w => by kernel_rfl) rfl rfl) (nf rfl) ?_
  refine W.put (H' := [(some b1, mobj .i64 [(1, .agg #[str [116, 97]]), (2, .agg #[str [116, 97, 107]]), (3, .agg #[str [104]]), (4, .agg #[str [104]]), (5, .agg #[str [104, 100]]), (6, .agg #[str [104, 111]]), (7, .agg #[str [104, 97, 100]]), (8, .agg #[str [104, 116, 97, 100]]), (9, .agg #[str [104]]), (10, .agg #[str [104, 97]]), (11, .agg #[str [104]]), (12, .agg #[str [104, 100]]), (13, .agg #[str [104, 100]])])]) rfl (wo rfl) rfl (f_insert (j := 0) (l := [(1, .agg #[str [116, 97]]), (2, .agg #[str [116, 97, 107]]), (3, .agg #[str [104]]), (4, .agg #[str [104]]), (5, .agg #[str [104, 100]]), (6, .agg #[str [104, 111]]), (7, .agg #[str [104, 97, 100]]), (8, .agg #[str [104, 116, 97, 100]]), (9, .agg #[str [104]]), (10, .agg #[str [104, 97]]), (11, .agg #[str [104]]), (12, .agg #[str [104, 100]])]) (v := .agg #[str [104, 100]]) tu118 tu44 rfl rfl rfl rfl rfl rfl) (nf rfl) ?_
  refine W.pure (v := .map (some b1)) rfl (wo rfl) rfl rfl (p_move rfl rfl) (nf rfl) ?_
  refine W.pure (v := .map (some b1)) rfl (wo rfl) rfl rfl (p_assign rfl rfl) (nf rfl) ?_
  refine W.doneQ (y := sub [1, 1] B65) rfl ?_
  exact C.ret (R := fun e w' => ∃ x : Nat, e = .returned (.map (some x)) ∧ Cls w0 I' [(some x, mobj .i64 [(1, .agg #[str [116, 97]]), (2, .agg #[str [116, 97, 107]]), (3, .agg #[str [104]]), (4, .agg #[str [104]]), (5, .agg #[str [104, 100]]), (6, .agg #[str [104, 111]]), (7, .agg #[str [104, 97, 100]]), (8, .agg #[str [104, 116, 97, 100]]), (9, .agg #[str [104]]), (10, .agg #[str [104, 97]]), (11, .agg #[str [104]]), (12, .agg #[str [104, 100]]), (13, .agg #[str [104, 100]])])] w') (rs := [.tmp 0]) (vs := [.map (some b1)]) rfl Tryd.func65 rfl rfl rfl (res_cons (ResV.tmp rfl) res_nil) fun w1 hc1 => ⟨b1, rfl, hc1.pick [0] (by decide)⟩
theorem en65 (args : Array Value) (w : World) : (callFunc 65 args).run Tryd.prog w = .ok (.enter 65 args) w := by kernel_rfl
theorem tz117 (w : World) : (zeroValue 117).run Tryd.prog w = .ok (.agg #[str []]) w := by kernel_rfl
set_option maxHeartbeats 20000000 in
theorem cw43_25 {I : Mem} : Turn I 43 #[.int .i64 1] [] (fun _ : Unit => str [116, 97]) (fun _ => []) := fun I' he w0 w hc => by
  refine calls_of_CW (N := 7) Tryd.func43 (show _ = some B43 by kernel_rfl) (by kernel_rfl) rfl (S := [(0, .int .i64 1)]) (by simp) hc ?_
  show CW _ _ _ (sub [] B43) _ _ _
  refine C.seq (x := sub [0] B43) (y := sub [1] B43) ?_
  refine C.region (id := 0) (m := 1) (ops := opsOf (sub [0] B43)) rfl ?_
  refine W.pure (v := str []) rfl (wo rfl) rfl rfl (p_assign rfl rfl) (nf rfl) ?_
  refine W.doneQ (y := sub [1] B43) rfl ?_
  refine C.seq (x := sub [1, 0] B43) (y := sub [1, 1] B43) ?_
  refine C.region (id := 1) (m := 5) (ops := opsOf (sub [1, 0] B43)) rfl ?_
  refine W.cP (E := []) (R := []) (caps := #[]) rfl (wo rfl) rfl rfl [] rfl rfl (cw65_26) rfl (en65 _) rfl rfl rfl (args_val rfl) ?_
  intro b1
  refine W.heapIs (H2 := [(some b1, mobj .i64 [(1, .agg #[str [116, 97]]), (2, .agg #[str [116, 97, 107]]), (3, .agg #[str [104]]), (4, .agg #[str [104]]), (5, .agg #[str [104, 100]]), (6, .agg #[str [104, 111]]), (7, .agg #[str [104, 97, 100]]), (8, .agg #[str [104, 116, 97, 100]]), (9, .agg #[str [104]]), (10, .agg #[str [104, 97]]), (11, .agg #[str [104]]), (12, .agg #[str [104, 100]]), (13, .agg #[str [104, 100]])])]) rfl ?_
  refine W.pure (v := .int .i64 1) rfl (wo rfl) rfl rfl (p_move rfl rfl) (nf rfl) ?_
  refine W.quiet (v := .agg #[str [116, 97]]) rfl (wo rfl) rfl rfl (f_lookup (j := 0) (a := 1) (l := [(1, .agg #[str [116, 97]]), (2, .agg #[str [116, 97, 107]]), (3, .agg #[str [104]]), (4, .agg #[str [104]]), (5, .agg #[str [104, 100]]), (6, .agg #[str [104, 111]]), (7, .agg #[str [104, 97, 100]]), (8, .agg #[str [104, 116, 97, 100]]), (9, .agg #[str [104]]), (10, .agg #[str [104, 97]]), (11, .agg #[str [104]]), (12, .agg #[str [104, 100]]), (13, .agg #[str [104, 100]])]) tu118 tu44 tz117 rfl rfl rfl rfl) (nf rfl) ?_
  refine W.pure (v := str [116, 97]) rfl (wo rfl) rfl rfl (p_fieldU (fun w => by kernel_rfl) rfl rfl) (nf rfl) ?_
  refine W.pure (v := str [116, 97]) rfl (wo rfl) rfl rfl (p_assign rfl rfl) (nf rfl) ?_
  refine W.doneQ (y := sub [1, 1] B43) rfl ?_
  exact C.ret (R := fun e w' => ∃ _x : Unit, e = .returned (str [116, 97]) ∧ Cls w0 I' [] w') (rs := [.tmp 2]) (vs := [str [116, 97]]) rfl Tryd.func43 rfl rfl rfl (res_cons (ResV.tmp rfl) res_nil) fun w1 hc1 => ⟨(), rfl, hc1.pick [] (by decide)⟩
theorem en43 (args : Array Value) (w : World) : (callFunc 43 args).run Tryd.prog w = .ok (.enter 43 args) w := by kernel_rfl
theorem us9 : Tryd.prog.underlying 9 = some .string := by kernel_rfl
theorem tz1 (w : World) : (zeroValue 1).run Tryd.prog w = .ok (.nilFunc) w := by kernel_rfl
noncomputable def B61 : Code := bodyOf Tryd.f61
theorem tf49_4 (a : Addr) (w : World) : (Instr.fieldAt 49 (.pointer (some a)) 4).run Tryd.prog w = .ok (.pointer (some (a.add 4))) w := by kernel_rfl
theorem ta30 (w : World) : (isAgg 30).run Tryd.prog w = .ok false w := by kernel_rfl
theorem ts30 (w : World) : (sizeOf 30).run Tryd.prog w = .ok 1 w := by kernel_rfl
def kc6 : Array Value := #[.int .u64 0, .int .i64 1, .int .u32 0, .int .u32 0, .int .i64 1, .int .i64 0, .int .u8 0, .int .u8 0, .int .u8 0, .int .u8 0, .int .u8 0, .int .u8 0, .int .u8 0, .int .u8 0, .int .u8 0, .int .u8 0, .int .u8 0, .int .u8 0, .int .u8 0, .int .u8 0, .int .u8 0, .int .u8 0, .int .u8 0, .int .u8 0, .int .u8 0, .int .u8 0, .int .u8 0, .int .u8 0, .int .u8 0, .int .u8 0, .int .u8 0, .int .u8 0, .int .u8 0, .int .u8 0, .int .u8 0, .int .u8 0, .int .u8 0, .int .u8 0, .slice none 0 0]
set_option maxHeartbeats 20000000 in
theorem cw61_27 (p1 p2 : Nat) {I : Mem} : Turn I 61 #[ptr p1 0, ptr p2 0] [(some p1, .cells kc2 49 (0, 0)), (some p2, .cells kc5 49 (0, 0))] (fun _ : Unit => .tuple #[]) (fun _ => [(some p1, .cells kc2 49 (0, 0)), (some p2, .cells kc6 49 (0, 0))]) := fun I' he w0 w hc => by
  refine calls_of_CW (N := 5) Tryd.func61 (show _ = some B61 by kernel_rfl) (by kernel_rfl) rfl (S := [(0, ptr p1 0), (1, ptr p2 0)]) (by simp) hc ?_
  show CW _ _ _ (sub [] B61) _ _ _
  refine C.region (id := 0) (m := 4) (ops := opsOf (sub [] B61)) rfl ?_
  refine W.pure (v := ptr p1 4) rfl (wo rfl) rfl rfl (p_fieldAddr tf49_4 rfl rfl) (nf rfl) ?_
  refine W.quiet (v := .int .i64 1) rfl (wo rfl) rfl rfl (f_load (j := 0) (off := 4) ta30 rfl rfl rfl rfl) (nf rfl) ?_
  refine W.pure (v := ptr p2 4) rfl (wo rfl) rfl rfl (p_fieldAddr tf49_4 rfl rfl) (nf rfl) ?_
  refine W.put (H' := [(some p1, .cells kc2 49 (0, 0)), (some p2, .cells kc6 49 (0, 0))]) rfl (wo rfl) rfl (f_store (c := kc5) (j := 1) (off := 4) (v := .int .i64 1) ts30 rfl rfl (Nat.le_of_ble_eq_true rfl) trivial rfl rfl rfl) (nf rfl) ?_
  exact W.endRet (R := fun e w' => ∃ _x : Unit, e = .returned (.tuple #[]) ∧ Cls w0 I' [(some p1, .cells kc2 49 (0, 0)), (some p2, .cells kc6 49 (0, 0))] w') (rs := []) (vs := []) rfl Tryd.func61 rfl rfl rfl res_nil fun w1 hc1 => ⟨(), rfl, hc1.pick [0, 1] (by decide)⟩
theorem en61 (args : Array Value) (w : World) : (callFunc 61 args).run Tryd.prog w = .ok (.enter 61 args) w := by kernel_rfl
noncomputable def B62 : Code := bodyOf Tryd.f62
theorem tf49_5 (a : Addr) (w : World) : (Instr.fieldAt 49 (.pointer (some a)) 5).run Tryd.prog w = .ok (.pointer (some (a.add 5))) w := by kernel_rfl
theorem ta32 (w : World) : (isAgg 32).run Tryd.prog w = .ok false w := by kernel_rfl
theorem ts32 (w : World) : (sizeOf 32).run Tryd.prog w = .ok 1 w := by kernel_rfl
set_option maxHeartbeats 20000000 in
theorem cw62_28 (p1 p2 : Nat) {I : Mem} : Turn I 62 #[ptr p1 0, ptr p2 0] [(some p1, .cells kc2 49 (0, 0)), (some p2, .cells kc6 49 (0, 0))] (fun _ : Unit => .tuple #[]) (fun _ => [(some p1, .cells kc2 49 (0, 0)), (some p2, .cells kc2 49 (0, 0))]) := fun I' he w0 w hc => by
  refine calls_of_CW (N := 5) Tryd.func62 (show _ = some B62 by kernel_rfl) (by kernel_rfl) rfl (S := [(0, ptr p1 0), (1, ptr p2 0)]) (by simp) hc ?_
  show CW _ _ _ (sub [] B62) _ _ _
  refine C.region (id := 0) (m := 4) (ops := opsOf (sub [] B62)) rfl ?_
  refine W.pure (v := ptr p1 5) rfl (wo rfl) rfl rfl (p_fieldAddr tf49_5 rfl rfl) (nf rfl) ?_
  refine W.quiet (v := .int .i64 4) rfl (wo rfl) rfl rfl (f_load (j := 0) (off := 5) ta32 rfl rfl rfl rfl) (nf rfl) ?_
  refine W.pure (v := ptr p2 5) rfl (wo rfl) rfl rfl (p_fieldAddr tf49_5 rfl rfl) (nf rfl) ?_
  refine W.put (H' := [(some p1, .cells kc2 49 (0, 0)), (some p2, .cells kc2 49 (0, 0))]) rfl (wo rfl) rfl (f_store (c := kc6) (j := 1) (off := 5) (v := .int .i64 4) ts32 rfl rfl (Nat.le_of_ble_eq_true rfl) trivial rfl rfl rfl) (nf rfl) ?_
  exact W.endRet (R := fun e w' => ∃ _x : Unit, e = .returned (.tuple #[]) ∧ Cls w0 I' [(some p1, .cells kc2 49 (0, 0)), (some p2, .cells kc2 49 (0, 0))] w') (rs := []) (vs := []) rfl Tryd.func62 rfl rfl rfl res_nil fun w1 hc1 => ⟨(), rfl, hc1.pick [0, 1] (by decide)⟩
theorem en62 (args : Array Value) (w : World) : (callFunc 62 args).run Tryd.prog w = .ok (.enter 62 args) w := by kernel_rfl
set_option maxHeartbeats 20000000 in
theorem cw42_24 {I : Mem} : Turn I 42 #[.agg kc2] [] (fun _ : Unit => .agg kc2) (fun _ => []) := fun I' he w0 w hc => by
  refine calls_of_CW (N := 32) Tryd.func42 (show _ = some B42 by kernel_rfl) (by kernel_rfl) rfl (S := [(0, .agg kc2)]) (by simp) hc ?_
  show CW _ _ _ (sub [] B42) _ _ _
  refine C.seq (x := sub [0] B42) (y := sub [1] B42) ?_
  refine C.region (id := 0) (m := 2) (ops := opsOf (sub [0] B42)) rfl ?_
  refine W.new rfl (wo rfl) rfl rfl (f_box (v := .agg kc2) rfl rfl) (nf rfl) ?_
  intro b1 _
  refine W.heapIs (H2 := [(some b1, .cells kc2 49 (0, 0))]) rfl ?_
  refine W.new rfl (wo rfl) rfl rfl (f_alloc tz49 rfl) (nf rfl) ?_
  intro b2 _
  refine W.heapIs (H2 := [(some b2, .cells kc1 49 (0, 0)), (some b1, .cells kc2 49 (0, 0))]) rfl ?_
  refine W.doneQ (y := sub [1] B42) rfl ?_
  refine C.seq (x := sub [1, 0] B42) (y := sub [1, 1] B42) ?_
  refine C.region (id := 1) (m := 7) (ops := opsOf (sub [1, 0] B42)) rfl ?_
  refine W.pure (v := ptr b1 0) rfl (wo rfl) rfl rfl (p_fieldAddr tf49_0 rfl rfl) (nf rfl) ?_
  refine W.quiet (v := .int .u64 0) rfl (wo rfl) rfl rfl (f_load (j := 1) (off := 0) ta43 rfl rfl rfl rfl) (nf rfl) ?_
  refine W.pure (v := ptr b1 1) rfl (wo rfl) rfl rfl (p_fieldAddr tf49_1 rfl rfl) (nf rfl) ?_
  refine W.quiet (v := .int .i64 1) rfl (wo rfl) rfl rfl (f_load (j := 1) (off := 1) ta44 rfl rfl rfl rfl) (nf rfl) ?_
  refine W.pure (v := .agg kc5) rfl (wo rfl) rfl rfl (p_build (vs := [(0, .int .u64 0), (1, .int .i64 1)]) (fun w => by kernel_rfl) rfl rfl) (nf rfl) ?_
  refine W.new rfl (wo rfl) rfl rfl (f_alloc tz49 rfl) (nf rfl) ?_
  intro b3 _
  refine W.heapIs (H2 := [(some b3, .cells kc1 49 (0, 0)), (some b2, .cells kc1 49 (0, 0)), (some b1, .cells kc2 49 (0, 0))]) rfl ?_
  refine W.put (H' := [(some b3, .cells kc5 49 (0, 0)), (some b2, .cells kc1 49 (0, 0)), (some b1, .cells kc2 49 (0, 0))]) rfl (wo rfl) rfl (f_storeA (j := 0) (c2 := kc5) ts49 rfl rfl rfl (one_all rfl) rfl rfl rfl) (nf rfl) ?_
  refine W.doneQ (y := sub [1, 1] B42) rfl ?_
  refine C.seq (x := sub [1, 1, 0] B42) (y := sub [1, 1, 1] B42) ?_
  refine C.region (id := 2) (m := 15) (ops := opsOf (sub [1, 1, 0] B42)) rfl ?_
  refine W.new rfl (wo rfl) rfl rfl (f_makeMap (k := .i32) rfl) (nf rfl) ?_
  intro b4 _
  refine W.heapIs (H2 := [(some b4, mobj .i32 []), (some b3, .cells kc5 49 (0, 0)), (some b2, .cells kc1 49 (0, 0)), (some b1, .cells kc2 49 (0, 0))]) rfl ?_
  refine W.pure (v := .func (.func 59) #[] #[ptr b1 0, ptr b3 0]) rfl (wo rfl) rfl rfl (p_makeFunc rfl (args_val rfl)) (nf rfl) ?_
  refine W.put (H' := [(some b4, mobj .i32 [(104, .func (.func 59) #[] #[ptr b1 0, ptr b3 0])]), (some b3, .cells kc5 49 (0, 0)), (some b2, .cells kc1 49 (0, 0)), (some b1, .cells kc2 49 (0, 0))]) rfl (wo rfl) rfl (f_insert (j := 0) (l := []) (v := .func (.func 59) #[] #[ptr b1 0, ptr b3 0]) tu116 tu21 rfl rfl rfl rfl rfl rfl) (nf rfl) ?_
  refine W.pure (v := .func (.func 60) #[] #[ptr b1 0, ptr b3 0]) rfl (wo rfl) rfl rfl (p_makeFunc rfl (args_val rfl)) (nf rfl) ?_
  refine W.put (H' := [(some b4, mobj .i32 [(104, .func (.func 59) #[] #[ptr b1 0, ptr b3 0]), (111, .func (.func 60) #[] #[ptr b1 0, ptr b3 0])]), (some b3, .cells kc5 49 (0, 0)), (some b2, .cells kc1 49 (0, 0)), (some b1, .cells kc2 49 (0, 0))]) rfl (wo rfl) rfl (f_insert (j := 0) (l := [(104, .func (.func 59) #[] #[ptr b1 0, ptr b3 0])]) (v := .func (.func 60) #[] #[ptr b1 0, ptr b3 0]) tu116 tu21 rfl rfl rfl rfl rfl rfl) (nf rfl) ?_
  refine W.pure (v := .func (.func 61) #[] #[ptr b1 0, ptr b3 0]) rfl (wo rfl) rfl rfl (p_makeFunc rfl (args_val rfl)) (nf rfl) ?_
  refine W.put (H' := [(some b4, mobj .i32 [(104, .func (.func 59) #[] #[ptr b1 0, ptr b3 0]), (111, .func (.func 60) #[] #[ptr b1 0, ptr b3 0]), (116, .func (.func 61) #[] #[ptr b1 0, ptr b3 0])]), (some b3, .cells kc5 49 (0, 0)), (some b2, .cells kc1 49 (0, 0)), (some b1, .cells kc2 49 (0, 0))]) rfl (wo rfl) rfl (f_insert (j := 0) (l := [(104, .func (.func 59) #[] #[ptr b1 0, ptr b3 0]), (111, .func (.func 60) #[] #[ptr b1 0, ptr b3 0])]) (v := .func (.func 61) #[] #[ptr b1 0, ptr b3 0]) tu116 tu21 rfl rfl rfl rfl rfl rfl) (nf rfl) ?_
  refine W.pure (v := .func (.func 62) #[] #[ptr b1 0, ptr b3 0]) rfl (wo rfl) rfl rfl (p_makeFunc rfl (args_val rfl)) (nf rfl) ?_
  refine W.put (H' := [(some b4, mobj .i32 [(104, .func (.func 59) #[] #[ptr b1 0, ptr b3 0]), (111, .func (.func 60) #[] #[ptr b1 0, ptr b3 0]), (116, .func (.func 61) #[] #[ptr b1 0, ptr b3 0]), (97, .func (.func 62) #[] #[ptr b1 0, ptr b3 0])]), (some b3, .cells kc5 49 (0, 0)), (some b2, .cells kc1 49 (0, 0)), (some b1, .cells kc2 49 (0, 0))]) rfl (wo rfl) rfl (f_insert (j := 0) (l := [(104, .func (.func 59) #[] #[ptr b1 0, ptr b3 0]), (111, .func (.func 60) #[] #[ptr b1 0, ptr b3 0]), (116, .func (.func 61) #[] #[ptr b1 0, ptr b3 0])]) (v := .func (.func 62) #[] #[ptr b1 0, ptr b3 0]) tu116 tu21 rfl rfl rfl rfl rfl rfl) (nf rfl) ?_
  refine W.pure (v := .func (.func 63) #[] #[ptr b1 0, ptr b3 0]) rfl (wo rfl) rfl rfl (p_makeFunc rfl (args_val rfl)) (nf rfl) ?_
  refine W.put (H' := [(some b4, mobj .i32 [(104, .func (.func 59) #[] #[ptr b1 0, ptr b3 0]), (111, .func (.func 60) #[] #[ptr b1 0, ptr b3 0]), (116, .func (.func 61) #[] #[ptr b1 0, ptr b3 0]), (97, .func (.func 62) #[] #[ptr b1 0, ptr b3 0]), (107, .func (.func 63) #[] #[ptr b1 0, ptr b3 0])]), (some b3, .cells kc5 49 (0, 0)), (some b2, .cells kc1 49 (0, 0)), (some b1, .cells kc2 49 (0, 0))]) rfl (wo rfl) rfl (f_insert (j := 0) (l := [(104, .func (.func 59) #[] #[ptr b1 0, ptr b3 0]), (111, .func (.func 60) #[] #[ptr b1 0, ptr b3 0]), (116, .func (.func 61) #[] #[ptr b1 0, ptr b3 0]), (97, .func (.func 62) #[] #[ptr b1 0, ptr b3 0])]) (v := .func (.func 63) #[] #[ptr b1 0, ptr b3 0]) tu116 tu21 rfl rfl rfl rfl rfl rfl) (nf rfl) ?_
  refine W.pure (v := .func (.func 64) #[] #[ptr b1 0, ptr b3 0]) rfl (wo rfl) rfl rfl (p_makeFunc rfl (args_val rfl)) (nf rfl) ?_
  refine W.put (H' := [(some b4, mobj .i32 [(104, .func (.func 59) #[] #[ptr b1 0, ptr b3 0]), (111, .func (.func 60) #[] #[ptr b1 0, ptr b3 0]), (116, .func (.func 61) #[] #[ptr b1 0, ptr b3 0]), (97, .func (.func 62) #[] #[ptr b1 0, ptr b3 0]), (107, .func (.func 63) #[] #[ptr b1 0, ptr b3 0]), (100, .func (.func 64) #[] #[ptr b1 0, ptr b3 0])]), (some b3, .cells kc5 49 (0, 0)), (some b2, .cells kc1 49 (0, 0)), (some b1, .cells kc2 49 (0, 0))]) rfl (wo rfl) rfl (f_insert (j := 0) (l := [(104, .func (.func 59) #[] #[ptr b1 0, ptr b3 0]), (111, .func (.func 60) #[] #[ptr b1 0, ptr b3 0]), (116, .func (.func 61) #[] #[ptr b1 0, ptr b3 0]), (97, .func (.func 62) #[] #[ptr b1 0, ptr b3 0]), (107, .func (.func 63) #[] #[ptr b1 0, ptr b3 0])]) (v := .func (.func 64) #[] #[ptr b1 0, ptr b3 0]) tu116 tu21 rfl rfl rfl rfl rfl rfl) (nf rfl) ?_
  refine W.pure (v := .map (some b4)) rfl (wo rfl) rfl rfl (p_move rfl rfl) (nf rfl) ?_
  refine W.pure (v := .map (some b4)) rfl (wo rfl) rfl rfl (p_assign rfl rfl) (nf rfl) ?_
  refine W.doneQ (y := sub [1, 1, 1] B42) rfl ?_
  refine C.seq (x := sub [1, 1, 1, 0] B42) (y := sub [1, 1, 1, 1] B42) ?_
  refine C.seq (x := sub [1, 1, 1, 0, 0] B42) (y := sub [1, 1, 1, 0, 1] B42) ?_
  refine C.region (id := 3) (m := 4) (ops := opsOf (sub [1, 1, 1, 0, 0] B42)) rfl ?_
  refine W.pure (v := ptr b1 1) rfl (wo rfl) rfl rfl (p_fieldAddr tf49_1 rfl rfl) (nf rfl) ?_
  refine W.quiet (v := .int .i64 1) rfl (wo rfl) rfl rfl (f_load (j := 3) (off := 1) ta44 rfl rfl rfl rfl) (nf rfl) ?_
  refine W.cP (E := []) (R := [(some b4, mobj .i32 [(104, .func (.func 59) #[] #[ptr b1 0, ptr b3 0]), (111, .func (.func 60) #[] #[ptr b1 0, ptr b3 0]), (116, .func (.func 61) #[] #[ptr b1 0, ptr b3 0]), (97, .func (.func 62) #[] #[ptr b1 0, ptr b3 0]), (107, .func (.func 63) #[] #[ptr b1 0, ptr b3 0]), (100, .func (.func 64) #[] #[ptr b1 0, ptr b3 0])]), (some b3, .cells kc5 49 (0, 0)), (some b2, .cells kc1 49 (0, 0)), (some b1, .cells kc2 49 (0, 0))]) (caps := #[]) rfl (wo rfl) rfl rfl [0, 1, 2, 3] rfl rfl (cw43_25) rfl (en43 _) rfl rfl rfl (args_val rfl) ?_
  intro _
  refine W.heapIs (H2 := [(some b4, mobj .i32 [(104, .func (.func 59) #[] #[ptr b1 0, ptr b3 0]), (111, .func (.func 60) #[] #[ptr b1 0, ptr b3 0]), (116, .func (.func 61) #[] #[ptr b1 0, ptr b3 0]), (97, .func (.func 62) #[] #[ptr b1 0, ptr b3 0]), (107, .func (.func 63) #[] #[ptr b1 0, ptr b3 0]), (100, .func (.func 64) #[] #[ptr b1 0, ptr b3 0])]), (some b3, .cells kc5 49 (0, 0)), (some b2, .cells kc1 49 (0, 0)), (some b1, .cells kc2 49 (0, 0))]) rfl ?_
  refine W.new rfl (wo rfl) rfl rfl (f_rangeStr (s := ⟨#[116, 97]⟩) us9 rfl rfl) (nf rfl) ?_
  intro b5 _
  refine W.heapIs (H2 := [(some b5, .stringIter ⟨#[116, 97]⟩ 0), (some b4, mobj .i32 [(104, .func (.func 59) #[] #[ptr b1 0, ptr b3 0]), (111, .func (.func 60) #[] #[ptr b1 0, ptr b3 0]), (116, .func (.func 61) #[] #[ptr b1 0, ptr b3 0]), (97, .func (.func 62) #[] #[ptr b1 0, ptr b3 0]), (107, .func (.func 63) #[] #[ptr b1 0, ptr b3 0]), (100, .func (.func 64) #[] #[ptr b1 0, ptr b3 0])]), (some b3, .cells kc5 49 (0, 0)), (some b2, .cells kc1 49 (0, 0)), (some b1, .cells kc2 49 (0, 0))]) rfl ?_
  refine W.doneQ (y := sub [1, 1, 1, 0, 1] B42) rfl ?_
  refine C.loopB (id := 0) (c := sub [1, 1, 1, 0, 1, 0, 0] B42) (y := sub [1, 1, 1, 1] B42) (fun q : Nat => 2 - q) (fun q : Nat => match q with | 0 => [(0, .agg kc2), (1, ptr b1 0), (2, ptr b2 0), (3, ptr b3 0), (4, .map (some b4)), (7, ptr b1 0), (8, .int .u64 0), (9, ptr b1 1), (10, .int .i64 1), (11, .agg kc5), (12, .map (some b4)), (13, .func (.func 59) #[] #[ptr b1 0, ptr b3 0]), (14, .func (.func 60) #[] #[ptr b1 0, ptr b3 0]), (15, .func (.func 61) #[] #[ptr b1 0, ptr b3 0]), (16, .func (.func 62) #[] #[ptr b1 0, ptr b3 0]), (17, .func (.func 63) #[] #[ptr b1 0, ptr b3 0]), (18, .func (.func 64) #[] #[ptr b1 0, ptr b3 0]), (19, .map (some b4)), (20, ptr b1 1), (21, .int .i64 1), (22, str [116, 97]), (23, ptr b5 0)] | 1 => [(0, .agg kc2), (1, ptr b1 0), (2, ptr b2 0), (3, ptr b3 0), (4, .map (some b4)), (7, ptr b1 0), (8, .int .u64 0), (9, ptr b1 1), (10, .int .i64 1), (11, .agg kc5), (12, .map (some b4)), (13, .func (.func 59) #[] #[ptr b1 0, ptr b3 0]), (14, .func (.func 60) #[] #[ptr b1 0, ptr b3 0]), (15, .func (.func 61) #[] #[ptr b1 0, ptr b3 0]), (16, .func (.func 62) #[] #[ptr b1 0, ptr b3 0]), (17, .func (.func 63) #[] #[ptr b1 0, ptr b3 0]), (18, .func (.func 64) #[] #[ptr b1 0, ptr b3 0]), (19, .map (some b4)), (20, ptr b1 1), (21, .int .i64 1), (22, str [116, 97]), (23, ptr b5 0)] | _ => [(0, .agg kc2), (1, ptr b1 0), (2, ptr b2 0), (3, ptr b3 0), (4, .map (some b4)), (7, ptr b1 0), (8, .int .u64 0), (9, ptr b1 1), (10, .int .i64 1), (11, .agg kc5), (12, .map (some b4)), (13, .func (.func 59) #[] #[ptr b1 0, ptr b3 0]), (14, .func (.func 60) #[] #[ptr b1 0, ptr b3 0]), (15, .func (.func 61) #[] #[ptr b1 0, ptr b3 0]), (16, .func (.func 62) #[] #[ptr b1 0, ptr b3 0]), (17, .func (.func 63) #[] #[ptr b1 0, ptr b3 0]), (18, .func (.func 64) #[] #[ptr b1 0, ptr b3 0]), (19, .map (some b4)), (20, ptr b1 1), (21, .int .i64 1), (22, str [116, 97]), (23, ptr b5 0)]) (fun q : Nat => match q with | 0 => [(some b5, .stringIter ⟨#[116, 97]⟩ 0), (some b4, mobj .i32 [(104, .func (.func 59) #[] #[ptr b1 0, ptr b3 0]), (111, .func (.func 60) #[] #[ptr b1 0, ptr b3 0]), (116, .func (.func 61) #[] #[ptr b1 0, ptr b3 0]), (97, .func (.func 62) #[] #[ptr b1 0, ptr b3 0]), (107, .func (.func 63) #[] #[ptr b1 0, ptr b3 0]), (100, .func (.func 64) #[] #[ptr b1 0, ptr b3 0])]), (some b3, .cells kc5 49 (0, 0)), (some b2, .cells kc1 49 (0, 0)), (some b1, .cells kc2 49 (0, 0))] | 1 => [(some b5, .stringIter ⟨#[116, 97]⟩ 1), (some b4, mobj .i32 [(104, .func (.func 59) #[] #[ptr b1 0, ptr b3 0]), (111, .func (.func 60) #[] #[ptr b1 0, ptr b3 0]), (116, .func (.func 61) #[] #[ptr b1 0, ptr b3 0]), (97, .func (.func 62) #[] #[ptr b1 0, ptr b3 0]), (107, .func (.func 63) #[] #[ptr b1 0, ptr b3 0]), (100, .func (.func 64) #[] #[ptr b1 0, ptr b3 0])]), (some b3, .cells kc6 49 (0, 0)), (some b2, .cells kc1 49 (0, 0)), (some b1, .cells kc2 49 (0, 0))] | _ => [(some b5, .stringIter ⟨#[116, 97]⟩ 2), (some b4, mobj .i32 [(104, .func (.func 59) #[] #[ptr b1 0, ptr b3 0]), (111, .func (.func 60) #[] #[ptr b1 0, ptr b3 0]), (116, .func (.func 61) #[] #[ptr b1 0, ptr b3 0]), (97, .func (.func 62) #[] #[ptr b1 0, ptr b3 0]), (107, .func (.func 63) #[] #[ptr b1 0, ptr b3 0]), (100, .func (.func 64) #[] #[ptr b1 0, ptr b3 0])]), (some b3, .cells kc2 49 (0, 0)), (some b2, .cells kc1 49 (0, 0)), (some b1, .cells kc2 49 (0, 0))]) (fun q => q ≤ 2) 0 (Nat.zero_le _) (Sub.cons rfl (Sub.cons rfl (Sub.cons rfl (Sub.cons rfl (Sub.cons rfl (Sub.cons rfl (Sub.cons rfl (Sub.cons rfl (Sub.cons rfl (Sub.cons rfl (Sub.cons rfl (Sub.cons rfl (Sub.cons rfl (Sub.cons rfl (Sub.cons rfl (Sub.cons rfl (Sub.cons rfl (Sub.cons rfl (Sub.cons rfl (Sub.cons rfl (Sub.cons rfl (Sub.cons rfl (Sub.nil _))))))))))))))))))))))) rfl rfl (fun q => q = 2) ?_ ?_
  · intro q hq Q' hN hE hR
    have hq2 : q = 0 ∨ q = 1 ∨ q = 2 := by omega
    rcases hq2 with rfl | rfl | rfl
    · show CW _ _ _ _ _ [(0, .agg kc2), (1, ptr b1 0), (2, ptr b2 0), (3, ptr b3 0), (4, .map (some b4)), (7, ptr b1 0), (8, .int .u64 0), (9, ptr b1 1), (10, .int .i64 1), (11, .agg kc5), (12, .map (some b4)), (13, .func (.func 59) #[] #[ptr b1 0, ptr b3 0]), (14, .func (.func 60) #[] #[ptr b1 0, ptr b3 0]), (15, .func (.func 61) #[] #[ptr b1 0, ptr b3 0]), (16, .func (.func 62) #[] #[ptr b1 0, ptr b3 0]), (17, .func (.func 63) #[] #[ptr b1 0, ptr b3 0]), (18, .func (.func 64) #[] #[ptr b1 0, ptr b3 0]), (19, .map (some b4)), (20, ptr b1 1), (21, .int .i64 1), (22, str [116, 97]), (23, ptr b5 0)] ([(some b5, .stringIter ⟨#[116, 97]⟩ 0), (some b4, mobj .i32 [(104, .func (.func 59) #[] #[ptr b1 0, ptr b3 0]), (111, .func (.func 60) #[] #[ptr b1 0, ptr b3 0]), (116, .func (.func 61) #[] #[ptr b1 0, ptr b3 0]), (97, .func (.func 62) #[] #[ptr b1 0, ptr b3 0]), (107, .func (.func 63) #[] #[ptr b1 0, ptr b3 0]), (100, .func (.func 64) #[] #[ptr b1 0, ptr b3 0])]), (some b3, .cells kc5 49 (0, 0)), (some b2, .cells kc1 49 (0, 0)), (some b1, .cells kc2 49 (0, 0))])
      refine C.seq (x := sub [1, 1, 1, 0, 1, 0, 0, 0] B42) (y := sub [1, 1, 1, 0, 1, 0, 0, 1] B42) ?_
      refine C.region (id := 4) (m := 2) (ops := opsOf (sub [1, 1, 1, 0, 1, 0, 0, 0] B42)) rfl ?_
      refine W.act (X := Unit) (u := fun _ => .tuple #[.bool true, .int .i64 0, .int .i32 116]) (H' := fun _ => [(some b5, .stringIter ⟨#[116, 97]⟩ 1), (some b4, mobj .i32 [(104, .func (.func 59) #[] #[ptr b1 0, ptr b3 0]), (111, .func (.func 60) #[] #[ptr b1 0, ptr b3 0]), (116, .func (.func 61) #[] #[ptr b1 0, ptr b3 0]), (97, .func (.func 62) #[] #[ptr b1 0, ptr b3 0]), (107, .func (.func 63) #[] #[ptr b1 0, ptr b3 0]), (100, .func (.func 64) #[] #[ptr b1 0, ptr b3 0])]), (some b3, .cells kc5 49 (0, 0)), (some b2, .cells kc1 49 (0, 0)), (some b1, .cells kc2 49 (0, 0))]) rfl (wo rfl) rfl rfl (f_nextStr (j := 0) (pos := 0) (c := 116) (wd := 1) rfl (by decide) (by kernel_rfl) rfl rfl) (nf rfl) ?_
      intro _
      refine W.pure (v := .bool true) rfl (wo rfl) rfl rfl (p_extract rfl rfl rfl) (nf rfl) ?_
      refine W.doneQ (y := sub [1, 1, 1, 0, 1, 0, 0, 1] B42) rfl ?_
      refine C.seq (x := sub [1, 1, 1, 0, 1, 0, 0, 1, 0] B42) (y := sub [1, 1, 1, 0, 1, 0, 0, 1, 1] B42) ?_
      refine C.cond_true (x := sub [1, 1, 1, 0, 1, 0, 0, 1, 0, 0] B42) (y := sub [1, 1, 1, 0, 1, 0, 0, 1, 0, 1] B42) rfl rfl ?_
      refine C.skipQ (y := sub [1, 1, 1, 0, 1, 0, 0, 1, 1] B42) rfl ?_
      refine C.block (id := 1) (c := sub [1, 1, 1, 0, 1, 0, 0, 1, 1, 0] B42) ?_
      refine C.seq (x := sub [1, 1, 1, 0, 1, 0, 0, 1, 1, 0, 0] B42) (y := sub [1, 1, 1, 0, 1, 0, 0, 1, 1, 0, 1] B42) ?_
      refine C.region (id := 5) (m := 2) (ops := opsOf (sub [1, 1, 1, 0, 1, 0, 0, 1, 1, 0, 0] B42)) rfl ?_
      refine W.pure (v := .int .i32 116) rfl (wo rfl) rfl rfl (p_extract rfl rfl rfl) (nf rfl) ?_
      refine W.pure (v := .int .i32 116) rfl (wo rfl) rfl rfl (p_assign rfl rfl) (nf rfl) ?_
      refine W.doneQ (y := sub [1, 1, 1, 0, 1, 0, 0, 1, 1, 0, 1] B42) rfl ?_
      refine C.region (id := 6) (m := 4) (ops := opsOf (sub [1, 1, 1, 0, 1, 0, 0, 1, 1, 0, 1] B42)) rfl ?_
      refine W.pure (v := .map (some b4)) rfl (wo rfl) rfl rfl (p_move rfl rfl) (nf rfl) ?_
      refine W.pure (v := .int .i32 116) rfl (wo rfl) rfl rfl (p_move rfl rfl) (nf rfl) ?_
      refine W.quiet (v := .func (.func 61) #[] #[ptr b1 0, ptr b3 0]) rfl (wo rfl) rfl rfl (f_lookup (j := 1) (a := 116) (l := [(104, .func (.func 59) #[] #[ptr b1 0, ptr b3 0]), (111, .func (.func 60) #[] #[ptr b1 0, ptr b3 0]), (116, .func (.func 61) #[] #[ptr b1 0, ptr b3 0]), (97, .func (.func 62) #[] #[ptr b1 0, ptr b3 0]), (107, .func (.func 63) #[] #[ptr b1 0, ptr b3 0]), (100, .func (.func 64) #[] #[ptr b1 0, ptr b3 0])]) tu116 tu21 tz1 rfl rfl rfl rfl) (nf rfl) ?_
      refine W.cP (E := [(some b1, .cells kc2 49 (0, 0)), (some b3, .cells kc5 49 (0, 0))]) (R := [(some b5, .stringIter ⟨#[116, 97]⟩ 1), (some b4, mobj .i32 [(104, .func (.func 59) #[] #[ptr b1 0, ptr b3 0]), (111, .func (.func 60) #[] #[ptr b1 0, ptr b3 0]), (116, .func (.func 61) #[] #[ptr b1 0, ptr b3 0]), (97, .func (.func 62) #[] #[ptr b1 0, ptr b3 0]), (107, .func (.func 63) #[] #[ptr b1 0, ptr b3 0]), (100, .func (.func 64) #[] #[ptr b1 0, ptr b3 0])]), (some b2, .cells kc1 49 (0, 0))]) (caps := #[ptr b1 0, ptr b3 0]) rfl (wo rfl) rfl rfl [4, 2, 0, 1, 3] rfl rfl (cw61_27 b1 b3) rfl (en61 _) rfl rfl rfl (args_val rfl) ?_
      intro _
      refine W.heapIs (H2 := [(some b1, .cells kc2 49 (0, 0)), (some b3, .cells kc6 49 (0, 0)), (some b5, .stringIter ⟨#[116, 97]⟩ 1), (some b4, mobj .i32 [(104, .func (.func 59) #[] #[ptr b1 0, ptr b3 0]), (111, .func (.func 60) #[] #[ptr b1 0, ptr b3 0]), (116, .func (.func 61) #[] #[ptr b1 0, ptr b3 0]), (97, .func (.func 62) #[] #[ptr b1 0, ptr b3 0]), (107, .func (.func 63) #[] #[ptr b1 0, ptr b3 0]), (100, .func (.func 64) #[] #[ptr b1 0, ptr b3 0])]), (some b2, .cells kc1 49 (0, 0))]) rfl ?_
      exact W.end' fun a1 w1 ha1 hc1 => hN 1 (by decide) (by decide) a1 w1 (ha1.sub (Sub.cons rfl (Sub.cons rfl (Sub.cons rfl (Sub.cons rfl (Sub.cons rfl (Sub.cons rfl (Sub.cons rfl (Sub.cons rfl (Sub.cons rfl (Sub.cons rfl (Sub.cons rfl (Sub.cons rfl (Sub.cons rfl (Sub.cons rfl (Sub.cons rfl (Sub.cons rfl (Sub.cons rfl (Sub.cons rfl (Sub.cons rfl (Sub.cons rfl (Sub.cons rfl (Sub.cons rfl (Sub.nil _)))))))))))))))))))))))) (hc1.pick [2, 3, 1, 4, 0] (by decide))
    · show CW _ _ _ _ _ [(0, .agg kc2), (1, ptr b1 0), (2, ptr b2 0), (3, ptr b3 0), (4, .map (some b4)), (7, ptr b1 0), (8, .int .u64 0), (9, ptr b1 1), (10, .int .i64 1), (11, .agg kc5), (12, .map (some b4)), (13, .func (.func 59) #[] #[ptr b1 0, ptr b3 0]), (14, .func (.func 60) #[] #[ptr b1 0, ptr b3 0]), (15, .func (.func 61) #[] #[ptr b1 0, ptr b3 0]), (16, .func (.func 62) #[] #[ptr b1 0, ptr b3 0]), (17, .func (.func 63) #[] #[ptr b1 0, ptr b3 0]), (18, .func (.func 64) #[] #[ptr b1 0, ptr b3 0]), (19, .map (some b4)), (20, ptr b1 1), (21, .int .i64 1), (22, str [116, 97]), (23, ptr b5 0)] ([(some b5, .stringIter ⟨#[116, 97]⟩ 1), (some b4, mobj .i32 [(104, .func (.func 59) #[] #[ptr b1 0, ptr b3 0]), (111, .func (.func 60) #[] #[ptr b1 0, ptr b3 0]), (116, .func (.func 61) #[] #[ptr b1 0, ptr b3 0]), (97, .func (.func 62) #[] #[ptr b1 0, ptr b3 0]), (107, .func (.func 63) #[] #[ptr b1 0, ptr b3 0]), (100, .func (.func 64) #[] #[ptr b1 0, ptr b3 0])]), (some b3, .cells kc6 49 (0, 0)), (some b2, .cells kc1 49 (0, 0)), (some b1, .cells kc2 49 (0, 0))])
      refine C.seq (x := sub [1, 1, 1, 0, 1, 0, 0, 0] B42) (y := sub [1, 1, 1, 0, 1, 0, 0, 1] B42) ?_
      refine C.region (id := 4) (m := 2) (ops := opsOf (sub [1, 1, 1, 0, 1, 0, 0, 0] B42)) rfl ?_
      refine W.act (X := Unit) (u := fun _ => .tuple #[.bool true, .int .i64 1, .int .i32 97]) (H' := fun _ => [(some b5, .stringIter ⟨#[116, 97]⟩ 2), (some b4, mobj .i32 [(104, .func (.func 59) #[] #[ptr b1 0, ptr b3 0]), (111, .func (.func 60) #[] #[ptr b1 0, ptr b3 0]), (116, .func (.func 61) #[] #[ptr b1 0, ptr b3 0]), (97, .func (.func 62) #[] #[ptr b1 0, ptr b3 0]), (107, .func (.func 63) #[] #[ptr b1 0, ptr b3 0]), (100, .func (.func 64) #[] #[ptr b1 0, ptr b3 0])]), (some b3, .cells kc6 49 (0, 0)), (some b2, .cells kc1 49 (0, 0)), (some b1, .cells kc2 49 (0, 0))]) rfl (wo rfl) rfl rfl (f_nextStr (j := 0) (pos := 1) (c := 97) (wd := 1) rfl (by decide) (by kernel_rfl) rfl rfl) (nf rfl) ?_
      intro _
      refine W.pure (v := .bool true) rfl (wo rfl) rfl rfl (p_extract rfl rfl rfl) (nf rfl) ?_
      refine W.doneQ (y := sub [1, 1, 1, 0, 1, 0, 0, 1] B42) rfl ?_
      refine C.seq (x := sub [1, 1, 1, 0, 1, 0, 0, 1, 0] B42) (y := sub [1, 1, 1, 0, 1, 0, 0, 1, 1] B42) ?_
      refine C.cond_true (x := sub [1, 1, 1, 0, 1, 0, 0, 1, 0, 0] B42) (y := sub [1, 1, 1, 0, 1, 0, 0, 1, 0, 1] B42) rfl rfl ?_
      refine C.skipQ (y := sub [1, 1, 1, 0, 1, 0, 0, 1, 1] B42) rfl ?_
      refine C.block (id := 1) (c := sub [1, 1, 1, 0, 1, 0, 0, 1, 1, 0] B42) ?_
      refine C.seq (x := sub [1, 1, 1, 0, 1, 0, 0, 1, 1, 0, 0] B42) (y := sub [1, 1, 1, 0, 1, 0, 0, 1, 1, 0, 1] B42) ?_
      refine C.region (id := 5) (m := 2) (ops := opsOf (sub [1, 1, 1, 0, 1, 0, 0, 1, 1, 0, 0] B42)) rfl ?_
      refine W.pure (v := .int .i32 97) rfl (wo rfl) rfl rfl (p_extract rfl rfl rfl) (nf rfl) ?_
      refine W.pure (v := .int .i32 97) rfl (wo rfl) rfl rfl (p_assign rfl rfl) (nf rfl) ?_
      refine W.doneQ (y := sub [1, 1, 1, 0, 1, 0, 0, 1, 1, 0, 1] B42) rfl ?_
      refine C.region (id := 6) (m := 4) (ops := opsOf (sub [1, 1, 1, 0, 1, 0, 0, 1, 1, 0, 1] B42)) rfl ?_
      refine W.pure (v := .map (some b4)) rfl (wo rfl) rfl rfl (p_move rfl rfl) (nf rfl) ?_
      refine W.pure (v := .int .i32 97) rfl (wo rfl) rfl rfl (p_move rfl rfl) (nf rfl) ?_
      refine W.quiet (v := .func (.func 62) #[] #[ptr b1 0, ptr b3 0]) rfl (wo rfl) rfl rfl (f_lookup (j := 1) (a := 97) (l := [(104, .func (.func 59) #[] #[ptr b1 0, ptr b3 0]), (111, .func (.func 60) #[] #[ptr b1 0, ptr b3 0]), (116, .func (.func 61) #[] #[ptr b1 0, ptr b3 0]), (97, .func (.func 62) #[] #[ptr b1 0, ptr b3 0]), (107, .func (.func 63) #[] #[ptr b1 0, ptr b3 0]), (100, .func (.func 64) #[] #[ptr b1 0, ptr b3 0])]) tu116 tu21 tz1 rfl rfl rfl rfl) (nf rfl) ?_
      refine W.cP (E := [(some b1, .cells kc2 49 (0, 0)), (some b3, .cells kc6 49 (0, 0))]) (R := [(some b5, .stringIter ⟨#[116, 97]⟩ 2), (some b4, mobj .i32 [(104, .func (.func 59) #[] #[ptr b1 0, ptr b3 0]), (111, .func (.func 60) #[] #[ptr b1 0, ptr b3 0]), (116, .func (.func 61) #[] #[ptr b1 0, ptr b3 0]), (97, .func (.func 62) #[] #[ptr b1 0, ptr b3 0]), (107, .func (.func 63) #[] #[ptr b1 0, ptr b3 0]), (100, .func (.func 64) #[] #[ptr b1 0, ptr b3 0])]), (some b2, .cells kc1 49 (0, 0))]) (caps := #[ptr b1 0, ptr b3 0]) rfl (wo rfl) rfl rfl [4, 2, 0, 1, 3] rfl rfl (cw62_28 b1 b3) rfl (en62 _) rfl rfl rfl (args_val rfl) ?_
      intro _
      refine W.heapIs (H2 := [(some b1, .cells kc2 49 (0, 0)), (some b3, .cells kc2 49 (0, 0)), (some b5, .stringIter ⟨#[116, 97]⟩ 2), (some b4, mobj .i32 [(104, .func (.func 59) #[] #[ptr b1 0, ptr b3 0]), (111, .func (.func 60) #[] #[ptr b1 0, ptr b3 0]), (116, .func (.func 61) #[] #[ptr b1 0, ptr b3 0]), (97, .func (.func 62) #[] #[ptr b1 0, ptr b3 0]), (107, .func (.func 63) #[] #[ptr b1 0, ptr b3 0]), (100, .func (.func 64) #[] #[ptr b1 0, ptr b3 0])]), (some b2, .cells kc1 49 (0, 0))]) rfl ?_
      exact W.end' fun a1 w1 ha1 hc1 => hN 2 (by decide) (by decide) a1 w1 (ha1.sub (Sub.cons rfl (Sub.cons rfl (Sub.cons rfl (Sub.cons rfl (Sub.cons rfl (Sub.cons rfl (Sub.cons rfl (Sub.cons rfl (Sub.cons rfl (Sub.cons rfl (Sub.cons rfl (Sub.cons rfl (Sub.cons rfl (Sub.cons rfl (Sub.cons rfl (Sub.cons rfl (Sub.cons rfl (Sub.cons rfl (Sub.cons rfl (Sub.cons rfl (Sub.cons rfl (Sub.cons rfl (Sub.nil _)))))))))))))))))))))))) (hc1.pick [2, 3, 1, 4, 0] (by decide))
    · show CW _ _ _ _ _ [(0, .agg kc2), (1, ptr b1 0), (2, ptr b2 0), (3, ptr b3 0), (4, .map (some b4)), (7, ptr b1 0), (8, .int .u64 0), (9, ptr b1 1), (10, .int .i64 1), (11, .agg kc5), (12, .map (some b4)), (13, .func (.func 59) #[] #[ptr b1 0, ptr b3 0]), (14, .func (.func 60) #[] #[ptr b1 0, ptr b3 0]), (15, .func (.func 61) #[] #[ptr b1 0, ptr b3 0]), (16, .func (.func 62) #[] #[ptr b1 0, ptr b3 0]), (17, .func (.func 63) #[] #[ptr b1 0, ptr b3 0]), (18, .func (.func 64) #[] #[ptr b1 0, ptr b3 0]), (19, .map (some b4)), (20, ptr b1 1), (21, .int .i64 1), (22, str [116, 97]), (23, ptr b5 0)] ([(some b5, .stringIter ⟨#[116, 97]⟩ 2), (some b4, mobj .i32 [(104, .func (.func 59) #[] #[ptr b1 0, ptr b3 0]), (111, .func (.func 60) #[] #[ptr b1 0, ptr b3 0]), (116, .func (.func 61) #[] #[ptr b1 0, ptr b3 0]), (97, .func (.func 62) #[] #[ptr b1 0, ptr b3 0]), (107, .func (.func 63) #[] #[ptr b1 0, ptr b3 0]), (100, .func (.func 64) #[] #[ptr b1 0, ptr b3 0])]), (some b3, .cells kc2 49 (0, 0)), (some b2, .cells kc1 49 (0, 0)), (some b1, .cells kc2 49 (0, 0))])
      refine C.seq (x := sub [1, 1, 1, 0, 1, 0, 0, 0] B42) (y := sub [1, 1, 1, 0, 1, 0, 0, 1] B42) ?_
      refine C.region (id := 4) (m := 2) (ops := opsOf (sub [1, 1, 1, 0, 1, 0, 0, 0] B42)) rfl ?_
      refine W.quiet (v := .tuple #[.bool false]) rfl (wo rfl) rfl rfl (f_nextEnd (j := 0) rfl (by decide) rfl rfl) (nf rfl) ?_
      refine W.pure (v := .bool false) rfl (wo rfl) rfl rfl (p_extract rfl rfl rfl) (nf rfl) ?_
      refine W.doneQ (y := sub [1, 1, 1, 0, 1, 0, 0, 1] B42) rfl ?_
      refine C.seq (x := sub [1, 1, 1, 0, 1, 0, 0, 1, 0] B42) (y := sub [1, 1, 1, 0, 1, 0, 0, 1, 1] B42) ?_
      refine C.cond_false (x := sub [1, 1, 1, 0, 1, 0, 0, 1, 0, 0] B42) (y := sub [1, 1, 1, 0, 1, 0, 0, 1, 0, 1] B42) rfl rfl ?_
      exact C.exit fun a1 w1 ha1 hc1 => hE rfl a1 w1 (ha1.sub (Sub.cons rfl (Sub.cons rfl (Sub.cons rfl (Sub.cons rfl (Sub.cons rfl (Sub.cons rfl (Sub.cons rfl (Sub.cons rfl (Sub.cons rfl (Sub.cons rfl (Sub.cons rfl (Sub.cons rfl (Sub.cons rfl (Sub.cons rfl (Sub.cons rfl (Sub.cons rfl (Sub.cons rfl (Sub.cons rfl (Sub.cons rfl (Sub.cons rfl (Sub.cons rfl (Sub.cons rfl (Sub.nil _)))))))))))))))))))))))) hc1
  intro q hq hqe
  subst hqe
  show CW _ _ _ _ _ [(0, .agg kc2), (1, ptr b1 0), (2, ptr b2 0), (3, ptr b3 0), (4, .map (some b4)), (7, ptr b1 0), (8, .int .u64 0), (9, ptr b1 1), (10, .int .i64 1), (11, .agg kc5), (12, .map (some b4)), (13, .func (.func 59) #[] #[ptr b1 0, ptr b3 0]), (14, .func (.func 60) #[] #[ptr b1 0, ptr b3 0]), (15, .func (.func 61) #[] #[ptr b1 0, ptr b3 0]), (16, .func (.func 62) #[] #[ptr b1 0, ptr b3 0]), (17, .func (.func 63) #[] #[ptr b1 0, ptr b3 0]), (18, .func (.func 64) #[] #[ptr b1 0, ptr b3 0]), (19, .map (some b4)), (20, ptr b1 1), (21, .int .i64 1), (22, str [116, 97]), (23, ptr b5 0)] ([(some b5, .stringIter ⟨#[116, 97]⟩ 2), (some b4, mobj .i32 [(104, .func (.func 59) #[] #[ptr b1 0, ptr b3 0]), (111, .func (.func 60) #[] #[ptr b1 0, ptr b3 0]), (116, .func (.func 61) #[] #[ptr b1 0, ptr b3 0]), (97, .func (.func 62) #[] #[ptr b1 0, ptr b3 0]), (107, .func (.func 63) #[] #[ptr b1 0, ptr b3 0]), (100, .func (.func 64) #[] #[ptr b1 0, ptr b3 0])]), (some b3, .cells kc2 49 (0, 0)), (some b2, .cells kc1 49 (0, 0)), (some b1, .cells kc2 49 (0, 0))])
  refine C.seq (x := sub [1, 1, 1, 1, 0] B42) (y := sub [1, 1, 1, 1, 1] B42) ?_
  refine C.region (id := 7) (m := 2) (ops := opsOf (sub [1, 1, 1, 1, 0] B42)) rfl ?_
  refine W.quiet (v := .agg kc2) rfl (wo rfl) rfl rfl (f_loadA (j := 2) ta49 ts49 rfl rfl rfl rfl) (nf rfl) ?_
  refine W.put (H' := [(some b5, .stringIter ⟨#[116, 97]⟩ 2), (some b4, mobj .i32 [(104, .func (.func 59) #[] #[ptr b1 0, ptr b3 0]), (111, .func (.func 60) #[] #[ptr b1 0, ptr b3 0]), (116, .func (.func 61) #[] #[ptr b1 0, ptr b3 0]), (97, .func (.func 62) #[] #[ptr b1 0, ptr b3 0]), (107, .func (.func 63) #[] #[ptr b1 0, ptr b3 0]), (100, .func (.func 64) #[] #[ptr b1 0, ptr b3 0])]), (some b3, .cells kc2 49 (0, 0)), (some b2, .cells kc2 49 (0, 0)), (some b1, .cells kc2 49 (0, 0))]) rfl (wo rfl) rfl (f_storeA (j := 3) (c2 := kc2) ts49 rfl rfl rfl (one_all rfl) rfl rfl rfl) (nf rfl) ?_
  refine W.doneQ (y := sub [1, 1, 1, 1, 1] B42) rfl ?_
  exact C.ret (R := fun e w' => ∃ _x : Unit, e = .returned (.agg kc2) ∧ Cls w0 I' [] w') (rs := [.cell 2 49]) (vs := [.agg kc2]) rfl Tryd.func42 rfl rfl rfl (res_cons (ResV.cell (j := 3) ta49 ts49 rfl rfl rfl) res_nil) fun w1 hc1 => ⟨(), rfl, hc1.pick [] (by decide)⟩
noncomputable def B41 : Code := bodyOf Tryd.f41
theorem tf49_2 (a : Addr) (w : World) : (Instr.fieldAt 49 (.pointer (some a)) 2).run Tryd.prog w = .ok (.pointer (some (a.add 2))) w := by kernel_rfl
theorem ta24 (w : World) : (isAgg 24).run Tryd.prog w = .ok false w := by kernel_rfl
theorem tf49_3 (a : Addr) (w : World) : (Instr.fieldAt 49 (.pointer (some a)) 3).run Tryd.prog w = .ok (.pointer (some (a.add 3))) w := by kernel_rfl
theorem tf49_6 (a : Addr) (w : World) : (Instr.fieldAt 49 (.pointer (some a)) 6).run Tryd.prog w = .ok (.pointer (some (a.add 6))) w := by kernel_rfl
theorem ta46 (w : World) : (isAgg 46).run Tryd.prog w = .ok true w := by kernel_rfl
theorem ts46 (w : World) : (sizeOf 46).run Tryd.prog w = .ok 32 w := by kernel_rfl
def kc7 : Array Value := #[.int .u8 0, .int .u8 0, .int .u8 0, .int .u8 0, .int .u8 0, .int .u8 0, .int .u8 0, .int .u8 0, .int .u8 0, .int .u8 0, .int .u8 0, .int .u8 0, .int .u8 0, .int .u8 0, .int .u8 0, .int .u8 0, .int .u8 0, .int .u8 0, .int .u8 0, .int .u8 0, .int .u8 0, .int .u8 0, .int .u8 0, .int .u8 0, .int .u8 0, .int .u8 0, .int .u8 0, .int .u8 0, .int .u8 0, .int .u8 0, .int .u8 0, .int .u8 0]
theorem tf49_7 (a : Addr) (w : World) : (Instr.fieldAt 49 (.pointer (some a)) 7).run Tryd.prog w = .ok (.pointer (some (a.add 38))) w := by kernel_rfl
theorem ta47 (w : World) : (isAgg 47).run Tryd.prog w = .ok false w := by kernel_rfl
noncomputable def B58 : Code := bodyOf Tryd.f58
theorem tu47 (w : World) : (underlying 47).run Tryd.prog w = .ok (.slice 5) w := by kernel_rfl
set_option maxHeartbeats 20000000 in
theorem cw58_30 {I : Mem} : Turn I 58 #[.slice none 0 0, .slice none 0 0] [] (fun _ : Unit => .bool true) (fun _ => []) := fun I' he w0 w hc => by
  refine calls_of_CW (N := 26) Tryd.func58 (show _ = some B58 by kernel_rfl) (by kernel_rfl) rfl (S := [(0, .slice none 0 0), (1, .slice none 0 0)]) (by simp) hc ?_
  show CW _ _ _ (sub [] B58) _ _ _
  refine C.seq (x := sub [0] B58) (y := sub [1] B58) ?_
  refine C.region (id := 0) (m := 1) (ops := opsOf (sub [0] B58)) rfl ?_
  refine W.pure (v := .bool false) rfl (wo rfl) rfl rfl (p_assign rfl rfl) (nf rfl) ?_
  refine W.doneQ (y := sub [1] B58) rfl ?_
  refine C.seq (x := sub [1, 0] B58) (y := sub [1, 1] B58) ?_
  refine C.seq (x := sub [1, 0, 0] B58) (y := sub [1, 0, 1] B58) ?_
  refine C.region (id := 1) (m := 5) (ops := opsOf (sub [1, 0, 0] B58)) rfl ?_
  refine W.pure (v := .slice none 0 0) rfl (wo rfl) rfl rfl (p_move rfl rfl) (nf rfl) ?_
  refine W.pure (v := .int .i64 0) rfl (wo rfl) rfl rfl (p_slLen tu47 ⟨_, _, rfl⟩ rfl rfl) (nf rfl) ?_
  refine W.pure (v := .slice none 0 0) rfl (wo rfl) rfl rfl (p_move rfl rfl) (nf rfl) ?_
  refine W.pure (v := .int .i64 0) rfl (wo rfl) rfl rfl (p_slLen tu47 ⟨_, _, rfl⟩ rfl rfl) (nf rfl) ?_
  refine W.pure (v := .bool false) rfl (wo rfl) rfl rfl (p_bin (fun w => by kernel_rfl) (fun w => by kernel_rfl) rfl rfl rfl) (nf rfl) ?_
  refine W.doneQ (y := sub [1, 0, 1] B58) rfl ?_
  refine C.cond_false (x := sub [1, 0, 1, 0] B58) (y := sub [1, 0, 1, 1] B58) rfl rfl ?_
  refine C.skipQ (y := sub [1, 1] B58) rfl ?_
  refine C.seq (x := sub [1, 1, 0] B58) (y := sub [1, 1, 1] B58) ?_
  refine C.seq (x := sub [1, 1, 0, 0] B58) (y := sub [1, 1, 0, 1] B58) ?_
  refine C.region (id := 3) (m := 3) (ops := opsOf (sub [1, 1, 0, 0] B58)) rfl ?_
  refine W.pure (v := .slice none 0 0) rfl (wo rfl) rfl rfl (p_move rfl rfl) (nf rfl) ?_
  refine W.pure (v := .int .i64 0) rfl (wo rfl) rfl rfl (p_slLen tu47 ⟨_, _, rfl⟩ rfl rfl) (nf rfl) ?_
  refine W.pure (v := .int .i64 0) rfl (wo rfl) rfl rfl (p_move rfl rfl) (nf rfl) ?_
  refine W.doneQ (y := sub [1, 1, 0, 1] B58) rfl ?_
  refine C.loopB (id := 0) (c := sub [1, 1, 0, 1, 0, 0] B58) (y := sub [1, 1, 1] B58) (fun q : Nat => 0 - q) (fun _ : Nat => [(0, .slice none 0 0), (1, .slice none 0 0), (6, .slice none 0 0), (7, .int .i64 0), (8, .slice none 0 0), (9, .int .i64 0), (10, .bool false), (11, .slice none 0 0), (12, .int .i64 0), (13, .int .i64 0)]) (fun _ : Nat => []) (fun q => q ≤ 0) 0 (Nat.zero_le _) (Sub.cons rfl (Sub.cons rfl (Sub.cons rfl (Sub.cons rfl (Sub.cons rfl (Sub.cons rfl (Sub.cons rfl (Sub.cons rfl (Sub.cons rfl (Sub.cons rfl (Sub.nil _))))))))))) rfl rfl (fun q => q = 0) ?_ ?_
  · intro q hq Q' hN hE hR
    have hq2 : q = 0 := by omega
    subst hq2
    · show CW _ _ _ _ _ [(0, .slice none 0 0), (1, .slice none 0 0), (6, .slice none 0 0), (7, .int .i64 0), (8, .slice none 0 0), (9, .int .i64 0), (10, .bool false), (11, .slice none 0 0), (12, .int .i64 0), (13, .int .i64 0)] ([])
      refine C.seq (x := sub [1, 1, 0, 1, 0, 0, 0] B58) (y := sub [1, 1, 0, 1, 0, 0, 1] B58) ?_
      refine C.region (id := 4) (m := 1) (ops := opsOf (sub [1, 1, 0, 1, 0, 0, 0] B58)) rfl ?_
      refine W.pure (v := .bool false) rfl (wo rfl) rfl rfl (p_bin (fun w => by kernel_rfl) (fun w => by kernel_rfl) rfl rfl rfl) (nf rfl) ?_
      refine W.doneQ (y := sub [1, 1, 0, 1, 0, 0, 1] B58) rfl ?_
      refine C.seq (x := sub [1, 1, 0, 1, 0, 0, 1, 0] B58) (y := sub [1, 1, 0, 1, 0, 0, 1, 1] B58) ?_
      refine C.cond_false (x := sub [1, 1, 0, 1, 0, 0, 1, 0, 0] B58) (y := sub [1, 1, 0, 1, 0, 0, 1, 0, 1] B58) rfl rfl ?_
      exact C.exit fun a1 w1 ha1 hc1 => hE rfl a1 w1 (ha1.sub (Sub.cons rfl (Sub.cons rfl (Sub.cons rfl (Sub.cons rfl (Sub.cons rfl (Sub.cons rfl (Sub.cons rfl (Sub.cons rfl (Sub.cons rfl (Sub.cons rfl (Sub.nil _)))))))))))) hc1
  intro q hq hqe
  subst hqe
  show CW _ _ _ _ _ [(0, .slice none 0 0), (1, .slice none 0 0), (6, .slice none 0 0), (7, .int .i64 0), (8, .slice none 0 0), (9, .int .i64 0), (10, .bool false), (11, .slice none 0 0), (12, .int .i64 0), (13, .int .i64 0)] ([])
  refine C.seq (x := sub [1, 1, 1, 0] B58) (y := sub [1, 1, 1, 1] B58) ?_
  refine C.region (id := 9) (m := 1) (ops := opsOf (sub [1, 1, 1, 0] B58)) rfl ?_
  refine W.pure (v := .bool true) rfl (wo rfl) rfl rfl (p_assign rfl rfl) (nf rfl) ?_
  refine W.doneQ (y := sub [1, 1, 1, 1] B58) rfl ?_
  exact C.ret (R := fun e w' => ∃ _x : Unit, e = .returned (.bool true) ∧ Cls w0 I' [] w') (rs := [.tmp 4]) (vs := [.bool true]) rfl Tryd.func58 rfl rfl rfl (res_cons (ResV.tmp rfl) res_nil) fun w1 hc1 => ⟨(), rfl, hc1.pick [] (by decide)⟩
theorem en58 (args : Array Value) (w : World) : (callFunc 58 args).run Tryd.prog w = .ok (.enter 58 args) w := by kernel_rfl
end Go.Proofs.YtfcedjmgddloiaaDoor
