import Derived.Test.YtjomnicfcdkfdaaDkS
namespace Go.Proofs.Ytjomnicfcdkfdaa
open Go Go.HW Go.RowKit
set_option linter.unusedVariables false
set_option linter.unusedSimpArgs false

theorem tf46_0 (a : Addr) (w : World) : (Instr.fieldAt 46 (.pointer (some a)) 0).run Try.prog w = .ok (.pointer (some (a.add 0))) w := by kernel_rfl
theorem tf46_1 (a : Addr) (w : World) : (Instr.fieldAt 46 (.pointer (some a)) 1).run Try.prog w = .ok (.pointer (some (a.add 1))) w := by kernel_rfl
theorem tf46_2 (a : Addr) (w : World) : (Instr.fieldAt 46 (.pointer (some a)) 2).run Try.prog w = .ok (.pointer (some (a.add 2))) w := by kernel_rfl
theorem tf46_3 (a : Addr) (w : World) : (Instr.fieldAt 46 (.pointer (some a)) 3).run Try.prog w = .ok (.pointer (some (a.add 3))) w := by kernel_rfl
theorem tf46_4 (a : Addr) (w : World) : (Instr.fieldAt 46 (.pointer (some a)) 4).run Try.prog w = .ok (.pointer (some (a.add 4))) w := by kernel_rfl
theorem ta22 (w : World) : (isAgg 22).run Try.prog w = .ok false w := by kernel_rfl
theorem ta46 (w : World) : (isAgg 46).run Try.prog w = .ok true w := by kernel_rfl
theorem ts46 (w : World) : (sizeOf 46).run Try.prog w = .ok 5 w := by kernel_rfl
theorem tu41 (w : World) : (underlying 41).run Try.prog w = .ok (.slice 46) w := by kernel_rfl

noncomputable def B23 : Code := bodyOf Try.f23
theorem en23 (args : Array Value) (w : World) : (callFunc 23 args).run Try.prog w = .ok (.enter 23 args) w := by kernel_rfl
theorem tDo {I : Mem} {b m : Nat} {s s2 : Dk} {e : Int} (x : Dx s) {z : Stp} {pv : Value} (hp : IntRow I .i64 pv z.picks) (hK : doK s z = (e, s2)) (hl : s.late.length ≤ 137438953471) : Turn I 23 #[ptr b 0, .agg (stc z pv).toArray] (dX b m x) (fun _ : Dx s2 => .int .i64 e) (fun x' => dX b m x') := fun I' he w0 w hc => by
  have hc : Cls w0 I' (dX b m x ++ []) w := by rw [List.append_nil]; exact hc
  refine calls_of_CW (N := 61) Try.func23 (show _ = some B23 by kernel_rfl) (by kernel_rfl) rfl (S := [(0, ptr b 0), (1, .agg (stc z pv).toArray)]) (by simp) hc ?_
  show CW _ _ _ (sub [] B23) _ _ _
  refine C.seq (x := sub [0] B23) (y := sub [1] B23) ?_
  refine C.region (id := 0) (m := 2) (ops := opsOf (sub [0] B23)) rfl ?_
  refine W.new rfl (wo rfl) rfl rfl (f_box rfl rfl) (nf rfl) ?_
  intro bx hbx
  refine W.pure rfl (wo rfl) rfl rfl (p_assign rfl rfl) (nf rfl) ?_
  refine W.doneQ (y := sub [1] B23) rfl ?_
  refine C.settleF (E := [(some bx, .cells (stc z pv).toArray 46 (0, 0))]) rfl ?_
  intro I2 he2 hI
  have hb := hI bx _ (List.mem_singleton.2 rfl)
  clear hI
  refine C.seq (x := sub [1, 0] B23) (y := sub [1, 1] B23) ?_
  refine C.seq (x := sub [1, 0, 0] B23) (y := sub [1, 0, 1] B23) ?_
  refine C.region (id := 1) (m := 2) (ops := opsOf (sub [1, 0, 0] B23)) rfl ?_
  refine W.pure rfl (wo rfl) rfl rfl (p_fieldAddr tf46_0 rfl rfl) (nf rfl) ?_
  refine W.imm rfl (wo rfl) rfl rfl (i_loadBoxO (off := 0) hb rfl ta3 rfl rfl) (nf rfl) ?_
  refine W.doneQ (y := sub [1, 0, 1] B23) rfl ?_
  refine C.block (id := 0) (c := sub [1, 0, 1, 0] B23) ?_
  refine C.seq (x := sub [1, 0, 1, 0, 0] B23) (y := sub [1, 0, 1, 0, 1] B23) ?_
  refine C.region (id := 2) (m := 2) (ops := opsOf (sub [1, 0, 1, 0, 0] B23)) rfl ?_
  by_cases k1 : z.kind = 1
  · refine W.pure rfl (wo rfl) rfl rfl (pT (by rw [k1]; rfl) (p_eql rfl rfl rfl)) (nf rfl) ?_
    refine W.pure rfl (wo rfl) rfl rfl (p_assign rfl rfl) (nf rfl) ?_
    refine W.doneQ (y := sub [1, 0, 1, 0, 1] B23) rfl ?_
    refine C.cond_true (x := sub [1, 0, 1, 0, 1, 0] B23) (y := sub [1, 0, 1, 0, 1, 1] B23) rfl rfl ?_
    refine C.seq (x := sub [1, 0, 1, 0, 1, 0, 0] B23) (y := sub [1, 0, 1, 0, 1, 0, 1] B23) ?_
    refine C.regionD (id := 3) (ops := opsOf (sub [1, 0, 1, 0, 1, 0, 0] B23)) [0, 1, 2, 3, 4, 5, 6, 7, 8] [0, 0, 2, 0, 8, 24, 63, 127, 255] [(.pure, none), (.pure, none), (.pure, none), (.pure, none), (.pure, none), (.keep, none), (.actx, none), (.quiet, none), (.pure, none)] (by kernel_rfl) ?_
    intro wD3 hl3
    refine DW.pure rfl rfl rfl rfl rfl (p_move rfl rfl) ?_
    refine DW.pure rfl rfl rfl rfl rfl (p_fieldAddr tf46_1 rfl rfl) ?_
    refine DW.imm rfl rfl rfl rfl rfl (i_loadBoxO (off := 1) hb rfl ta3 rfl rfl) ?_
    refine DW.pure rfl rfl rfl rfl rfl (p_fieldAddr tf46_3 rfl rfl) ?_
    refine DW.imm rfl rfl rfl rfl rfl (i_loadBoxO (off := 3) hb rfl ta5 rfl rfl) ?_
    refine DW.c01k rfl rfl rfl rfl rfl (tBlock _ (by decide)) (en39 _) rfl rfl rfl (args_val rfl) ?_
    intro y1
    have hK2 : writeK s z.n (blockL z.fill 512) = (e, s2) := by rw [← hK]; unfold doK; rw [if_pos k1]
    refine DW.c22s rfl rfl rfl rfl rfl rfl (tWrite x y1 _ (hK2) (hl)) (en15 _) rfl rfl rfl (args_val rfl) ?_
    intro x2
    refine DW.quiet rfl rfl rfl rfl rfl (f_callR rfl rfl (args_val rfl) (en12 _) (fun w2 hc2 => num_ok w2 _)) ?_
    refine DW.pure rfl rfl rfl rfl rfl (p_assign rfl rfl) ?_
    refine DW.doneQ (y := sub [1, 0, 1, 0, 1, 0, 1] B23) hl3 rfl ?_
    exact C.ret (R := fun e' w' => ∃ x' : Dx s2, e' = .returned (.int .i64 e) ∧ Cls w0 I' (dX b m x') w') (rs := [.tmp 4]) (vs := [.int .i64 e]) rfl Try.func23 rfl rfl rfl (res_cons (ResV.tmp rfl) res_nil) fun w1 hc1 => ⟨x2, rfl, (cls_less he2 hc1).fewer (List.sublist_append_left _ _)⟩
  · refine W.pure rfl (wo rfl) rfl rfl (pF (by simpa using k1) (p_eql rfl rfl rfl)) (nf rfl) ?_
    refine W.pure rfl (wo rfl) rfl rfl (p_assign rfl rfl) (nf rfl) ?_
    refine W.doneQ (y := sub [1, 0, 1, 0, 1] B23) rfl ?_
    refine C.cond_false (x := sub [1, 0, 1, 0, 1, 0] B23) (y := sub [1, 0, 1, 0, 1, 1] B23) rfl rfl ?_
    refine C.seq (x := sub [1, 0, 1, 0, 1, 1, 0] B23) (y := sub [1, 0, 1, 0, 1, 1, 1] B23) ?_
    refine C.region (id := 4) (m := 2) (ops := opsOf (sub [1, 0, 1, 0, 1, 1, 0] B23)) rfl ?_
    by_cases k2 : z.kind = 2
    · refine W.pure rfl (wo rfl) rfl rfl (pT (by rw [k2]; rfl) (p_eql rfl rfl rfl)) (nf rfl) ?_
      refine W.pure rfl (wo rfl) rfl rfl (p_assign rfl rfl) (nf rfl) ?_
      refine W.doneQ (y := sub [1, 0, 1, 0, 1, 1, 1] B23) rfl ?_
      refine C.cond_true (x := sub [1, 0, 1, 0, 1, 1, 1, 0] B23) (y := sub [1, 0, 1, 0, 1, 1, 1, 1] B23) rfl rfl ?_
      refine C.seq (x := sub [1, 0, 1, 0, 1, 1, 1, 0, 0] B23) (y := sub [1, 0, 1, 0, 1, 1, 1, 0, 1] B23) ?_
      refine C.region (id := 5) (m := 4) (ops := opsOf (sub [1, 0, 1, 0, 1, 1, 1, 0, 0] B23)) rfl ?_
      refine W.pure rfl (wo rfl) rfl rfl (p_move rfl rfl) (nf rfl) ?_
      have hK2 : syncK s = (e, s2) := by rw [← hK]; unfold doK; rw [if_neg k1]; rw [if_pos k2]
      refine W.c11 rfl (wo rfl) rfl rfl rfl (tSync x (hK2) (by omega)) (en14 _) rfl rfl rfl (args_val rfl) ?_
      intro x1
      refine W.quiet rfl (wo rfl) rfl rfl (f_callR rfl rfl (args_val rfl) (en12 _) (fun w2 hc2 => num_ok w2 _)) (nf rfl) ?_
      refine W.pure rfl (wo rfl) rfl rfl (p_assign rfl rfl) (nf rfl) ?_
      refine W.doneQ (y := sub [1, 0, 1, 0, 1, 1, 1, 0, 1] B23) rfl ?_
      exact C.ret (R := fun e' w' => ∃ x' : Dx s2, e' = .returned (.int .i64 e) ∧ Cls w0 I' (dX b m x') w') (rs := [.tmp 4]) (vs := [.int .i64 e]) rfl Try.func23 rfl rfl rfl (res_cons (ResV.tmp rfl) res_nil) fun w1 hc1 => ⟨x1, rfl, (cls_less he2 hc1).fewer (List.sublist_append_left _ _)⟩
    · refine W.pure rfl (wo rfl) rfl rfl (pF (by simpa using k2) (p_eql rfl rfl rfl)) (nf rfl) ?_
      refine W.pure rfl (wo rfl) rfl rfl (p_assign rfl rfl) (nf rfl) ?_
      refine W.doneQ (y := sub [1, 0, 1, 0, 1, 1, 1] B23) rfl ?_
      refine C.cond_false (x := sub [1, 0, 1, 0, 1, 1, 1, 0] B23) (y := sub [1, 0, 1, 0, 1, 1, 1, 1] B23) rfl rfl ?_
      refine C.seq (x := sub [1, 0, 1, 0, 1, 1, 1, 1, 0] B23) (y := sub [1, 0, 1, 0, 1, 1, 1, 1, 1] B23) ?_
      refine C.region (id := 6) (m := 2) (ops := opsOf (sub [1, 0, 1, 0, 1, 1, 1, 1, 0] B23)) rfl ?_
      by_cases k3 : z.kind = 3
      · refine W.pure rfl (wo rfl) rfl rfl (pT (by rw [k3]; rfl) (p_eql rfl rfl rfl)) (nf rfl) ?_
        refine W.pure rfl (wo rfl) rfl rfl (p_assign rfl rfl) (nf rfl) ?_
        refine W.doneQ (y := sub [1, 0, 1, 0, 1, 1, 1, 1, 1] B23) rfl ?_
        refine C.cond_true (x := sub [1, 0, 1, 0, 1, 1, 1, 1, 1, 0] B23) (y := sub [1, 0, 1, 0, 1, 1, 1, 1, 1, 1] B23) rfl rfl ?_
        refine C.seq (x := sub [1, 0, 1, 0, 1, 1, 1, 1, 1, 0, 0] B23) (y := sub [1, 0, 1, 0, 1, 1, 1, 1, 1, 0, 1] B23) ?_
        refine C.region (id := 7) (m := 6) (ops := opsOf (sub [1, 0, 1, 0, 1, 1, 1, 1, 1, 0, 0] B23)) rfl ?_
        refine W.pure rfl (wo rfl) rfl rfl (p_move rfl rfl) (nf rfl) ?_
        refine W.pure rfl (wo rfl) rfl rfl (p_fieldAddr tf46_1 rfl rfl) (nf rfl) ?_
        refine W.imm rfl (wo rfl) rfl rfl (i_loadBoxO (off := 1) hb rfl ta3 rfl rfl) (nf rfl) ?_
        have hK2 : setFuseK s z.n = (e, s2) := by rw [← hK]; unfold doK; rw [if_neg k1]; rw [if_neg k2]; rw [if_pos k3]
        refine W.c11 rfl (wo rfl) rfl rfl rfl (tFuse x _ (hK2)) (en13 _) rfl rfl rfl (args_val rfl) ?_
        intro x1
        refine W.quiet rfl (wo rfl) rfl rfl (f_callR rfl rfl (args_val rfl) (en12 _) (fun w2 hc2 => num_ok w2 _)) (nf rfl) ?_
        refine W.pure rfl (wo rfl) rfl rfl (p_assign rfl rfl) (nf rfl) ?_
        refine W.doneQ (y := sub [1, 0, 1, 0, 1, 1, 1, 1, 1, 0, 1] B23) rfl ?_
        exact C.ret (R := fun e' w' => ∃ x' : Dx s2, e' = .returned (.int .i64 e) ∧ Cls w0 I' (dX b m x') w') (rs := [.tmp 4]) (vs := [.int .i64 e]) rfl Try.func23 rfl rfl rfl (res_cons (ResV.tmp rfl) res_nil) fun w1 hc1 => ⟨x1, rfl, (cls_less he2 hc1).fewer (List.sublist_append_left _ _)⟩
      · refine W.pure rfl (wo rfl) rfl rfl (pF (by simpa using k3) (p_eql rfl rfl rfl)) (nf rfl) ?_
        refine W.pure rfl (wo rfl) rfl rfl (p_assign rfl rfl) (nf rfl) ?_
        refine W.doneQ (y := sub [1, 0, 1, 0, 1, 1, 1, 1, 1] B23) rfl ?_
        refine C.cond_false (x := sub [1, 0, 1, 0, 1, 1, 1, 1, 1, 0] B23) (y := sub [1, 0, 1, 0, 1, 1, 1, 1, 1, 1] B23) rfl rfl ?_
        refine C.seq (x := sub [1, 0, 1, 0, 1, 1, 1, 1, 1, 1, 0] B23) (y := sub [1, 0, 1, 0, 1, 1, 1, 1, 1, 1, 1] B23) ?_
        refine C.region (id := 8) (m := 2) (ops := opsOf (sub [1, 0, 1, 0, 1, 1, 1, 1, 1, 1, 0] B23)) rfl ?_
        by_cases k4 : z.kind = 4
        · refine W.pure rfl (wo rfl) rfl rfl (pT (by rw [k4]; rfl) (p_eql rfl rfl rfl)) (nf rfl) ?_
          refine W.pure rfl (wo rfl) rfl rfl (p_assign rfl rfl) (nf rfl) ?_
          refine W.doneQ (y := sub [1, 0, 1, 0, 1, 1, 1, 1, 1, 1, 1] B23) rfl ?_
          refine C.cond_true (x := sub [1, 0, 1, 0, 1, 1, 1, 1, 1, 1, 1, 0] B23) (y := sub [1, 0, 1, 0, 1, 1, 1, 1, 1, 1, 1, 1] B23) rfl rfl ?_
          refine C.seq (x := sub [1, 0, 1, 0, 1, 1, 1, 1, 1, 1, 1, 0, 0] B23) (y := sub [1, 0, 1, 0, 1, 1, 1, 1, 1, 1, 1, 0, 1] B23) ?_
          refine C.region (id := 9) (m := 6) (ops := opsOf (sub [1, 0, 1, 0, 1, 1, 1, 1, 1, 1, 1, 0, 0] B23)) rfl ?_
          refine W.pure rfl (wo rfl) rfl rfl (p_move rfl rfl) (nf rfl) ?_
          refine W.pure rfl (wo rfl) rfl rfl (p_fieldAddr tf46_4 rfl rfl) (nf rfl) ?_
          refine W.imm rfl (wo rfl) rfl rfl (i_loadBoxO (off := 4) hb rfl ta22 rfl rfl) (nf rfl) ?_
          have hK2 : ((0 : Int), crashK s z.picks) = (e, s2) := by rw [← hK]; unfold doK; rw [if_neg k1]; rw [if_neg k2]; rw [if_neg k3]; rw [if_pos k4]
          refine W.c11 rfl (wo rfl) rfl rfl rfl (tCrash x (hp.mono (he.trans he2)) (by omega)) (en18 _) rfl rfl rfl (args_val rfl) ?_
          intro x1
          refine W.quiet rfl (wo rfl) rfl rfl (f_callR rfl rfl (args_val rfl) (en12 _) (fun w2 hc2 => num_ok w2 _)) (nf rfl) ?_
          refine W.pure rfl (wo rfl) rfl rfl (p_assign rfl rfl) (nf rfl) ?_
          refine W.doneQ (y := sub [1, 0, 1, 0, 1, 1, 1, 1, 1, 1, 1, 0, 1] B23) rfl ?_
          obtain ⟨rfl, rfl⟩ := Prod.mk.inj hK2
          exact C.ret (R := fun e' w' => ∃ x' : Dx (crashK s z.picks), e' = .returned (.int .i64 0) ∧ Cls w0 I' (dX b m x') w') (rs := [.tmp 4]) (vs := [.int .i64 0]) rfl Try.func23 rfl rfl rfl (res_cons (ResV.tmp rfl) res_nil) fun w1 hc1 => ⟨x1, rfl, (cls_less he2 hc1).fewer (List.sublist_append_left _ _)⟩
        · refine W.pure rfl (wo rfl) rfl rfl (pF (by simpa using k4) (p_eql rfl rfl rfl)) (nf rfl) ?_
          refine W.pure rfl (wo rfl) rfl rfl (p_assign rfl rfl) (nf rfl) ?_
          refine W.doneQ (y := sub [1, 0, 1, 0, 1, 1, 1, 1, 1, 1, 1] B23) rfl ?_
          refine C.cond_false (x := sub [1, 0, 1, 0, 1, 1, 1, 1, 1, 1, 1, 0] B23) (y := sub [1, 0, 1, 0, 1, 1, 1, 1, 1, 1, 1, 1] B23) rfl rfl ?_
          refine C.seq (x := sub [1, 0, 1, 0, 1, 1, 1, 1, 1, 1, 1, 1, 0] B23) (y := sub [1, 0, 1, 0, 1, 1, 1, 1, 1, 1, 1, 1, 1] B23) ?_
          refine C.region (id := 10) (m := 2) (ops := opsOf (sub [1, 0, 1, 0, 1, 1, 1, 1, 1, 1, 1, 1, 0] B23)) rfl ?_
          by_cases k5 : z.kind = 5
          · refine W.pure rfl (wo rfl) rfl rfl (pT (by rw [k5]; rfl) (p_eql rfl rfl rfl)) (nf rfl) ?_
            refine W.pure rfl (wo rfl) rfl rfl (p_assign rfl rfl) (nf rfl) ?_
            refine W.doneQ (y := sub [1, 0, 1, 0, 1, 1, 1, 1, 1, 1, 1, 1, 1] B23) rfl ?_
            refine C.cond_true (x := sub [1, 0, 1, 0, 1, 1, 1, 1, 1, 1, 1, 1, 1, 0] B23) (y := sub [1, 0, 1, 0, 1, 1, 1, 1, 1, 1, 1, 1, 1, 1] B23) rfl rfl ?_
            refine C.seq (x := sub [1, 0, 1, 0, 1, 1, 1, 1, 1, 1, 1, 1, 1, 0, 0] B23) (y := sub [1, 0, 1, 0, 1, 1, 1, 1, 1, 1, 1, 1, 1, 0, 1] B23) ?_
            refine C.region (id := 11) (m := 10) (ops := opsOf (sub [1, 0, 1, 0, 1, 1, 1, 1, 1, 1, 1, 1, 1, 0, 0] B23)) rfl ?_
            refine W.pure rfl (wo rfl) rfl rfl (p_move rfl rfl) (nf rfl) ?_
            refine W.pure rfl (wo rfl) rfl rfl (p_fieldAddr tf46_1 rfl rfl) (nf rfl) ?_
            refine W.imm rfl (wo rfl) rfl rfl (i_loadBoxO (off := 1) hb rfl ta3 rfl rfl) (nf rfl) ?_
            refine W.pure rfl (wo rfl) rfl rfl (p_fieldAddr tf46_2 rfl rfl) (nf rfl) ?_
            refine W.imm rfl (wo rfl) rfl rfl (i_loadBoxO (off := 2) hb rfl ta3 rfl rfl) (nf rfl) ?_
            refine W.pure rfl (wo rfl) rfl rfl (p_fieldAddr tf46_3 rfl rfl) (nf rfl) ?_
            refine W.imm rfl (wo rfl) rfl rfl (i_loadBoxO (off := 3) hb rfl ta5 rfl rfl) (nf rfl) ?_
            have hK2 : editK s z.n z.m z.fill = (e, s2) := by rw [← hK]; unfold doK; rw [if_neg k1]; rw [if_neg k2]; rw [if_neg k3]; rw [if_neg k4]; rw [if_pos k5]
            refine W.c11 rfl (wo rfl) rfl rfl rfl (tEdit x _ _ _ (hK2) (hl)) (en30 _) rfl rfl rfl (args_val rfl) ?_
            intro x1
            refine W.quiet rfl (wo rfl) rfl rfl (f_callR rfl rfl (args_val rfl) (en12 _) (fun w2 hc2 => num_ok w2 _)) (nf rfl) ?_
            refine W.pure rfl (wo rfl) rfl rfl (p_assign rfl rfl) (nf rfl) ?_
            refine W.doneQ (y := sub [1, 0, 1, 0, 1, 1, 1, 1, 1, 1, 1, 1, 1, 0, 1] B23) rfl ?_
            exact C.ret (R := fun e' w' => ∃ x' : Dx s2, e' = .returned (.int .i64 e) ∧ Cls w0 I' (dX b m x') w') (rs := [.tmp 4]) (vs := [.int .i64 e]) rfl Try.func23 rfl rfl rfl (res_cons (ResV.tmp rfl) res_nil) fun w1 hc1 => ⟨x1, rfl, (cls_less he2 hc1).fewer (List.sublist_append_left _ _)⟩
          · refine W.pure rfl (wo rfl) rfl rfl (pF (by simpa using k5) (p_eql rfl rfl rfl)) (nf rfl) ?_
            refine W.pure rfl (wo rfl) rfl rfl (p_assign rfl rfl) (nf rfl) ?_
            refine W.doneQ (y := sub [1, 0, 1, 0, 1, 1, 1, 1, 1, 1, 1, 1, 1] B23) rfl ?_
            refine C.cond_false (x := sub [1, 0, 1, 0, 1, 1, 1, 1, 1, 1, 1, 1, 1, 0] B23) (y := sub [1, 0, 1, 0, 1, 1, 1, 1, 1, 1, 1, 1, 1, 1] B23) rfl rfl ?_
            refine C.seq (x := sub [1, 0, 1, 0, 1, 1, 1, 1, 1, 1, 1, 1, 1, 1, 0] B23) (y := sub [1, 0, 1, 0, 1, 1, 1, 1, 1, 1, 1, 1, 1, 1, 1] B23) ?_
            refine C.region (id := 12) (m := 2) (ops := opsOf (sub [1, 0, 1, 0, 1, 1, 1, 1, 1, 1, 1, 1, 1, 1, 0] B23)) rfl ?_
            by_cases k6 : z.kind = 6
            · refine W.pure rfl (wo rfl) rfl rfl (pT (by rw [k6]; rfl) (p_eql rfl rfl rfl)) (nf rfl) ?_
              refine W.pure rfl (wo rfl) rfl rfl (p_assign rfl rfl) (nf rfl) ?_
              refine W.doneQ (y := sub [1, 0, 1, 0, 1, 1, 1, 1, 1, 1, 1, 1, 1, 1, 1] B23) rfl ?_
              refine C.cond_true (x := sub [1, 0, 1, 0, 1, 1, 1, 1, 1, 1, 1, 1, 1, 1, 1, 0] B23) (y := sub [1, 0, 1, 0, 1, 1, 1, 1, 1, 1, 1, 1, 1, 1, 1, 1] B23) rfl rfl ?_
              refine C.seq (x := sub [1, 0, 1, 0, 1, 1, 1, 1, 1, 1, 1, 1, 1, 1, 1, 0, 0] B23) (y := sub [1, 0, 1, 0, 1, 1, 1, 1, 1, 1, 1, 1, 1, 1, 1, 0, 1] B23) ?_
              refine C.regionD (id := 13) (ops := opsOf (sub [1, 0, 1, 0, 1, 1, 1, 1, 1, 1, 1, 1, 1, 1, 1, 0, 0] B23)) [0, 1, 2, 3, 4, 5, 6, 7, 8, 9, 10, 11, 12] [0, 0, 2, 0, 8, 0, 32, 96, 224, 504, 1023, 2047, 4095] [(.pure, none), (.pure, none), (.pure, none), (.pure, none), (.pure, none), (.pure, none), (.pure, none), (.pure, none), (.pure, none), (.keep, none), (.actx, none), (.quiet, none), (.pure, none)] (by kernel_rfl) ?_
              intro wD13 hl13
              refine DW.pure rfl rfl rfl rfl rfl (p_move rfl rfl) ?_
              refine DW.pure rfl rfl rfl rfl rfl (p_fieldAddr tf46_1 rfl rfl) ?_
              refine DW.imm rfl rfl rfl rfl rfl (i_loadBoxO (off := 1) hb rfl ta3 rfl rfl) ?_
              refine DW.pure rfl rfl rfl rfl rfl (p_fieldAddr tf46_3 rfl rfl) ?_
              refine DW.imm rfl rfl rfl rfl rfl (i_loadBoxO (off := 3) hb rfl ta5 rfl rfl) ?_
              refine DW.pure rfl rfl rfl rfl rfl (p_fieldAddr tf46_2 rfl rfl) ?_
              refine DW.imm rfl rfl rfl rfl rfl (i_loadBoxO (off := 2) hb rfl ta3 rfl rfl) ?_
              refine DW.pure rfl rfl rfl rfl rfl (p_min2 rfl rfl rfl) ?_
              refine DW.pure rfl rfl rfl rfl rfl (pI (blkN_eq z.m) (p_max2 rfl rfl rfl)) ?_
              refine DW.c01k rfl rfl rfl rfl rfl (tBlock _ (Nat.le_trans (blkN_le z.m) (by decide))) (en39 _) rfl rfl rfl (args_val rfl) ?_
              intro y1
              have hK2 : writeK s z.n (blockL z.fill (blkN z.m)) = (e, s2) := by rw [← hK]; unfold doK; rw [if_neg k1]; rw [if_neg k2]; rw [if_neg k3]; rw [if_neg k4]; rw [if_neg k5]; rw [if_pos k6]
              refine DW.c22s rfl rfl rfl rfl rfl rfl (tWrite x y1 _ (hK2) (hl)) (en15 _) rfl rfl rfl (args_val rfl) ?_
              intro x2
              refine DW.quiet rfl rfl rfl rfl rfl (f_callR rfl rfl (args_val rfl) (en12 _) (fun w2 hc2 => num_ok w2 _)) ?_
              refine DW.pure rfl rfl rfl rfl rfl (p_assign rfl rfl) ?_
              refine DW.doneQ (y := sub [1, 0, 1, 0, 1, 1, 1, 1, 1, 1, 1, 1, 1, 1, 1, 0, 1] B23) hl13 rfl ?_
              exact C.ret (R := fun e' w' => ∃ x' : Dx s2, e' = .returned (.int .i64 e) ∧ Cls w0 I' (dX b m x') w') (rs := [.tmp 4]) (vs := [.int .i64 e]) rfl Try.func23 rfl rfl rfl (res_cons (ResV.tmp rfl) res_nil) fun w1 hc1 => ⟨x2, rfl, (cls_less he2 hc1).fewer (List.sublist_append_left _ _)⟩
            · refine W.pure rfl (wo rfl) rfl rfl (pF (by simpa using k6) (p_eql rfl rfl rfl)) (nf rfl) ?_
              refine W.pure rfl (wo rfl) rfl rfl (p_assign rfl rfl) (nf rfl) ?_
              refine W.doneQ (y := sub [1, 0, 1, 0, 1, 1, 1, 1, 1, 1, 1, 1, 1, 1, 1] B23) rfl ?_
              refine C.cond_false (x := sub [1, 0, 1, 0, 1, 1, 1, 1, 1, 1, 1, 1, 1, 1, 1, 0] B23) (y := sub [1, 0, 1, 0, 1, 1, 1, 1, 1, 1, 1, 1, 1, 1, 1, 1] B23) rfl rfl ?_
              refine C.skipQ (y := sub [1, 1] B23) rfl ?_
              refine C.seq (x := sub [1, 1, 0] B23) (y := sub [1, 1, 1] B23) ?_
              refine C.region (id := 14) (m := 1) (ops := opsOf (sub [1, 1, 0] B23)) rfl ?_
              refine W.pure rfl (wo rfl) rfl rfl (p_assign rfl rfl) (nf rfl) ?_
              refine W.doneQ (y := sub [1, 1, 1] B23) rfl ?_
              have hK2 : ((0 : Int), s) = (e, s2) := by rw [← hK]; unfold doK; rw [if_neg k1]; rw [if_neg k2]; rw [if_neg k3]; rw [if_neg k4]; rw [if_neg k5]; rw [if_neg k6]
              obtain ⟨rfl, rfl⟩ := Prod.mk.inj hK2
              exact C.ret (R := fun e' w' => ∃ x' : Dx s, e' = .returned (.int .i64 0) ∧ Cls w0 I' (dX b m x') w') (rs := [.tmp 4]) (vs := [.int .i64 0]) rfl Try.func23 rfl rfl rfl (res_cons (ResV.tmp rfl) res_nil) fun w1 hc1 => ⟨x, rfl, (cls_less he2 hc1).fewer (List.sublist_append_left _ _)⟩

noncomputable def B21 : Code := bodyOf Try.f21
theorem en21 (args : Array Value) (w : World) : (callFunc 21 args).run Try.prog w = .ok (.enter 21 args) w := by kernel_rfl
theorem much_ok {w : World} {M : Mem} (hM : Imm M w) {lv : Value} {l : List Stp} (hr : RowS ShStp M lv l) {most : Nat} (hm0 : most ≤ 1000) : Calls Try.prog 21 #[lv, .int .i64 (most : Int)] w (fun e w' => ∃ r : {r : Bool // r = false → l.length ≤ most}, e = .returned (.bool r.1) ∧ Below w.heap.size w w') := by
  have hr : RowS ShStp (heapOf w) lv l := hr.mono hM
  refine calls_of_CW (N := 35) Try.func21 (show _ = some B21 by kernel_rfl) (by kernel_rfl) rfl (S := [(0, lv), (1, .int .i64 (most : Int))]) (by simp) (clsStart w) ?_
  show CW _ _ _ (sub [] B21) _ _ _
  refine C.seq (x := sub [0] B21) (y := sub [1] B21) ?_
  refine C.region (id := 0) (m := 1) (ops := opsOf (sub [0] B21)) rfl ?_
  refine W.pure rfl (wo rfl) rfl rfl (p_assign rfl rfl) (nf rfl) ?_
  refine W.doneQ (y := sub [1] B21) rfl ?_
  refine C.seq (x := sub [1, 0] B21) (y := sub [1, 1] B21) ?_
  refine C.region (id := 1) (m := 1) (ops := opsOf (sub [1, 0] B21)) rfl ?_
  refine W.pure rfl (wo rfl) rfl rfl (p_assign rfl rfl) (nf rfl) ?_
  refine W.doneQ (y := sub [1, 1] B21) rfl ?_
  refine C.seq (x := sub [1, 1, 0] B21) (y := sub [1, 1, 1] B21) ?_
  refine C.seq (x := sub [1, 1, 0, 0] B21) (y := sub [1, 1, 0, 1] B21) ?_
  refine C.region (id := 2) (m := 1) (ops := opsOf (sub [1, 1, 0, 0] B21)) rfl ?_
  refine W.pure rfl (wo rfl) rfl rfl (p_assign rfl rfl) (nf rfl) ?_
  refine W.doneQ (y := sub [1, 1, 0, 1] B21) rfl ?_
  refine C.loopB (id := 0) (c := sub [1, 1, 0, 1, 0, 0] B21) (y := sub [1, 1, 1] B21) (α := Nat × Int) (fun q => l.length - q.1) (fun q => [(0, lv), (1, .int .i64 (most : Int)), (5, .int .i64 q.2), (6, .int .i64 (q.1 : Int))]) (fun q => []) (fun q => q.1 ≤ l.length) ⟨0, 0⟩ (Nat.zero_le _) (Sub.cons rfl (Sub.cons rfl (Sub.cons rfl (Sub.cons rfl (Sub.nil _))))) rfl rfl (fun q => True) ?_ ?_
  · rintro ⟨j, n⟩ (hj : j ≤ l.length) Q' hN hE hR
    show CW _ _ _ _ _ [(0, lv), (1, .int .i64 (most : Int)), (5, .int .i64 n), (6, .int .i64 (j : Int))] []
    refine C.seq (x := sub [1, 1, 0, 1, 0, 0, 0] B21) (y := sub [1, 1, 0, 1, 0, 0, 1] B21) ?_
    refine C.seq (x := sub [1, 1, 0, 1, 0, 0, 0, 0] B21) (y := sub [1, 1, 0, 1, 0, 0, 0, 1] B21) ?_
    refine C.region (id := 3) (m := 9) (ops := opsOf (sub [1, 1, 0, 1, 0, 0, 0, 0] B21)) rfl ?_
    refine W.pure rfl (wo rfl) rfl rfl (p_move rfl rfl) (nf rfl) ?_
    refine W.pure rfl (wo rfl) rfl rfl (p_move rfl rfl) (nf rfl) ?_
    refine W.pure rfl (wo rfl) rfl rfl (p_slLen tu41 (RowS.sl hr) rfl rfl) (nf rfl) ?_
    by_cases hlt : j < l.length
    · refine W.pure rfl (wo rfl) rfl rfl (pT (decide_eq_true (by omega)) (p_lss rfl rfl rfl)) (nf rfl) ?_
      refine W.pure rfl (wo rfl) rfl rfl (p_move rfl rfl) (nf rfl) ?_
      refine W.pure rfl (wo rfl) rfl rfl (p_move rfl rfl) (nf rfl) ?_
      refine W.pure rfl (wo rfl) rfl rfl (p_move rfl rfl) (nf rfl) ?_
      by_cases hm : j ≤ most
      · refine W.pure rfl (wo rfl) rfl rfl (pT (decide_eq_true (by omega)) (p_leq rfl rfl rfl)) (nf rfl) ?_
        refine W.pure rfl (wo rfl) rfl rfl (p_pick_true rfl rfl rfl) (nf rfl) ?_
        refine W.doneQ (y := sub [1, 1, 0, 1, 0, 0, 0, 1] B21) rfl ?_
        refine C.cond_true (x := sub [1, 1, 0, 1, 0, 0, 0, 1, 0] B21) (y := sub [1, 1, 0, 1, 0, 0, 0, 1, 1] B21) rfl rfl ?_
        refine C.skipQ (y := sub [1, 1, 0, 1, 0, 0, 1] B21) rfl ?_
        refine C.seq (x := sub [1, 1, 0, 1, 0, 0, 1, 0] B21) (y := sub [1, 1, 0, 1, 0, 0, 1, 1] B21) ?_
        refine C.block (id := 1) (c := sub [1, 1, 0, 1, 0, 0, 1, 0, 0] B21) ?_
        refine C.region (id := 5) (m := 10) (ops := opsOf (sub [1, 1, 0, 1, 0, 0, 1, 0, 0] B21)) rfl ?_
        obtain ⟨z, hz⟩ : ∃ z, l[j]? = some z := ⟨_, List.getElem?_eq_getElem hlt⟩
        obtain ⟨pv, hpv, hcs⟩ := stp_at hr hz
        refine W.pure rfl (wo rfl) rfl rfl (p_move rfl rfl) (nf rfl) ?_
        refine W.pure rfl (wo rfl) rfl rfl (p_move rfl rfl) (nf rfl) ?_
        refine W.pure rfl (wo rfl) rfl rfl (p_move rfl rfl) (nf rfl) ?_
        refine W.pure rfl (wo rfl) rfl rfl (p_ixS hr hlt tu41 ts46 rfl rfl rfl) (nf rfl) ?_
        refine W.pure rfl (wo rfl) rfl rfl (p_fieldEl (row_plain hr hlt) tf46_4 rfl rfl) (nf rfl) ?_
        refine W.imm rfl (wo rfl) rfl rfl (i_ldPk hz hcs ta22 rfl rfl) (nf rfl) ?_
        refine W.pure rfl (wo rfl) rfl rfl (p_slLen tu22 (row_sl hpv) rfl rfl) (nf rfl) ?_
        refine W.pure rfl (wo rfl) rfl rfl (p_min2 rfl rfl rfl) (nf rfl) ?_
        refine W.pure rfl (wo rfl) rfl rfl (p_add rfl rfl rfl) (nf rfl) ?_
        refine W.pure rfl (wo rfl) rfl rfl (p_assign rfl rfl) (nf rfl) ?_
        refine W.doneQ (y := sub [1, 1, 0, 1, 0, 0, 1, 1] B21) rfl ?_
        refine C.region (id := 4) (m := 3) (ops := opsOf (sub [1, 1, 0, 1, 0, 0, 1, 1] B21)) rfl ?_
        refine W.pure rfl (wo rfl) rfl rfl (p_move rfl rfl) (nf rfl) ?_
        refine W.pure rfl (wo rfl) rfl rfl (pI (wk (by omega)) (p_add rfl rfl rfl)) (nf rfl) ?_
        refine W.pure rfl (wo rfl) rfl rfl (p_assign rfl rfl) (nf rfl) ?_
        refine W.end' fun a1 w1 ha1 hc1 => hN ⟨j + 1, _⟩ (show j + 1 ≤ l.length by omega) (show l.length - (j + 1) < l.length - j by omega) a1 w1 (ha1.sub (Sub.cons rfl (Sub.cons rfl (Sub.cons rfl (Sub.cons rfl (Sub.nil _)))))) hc1
      · refine W.pure rfl (wo rfl) rfl rfl (pF (decide_eq_false (by omega)) (p_leq rfl rfl rfl)) (nf rfl) ?_
        refine W.pure rfl (wo rfl) rfl rfl (p_pick_true rfl rfl rfl) (nf rfl) ?_
        refine W.doneQ (y := sub [1, 1, 0, 1, 0, 0, 0, 1] B21) rfl ?_
        refine C.cond_false (x := sub [1, 1, 0, 1, 0, 0, 0, 1, 0] B21) (y := sub [1, 1, 0, 1, 0, 0, 0, 1, 1] B21) rfl rfl ?_
        exact C.exit fun a1 w1 ha1 hc1 => hE trivial a1 w1 (ha1.sub (Sub.cons rfl (Sub.cons rfl (Sub.cons rfl (Sub.cons rfl (Sub.nil _)))))) hc1
    · refine W.pure rfl (wo rfl) rfl rfl (pF (decide_eq_false (by omega)) (p_lss rfl rfl rfl)) (nf rfl) ?_
      refine W.pure rfl (wo rfl) rfl rfl (p_move rfl rfl) (nf rfl) ?_
      refine W.not rfl (wo rfl) rfl rfl ?_
      refine W.not rfl (wo rfl) rfl rfl ?_
      refine W.not rfl (wo rfl) rfl rfl ?_
      refine W.pure rfl (wo rfl) rfl rfl (p_pick_false rfl rfl rfl) (nf rfl) ?_
      refine W.doneQ (y := sub [1, 1, 0, 1, 0, 0, 0, 1] B21) rfl ?_
      refine C.cond_false (x := sub [1, 1, 0, 1, 0, 0, 0, 1, 0] B21) (y := sub [1, 1, 0, 1, 0, 0, 0, 1, 1] B21) rfl rfl ?_
      exact C.exit fun a1 w1 ha1 hc1 => hE trivial a1 w1 (ha1.sub (Sub.cons rfl (Sub.cons rfl (Sub.cons rfl (Sub.cons rfl (Sub.nil _)))))) hc1
  rintro ⟨j, n⟩ (hj : j ≤ l.length) _
  show CW _ _ _ _ _ [(0, lv), (1, .int .i64 (most : Int)), (5, .int .i64 n), (6, .int .i64 (j : Int))] []
  refine C.seq (x := sub [1, 1, 1, 0] B21) (y := sub [1, 1, 1, 1] B21) ?_
  refine C.region (id := 6) (m := 9) (ops := opsOf (sub [1, 1, 1, 0] B21)) rfl ?_
  refine W.pure rfl (wo rfl) rfl rfl (p_move rfl rfl) (nf rfl) ?_
  refine W.pure rfl (wo rfl) rfl rfl (p_slLen tu41 (RowS.sl hr) rfl rfl) (nf rfl) ?_
  refine W.pure rfl (wo rfl) rfl rfl (p_move rfl rfl) (nf rfl) ?_
  by_cases h1 : most < l.length
  · refine W.pure rfl (wo rfl) rfl rfl (pT (decide_eq_true (by omega)) (p_gtr rfl rfl rfl)) (nf rfl) ?_
    refine W.pure rfl (wo rfl) rfl rfl (p_move rfl rfl) (nf rfl) ?_
    refine W.not rfl (wo rfl) rfl rfl ?_
    refine W.not rfl (wo rfl) rfl rfl ?_
    refine W.pure rfl (wo rfl) rfl rfl (p_pick_true rfl rfl rfl) (nf rfl) ?_
    refine W.pure rfl (wo rfl) rfl rfl (p_assign rfl rfl) (nf rfl) ?_
    refine W.doneQ (y := sub [1, 1, 1, 1] B21) rfl ?_
    exact C.ret (R := fun e w' => ∃ r : {r : Bool // r = false → l.length ≤ most}, e = .returned (.bool r.1) ∧ Below w.heap.size w w') (rs := [.tmp 4]) (vs := [.bool true]) rfl Try.func21 rfl rfl rfl (res_cons (ResV.tmp rfl) res_nil) fun w1 hc1 => ⟨⟨_, fun h => by cases h⟩, rfl, hc1.toBelow⟩
  · refine W.pure rfl (wo rfl) rfl rfl (pF (decide_eq_false (by omega)) (p_gtr rfl rfl rfl)) (nf rfl) ?_
    refine W.pure rfl (wo rfl) rfl rfl (p_move rfl rfl) (nf rfl) ?_
    refine W.pure rfl (wo rfl) rfl rfl (p_move rfl rfl) (nf rfl) ?_
    refine W.pure rfl (wo rfl) rfl rfl (p_gtr rfl rfl rfl) (nf rfl) ?_
    refine W.pure rfl (wo rfl) rfl rfl (p_pick_false rfl rfl rfl) (nf rfl) ?_
    refine W.pure rfl (wo rfl) rfl rfl (p_assign rfl rfl) (nf rfl) ?_
    refine W.doneQ (y := sub [1, 1, 1, 1] B21) rfl ?_
    exact C.ret (R := fun e w' => ∃ r : {r : Bool // r = false → l.length ≤ most}, e = .returned (.bool r.1) ∧ Below w.heap.size w w') (rs := [.tmp 4]) (vs := [.bool _]) rfl Try.func21 rfl rfl rfl (res_cons (ResV.tmp rfl) res_nil) fun w1 hc1 => ⟨⟨_, fun _ => by omega⟩, rfl, hc1.toBelow⟩

end Go.Proofs.Ytjomnicfcdkfdaa
