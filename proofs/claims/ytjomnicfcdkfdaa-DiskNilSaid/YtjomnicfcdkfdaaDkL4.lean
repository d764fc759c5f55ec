import Derived.Test.YtjomnicfcdkfdaaDkL3
namespace Go.Proofs.Ytjomnicfcdkfdaa
open Go Go.HW Go.RowKit
set_option linter.unusedVariables false
set_option linter.unusedSimpArgs false

theorem bu61z (w : World) : (Instr.build 61 #[]).run Try.prog w = .ok (.agg zc) w := by kernel_rfl

theorem nlW : writeK (newK 8192) 0 [] = (2, newK 8192) := by simp [writeK, hasD, newK]
theorem nlF : setFuseK (newK 8192) (-1) = (2, newK 8192) := by simp [setFuseK]
theorem nlE : editK (newK 8192) 0 512 1 = (2, newK 8192) := by simp [editK, hasD, newK]

theorem W.heapIs {N : Nat} {S : Slots} {w0 : World} {I : Mem} {H H2 : Heap} {Q : Exit → Act → World → Prop} {ops : Array Oper} {l : List Nat} (hH : H = H2) (h : WW N w0 I ops l Q S H2) : WW N w0 I ops l Q S H := by subst hH; exact h

noncomputable def B9 : Code := bodyOf Try.f9
theorem nil_ok (w : World) : Calls Try.prog 9 #[] w (fun e w' => e = .returned (.bool true) ∧ Below w.heap.size w w') := by
  refine calls_of_CW (N := 156) Try.func9 (show _ = some B9 by kernel_rfl) (by kernel_rfl) rfl (S := []) (by simp) (clsStart w) ?_
  show CW _ _ _ (sub [] B9) _ _ _
  refine C.seq (x := sub [0] B9) (y := sub [1] B9) ?_
  refine C.region (id := 0) (m := 1) (ops := opsOf (sub [0] B9)) rfl ?_
  refine W.pure rfl (wo rfl) rfl rfl (p_assign rfl rfl) (nf rfl) ?_
  refine W.doneQ (y := sub [1] B9) rfl ?_
  refine C.seq (x := sub [1, 0] B9) (y := sub [1, 1] B9) ?_
  refine C.region (id := 1) (m := 1) (ops := opsOf (sub [1, 0] B9)) rfl ?_
  refine W.pure rfl (wo rfl) rfl rfl (p_assign (v := .pointer none) rfl rfl) (nf rfl) ?_
  refine W.doneQ (y := sub [1, 1] B9) rfl ?_
  refine C.seq (x := sub [1, 1, 0] B9) (y := sub [1, 1, 1] B9) ?_
  refine C.region (id := 2) (m := 3) (ops := opsOf (sub [1, 1, 0] B9)) rfl ?_
  refine W.pure rfl (wo rfl) rfl rfl (p_build (vs := []) (fun w => bu61z w) rfl rfl) (nf rfl) ?_
  refine W.new rfl (wo rfl) rfl rfl (f_box rfl rfl) (nf rfl) ?_
  intro bz hbz
  refine W.heapIs (H2 := zG bz ++ []) rfl ?_
  refine W.pure rfl (wo rfl) rfl rfl (p_assign rfl rfl) (nf rfl) ?_
  refine W.doneQ (y := sub [1, 1, 1] B9) rfl ?_
  refine C.seq (x := sub [1, 1, 1, 0] B9) (y := sub [1, 1, 1, 1] B9) ?_
  refine C.region (id := 3) (m := 7) (ops := opsOf (sub [1, 1, 1, 0] B9)) rfl ?_
  refine W.pure rfl (wo rfl) rfl rfl (p_move rfl rfl) (nf rfl) ?_
  refine W.quiet rfl (wo rfl) rfl rfl (f_callR rfl rfl (args_val rfl) (en20 _) (fun w2 hc2 => nt_read (M := heapOf w2) (fun _ _ e => e) (.inl rfl) _)) (nf rfl) ?_
  refine W.pure rfl (wo rfl) rfl rfl (p_move rfl rfl) (nf rfl) ?_
  refine W.pure rfl (wo rfl) rfl rfl (p_extract rfl rfl rfl) (nf rfl) ?_
  refine W.pure rfl (wo rfl) rfl rfl (p_extract rfl rfl rfl) (nf rfl) ?_
  refine W.pure rfl (wo rfl) rfl rfl (p_assign rfl rfl) (nf rfl) ?_
  refine W.pure rfl (wo rfl) rfl rfl (p_assign rfl rfl) (nf rfl) ?_
  refine W.doneQ (y := sub [1, 1, 1, 1] B9) rfl ?_
  refine C.seq (x := sub [1, 1, 1, 1, 0] B9) (y := sub [1, 1, 1, 1, 1] B9) ?_
  refine C.region (id := 4) (m := 7) (ops := opsOf (sub [1, 1, 1, 1, 0] B9)) rfl ?_
  refine W.pure rfl (wo rfl) rfl rfl (p_move rfl rfl) (nf rfl) ?_
  refine W.quiet rfl (wo rfl) rfl rfl (f_callR rfl rfl (args_val rfl) (en20 _) (fun w2 hc2 => nt_read (M := heapOf w2) (fun _ _ e => e) (ntz rfl hc2) _)) (nf rfl) ?_
  refine W.pure rfl (wo rfl) rfl rfl (p_move rfl rfl) (nf rfl) ?_
  refine W.pure rfl (wo rfl) rfl rfl (p_extract rfl rfl rfl) (nf rfl) ?_
  refine W.pure rfl (wo rfl) rfl rfl (p_extract rfl rfl rfl) (nf rfl) ?_
  refine W.pure rfl (wo rfl) rfl rfl (p_assign rfl rfl) (nf rfl) ?_
  refine W.pure rfl (wo rfl) rfl rfl (p_assign rfl rfl) (nf rfl) ?_
  refine W.doneQ (y := sub [1, 1, 1, 1, 1] B9) rfl ?_
  refine C.seq (x := sub [1, 1, 1, 1, 1, 0] B9) (y := sub [1, 1, 1, 1, 1, 1] B9) ?_
  refine C.region (id := 5) (m := 6) (ops := opsOf (sub [1, 1, 1, 1, 1, 0] B9)) rfl ?_
  refine W.quiet rfl (wo rfl) rfl rfl (f_callR rfl rfl (args_val rfl) (en11 _) (fun w2 hc2 => new_no w2 _ (by omega))) (nf rfl) ?_
  refine W.pure rfl (wo rfl) rfl rfl (p_move rfl rfl) (nf rfl) ?_
  refine W.pure rfl (wo rfl) rfl rfl (p_extract rfl rfl rfl) (nf rfl) ?_
  refine W.pure rfl (wo rfl) rfl rfl (p_extract rfl rfl rfl) (nf rfl) ?_
  refine W.pure rfl (wo rfl) rfl rfl (p_assign rfl rfl) (nf rfl) ?_
  refine W.pure rfl (wo rfl) rfl rfl (p_assign rfl rfl) (nf rfl) ?_
  refine W.doneQ (y := sub [1, 1, 1, 1, 1, 1] B9) rfl ?_
  refine C.seq (x := sub [1, 1, 1, 1, 1, 1, 0] B9) (y := sub [1, 1, 1, 1, 1, 1, 1] B9) ?_
  refine C.region (id := 6) (m := 6) (ops := opsOf (sub [1, 1, 1, 1, 1, 1, 0] B9)) rfl ?_
  refine W.c01 rfl (wo rfl) rfl rfl (tNew _ (by omega) (by omega)) (en11 _) rfl rfl rfl (args_val rfl) ?_
  intro p1
  refine W.pure rfl (wo rfl) rfl rfl (p_move rfl rfl) (nf rfl) ?_
  refine W.pure rfl (wo rfl) rfl rfl (p_extract rfl rfl rfl) (nf rfl) ?_
  refine W.pure rfl (wo rfl) rfl rfl (p_extract rfl rfl rfl) (nf rfl) ?_
  refine W.pure rfl (wo rfl) rfl rfl (p_assign rfl rfl) (nf rfl) ?_
  refine W.pure rfl (wo rfl) rfl rfl (p_assign rfl rfl) (nf rfl) ?_
  refine W.doneQ (y := sub [1, 1, 1, 1, 1, 1, 1] B9) rfl ?_
  refine C.seq (x := sub [1, 1, 1, 1, 1, 1, 1, 0] B9) (y := sub [1, 1, 1, 1, 1, 1, 1, 1] B9) ?_
  refine C.region (id := 7) (m := 6) (ops := opsOf (sub [1, 1, 1, 1, 1, 1, 1, 0] B9)) rfl ?_
  refine W.quiet rfl (wo rfl) rfl rfl (f_callR rfl rfl (args_val rfl) (en11 _) (fun w2 hc2 => new_no w2 _ (by omega))) (nf rfl) ?_
  refine W.pure rfl (wo rfl) rfl rfl (p_move rfl rfl) (nf rfl) ?_
  refine W.pure rfl (wo rfl) rfl rfl (p_extract rfl rfl rfl) (nf rfl) ?_
  refine W.pure rfl (wo rfl) rfl rfl (p_extract rfl rfl rfl) (nf rfl) ?_
  refine W.pure rfl (wo rfl) rfl rfl (p_assign rfl rfl) (nf rfl) ?_
  refine W.pure rfl (wo rfl) rfl rfl (p_assign rfl rfl) (nf rfl) ?_
  refine W.doneQ (y := sub [1, 1, 1, 1, 1, 1, 1, 1] B9) rfl ?_
  refine C.seq (x := sub [1, 1, 1, 1, 1, 1, 1, 1, 0] B9) (y := sub [1, 1, 1, 1, 1, 1, 1, 1, 1] B9) ?_
  refine C.seq (x := sub [1, 1, 1, 1, 1, 1, 1, 1, 0, 0] B9) (y := sub [1, 1, 1, 1, 1, 1, 1, 1, 0, 1] B9) ?_
  refine C.region (id := 8) (m := 2) (ops := opsOf (sub [1, 1, 1, 1, 1, 1, 1, 1, 0, 0] B9)) rfl ?_
  refine W.pure rfl (wo rfl) rfl rfl (p_move rfl rfl) (nf rfl) ?_
  refine W.pure rfl (wo rfl) rfl rfl (p_eqNilP (fun b w => by kernel_rfl) (fun b w => by kernel_rfl) rfl rfl rfl) (nf rfl) ?_
  refine W.doneQ (y := sub [1, 1, 1, 1, 1, 1, 1, 1, 0, 1] B9) rfl ?_
  refine C.cond_false (x := sub [1, 1, 1, 1, 1, 1, 1, 1, 0, 1, 0] B9) (y := sub [1, 1, 1, 1, 1, 1, 1, 1, 0, 1, 1] B9) rfl rfl ?_
  refine C.skipQ (y := sub [1, 1, 1, 1, 1, 1, 1, 1, 1] B9) rfl ?_
  refine C.seq (x := sub [1, 1, 1, 1, 1, 1, 1, 1, 1, 0] B9) (y := sub [1, 1, 1, 1, 1, 1, 1, 1, 1, 1] B9) ?_
  refine C.region (id := 10) (m := 7) (ops := opsOf (sub [1, 1, 1, 1, 1, 1, 1, 1, 1, 0] B9)) rfl ?_
  refine W.pure rfl (wo rfl) rfl rfl (p_move rfl rfl) (nf rfl) ?_
  refine W.c11 rfl (wo rfl) rfl rfl rfl (tReadNo (x0 _) _ (rfl)) (en20 _) rfl rfl rfl (args_val rfl) ?_
  intro _
  refine W.pure rfl (wo rfl) rfl rfl (p_move rfl rfl) (nf rfl) ?_
  refine W.pure rfl (wo rfl) rfl rfl (p_extract rfl rfl rfl) (nf rfl) ?_
  refine W.pure rfl (wo rfl) rfl rfl (p_extract rfl rfl rfl) (nf rfl) ?_
  refine W.pure rfl (wo rfl) rfl rfl (p_assign rfl rfl) (nf rfl) ?_
  refine W.pure rfl (wo rfl) rfl rfl (p_assign rfl rfl) (nf rfl) ?_
  refine W.doneQ (y := sub [1, 1, 1, 1, 1, 1, 1, 1, 1, 1] B9) rfl ?_
  refine C.seq (x := sub [1, 1, 1, 1, 1, 1, 1, 1, 1, 1, 0] B9) (y := sub [1, 1, 1, 1, 1, 1, 1, 1, 1, 1, 1] B9) ?_
  refine C.region (id := 11) (m := 26) (ops := opsOf (sub [1, 1, 1, 1, 1, 1, 1, 1, 1, 1, 0] B9)) rfl ?_
  refine W.pure rfl (wo rfl) rfl rfl (p_move rfl rfl) (nf rfl) ?_
  refine W.quiet rfl (wo rfl) rfl rfl (f_callR rfl rfl (args_val rfl) (en12 _) (fun w2 hc2 => num_ok w2 _)) (nf rfl) ?_
  refine W.pure rfl (wo rfl) rfl rfl (p_move rfl rfl) (nf rfl) ?_
  refine W.quiet rfl (wo rfl) rfl rfl (f_callR rfl rfl (args_val rfl) (en12 _) (fun w2 hc2 => num_ok w2 _)) (nf rfl) ?_
  refine W.pure rfl (wo rfl) rfl rfl (p_add rfl rfl rfl) (nf rfl) ?_
  refine W.pure rfl (wo rfl) rfl rfl (p_move rfl rfl) (nf rfl) ?_
  refine W.quiet rfl (wo rfl) rfl rfl (f_callR rfl rfl (args_val rfl) (en15 _) (fun w2 hc2 => nt_write (M := heapOf w2) (fun _ _ e => e) (.inl rfl) _ _)) (nf rfl) ?_
  refine W.quiet rfl (wo rfl) rfl rfl (f_callR rfl rfl (args_val rfl) (en12 _) (fun w2 hc2 => num_ok w2 _)) (nf rfl) ?_
  refine W.pure rfl (wo rfl) rfl rfl (p_add rfl rfl rfl) (nf rfl) ?_
  refine W.pure rfl (wo rfl) rfl rfl (p_move rfl rfl) (nf rfl) ?_
  refine W.f1 rfl ?_
  refine W.quiet rfl (wo rfl) rfl rfl (f_callR rfl rfl (args_val rfl) (en14 _) (fun w2 hc2 => nt_sync (M := heapOf w2) (fun _ _ e => e) (ntz rfl hc2))) (nf rfl) ?_
  refine W.quiet rfl (wo rfl) rfl rfl (f_callR rfl rfl (args_val rfl) (en12 _) (fun w2 hc2 => num_ok w2 _)) (nf rfl) ?_
  refine W.pure rfl (wo rfl) rfl rfl (p_add rfl rfl rfl) (nf rfl) ?_
  refine W.pure rfl (wo rfl) rfl rfl (p_move rfl rfl) (nf rfl) ?_
  refine W.quiet rfl (wo rfl) rfl rfl (f_callR rfl rfl (args_val rfl) (en13 _) (fun w2 hc2 => nt_fuse (M := heapOf w2) (fun _ _ e => e) (.inl rfl) _)) (nf rfl) ?_
  refine W.quiet rfl (wo rfl) rfl rfl (f_callR rfl rfl (args_val rfl) (en12 _) (fun w2 hc2 => num_ok w2 _)) (nf rfl) ?_
  refine W.pure rfl (wo rfl) rfl rfl (p_add rfl rfl rfl) (nf rfl) ?_
  refine W.pure rfl (wo rfl) rfl rfl (p_move rfl rfl) (nf rfl) ?_
  refine W.quiet rfl (wo rfl) rfl rfl (f_callR rfl rfl (args_val rfl) (en18 _) (fun w2 hc2 => nt_crash (M := heapOf w2) (fun _ _ e => e) (ntz rfl hc2) _)) (nf rfl) ?_
  refine W.quiet rfl (wo rfl) rfl rfl (f_callR rfl rfl (args_val rfl) (en12 _) (fun w2 hc2 => num_ok w2 _)) (nf rfl) ?_
  refine W.pure rfl (wo rfl) rfl rfl (p_add rfl rfl rfl) (nf rfl) ?_
  refine W.pure rfl (wo rfl) rfl rfl (p_move rfl rfl) (nf rfl) ?_
  refine W.quiet rfl (wo rfl) rfl rfl (f_callR rfl rfl (args_val rfl) (en30 _) (fun w2 hc2 => nt_edit (M := heapOf w2) (fun _ _ e => e) (.inl rfl) _ _ _)) (nf rfl) ?_
  refine W.quiet rfl (wo rfl) rfl rfl (f_callR rfl rfl (args_val rfl) (en12 _) (fun w2 hc2 => num_ok w2 _)) (nf rfl) ?_
  refine W.pure rfl (wo rfl) rfl rfl (p_add rfl rfl rfl) (nf rfl) ?_
  refine W.pure rfl (wo rfl) rfl rfl (p_assign rfl rfl) (nf rfl) ?_
  refine W.doneQ (y := sub [1, 1, 1, 1, 1, 1, 1, 1, 1, 1, 1] B9) rfl ?_
  refine C.seq (x := sub [1, 1, 1, 1, 1, 1, 1, 1, 1, 1, 1, 0] B9) (y := sub [1, 1, 1, 1, 1, 1, 1, 1, 1, 1, 1, 1] B9) ?_
  refine C.region (id := 12) (m := 85) (ops := opsOf (sub [1, 1, 1, 1, 1, 1, 1, 1, 1, 1, 1, 0] B9)) rfl ?_
  refine W.pure rfl (wo rfl) rfl rfl (p_move rfl rfl) (nf rfl) ?_
  refine W.pure rfl (wo rfl) rfl rfl (pT (by rfl) (p_eql rfl rfl rfl)) (nf rfl) ?_
  refine W.pure rfl (wo rfl) rfl rfl (p_move rfl rfl) (nf rfl) ?_
  refine W.pure rfl (wo rfl) rfl rfl (p_move rfl rfl) (nf rfl) ?_
  refine W.quiet rfl (wo rfl) rfl rfl (f_callR rfl rfl (args_val rfl) (en31 _) (fun w2 hc2 => nt_blocks (M := heapOf w2) (fun _ _ e => e) (.inl rfl))) (nf rfl) ?_
  refine W.pure rfl (wo rfl) rfl rfl (pT (by rfl) (p_eql rfl rfl rfl)) (nf rfl) ?_
  refine W.pure rfl (wo rfl) rfl rfl (p_pick_true rfl rfl rfl) (nf rfl) ?_
  refine W.pure rfl (wo rfl) rfl rfl (p_move rfl rfl) (nf rfl) ?_
  refine W.pure rfl (wo rfl) rfl rfl (p_move rfl rfl) (nf rfl) ?_
  refine W.quiet rfl (wo rfl) rfl rfl (f_callR rfl rfl (args_val rfl) (en31 _) (fun w2 hc2 => nt_blocks (M := heapOf w2) (fun _ _ e => e) (ntz rfl hc2))) (nf rfl) ?_
  refine W.pure rfl (wo rfl) rfl rfl (pT (by rfl) (p_eql rfl rfl rfl)) (nf rfl) ?_
  refine W.pure rfl (wo rfl) rfl rfl (p_pick_true rfl rfl rfl) (nf rfl) ?_
  refine W.pure rfl (wo rfl) rfl rfl (p_move rfl rfl) (nf rfl) ?_
  refine W.pure rfl (wo rfl) rfl rfl (p_move rfl rfl) (nf rfl) ?_
  refine W.quiet rfl (wo rfl) rfl rfl (f_callR rfl rfl (args_val rfl) (en19 _) (fun w2 hc2 => nt_copy (M := heapOf w2) (fun _ _ e => e) (.inl rfl))) (nf rfl) ?_
  refine W.pure rfl (wo rfl) rfl rfl (p_eqNilN (fun w => by kernel_rfl) (fun w => by kernel_rfl) rfl rfl rfl) (nf rfl) ?_
  refine W.pure rfl (wo rfl) rfl rfl (p_pick_true rfl rfl rfl) (nf rfl) ?_
  refine W.pure rfl (wo rfl) rfl rfl (p_move rfl rfl) (nf rfl) ?_
  refine W.pure rfl (wo rfl) rfl rfl (p_move rfl rfl) (nf rfl) ?_
  refine W.quiet rfl (wo rfl) rfl rfl (f_callR rfl rfl (args_val rfl) (en19 _) (fun w2 hc2 => nt_copy (M := heapOf w2) (fun _ _ e => e) (ntz rfl hc2))) (nf rfl) ?_
  refine W.pure rfl (wo rfl) rfl rfl (p_eqNilN (fun w => by kernel_rfl) (fun w => by kernel_rfl) rfl rfl rfl) (nf rfl) ?_
  refine W.pure rfl (wo rfl) rfl rfl (p_pick_true rfl rfl rfl) (nf rfl) ?_
  refine W.pure rfl (wo rfl) rfl rfl (p_move rfl rfl) (nf rfl) ?_
  refine W.pure rfl (wo rfl) rfl rfl (p_move rfl rfl) (nf rfl) ?_
  refine W.quiet rfl (wo rfl) rfl rfl (f_callR rfl rfl (args_val rfl) (en17 _) (fun w2 hc2 => nt_dead (M := heapOf w2) (fun _ _ e => e) (.inl rfl))) (nf rfl) ?_
  refine W.pure rfl (wo rfl) rfl rfl (p_not rfl rfl) (nf rfl) ?_
  refine W.pure rfl (wo rfl) rfl rfl (p_pick_true rfl rfl rfl) (nf rfl) ?_
  refine W.pure rfl (wo rfl) rfl rfl (p_move rfl rfl) (nf rfl) ?_
  refine W.pure rfl (wo rfl) rfl rfl (p_move rfl rfl) (nf rfl) ?_
  refine W.quiet rfl (wo rfl) rfl rfl (f_callR rfl rfl (args_val rfl) (en25 _) (fun w2 hc2 => nt_uns (M := heapOf w2) (fun _ _ e => e) (ntz rfl hc2))) (nf rfl) ?_
  refine W.pure rfl (wo rfl) rfl rfl (pT (by rfl) (p_eql rfl rfl rfl)) (nf rfl) ?_
  refine W.pure rfl (wo rfl) rfl rfl (p_pick_true rfl rfl rfl) (nf rfl) ?_
  refine W.pure rfl (wo rfl) rfl rfl (p_move rfl rfl) (nf rfl) ?_
  refine W.pure rfl (wo rfl) rfl rfl (p_move rfl rfl) (nf rfl) ?_
  refine W.pure rfl (wo rfl) rfl rfl (p_move rfl rfl) (nf rfl) ?_
  refine W.quiet rfl (wo rfl) rfl rfl (f_callR rfl rfl (args_val rfl) (en29 _) (fun w2 hc2 => nt_same (M := heapOf w2) (fun _ _ e => e) (.inl rfl) (ntz rfl hc2))) (nf rfl) ?_
  refine W.pure rfl (wo rfl) rfl rfl (p_pick_true rfl rfl rfl) (nf rfl) ?_
  refine W.pure rfl (wo rfl) rfl rfl (p_move rfl rfl) (nf rfl) ?_
  refine W.pure rfl (wo rfl) rfl rfl (p_move rfl rfl) (nf rfl) ?_
  refine W.pure rfl (wo rfl) rfl rfl (p_move rfl rfl) (nf rfl) ?_
  refine W.f1 rfl ?_
  refine W.quiet rfl (wo rfl) rfl rfl (f_callR rfl rfl (args_val rfl) (en29 _) (fun w2 hc2 => nt_same2 (M := heapOf w2) (fun _ _ e => e) (.inl rfl) ((x0 _).2.M hc2 fun p hp => List.mem_append_left _ hp))) (nf rfl) ?_
  refine W.pure rfl (wo rfl) rfl rfl (p_not rfl rfl) (nf rfl) ?_
  refine W.pure rfl (wo rfl) rfl rfl (p_pick_true rfl rfl rfl) (nf rfl) ?_
  refine W.pure rfl (wo rfl) rfl rfl (p_move rfl rfl) (nf rfl) ?_
  refine W.pure rfl (wo rfl) rfl rfl (p_move rfl rfl) (nf rfl) ?_
  refine W.quiet rfl (wo rfl) rfl rfl (f_callR rfl rfl (args_val rfl) (en12 _) (fun w2 hc2 => num_ok w2 _)) (nf rfl) ?_
  refine W.pure rfl (wo rfl) rfl rfl (pT (by rfl) (p_eql rfl rfl rfl)) (nf rfl) ?_
  refine W.pure rfl (wo rfl) rfl rfl (p_pick_true rfl rfl rfl) (nf rfl) ?_
  refine W.pure rfl (wo rfl) rfl rfl (p_move rfl rfl) (nf rfl) ?_
  refine W.pure rfl (wo rfl) rfl rfl (p_move rfl rfl) (nf rfl) ?_
  refine W.quiet rfl (wo rfl) rfl rfl (f_callR rfl rfl (args_val rfl) (en12 _) (fun w2 hc2 => num_ok w2 _)) (nf rfl) ?_
  refine W.pure rfl (wo rfl) rfl rfl (pT (by rfl) (p_eql rfl rfl rfl)) (nf rfl) ?_
  refine W.pure rfl (wo rfl) rfl rfl (p_pick_true rfl rfl rfl) (nf rfl) ?_
  refine W.pure rfl (wo rfl) rfl rfl (p_move rfl rfl) (nf rfl) ?_
  refine W.pure rfl (wo rfl) rfl rfl (p_move rfl rfl) (nf rfl) ?_
  refine W.quiet rfl (wo rfl) rfl rfl (f_callR rfl rfl (args_val rfl) (en12 _) (fun w2 hc2 => num_ok w2 _)) (nf rfl) ?_
  refine W.pure rfl (wo rfl) rfl rfl (pT (by rfl) (p_eql rfl rfl rfl)) (nf rfl) ?_
  refine W.pure rfl (wo rfl) rfl rfl (p_pick_true rfl rfl rfl) (nf rfl) ?_
  refine W.pure rfl (wo rfl) rfl rfl (p_move rfl rfl) (nf rfl) ?_
  refine W.pure rfl (wo rfl) rfl rfl (p_move rfl rfl) (nf rfl) ?_
  refine W.quiet rfl (wo rfl) rfl rfl (f_callR rfl rfl (args_val rfl) (en12 _) (fun w2 hc2 => num_ok w2 _)) (nf rfl) ?_
  refine W.pure rfl (wo rfl) rfl rfl (pT (by rfl) (p_eql rfl rfl rfl)) (nf rfl) ?_
  refine W.pure rfl (wo rfl) rfl rfl (p_pick_true rfl rfl rfl) (nf rfl) ?_
  refine W.pure rfl (wo rfl) rfl rfl (p_move rfl rfl) (nf rfl) ?_
  refine W.pure rfl (wo rfl) rfl rfl (p_move rfl rfl) (nf rfl) ?_
  refine W.addNil ?_
  refine W.f1 rfl ?_
  refine W.c22 rfl (wo rfl) rfl rfl rfl (tWrite (x0 _) nilO _ (nlW) (by simp [newK])) (en15 _) rfl rfl rfl (args_val rfl) ?_
  intro x3
  refine W.f1 rfl ?_
  refine W.dr rfl ?_
  refine W.quiet rfl (wo rfl) rfl rfl (f_callR rfl rfl (args_val rfl) (en12 _) (fun w2 hc2 => num_ok w2 _)) (nf rfl) ?_
  refine W.pure rfl (wo rfl) rfl rfl (pT (by rfl) (p_eql rfl rfl rfl)) (nf rfl) ?_
  refine W.pure rfl (wo rfl) rfl rfl (p_pick_true rfl rfl rfl) (nf rfl) ?_
  refine W.pure rfl (wo rfl) rfl rfl (p_move rfl rfl) (nf rfl) ?_
  refine W.pure rfl (wo rfl) rfl rfl (p_move rfl rfl) (nf rfl) ?_
  refine W.c11 rfl (wo rfl) rfl rfl rfl (tFuse x3 _ (nlF)) (en13 _) rfl rfl rfl (args_val rfl) ?_
  intro x4
  refine W.quiet rfl (wo rfl) rfl rfl (f_callR rfl rfl (args_val rfl) (en12 _) (fun w2 hc2 => num_ok w2 _)) (nf rfl) ?_
  refine W.pure rfl (wo rfl) rfl rfl (pT (by rfl) (p_eql rfl rfl rfl)) (nf rfl) ?_
  refine W.pure rfl (wo rfl) rfl rfl (p_pick_true rfl rfl rfl) (nf rfl) ?_
  refine W.pure rfl (wo rfl) rfl rfl (p_move rfl rfl) (nf rfl) ?_
  refine W.pure rfl (wo rfl) rfl rfl (p_move rfl rfl) (nf rfl) ?_
  refine W.c11 rfl (wo rfl) rfl rfl rfl (tEdit x4 _ _ _ (nlE) (by simp [newK])) (en30 _) rfl rfl rfl (args_val rfl) ?_
  intro x5
  refine W.quiet rfl (wo rfl) rfl rfl (f_callR rfl rfl (args_val rfl) (en12 _) (fun w2 hc2 => num_ok w2 _)) (nf rfl) ?_
  refine W.pure rfl (wo rfl) rfl rfl (pT (by rfl) (p_eql rfl rfl rfl)) (nf rfl) ?_
  refine W.pure rfl (wo rfl) rfl rfl (p_pick_true rfl rfl rfl) (nf rfl) ?_
  refine W.pure rfl (wo rfl) rfl rfl (p_move rfl rfl) (nf rfl) ?_
  refine W.quiet rfl (wo rfl) rfl rfl (f_callR rfl rfl (args_val (vs := []) rfl) (en10 _) (fun w2 hc2 => known_ok w2)) (nf rfl) ?_
  refine W.pure rfl (wo rfl) rfl rfl (p_pick_true rfl rfl rfl) (nf rfl) ?_
  refine W.pure rfl (wo rfl) rfl rfl (p_assign rfl rfl) (nf rfl) ?_
  refine W.doneQ (y := sub [1, 1, 1, 1, 1, 1, 1, 1, 1, 1, 1, 1] B9) rfl ?_
  exact C.ret (R := fun e w' => e = .returned (.bool true) ∧ Below w.heap.size w w') (rs := [.tmp 0]) (vs := [.bool true]) rfl Try.func9 rfl rfl rfl (res_cons (ResV.tmp rfl) res_nil) fun w1 hc1 => ⟨rfl, hc1.toBelow⟩

end Go.Proofs.Ytjomnicfcdkfdaa
