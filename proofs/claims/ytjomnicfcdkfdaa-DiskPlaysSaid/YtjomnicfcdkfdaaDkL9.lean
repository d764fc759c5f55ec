import Derived.Test.YtjomnicfcdkfdaaDkRb
namespace Go.Proofs.Ytjomnicfcdkfdaa
open Go Go.HW Go.RowKit
set_option linter.unusedVariables false
set_option linter.unusedSimpArgs false

structure PSt where
  k : Nat
  s : Dk
  r : Rk
  x : Dx s
  y : Rx r

noncomputable def B6 : Code := bodyOf Try.f6
theorem plays_ok {w : World} {lv : Value} {l : List Stp} (hr : RowS ShStp (heapOf w) lv l) (hln : ∀ z ∈ l, z.n ≤ 9223372036854775807) (n : Int) : Calls Try.prog 6 #[.int .i64 n, lv] w (fun e w' => e = .returned (.bool true) ∧ Below w.heap.size w w') := by
  refine calls_of_CW (N := 76) Try.func6 (show _ = some B6 by kernel_rfl) (by kernel_rfl) rfl (S := [(0, .int .i64 n), (1, lv)]) (by simp) (clsStart w) ?_
  show CW _ _ _ (sub [] B6) _ _ _
  refine C.seq (x := sub [0] B6) (y := sub [1] B6) ?_
  refine C.region (id := 0) (m := 1) (ops := opsOf (sub [0] B6)) rfl ?_
  refine W.pure rfl (wo rfl) rfl rfl (p_assign rfl rfl) (nf rfl) ?_
  refine W.doneQ (y := sub [1] B6) rfl ?_
  refine C.seq (x := sub [1, 0] B6) (y := sub [1, 1] B6) ?_
  refine C.seq (x := sub [1, 0, 0] B6) (y := sub [1, 0, 1] B6) ?_
  refine C.region (id := 1) (m := 10) (ops := opsOf (sub [1, 0, 0] B6)) rfl ?_
  refine W.pure rfl (wo rfl) rfl rfl (p_move rfl rfl) (nf rfl) ?_
  refine W.cq rfl (wo rfl) rfl rfl (fun w2 hc2 => much_ok (M := heapOf w) (most := 80) hc2.imm (hr) (by decide)) (en21 _) rfl rfl rfl (args_val rfl) ?_
  intro mr
  by_cases hm : mr.1 = true
  · refine W.pure rfl (wo rfl) rfl rfl (pT (hm) (p_move rfl rfl)) (nf rfl) ?_
    refine W.not rfl (wo rfl) rfl rfl ?_
    refine W.not rfl (wo rfl) rfl rfl ?_
    refine W.not rfl (wo rfl) rfl rfl ?_
    refine W.not rfl (Wn.undef rfl rfl rfl) rfl rfl ?_
    refine W.not rfl (Wn.undef rfl rfl rfl) rfl rfl ?_
    refine W.not rfl (wo rfl) rfl rfl ?_
    refine W.pure rfl (wo rfl) rfl rfl (p_pick_true rfl rfl rfl) (nf rfl) ?_
    refine W.doneQ (y := sub [1, 0, 1] B6) rfl ?_
    refine C.cond_true (x := sub [1, 0, 1, 0] B6) (y := sub [1, 0, 1, 1] B6) rfl rfl ?_
    refine C.seq (x := sub [1, 0, 1, 0, 0] B6) (y := sub [1, 0, 1, 0, 1] B6) ?_
    refine C.region (id := 2) (m := 2) (ops := opsOf (sub [1, 0, 1, 0, 0] B6)) rfl ?_
    refine W.quiet rfl (wo rfl) rfl rfl (f_callR rfl rfl (args_val (vs := []) rfl) (en10 _) (fun w2 hc2 => known_ok w2)) (nf rfl) ?_
    refine W.pure rfl (wo rfl) rfl rfl (p_assign rfl rfl) (nf rfl) ?_
    refine W.doneQ (y := sub [1, 0, 1, 0, 1] B6) rfl ?_
    exact C.ret (R := fun e w' => e = .returned (.bool true) ∧ Below w.heap.size w w') (rs := [.tmp 4]) (vs := [.bool true]) rfl Try.func6 rfl rfl rfl (res_cons (ResV.tmp rfl) res_nil) fun w1 hc1 => ⟨rfl, hc1.toBelow⟩
  · refine W.pure rfl (wo rfl) rfl rfl (pF (by simpa using hm) (p_move rfl rfl)) (nf rfl) ?_
    refine W.pure rfl (wo rfl) rfl rfl (p_move rfl rfl) (nf rfl) ?_
    by_cases h1 : 40 < n
    · refine W.pure rfl (wo rfl) rfl rfl (pT (decide_eq_true h1) (p_gtr rfl rfl rfl)) (nf rfl) ?_
      refine W.pure rfl (wo rfl) rfl rfl (p_move rfl rfl) (nf rfl) ?_
      refine W.pure rfl (wo rfl) rfl rfl (p_move rfl rfl) (nf rfl) ?_
      by_cases h2 : n ≤ 8192
      · refine W.pure rfl (wo rfl) rfl rfl (pT (decide_eq_true h2) (p_leq rfl rfl rfl)) (nf rfl) ?_
        refine W.pure rfl (wo rfl) rfl rfl (p_pick_true rfl rfl rfl) (nf rfl) ?_
        refine W.pure rfl (wo rfl) rfl rfl (p_pick_false rfl rfl rfl) (nf rfl) ?_
        refine W.doneQ (y := sub [1, 0, 1] B6) rfl ?_
        refine C.cond_true (x := sub [1, 0, 1, 0] B6) (y := sub [1, 0, 1, 1] B6) rfl rfl ?_
        refine C.seq (x := sub [1, 0, 1, 0, 0] B6) (y := sub [1, 0, 1, 0, 1] B6) ?_
        refine C.region (id := 2) (m := 2) (ops := opsOf (sub [1, 0, 1, 0, 0] B6)) rfl ?_
        refine W.quiet rfl (wo rfl) rfl rfl (f_callR rfl rfl (args_val (vs := []) rfl) (en10 _) (fun w2 hc2 => known_ok w2)) (nf rfl) ?_
        refine W.pure rfl (wo rfl) rfl rfl (p_assign rfl rfl) (nf rfl) ?_
        refine W.doneQ (y := sub [1, 0, 1, 0, 1] B6) rfl ?_
        exact C.ret (R := fun e w' => e = .returned (.bool true) ∧ Below w.heap.size w w') (rs := [.tmp 4]) (vs := [.bool true]) rfl Try.func6 rfl rfl rfl (res_cons (ResV.tmp rfl) res_nil) fun w1 hc1 => ⟨rfl, hc1.toBelow⟩
      · refine W.pure rfl (wo rfl) rfl rfl (pF (decide_eq_false h2) (p_leq rfl rfl rfl)) (nf rfl) ?_
        refine W.pure rfl (wo rfl) rfl rfl (p_pick_true rfl rfl rfl) (nf rfl) ?_
        refine W.pure rfl (wo rfl) rfl rfl (p_pick_false rfl rfl rfl) (nf rfl) ?_
        refine W.doneQ (y := sub [1, 0, 1] B6) rfl ?_
        refine C.cond_false (x := sub [1, 0, 1, 0] B6) (y := sub [1, 0, 1, 1] B6) rfl rfl ?_
        refine C.skipQ (y := sub [1, 1] B6) rfl ?_
        refine C.seq (x := sub [1, 1, 0] B6) (y := sub [1, 1, 1] B6) ?_
        by_cases h5 : n < 1
        · refine C.region (id := 3) (m := 7) (ops := opsOf (sub [1, 1, 0] B6)) rfl ?_
          refine W.pure rfl (wo rfl) rfl rfl (p_move rfl rfl) (nf rfl) ?_
          have hlen := mr.2 (by simpa using hm)
          refine W.quiet rfl (wo rfl) rfl rfl (f_callR rfl rfl (args_val rfl) (en11 _) (fun w2 hc2 => new_no w2 _ (by omega))) (nf rfl) ?_
          refine W.pure rfl (wo rfl) rfl rfl (p_move rfl rfl) (nf rfl) ?_
          refine W.pure rfl (wo rfl) rfl rfl (p_extract rfl rfl rfl) (nf rfl) ?_
          refine W.pure rfl (wo rfl) rfl rfl (p_extract rfl rfl rfl) (nf rfl) ?_
          refine W.pure rfl (wo rfl) rfl rfl (p_assign rfl rfl) (nf rfl) ?_
          refine W.pure rfl (wo rfl) rfl rfl (p_assign rfl rfl) (nf rfl) ?_
          refine W.doneQ (y := sub [1, 1, 1] B6) rfl ?_
          refine C.seq (x := sub [1, 1, 1, 0] B6) (y := sub [1, 1, 1, 1] B6) ?_
          refine C.seq (x := sub [1, 1, 1, 0, 0] B6) (y := sub [1, 1, 1, 0, 1] B6) ?_
          refine C.region (id := 4) (m := 6) (ops := opsOf (sub [1, 1, 1, 0, 0] B6)) rfl ?_
          refine W.pure rfl (wo rfl) rfl rfl (p_move rfl rfl) (nf rfl) ?_
          refine W.pure rfl (wo rfl) rfl rfl (pT (decide_eq_true h5) (p_lss rfl rfl rfl)) (nf rfl) ?_
          refine W.pure rfl (wo rfl) rfl rfl (p_move rfl rfl) (nf rfl) ?_
          refine W.not rfl (wo rfl) rfl rfl ?_
          refine W.not rfl (wo rfl) rfl rfl ?_
          refine W.pure rfl (wo rfl) rfl rfl (p_pick_true rfl rfl rfl) (nf rfl) ?_
          refine W.doneQ (y := sub [1, 1, 1, 0, 1] B6) rfl ?_
          refine C.cond_true (x := sub [1, 1, 1, 0, 1, 0] B6) (y := sub [1, 1, 1, 0, 1, 1] B6) rfl rfl ?_
          refine C.seq (x := sub [1, 1, 1, 0, 1, 0, 0] B6) (y := sub [1, 1, 1, 0, 1, 0, 1] B6) ?_
          refine C.region (id := 5) (m := 11) (ops := opsOf (sub [1, 1, 1, 0, 1, 0, 0] B6)) rfl ?_
          refine W.pure rfl (wo rfl) rfl rfl (p_move rfl rfl) (nf rfl) ?_
          refine W.pure rfl (wo rfl) rfl rfl (p_eqNilN (fun w => by kernel_rfl) (fun w => by kernel_rfl) rfl rfl rfl) (nf rfl) ?_
          refine W.pure rfl (wo rfl) rfl rfl (p_move rfl rfl) (nf rfl) ?_
          refine W.pure rfl (wo rfl) rfl rfl (p_move rfl rfl) (nf rfl) ?_
          refine W.quiet rfl (wo rfl) rfl rfl (f_callR rfl rfl (args_val rfl) (en12 _) (fun w2 hc2 => num_ok w2 _)) (nf rfl) ?_
          refine W.pure rfl (wo rfl) rfl rfl (pT (by rfl) (p_eql rfl rfl rfl)) (nf rfl) ?_
          refine W.pure rfl (wo rfl) rfl rfl (p_pick_true rfl rfl rfl) (nf rfl) ?_
          refine W.pure rfl (wo rfl) rfl rfl (p_move rfl rfl) (nf rfl) ?_
          refine W.quiet rfl (wo rfl) rfl rfl (f_callR rfl rfl (args_val (vs := []) rfl) (en10 _) (fun w2 hc2 => known_ok w2)) (nf rfl) ?_
          refine W.pure rfl (wo rfl) rfl rfl (p_pick_true rfl rfl rfl) (nf rfl) ?_
          refine W.pure rfl (wo rfl) rfl rfl (p_assign rfl rfl) (nf rfl) ?_
          refine W.doneQ (y := sub [1, 1, 1, 0, 1, 0, 1] B6) rfl ?_
          exact C.ret (R := fun e w' => e = .returned (.bool true) ∧ Below w.heap.size w w') (rs := [.tmp 4]) (vs := [.bool true]) rfl Try.func6 rfl rfl rfl (res_cons (ResV.tmp rfl) res_nil) fun w1 hc1 => ⟨rfl, hc1.toBelow⟩
        · refine C.region (id := 3) (m := 7) (ops := opsOf (sub [1, 1, 0] B6)) rfl ?_
          refine W.pure rfl (wo rfl) rfl rfl (p_move rfl rfl) (nf rfl) ?_
          have hlen := mr.2 (by simpa using hm)
          refine W.quiet rfl (wo rfl) rfl rfl (f_callR rfl rfl (args_val rfl) (en11 _) (fun w2 hc2 => new_no w2 _ (by omega))) (nf rfl) ?_
          refine W.pure rfl (wo rfl) rfl rfl (p_move rfl rfl) (nf rfl) ?_
          refine W.pure rfl (wo rfl) rfl rfl (p_extract rfl rfl rfl) (nf rfl) ?_
          refine W.pure rfl (wo rfl) rfl rfl (p_extract rfl rfl rfl) (nf rfl) ?_
          refine W.pure rfl (wo rfl) rfl rfl (p_assign rfl rfl) (nf rfl) ?_
          refine W.pure rfl (wo rfl) rfl rfl (p_assign rfl rfl) (nf rfl) ?_
          refine W.doneQ (y := sub [1, 1, 1] B6) rfl ?_
          refine C.seq (x := sub [1, 1, 1, 0] B6) (y := sub [1, 1, 1, 1] B6) ?_
          refine C.seq (x := sub [1, 1, 1, 0, 0] B6) (y := sub [1, 1, 1, 0, 1] B6) ?_
          refine C.region (id := 4) (m := 6) (ops := opsOf (sub [1, 1, 1, 0, 0] B6)) rfl ?_
          refine W.pure rfl (wo rfl) rfl rfl (p_move rfl rfl) (nf rfl) ?_
          refine W.pure rfl (wo rfl) rfl rfl (pF (decide_eq_false h5) (p_lss rfl rfl rfl)) (nf rfl) ?_
          refine W.pure rfl (wo rfl) rfl rfl (p_move rfl rfl) (nf rfl) ?_
          refine W.pure rfl (wo rfl) rfl rfl (p_move rfl rfl) (nf rfl) ?_
          refine W.pure rfl (wo rfl) rfl rfl (pT (decide_eq_true (by omega)) (p_gtr rfl rfl rfl)) (nf rfl) ?_
          refine W.pure rfl (wo rfl) rfl rfl (p_pick_false rfl rfl rfl) (nf rfl) ?_
          refine W.doneQ (y := sub [1, 1, 1, 0, 1] B6) rfl ?_
          refine C.cond_true (x := sub [1, 1, 1, 0, 1, 0] B6) (y := sub [1, 1, 1, 0, 1, 1] B6) rfl rfl ?_
          refine C.seq (x := sub [1, 1, 1, 0, 1, 0, 0] B6) (y := sub [1, 1, 1, 0, 1, 0, 1] B6) ?_
          refine C.region (id := 5) (m := 11) (ops := opsOf (sub [1, 1, 1, 0, 1, 0, 0] B6)) rfl ?_
          refine W.pure rfl (wo rfl) rfl rfl (p_move rfl rfl) (nf rfl) ?_
          refine W.pure rfl (wo rfl) rfl rfl (p_eqNilN (fun w => by kernel_rfl) (fun w => by kernel_rfl) rfl rfl rfl) (nf rfl) ?_
          refine W.pure rfl (wo rfl) rfl rfl (p_move rfl rfl) (nf rfl) ?_
          refine W.pure rfl (wo rfl) rfl rfl (p_move rfl rfl) (nf rfl) ?_
          refine W.quiet rfl (wo rfl) rfl rfl (f_callR rfl rfl (args_val rfl) (en12 _) (fun w2 hc2 => num_ok w2 _)) (nf rfl) ?_
          refine W.pure rfl (wo rfl) rfl rfl (pT (by rfl) (p_eql rfl rfl rfl)) (nf rfl) ?_
          refine W.pure rfl (wo rfl) rfl rfl (p_pick_true rfl rfl rfl) (nf rfl) ?_
          refine W.pure rfl (wo rfl) rfl rfl (p_move rfl rfl) (nf rfl) ?_
          refine W.quiet rfl (wo rfl) rfl rfl (f_callR rfl rfl (args_val (vs := []) rfl) (en10 _) (fun w2 hc2 => known_ok w2)) (nf rfl) ?_
          refine W.pure rfl (wo rfl) rfl rfl (p_pick_true rfl rfl rfl) (nf rfl) ?_
          refine W.pure rfl (wo rfl) rfl rfl (p_assign rfl rfl) (nf rfl) ?_
          refine W.doneQ (y := sub [1, 1, 1, 0, 1, 0, 1] B6) rfl ?_
          exact C.ret (R := fun e w' => e = .returned (.bool true) ∧ Below w.heap.size w w') (rs := [.tmp 4]) (vs := [.bool true]) rfl Try.func6 rfl rfl rfl (res_cons (ResV.tmp rfl) res_nil) fun w1 hc1 => ⟨rfl, hc1.toBelow⟩
    · refine W.pure rfl (wo rfl) rfl rfl (pF (decide_eq_false h1) (p_gtr rfl rfl rfl)) (nf rfl) ?_
      refine W.pure rfl (wo rfl) rfl rfl (p_move rfl rfl) (nf rfl) ?_
      refine W.not rfl (wo rfl) rfl rfl ?_
      refine W.not rfl (wo rfl) rfl rfl ?_
      refine W.pure rfl (wo rfl) rfl rfl (p_pick_false rfl rfl rfl) (nf rfl) ?_
      refine W.pure rfl (wo rfl) rfl rfl (p_pick_false rfl rfl rfl) (nf rfl) ?_
      refine W.doneQ (y := sub [1, 0, 1] B6) rfl ?_
      refine C.cond_false (x := sub [1, 0, 1, 0] B6) (y := sub [1, 0, 1, 1] B6) rfl rfl ?_
      refine C.skipQ (y := sub [1, 1] B6) rfl ?_
      refine C.seq (x := sub [1, 1, 0] B6) (y := sub [1, 1, 1] B6) ?_
      by_cases h5 : n < 1
      · refine C.region (id := 3) (m := 7) (ops := opsOf (sub [1, 1, 0] B6)) rfl ?_
        refine W.pure rfl (wo rfl) rfl rfl (p_move rfl rfl) (nf rfl) ?_
        have hlen := mr.2 (by simpa using hm)
        refine W.quiet rfl (wo rfl) rfl rfl (f_callR rfl rfl (args_val rfl) (en11 _) (fun w2 hc2 => new_no w2 _ (by omega))) (nf rfl) ?_
        refine W.pure rfl (wo rfl) rfl rfl (p_move rfl rfl) (nf rfl) ?_
        refine W.pure rfl (wo rfl) rfl rfl (p_extract rfl rfl rfl) (nf rfl) ?_
        refine W.pure rfl (wo rfl) rfl rfl (p_extract rfl rfl rfl) (nf rfl) ?_
        refine W.pure rfl (wo rfl) rfl rfl (p_assign rfl rfl) (nf rfl) ?_
        refine W.pure rfl (wo rfl) rfl rfl (p_assign rfl rfl) (nf rfl) ?_
        refine W.doneQ (y := sub [1, 1, 1] B6) rfl ?_
        refine C.seq (x := sub [1, 1, 1, 0] B6) (y := sub [1, 1, 1, 1] B6) ?_
        refine C.seq (x := sub [1, 1, 1, 0, 0] B6) (y := sub [1, 1, 1, 0, 1] B6) ?_
        refine C.region (id := 4) (m := 6) (ops := opsOf (sub [1, 1, 1, 0, 0] B6)) rfl ?_
        refine W.pure rfl (wo rfl) rfl rfl (p_move rfl rfl) (nf rfl) ?_
        refine W.pure rfl (wo rfl) rfl rfl (pT (decide_eq_true h5) (p_lss rfl rfl rfl)) (nf rfl) ?_
        refine W.pure rfl (wo rfl) rfl rfl (p_move rfl rfl) (nf rfl) ?_
        refine W.not rfl (wo rfl) rfl rfl ?_
        refine W.not rfl (wo rfl) rfl rfl ?_
        refine W.pure rfl (wo rfl) rfl rfl (p_pick_true rfl rfl rfl) (nf rfl) ?_
        refine W.doneQ (y := sub [1, 1, 1, 0, 1] B6) rfl ?_
        refine C.cond_true (x := sub [1, 1, 1, 0, 1, 0] B6) (y := sub [1, 1, 1, 0, 1, 1] B6) rfl rfl ?_
        refine C.seq (x := sub [1, 1, 1, 0, 1, 0, 0] B6) (y := sub [1, 1, 1, 0, 1, 0, 1] B6) ?_
        refine C.region (id := 5) (m := 11) (ops := opsOf (sub [1, 1, 1, 0, 1, 0, 0] B6)) rfl ?_
        refine W.pure rfl (wo rfl) rfl rfl (p_move rfl rfl) (nf rfl) ?_
        refine W.pure rfl (wo rfl) rfl rfl (p_eqNilN (fun w => by kernel_rfl) (fun w => by kernel_rfl) rfl rfl rfl) (nf rfl) ?_
        refine W.pure rfl (wo rfl) rfl rfl (p_move rfl rfl) (nf rfl) ?_
        refine W.pure rfl (wo rfl) rfl rfl (p_move rfl rfl) (nf rfl) ?_
        refine W.quiet rfl (wo rfl) rfl rfl (f_callR rfl rfl (args_val rfl) (en12 _) (fun w2 hc2 => num_ok w2 _)) (nf rfl) ?_
        refine W.pure rfl (wo rfl) rfl rfl (pT (by rfl) (p_eql rfl rfl rfl)) (nf rfl) ?_
        refine W.pure rfl (wo rfl) rfl rfl (p_pick_true rfl rfl rfl) (nf rfl) ?_
        refine W.pure rfl (wo rfl) rfl rfl (p_move rfl rfl) (nf rfl) ?_
        refine W.quiet rfl (wo rfl) rfl rfl (f_callR rfl rfl (args_val (vs := []) rfl) (en10 _) (fun w2 hc2 => known_ok w2)) (nf rfl) ?_
        refine W.pure rfl (wo rfl) rfl rfl (p_pick_true rfl rfl rfl) (nf rfl) ?_
        refine W.pure rfl (wo rfl) rfl rfl (p_assign rfl rfl) (nf rfl) ?_
        refine W.doneQ (y := sub [1, 1, 1, 0, 1, 0, 1] B6) rfl ?_
        exact C.ret (R := fun e w' => e = .returned (.bool true) ∧ Below w.heap.size w w') (rs := [.tmp 4]) (vs := [.bool true]) rfl Try.func6 rfl rfl rfl (res_cons (ResV.tmp rfl) res_nil) fun w1 hc1 => ⟨rfl, hc1.toBelow⟩
      · obtain ⟨m, rfl⟩ : ∃ m : Nat, n = (m : Int) := ⟨n.toNat, by omega⟩
        refine C.region (id := 3) (m := 7) (ops := opsOf (sub [1, 1, 0] B6)) rfl ?_
        refine W.pure rfl (wo rfl) rfl rfl (p_move rfl rfl) (nf rfl) ?_
        have hlen := mr.2 (by simpa using hm)
        refine W.c01 rfl (wo rfl) rfl rfl (tNew _ (by omega) (by omega)) (en11 _) rfl rfl rfl (args_val rfl) ?_
        intro p1
        refine W.pure rfl (wo rfl) rfl rfl (p_move rfl rfl) (nf rfl) ?_
        refine W.pure rfl (wo rfl) rfl rfl (p_extract rfl rfl rfl) (nf rfl) ?_
        refine W.pure rfl (wo rfl) rfl rfl (p_extract rfl rfl rfl) (nf rfl) ?_
        refine W.pure rfl (wo rfl) rfl rfl (p_assign rfl rfl) (nf rfl) ?_
        refine W.pure rfl (wo rfl) rfl rfl (p_assign rfl rfl) (nf rfl) ?_
        refine W.doneQ (y := sub [1, 1, 1] B6) rfl ?_
        refine C.seq (x := sub [1, 1, 1, 0] B6) (y := sub [1, 1, 1, 1] B6) ?_
        refine C.seq (x := sub [1, 1, 1, 0, 0] B6) (y := sub [1, 1, 1, 0, 1] B6) ?_
        refine C.region (id := 4) (m := 6) (ops := opsOf (sub [1, 1, 1, 0, 0] B6)) rfl ?_
        refine W.pure rfl (wo rfl) rfl rfl (p_move rfl rfl) (nf rfl) ?_
        refine W.pure rfl (wo rfl) rfl rfl (pF (decide_eq_false h5) (p_lss rfl rfl rfl)) (nf rfl) ?_
        refine W.pure rfl (wo rfl) rfl rfl (p_move rfl rfl) (nf rfl) ?_
        refine W.pure rfl (wo rfl) rfl rfl (p_move rfl rfl) (nf rfl) ?_
        refine W.pure rfl (wo rfl) rfl rfl (pF (decide_eq_false (by omega)) (p_gtr rfl rfl rfl)) (nf rfl) ?_
        refine W.pure rfl (wo rfl) rfl rfl (p_pick_false rfl rfl rfl) (nf rfl) ?_
        refine W.doneQ (y := sub [1, 1, 1, 0, 1] B6) rfl ?_
        refine C.cond_false (x := sub [1, 1, 1, 0, 1, 0] B6) (y := sub [1, 1, 1, 0, 1, 1] B6) rfl rfl ?_
        refine C.skipQ (y := sub [1, 1, 1, 1] B6) rfl ?_
        refine C.seq (x := sub [1, 1, 1, 1, 0] B6) (y := sub [1, 1, 1, 1, 1] B6) ?_
        refine C.region (id := 6) (m := 3) (ops := opsOf (sub [1, 1, 1, 1, 0] B6)) rfl ?_
        refine W.pure rfl (wo rfl) rfl rfl (p_move rfl rfl) (nf rfl) ?_
        refine W.c01 rfl (wo rfl) rfl rfl (rNew _ (by omega)) (en22 _) rfl rfl rfl (args_val rfl) ?_
        intro ⟨p2, x3⟩
        refine W.pure rfl (wo rfl) rfl rfl (p_assign rfl rfl) (nf rfl) ?_
        refine W.doneQ (y := sub [1, 1, 1, 1, 1] B6) rfl ?_
        refine C.seq (x := sub [1, 1, 1, 1, 1, 0] B6) (y := sub [1, 1, 1, 1, 1, 1] B6) ?_
        refine C.seq (x := sub [1, 1, 1, 1, 1, 0, 0] B6) (y := sub [1, 1, 1, 1, 1, 0, 1] B6) ?_
        refine C.region (id := 7) (m := 7) (ops := opsOf (sub [1, 1, 1, 1, 1, 0, 0] B6)) rfl ?_
        refine W.pure rfl (wo rfl) rfl rfl (p_move rfl rfl) (nf rfl) ?_
        refine W.pure rfl (wo rfl) rfl rfl (p_eqNilP (fun b w => by kernel_rfl) (fun b w => by kernel_rfl) rfl rfl rfl) (nf rfl) ?_
        refine W.pure rfl (wo rfl) rfl rfl (p_move rfl rfl) (nf rfl) ?_
        refine W.pure rfl (wo rfl) rfl rfl (p_move rfl rfl) (nf rfl) ?_
        refine W.quiet rfl (wo rfl) rfl rfl (f_callR rfl rfl (args_val rfl) (en12 _) (fun w2 hc2 => num_ok w2 _)) (nf rfl) ?_
        refine W.pure rfl (wo rfl) rfl rfl (pF (by rfl) (p_neq rfl rfl rfl)) (nf rfl) ?_
        refine W.pure rfl (wo rfl) rfl rfl (p_pick_false rfl rfl rfl) (nf rfl) ?_
        refine W.doneQ (y := sub [1, 1, 1, 1, 1, 0, 1] B6) rfl ?_
        refine C.cond_false (x := sub [1, 1, 1, 1, 1, 0, 1, 0] B6) (y := sub [1, 1, 1, 1, 1, 0, 1, 1] B6) rfl rfl ?_
        refine C.skipQ (y := sub [1, 1, 1, 1, 1, 1] B6) rfl ?_
        refine C.seq (x := sub [1, 1, 1, 1, 1, 1, 0] B6) (y := sub [1, 1, 1, 1, 1, 1, 1] B6) ?_
        refine C.seq (x := sub [1, 1, 1, 1, 1, 1, 0, 0] B6) (y := sub [1, 1, 1, 1, 1, 1, 0, 1] B6) ?_
        refine C.region (id := 9) (m := 1) (ops := opsOf (sub [1, 1, 1, 1, 1, 1, 0, 0] B6)) rfl ?_
        refine W.pure rfl (wo rfl) rfl rfl (p_assign rfl rfl) (nf rfl) ?_
        refine W.doneQ (y := sub [1, 1, 1, 1, 1, 1, 0, 1] B6) rfl ?_
        refine C.f1 rfl ?_
        refine C.loopB (id := 0) (c := sub [1, 1, 1, 1, 1, 1, 0, 1, 0, 0] B6) (y := sub [1, 1, 1, 1, 1, 1, 1] B6) (α := PSt) (fun q => l.length - q.k) (fun q => [(0, .int .i64 (m : Int)), (1, lv), (5, ptr p1.1 0), (7, ptr p2 0), (8, .int .i64 (q.k : Int))]) (fun q => dX p1.1 p1.2 q.x ++ (rX p2 q.y ++ [])) (fun q => q.k ≤ l.length ∧ q.s.late.length ≤ q.k ∧ q.s.n = m ∧ Sim q.s q.r) ⟨0, _, _, (x0 _), x3⟩ ⟨Nat.zero_le _, by simp [newK], rfl, sim_new m⟩ (Sub.cons rfl (Sub.cons rfl (Sub.cons rfl (Sub.cons rfl (Sub.cons rfl (Sub.nil _)))))) rfl rfl (fun q => True) ?_ ?_
        · rintro ⟨k, s, r, x, y⟩ ⟨(hk : k ≤ l.length), (hsl : s.late.length ≤ k), (hn : s.n = m), (hs : Sim s r)⟩ Q' hN hE hR
          show CW _ _ _ _ _ [(0, .int .i64 (m : Int)), (1, lv), (5, ptr p1.1 0), (7, ptr p2 0), (8, .int .i64 (k : Int))] (dX p1.1 p1.2 x ++ (rX p2 y ++ []))
          by_cases hlt : k < l.length
          · obtain ⟨z, hz⟩ : ∃ z, l[k]? = some z := ⟨_, List.getElem?_eq_getElem hlt⟩
            have hzn := hln z (List.mem_of_getElem? hz)
            obtain ⟨pv, hpv, hcs⟩ := stp_at hr hz
            refine C.seq (x := sub [1, 1, 1, 1, 1, 1, 0, 1, 0, 0, 0] B6) (y := sub [1, 1, 1, 1, 1, 1, 0, 1, 0, 0, 1] B6) ?_
            refine C.seq (x := sub [1, 1, 1, 1, 1, 1, 0, 1, 0, 0, 0, 0] B6) (y := sub [1, 1, 1, 1, 1, 1, 0, 1, 0, 0, 0, 1] B6) ?_
            refine C.region (id := 10) (m := 4) (ops := opsOf (sub [1, 1, 1, 1, 1, 1, 0, 1, 0, 0, 0, 0] B6)) rfl ?_
            refine W.pure rfl (wo rfl) rfl rfl (p_move rfl rfl) (nf rfl) ?_
            refine W.pure rfl (wo rfl) rfl rfl (p_move rfl rfl) (nf rfl) ?_
            refine W.pure rfl (wo rfl) rfl rfl (p_slLen tu41 (RowS.sl hr) rfl rfl) (nf rfl) ?_
            refine W.pure rfl (wo rfl) rfl rfl (pT (decide_eq_true (by omega)) (p_lss rfl rfl rfl)) (nf rfl) ?_
            refine W.doneQ (y := sub [1, 1, 1, 1, 1, 1, 0, 1, 0, 0, 0, 1] B6) rfl ?_
            refine C.cond_true (x := sub [1, 1, 1, 1, 1, 1, 0, 1, 0, 0, 0, 1, 0] B6) (y := sub [1, 1, 1, 1, 1, 1, 0, 1, 0, 0, 0, 1, 1] B6) rfl rfl ?_
            refine C.skipQ (y := sub [1, 1, 1, 1, 1, 1, 0, 1, 0, 0, 1] B6) rfl ?_
            refine C.seq (x := sub [1, 1, 1, 1, 1, 1, 0, 1, 0, 0, 1, 0] B6) (y := sub [1, 1, 1, 1, 1, 1, 0, 1, 0, 0, 1, 1] B6) ?_
            refine C.block (id := 1) (c := sub [1, 1, 1, 1, 1, 1, 0, 1, 0, 0, 1, 0, 0] B6) ?_
            refine C.seq (x := sub [1, 1, 1, 1, 1, 1, 0, 1, 0, 0, 1, 0, 0, 0] B6) (y := sub [1, 1, 1, 1, 1, 1, 0, 1, 0, 0, 1, 0, 0, 1] B6) ?_
            refine C.regionD (id := 12) (ops := opsOf (sub [1, 1, 1, 1, 1, 1, 0, 1, 0, 0, 1, 0, 0, 0] B6)) [0, 1, 2, 3, 4, 6, 7, 8, 9, 10, 5, 11, 12, 13, 14, 15, 16, 17, 18] [0, 0, 0, 6, 14, 31, 0, 0, 0, 384, 896, 2047, 4095, 8191, 16383, 16383, 65535, 131071, 262143] [(.pure, none), (.pure, none), (.pure, none), (.pure, none), (.pure, none), (.actx, none), (.pure, none), (.pure, none), (.pure, none), (.pure, none), (.pure, none), (.actx, none), (.pure, none), (.pure, none), (.pure, none), (.pure, none), (.actx, none), (.pure, none), (.pure, none)] (by kernel_rfl) ?_
            intro wD12 hl12
            refine DW.pure rfl rfl rfl rfl rfl (p_move rfl rfl) ?_
            refine DW.pure rfl rfl rfl rfl rfl (p_move rfl rfl) ?_
            refine DW.pure rfl rfl rfl rfl rfl (p_move rfl rfl) ?_
            refine DW.pure rfl rfl rfl rfl rfl (p_ixS hr hlt tu41 ts46 rfl rfl rfl) ?_
            refine DW.imm rfl rfl rfl rfl rfl (i_ldS hr hz hcs ta46 ts46 rfl rfl) ?_
            refine DW.pure rfl rfl rfl rfl rfl (p_move rfl rfl) ?_
            refine DW.pure rfl rfl rfl rfl rfl (p_move rfl rfl) ?_
            refine DW.pure rfl rfl rfl rfl rfl (p_move rfl rfl) ?_
            refine DW.pure rfl rfl rfl rfl rfl (p_ixS hr hlt tu41 ts46 rfl rfl rfl) ?_
            refine DW.imm rfl rfl rfl rfl rfl (i_ldS hr hz hcs ta46 ts46 rfl rfl) ?_
            refine DW.c11 rfl rfl rfl rfl rfl rfl (tDo x (hpv) (pairE _) (by omega)) (en23 _) rfl rfl rfl (args_val rfl) ?_
            intro x4
            refine DW.c11b rfl rfl rfl rfl rfl rfl (rDo y (hpv) (pairE _) (by rw [hs.L]; omega)) (en24 _) rfl rfl rfl (args_val rfl) ?_
            intro x5
            refine DW.pure rfl rfl rfl rfl rfl (pF (by rw [(sim_do hs z hzn).1]; simp) (p_neq rfl rfl rfl)) ?_
            refine DW.pure rfl rfl rfl rfl rfl (p_move rfl rfl) ?_
            refine DV.pure rfl (wo rfl) rfl rfl rfl (p_move rfl rfl) ?_
            refine DV.pure rfl (wo rfl) rfl rfl rfl (p_move rfl rfl) ?_
            refine DV.c22 rfl (wo rfl) rfl rfl rfl rfl (tLooks x4 x5 ((sim_do hs z hzn).2) (⟨by have := doK_late s z; omega, by rw [doK_n]; omega⟩)) (en28 _) rfl rfl rfl (args_val rfl) ?_
            intro _
            refine DV.pure rfl (wo rfl) rfl rfl rfl (p_not rfl rfl) ?_
            refine DW.pure rfl rfl rfl rfl rfl (p_pick_false rfl rfl rfl) ?_
            refine DW.doneQ (y := sub [1, 1, 1, 1, 1, 1, 0, 1, 0, 0, 1, 0, 0, 1] B6) hl12 rfl ?_
            refine C.cond_false (x := sub [1, 1, 1, 1, 1, 1, 0, 1, 0, 0, 1, 0, 0, 1, 0] B6) (y := sub [1, 1, 1, 1, 1, 1, 0, 1, 0, 0, 1, 0, 0, 1, 1] B6) rfl rfl ?_
            refine C.skipQ (y := sub [1, 1, 1, 1, 1, 1, 0, 1, 0, 0, 1, 1] B6) rfl ?_
            refine C.region (id := 11) (m := 3) (ops := opsOf (sub [1, 1, 1, 1, 1, 1, 0, 1, 0, 0, 1, 1] B6)) rfl ?_
            refine W.pure rfl (wo rfl) rfl rfl (p_move rfl rfl) (nf rfl) ?_
            refine W.pure rfl (wo rfl) rfl rfl (pI (wk (by omega)) (p_add rfl rfl rfl)) (nf rfl) ?_
            refine W.pure rfl (wo rfl) rfl rfl (p_assign rfl rfl) (nf rfl) ?_
            refine W.end' fun a1 w1 ha1 hc1 => hN ⟨k + 1, _, _, x4, x5⟩ ⟨(by show k + 1 ≤ _; omega), (by have := doK_late s z; show (doK s z).2.late.length ≤ k + 1; omega), (by show (doK s z).2.n = m; rw [doK_n]; exact hn), (sim_do hs z hzn).2⟩ (show l.length - (k + 1) < l.length - k by omega) a1 w1 (ha1.sub (Sub.cons rfl (Sub.cons rfl (Sub.cons rfl (Sub.cons rfl (Sub.cons rfl (Sub.nil _))))))) hc1
          · refine C.seq (x := sub [1, 1, 1, 1, 1, 1, 0, 1, 0, 0, 0] B6) (y := sub [1, 1, 1, 1, 1, 1, 0, 1, 0, 0, 1] B6) ?_
            refine C.seq (x := sub [1, 1, 1, 1, 1, 1, 0, 1, 0, 0, 0, 0] B6) (y := sub [1, 1, 1, 1, 1, 1, 0, 1, 0, 0, 0, 1] B6) ?_
            refine C.region (id := 10) (m := 4) (ops := opsOf (sub [1, 1, 1, 1, 1, 1, 0, 1, 0, 0, 0, 0] B6)) rfl ?_
            refine W.pure rfl (wo rfl) rfl rfl (p_move rfl rfl) (nf rfl) ?_
            refine W.pure rfl (wo rfl) rfl rfl (p_move rfl rfl) (nf rfl) ?_
            refine W.pure rfl (wo rfl) rfl rfl (p_slLen tu41 (RowS.sl hr) rfl rfl) (nf rfl) ?_
            refine W.pure rfl (wo rfl) rfl rfl (pF (decide_eq_false (by omega)) (p_lss rfl rfl rfl)) (nf rfl) ?_
            refine W.doneQ (y := sub [1, 1, 1, 1, 1, 1, 0, 1, 0, 0, 0, 1] B6) rfl ?_
            refine C.cond_false (x := sub [1, 1, 1, 1, 1, 1, 0, 1, 0, 0, 0, 1, 0] B6) (y := sub [1, 1, 1, 1, 1, 1, 0, 1, 0, 0, 0, 1, 1] B6) rfl rfl ?_
            exact C.exit fun a1 w1 ha1 hc1 => hE trivial a1 w1 (ha1.sub (Sub.cons rfl (Sub.cons rfl (Sub.cons rfl (Sub.cons rfl (Sub.cons rfl (Sub.nil _))))))) hc1
        rintro ⟨k, s, r, x, y⟩ ⟨(hk : k ≤ l.length), (hsl : s.late.length ≤ k), (hn : s.n = m), (hs : Sim s r)⟩ _
        show CW _ _ _ _ _ [(0, .int .i64 (m : Int)), (1, lv), (5, ptr p1.1 0), (7, ptr p2 0), (8, .int .i64 (k : Int))] (dX p1.1 p1.2 x ++ (rX p2 y ++ []))
        refine C.seq (x := sub [1, 1, 1, 1, 1, 1, 1, 0] B6) (y := sub [1, 1, 1, 1, 1, 1, 1, 1] B6) ?_
        refine C.region (id := 14) (m := 2) (ops := opsOf (sub [1, 1, 1, 1, 1, 1, 1, 0] B6)) rfl ?_
        refine W.quiet rfl (wo rfl) rfl rfl (f_callR rfl rfl (args_val (vs := []) rfl) (en10 _) (fun w2 hc2 => known_ok w2)) (nf rfl) ?_
        refine W.pure rfl (wo rfl) rfl rfl (p_assign rfl rfl) (nf rfl) ?_
        refine W.doneQ (y := sub [1, 1, 1, 1, 1, 1, 1, 1] B6) rfl ?_
        exact C.ret (R := fun e w' => e = .returned (.bool true) ∧ Below w.heap.size w w') (rs := [.tmp 4]) (vs := [.bool true]) rfl Try.func6 rfl rfl rfl (res_cons (ResV.tmp rfl) res_nil) fun w1 hc1 => ⟨rfl, hc1.toBelow⟩

end Go.Proofs.Ytjomnicfcdkfdaa
