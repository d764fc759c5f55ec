import Derived.Test.YtjomnicfcdkfdaaDkP
namespace Go.Proofs.Ytjomnicfcdkfdaa
open Go Go.HW Go.RowKit
set_option linter.unusedVariables false
set_option linter.unusedSimpArgs false

structure ASt where
  k : Nat
  s : Dk
  x1 : Dx s
  x2 : Dx s
theorem hasD_in {s : Dk} {n : Int} (h0 : 0 ≤ n) (h1 : n < s.n) : hasD s n = true := by unfold hasD; exact decide_eq_true ⟨h0, h1⟩

noncomputable def B7 : Code := bodyOf Try.f7
theorem apart_ok {w : World} {lv pv0 : Value} {l : List Stp} {z0 : Stp} (hr : RowS ShStp (heapOf w) lv l) (hp0 : IntRow (heapOf w) .i64 pv0 z0.picks) (n at_ : Int) : Calls Try.prog 7 #[.int .i64 n, lv, .int .i64 at_, .agg (stc z0 pv0).toArray] w (fun e w' => e = .returned (.bool true) ∧ Below w.heap.size w w') := by
  refine calls_of_CW (N := 166) Try.func7 (show _ = some B7 by kernel_rfl) (by kernel_rfl) rfl (S := [(0, .int .i64 n), (1, lv), (2, .int .i64 at_), (3, .agg (stc z0 pv0).toArray)]) (by simp) (clsStart w) ?_
  show CW _ _ _ (sub [] B7) _ _ _
  refine C.seq (x := sub [0] B7) (y := sub [1] B7) ?_
  refine C.region (id := 0) (m := 2) (ops := opsOf (sub [0] B7)) rfl ?_
  refine W.new rfl (wo rfl) rfl rfl (f_box rfl rfl) (nf rfl) ?_
  intro bx hbx
  refine W.heapIs (H2 := [(some bx, .cells (stc z0 pv0).toArray 46 (0, 0))] ++ []) rfl ?_
  refine W.pure rfl (wo rfl) rfl rfl (p_assign rfl rfl) (nf rfl) ?_
  refine W.doneQ (y := sub [1] B7) rfl ?_
  refine C.seq (x := sub [1, 0] B7) (y := sub [1, 1] B7) ?_
  refine C.seq (x := sub [1, 0, 0] B7) (y := sub [1, 0, 1] B7) ?_
  refine C.region (id := 1) (m := 26) (ops := opsOf (sub [1, 0, 0] B7)) rfl ?_
  refine W.pure rfl (wo rfl) rfl rfl (p_move rfl rfl) (nf rfl) ?_
  refine W.cq rfl (wo rfl) rfl rfl (fun w2 hc2 => much_ok (M := heapOf w) (most := 80) hc2.imm (hr) (by decide)) (en21 _) rfl rfl rfl (args_val rfl) ?_
  intro mr
  by_cases hm : mr.1 = true
  · refine W.pure rfl (wo rfl) rfl rfl (pT (hm) (p_move rfl rfl)) (nf rfl) ?_
    refine W.not rfl (wo rfl) rfl rfl ?_
    refine W.not rfl (wo rfl) rfl rfl ?_
    refine W.pure rfl (wo rfl) rfl rfl (p_pick_true rfl rfl rfl) (nf rfl) ?_
    refine W.pure rfl (wo rfl) rfl rfl (p_move rfl rfl) (nf rfl) ?_
    refine W.not rfl (wo rfl) rfl rfl ?_
    refine W.not rfl (wo rfl) rfl rfl ?_
    refine W.pure rfl (wo rfl) rfl rfl (p_pick_true rfl rfl rfl) (nf rfl) ?_
    refine W.pure rfl (wo rfl) rfl rfl (p_move rfl rfl) (nf rfl) ?_
    refine W.not rfl (wo rfl) rfl rfl ?_
    refine W.not rfl (wo rfl) rfl rfl ?_
    refine W.not rfl (wo rfl) rfl rfl ?_
    refine W.not rfl (wo rfl) rfl rfl ?_
    refine W.pure rfl (wo rfl) rfl rfl (p_pick_true rfl rfl rfl) (nf rfl) ?_
    refine W.pure rfl (wo rfl) rfl rfl (p_move rfl rfl) (nf rfl) ?_
    refine W.not rfl (wo rfl) rfl rfl ?_
    refine W.not rfl (wo rfl) rfl rfl ?_
    refine W.pure rfl (wo rfl) rfl rfl (p_pick_true rfl rfl rfl) (nf rfl) ?_
    refine W.pure rfl (wo rfl) rfl rfl (p_move rfl rfl) (nf rfl) ?_
    refine W.not rfl (wo rfl) rfl rfl ?_
    refine W.not rfl (wo rfl) rfl rfl ?_
    refine W.not rfl (wo rfl) rfl rfl ?_
    refine W.not rfl (wo rfl) rfl rfl ?_
    refine W.pure rfl (wo rfl) rfl rfl (p_pick_true rfl rfl rfl) (nf rfl) ?_
    refine W.doneQ (y := sub [1, 0, 1] B7) rfl ?_
    refine C.cond_true (x := sub [1, 0, 1, 0] B7) (y := sub [1, 0, 1, 1] B7) rfl rfl ?_
    refine C.seq (x := sub [1, 0, 1, 0, 0] B7) (y := sub [1, 0, 1, 0, 1] B7) ?_
    refine C.region (id := 2) (m := 2) (ops := opsOf (sub [1, 0, 1, 0, 0] B7)) rfl ?_
    refine W.quiet rfl (wo rfl) rfl rfl (f_callR rfl rfl (args_val (vs := []) rfl) (en10 _) (fun w2 hc2 => known_ok w2)) (nf rfl) ?_
    refine W.pure rfl (wo rfl) rfl rfl (p_assign rfl rfl) (nf rfl) ?_
    refine W.doneQ (y := sub [1, 0, 1, 0, 1] B7) rfl ?_
    exact C.ret (R := fun e w' => e = .returned (.bool true) ∧ Below w.heap.size w w') (rs := [.tmp 8]) (vs := [.bool true]) rfl Try.func7 rfl rfl rfl (res_cons (ResV.tmp rfl) res_nil) fun w1 hc1 => ⟨rfl, hc1.toBelow⟩
  · refine W.pure rfl (wo rfl) rfl rfl (pF (by simpa using hm) (p_move rfl rfl)) (nf rfl) ?_
    refine W.pure rfl (wo rfl) rfl rfl (p_move rfl rfl) (nf rfl) ?_
    by_cases h0 : n < 1
    · refine W.pure rfl (wo rfl) rfl rfl (pT (decide_eq_true h0) (p_lss rfl rfl rfl)) (nf rfl) ?_
      refine W.pure rfl (wo rfl) rfl rfl (p_pick_false rfl rfl rfl) (nf rfl) ?_
      refine W.pure rfl (wo rfl) rfl rfl (p_move rfl rfl) (nf rfl) ?_
      refine W.not rfl (wo rfl) rfl rfl ?_
      refine W.not rfl (wo rfl) rfl rfl ?_
      refine W.pure rfl (wo rfl) rfl rfl (p_pick_true rfl rfl rfl) (nf rfl) ?_
      refine W.pure rfl (wo rfl) rfl rfl (p_move rfl rfl) (nf rfl) ?_
      refine W.not rfl (wo rfl) rfl rfl ?_
      refine W.not rfl (wo rfl) rfl rfl ?_
      refine W.not rfl (wo rfl) rfl rfl ?_
      refine W.not rfl (wo rfl) rfl rfl ?_
      refine W.pure rfl (wo rfl) rfl rfl (p_pick_true rfl rfl rfl) (nf rfl) ?_
      refine W.pure rfl (wo rfl) rfl rfl (p_move rfl rfl) (nf rfl) ?_
      refine W.not rfl (wo rfl) rfl rfl ?_
      refine W.not rfl (wo rfl) rfl rfl ?_
      refine W.pure rfl (wo rfl) rfl rfl (p_pick_true rfl rfl rfl) (nf rfl) ?_
      refine W.pure rfl (wo rfl) rfl rfl (p_move rfl rfl) (nf rfl) ?_
      refine W.not rfl (wo rfl) rfl rfl ?_
      refine W.not rfl (wo rfl) rfl rfl ?_
      refine W.not rfl (wo rfl) rfl rfl ?_
      refine W.not rfl (wo rfl) rfl rfl ?_
      refine W.pure rfl (wo rfl) rfl rfl (p_pick_true rfl rfl rfl) (nf rfl) ?_
      refine W.doneQ (y := sub [1, 0, 1] B7) rfl ?_
      refine C.cond_true (x := sub [1, 0, 1, 0] B7) (y := sub [1, 0, 1, 1] B7) rfl rfl ?_
      refine C.seq (x := sub [1, 0, 1, 0, 0] B7) (y := sub [1, 0, 1, 0, 1] B7) ?_
      refine C.region (id := 2) (m := 2) (ops := opsOf (sub [1, 0, 1, 0, 0] B7)) rfl ?_
      refine W.quiet rfl (wo rfl) rfl rfl (f_callR rfl rfl (args_val (vs := []) rfl) (en10 _) (fun w2 hc2 => known_ok w2)) (nf rfl) ?_
      refine W.pure rfl (wo rfl) rfl rfl (p_assign rfl rfl) (nf rfl) ?_
      refine W.doneQ (y := sub [1, 0, 1, 0, 1] B7) rfl ?_
      exact C.ret (R := fun e w' => e = .returned (.bool true) ∧ Below w.heap.size w w') (rs := [.tmp 8]) (vs := [.bool true]) rfl Try.func7 rfl rfl rfl (res_cons (ResV.tmp rfl) res_nil) fun w1 hc1 => ⟨rfl, hc1.toBelow⟩
    · refine W.pure rfl (wo rfl) rfl rfl (pF (decide_eq_false h0) (p_lss rfl rfl rfl)) (nf rfl) ?_
      refine W.pure rfl (wo rfl) rfl rfl (p_pick_false rfl rfl rfl) (nf rfl) ?_
      refine W.pure rfl (wo rfl) rfl rfl (p_move rfl rfl) (nf rfl) ?_
      refine W.pure rfl (wo rfl) rfl rfl (p_move rfl rfl) (nf rfl) ?_
      by_cases h1 : 40 < n
      · refine W.pure rfl (wo rfl) rfl rfl (pT (decide_eq_true h1) (p_gtr rfl rfl rfl)) (nf rfl) ?_
        refine W.pure rfl (wo rfl) rfl rfl (p_pick_false rfl rfl rfl) (nf rfl) ?_
        refine W.pure rfl (wo rfl) rfl rfl (p_move rfl rfl) (nf rfl) ?_
        refine W.not rfl (wo rfl) rfl rfl ?_
        refine W.not rfl (wo rfl) rfl rfl ?_
        refine W.not rfl (wo rfl) rfl rfl ?_
        refine W.not rfl (wo rfl) rfl rfl ?_
        refine W.pure rfl (wo rfl) rfl rfl (p_pick_true rfl rfl rfl) (nf rfl) ?_
        refine W.pure rfl (wo rfl) rfl rfl (p_move rfl rfl) (nf rfl) ?_
        refine W.not rfl (wo rfl) rfl rfl ?_
        refine W.not rfl (wo rfl) rfl rfl ?_
        refine W.pure rfl (wo rfl) rfl rfl (p_pick_true rfl rfl rfl) (nf rfl) ?_
        refine W.pure rfl (wo rfl) rfl rfl (p_move rfl rfl) (nf rfl) ?_
        refine W.not rfl (wo rfl) rfl rfl ?_
        refine W.not rfl (wo rfl) rfl rfl ?_
        refine W.not rfl (wo rfl) rfl rfl ?_
        refine W.not rfl (wo rfl) rfl rfl ?_
        refine W.pure rfl (wo rfl) rfl rfl (p_pick_true rfl rfl rfl) (nf rfl) ?_
        refine W.doneQ (y := sub [1, 0, 1] B7) rfl ?_
        refine C.cond_true (x := sub [1, 0, 1, 0] B7) (y := sub [1, 0, 1, 1] B7) rfl rfl ?_
        refine C.seq (x := sub [1, 0, 1, 0, 0] B7) (y := sub [1, 0, 1, 0, 1] B7) ?_
        refine C.region (id := 2) (m := 2) (ops := opsOf (sub [1, 0, 1, 0, 0] B7)) rfl ?_
        refine W.quiet rfl (wo rfl) rfl rfl (f_callR rfl rfl (args_val (vs := []) rfl) (en10 _) (fun w2 hc2 => known_ok w2)) (nf rfl) ?_
        refine W.pure rfl (wo rfl) rfl rfl (p_assign rfl rfl) (nf rfl) ?_
        refine W.doneQ (y := sub [1, 0, 1, 0, 1] B7) rfl ?_
        exact C.ret (R := fun e w' => e = .returned (.bool true) ∧ Below w.heap.size w w') (rs := [.tmp 8]) (vs := [.bool true]) rfl Try.func7 rfl rfl rfl (res_cons (ResV.tmp rfl) res_nil) fun w1 hc1 => ⟨rfl, hc1.toBelow⟩
      · refine W.pure rfl (wo rfl) rfl rfl (pF (decide_eq_false h1) (p_gtr rfl rfl rfl)) (nf rfl) ?_
        refine W.pure rfl (wo rfl) rfl rfl (p_pick_false rfl rfl rfl) (nf rfl) ?_
        refine W.pure rfl (wo rfl) rfl rfl (p_move rfl rfl) (nf rfl) ?_
        refine W.pure rfl (wo rfl) rfl rfl (p_fieldAddr tf46_4 rfl rfl) (nf rfl) ?_
        refine W.quiet rfl (wo rfl) rfl rfl (f_load (j := 0) (off := 4) ta22 rfl rfl rfl rfl) (nf rfl) ?_
        refine W.pure rfl (wo rfl) rfl rfl (p_slLen tu22 (row_sl hp0) rfl rfl) (nf rfl) ?_
        by_cases h2 : 1000 < (z0.picks.length : Int)
        · refine W.pure rfl (wo rfl) rfl rfl (pT (decide_eq_true h2) (p_gtr rfl rfl rfl)) (nf rfl) ?_
          refine W.pure rfl (wo rfl) rfl rfl (p_pick_false rfl rfl rfl) (nf rfl) ?_
          refine W.pure rfl (wo rfl) rfl rfl (p_move rfl rfl) (nf rfl) ?_
          refine W.not rfl (wo rfl) rfl rfl ?_
          refine W.not rfl (wo rfl) rfl rfl ?_
          refine W.pure rfl (wo rfl) rfl rfl (p_pick_true rfl rfl rfl) (nf rfl) ?_
          refine W.pure rfl (wo rfl) rfl rfl (p_move rfl rfl) (nf rfl) ?_
          refine W.not rfl (wo rfl) rfl rfl ?_
          refine W.not rfl (wo rfl) rfl rfl ?_
          refine W.not rfl (wo rfl) rfl rfl ?_
          refine W.not rfl (wo rfl) rfl rfl ?_
          refine W.pure rfl (wo rfl) rfl rfl (p_pick_true rfl rfl rfl) (nf rfl) ?_
          refine W.doneQ (y := sub [1, 0, 1] B7) rfl ?_
          refine C.cond_true (x := sub [1, 0, 1, 0] B7) (y := sub [1, 0, 1, 1] B7) rfl rfl ?_
          refine C.seq (x := sub [1, 0, 1, 0, 0] B7) (y := sub [1, 0, 1, 0, 1] B7) ?_
          refine C.region (id := 2) (m := 2) (ops := opsOf (sub [1, 0, 1, 0, 0] B7)) rfl ?_
          refine W.quiet rfl (wo rfl) rfl rfl (f_callR rfl rfl (args_val (vs := []) rfl) (en10 _) (fun w2 hc2 => known_ok w2)) (nf rfl) ?_
          refine W.pure rfl (wo rfl) rfl rfl (p_assign rfl rfl) (nf rfl) ?_
          refine W.doneQ (y := sub [1, 0, 1, 0, 1] B7) rfl ?_
          exact C.ret (R := fun e w' => e = .returned (.bool true) ∧ Below w.heap.size w w') (rs := [.tmp 8]) (vs := [.bool true]) rfl Try.func7 rfl rfl rfl (res_cons (ResV.tmp rfl) res_nil) fun w1 hc1 => ⟨rfl, hc1.toBelow⟩
        · refine W.pure rfl (wo rfl) rfl rfl (pF (decide_eq_false h2) (p_gtr rfl rfl rfl)) (nf rfl) ?_
          refine W.pure rfl (wo rfl) rfl rfl (p_pick_false rfl rfl rfl) (nf rfl) ?_
          refine W.pure rfl (wo rfl) rfl rfl (p_move rfl rfl) (nf rfl) ?_
          refine W.pure rfl (wo rfl) rfl rfl (p_move rfl rfl) (nf rfl) ?_
          by_cases h3 : at_ < 0
          · refine W.pure rfl (wo rfl) rfl rfl (pT (decide_eq_true h3) (p_lss rfl rfl rfl)) (nf rfl) ?_
            refine W.pure rfl (wo rfl) rfl rfl (p_pick_false rfl rfl rfl) (nf rfl) ?_
            refine W.pure rfl (wo rfl) rfl rfl (p_move rfl rfl) (nf rfl) ?_
            refine W.not rfl (wo rfl) rfl rfl ?_
            refine W.not rfl (wo rfl) rfl rfl ?_
            refine W.not rfl (wo rfl) rfl rfl ?_
            refine W.not rfl (wo rfl) rfl rfl ?_
            refine W.pure rfl (wo rfl) rfl rfl (p_pick_true rfl rfl rfl) (nf rfl) ?_
            refine W.doneQ (y := sub [1, 0, 1] B7) rfl ?_
            refine C.cond_true (x := sub [1, 0, 1, 0] B7) (y := sub [1, 0, 1, 1] B7) rfl rfl ?_
            refine C.seq (x := sub [1, 0, 1, 0, 0] B7) (y := sub [1, 0, 1, 0, 1] B7) ?_
            refine C.region (id := 2) (m := 2) (ops := opsOf (sub [1, 0, 1, 0, 0] B7)) rfl ?_
            refine W.quiet rfl (wo rfl) rfl rfl (f_callR rfl rfl (args_val (vs := []) rfl) (en10 _) (fun w2 hc2 => known_ok w2)) (nf rfl) ?_
            refine W.pure rfl (wo rfl) rfl rfl (p_assign rfl rfl) (nf rfl) ?_
            refine W.doneQ (y := sub [1, 0, 1, 0, 1] B7) rfl ?_
            exact C.ret (R := fun e w' => e = .returned (.bool true) ∧ Below w.heap.size w w') (rs := [.tmp 8]) (vs := [.bool true]) rfl Try.func7 rfl rfl rfl (res_cons (ResV.tmp rfl) res_nil) fun w1 hc1 => ⟨rfl, hc1.toBelow⟩
          · refine W.pure rfl (wo rfl) rfl rfl (pF (decide_eq_false h3) (p_lss rfl rfl rfl)) (nf rfl) ?_
            refine W.pure rfl (wo rfl) rfl rfl (p_pick_false rfl rfl rfl) (nf rfl) ?_
            refine W.pure rfl (wo rfl) rfl rfl (p_move rfl rfl) (nf rfl) ?_
            refine W.pure rfl (wo rfl) rfl rfl (p_move rfl rfl) (nf rfl) ?_
            refine W.pure rfl (wo rfl) rfl rfl (p_move rfl rfl) (nf rfl) ?_
            refine W.pure rfl (wo rfl) rfl rfl (p_slLen tu41 (RowS.sl hr) rfl rfl) (nf rfl) ?_
            by_cases h4 : (l.length : Int) < at_
            · refine W.pure rfl (wo rfl) rfl rfl (pT (decide_eq_true h4) (p_gtr rfl rfl rfl)) (nf rfl) ?_
              refine W.pure rfl (wo rfl) rfl rfl (p_pick_false rfl rfl rfl) (nf rfl) ?_
              refine W.doneQ (y := sub [1, 0, 1] B7) rfl ?_
              refine C.cond_true (x := sub [1, 0, 1, 0] B7) (y := sub [1, 0, 1, 1] B7) rfl rfl ?_
              refine C.seq (x := sub [1, 0, 1, 0, 0] B7) (y := sub [1, 0, 1, 0, 1] B7) ?_
              refine C.region (id := 2) (m := 2) (ops := opsOf (sub [1, 0, 1, 0, 0] B7)) rfl ?_
              refine W.quiet rfl (wo rfl) rfl rfl (f_callR rfl rfl (args_val (vs := []) rfl) (en10 _) (fun w2 hc2 => known_ok w2)) (nf rfl) ?_
              refine W.pure rfl (wo rfl) rfl rfl (p_assign rfl rfl) (nf rfl) ?_
              refine W.doneQ (y := sub [1, 0, 1, 0, 1] B7) rfl ?_
              exact C.ret (R := fun e w' => e = .returned (.bool true) ∧ Below w.heap.size w w') (rs := [.tmp 8]) (vs := [.bool true]) rfl Try.func7 rfl rfl rfl (res_cons (ResV.tmp rfl) res_nil) fun w1 hc1 => ⟨rfl, hc1.toBelow⟩
            · refine W.pure rfl (wo rfl) rfl rfl (pF (decide_eq_false h4) (p_gtr rfl rfl rfl)) (nf rfl) ?_
              refine W.pure rfl (wo rfl) rfl rfl (p_pick_false rfl rfl rfl) (nf rfl) ?_
              refine W.doneQ (y := sub [1, 0, 1] B7) rfl ?_
              refine C.cond_false (x := sub [1, 0, 1, 0] B7) (y := sub [1, 0, 1, 1] B7) rfl rfl ?_
              refine C.skipQ (y := sub [1, 1] B7) rfl ?_
              refine C.seq (x := sub [1, 1, 0] B7) (y := sub [1, 1, 1] B7) ?_
              refine C.region (id := 3) (m := 7) (ops := opsOf (sub [1, 1, 0] B7)) rfl ?_
              refine W.pure rfl (wo rfl) rfl rfl (p_move rfl rfl) (nf rfl) ?_
              have hlen := mr.2 (by simpa using hm)
              refine W.c01 rfl (wo rfl) rfl rfl (tNew _ (by omega) (by omega)) (en11 _) rfl rfl rfl (args_val rfl) ?_
              intro p1
              refine W.pure rfl (wo rfl) rfl rfl (p_move rfl rfl) (nf rfl) ?_
              refine W.pure rfl (wo rfl) rfl rfl (p_extract rfl rfl rfl) (nf rfl) ?_
              refine W.pure rfl (wo rfl) rfl rfl (p_extract rfl rfl rfl) (nf rfl) ?_
              refine W.pure rfl (wo rfl) rfl rfl (p_assign rfl rfl) (nf rfl) ?_
              refine W.pure rfl (wo rfl) rfl rfl (p_assign rfl rfl) (nf rfl) ?_
              refine W.doneQ (y := sub [1, 1, 1] B7) rfl ?_
              refine C.seq (x := sub [1, 1, 1, 0] B7) (y := sub [1, 1, 1, 1] B7) ?_
              refine C.region (id := 4) (m := 7) (ops := opsOf (sub [1, 1, 1, 0] B7)) rfl ?_
              refine W.pure rfl (wo rfl) rfl rfl (p_move rfl rfl) (nf rfl) ?_
              refine W.c01 rfl (wo rfl) rfl rfl (tNew _ (by omega) (by omega)) (en11 _) rfl rfl rfl (args_val rfl) ?_
              intro p2
              refine W.pure rfl (wo rfl) rfl rfl (p_move rfl rfl) (nf rfl) ?_
              refine W.pure rfl (wo rfl) rfl rfl (p_extract rfl rfl rfl) (nf rfl) ?_
              refine W.pure rfl (wo rfl) rfl rfl (p_extract rfl rfl rfl) (nf rfl) ?_
              refine W.pure rfl (wo rfl) rfl rfl (p_assign rfl rfl) (nf rfl) ?_
              refine W.pure rfl (wo rfl) rfl rfl (p_assign rfl rfl) (nf rfl) ?_
              refine W.doneQ (y := sub [1, 1, 1, 1] B7) rfl ?_
              refine C.seq (x := sub [1, 1, 1, 1, 0] B7) (y := sub [1, 1, 1, 1, 1] B7) ?_
              refine C.seq (x := sub [1, 1, 1, 1, 0, 0] B7) (y := sub [1, 1, 1, 1, 0, 1] B7) ?_
              refine C.region (id := 5) (m := 6) (ops := opsOf (sub [1, 1, 1, 1, 0, 0] B7)) rfl ?_
              refine W.pure rfl (wo rfl) rfl rfl (p_move rfl rfl) (nf rfl) ?_
              refine W.pure rfl (wo rfl) rfl rfl (p_eqNilP (fun b w => by kernel_rfl) (fun b w => by kernel_rfl) rfl rfl rfl) (nf rfl) ?_
              refine W.pure rfl (wo rfl) rfl rfl (p_move rfl rfl) (nf rfl) ?_
              refine W.pure rfl (wo rfl) rfl rfl (p_move rfl rfl) (nf rfl) ?_
              refine W.pure rfl (wo rfl) rfl rfl (p_eqNilP (fun b w => by kernel_rfl) (fun b w => by kernel_rfl) rfl rfl rfl) (nf rfl) ?_
              refine W.pure rfl (wo rfl) rfl rfl (p_pick_false rfl rfl rfl) (nf rfl) ?_
              refine W.doneQ (y := sub [1, 1, 1, 1, 0, 1] B7) rfl ?_
              refine C.cond_false (x := sub [1, 1, 1, 1, 0, 1, 0] B7) (y := sub [1, 1, 1, 1, 0, 1, 1] B7) rfl rfl ?_
              refine C.skipQ (y := sub [1, 1, 1, 1, 1] B7) rfl ?_
              refine C.seq (x := sub [1, 1, 1, 1, 1, 0] B7) (y := sub [1, 1, 1, 1, 1, 1] B7) ?_
              refine C.seq (x := sub [1, 1, 1, 1, 1, 0, 0] B7) (y := sub [1, 1, 1, 1, 1, 0, 1] B7) ?_
              refine C.region (id := 7) (m := 1) (ops := opsOf (sub [1, 1, 1, 1, 1, 0, 0] B7)) rfl ?_
              refine W.pure rfl (wo rfl) rfl rfl (p_assign rfl rfl) (nf rfl) ?_
              refine W.doneQ (y := sub [1, 1, 1, 1, 1, 0, 1] B7) rfl ?_
              refine C.f2 rfl ?_
              refine C.f1 rfl ?_
              refine C.f2 rfl ?_
              refine C.loopB (id := 0) (c := sub [1, 1, 1, 1, 1, 0, 1, 0, 0] B7) (y := sub [1, 1, 1, 1, 1, 1] B7) (α := ASt) (fun q => l.length - q.k) (fun q => [(0, .int .i64 n), (1, lv), (7, ptr bx 0), (9, ptr p1.1 0), (11, ptr p2.1 0), (13, .int .i64 (q.k : Int))]) (fun q => dX p1.1 p1.2 q.x1 ++ (dX p2.1 p2.2 q.x2 ++ ([(some bx, .cells (stc z0 pv0).toArray 46 (0, 0))] ++ []))) (fun q => q.k ≤ l.length ∧ q.s.late.length ≤ q.k ∧ q.s.n = n) ⟨0, _, (x0 _), (x0 _)⟩ ⟨Nat.zero_le _, by simp [newK], rfl⟩ (Sub.cons rfl (Sub.cons rfl (Sub.cons rfl (Sub.cons rfl (Sub.cons rfl (Sub.cons rfl (Sub.nil _))))))) rfl rfl (fun q => q.k = l.length) ?_ ?_
              · rintro ⟨k, s, x1, x2⟩ ⟨(hk : k ≤ l.length), (hsl : s.late.length ≤ k), (hn : s.n = n)⟩ Q' hN hE hR
                show CW _ _ _ _ _ [(0, .int .i64 n), (1, lv), (7, ptr bx 0), (9, ptr p1.1 0), (11, ptr p2.1 0), (13, .int .i64 (k : Int))] (dX p1.1 p1.2 x1 ++ (dX p2.1 p2.2 x2 ++ ([(some bx, .cells (stc z0 pv0).toArray 46 (0, 0))] ++ [])))
                by_cases hlt : k < l.length
                · obtain ⟨z, hz⟩ : ∃ z, l[k]? = some z := ⟨_, List.getElem?_eq_getElem hlt⟩
                  obtain ⟨pv, hpv, hcs⟩ := stp_at hr hz
                  refine C.seq (x := sub [1, 1, 1, 1, 1, 0, 1, 0, 0, 0] B7) (y := sub [1, 1, 1, 1, 1, 0, 1, 0, 0, 1] B7) ?_
                  refine C.seq (x := sub [1, 1, 1, 1, 1, 0, 1, 0, 0, 0, 0] B7) (y := sub [1, 1, 1, 1, 1, 0, 1, 0, 0, 0, 1] B7) ?_
                  refine C.region (id := 8) (m := 4) (ops := opsOf (sub [1, 1, 1, 1, 1, 0, 1, 0, 0, 0, 0] B7)) rfl ?_
                  refine W.pure rfl (wo rfl) rfl rfl (p_move rfl rfl) (nf rfl) ?_
                  refine W.pure rfl (wo rfl) rfl rfl (p_move rfl rfl) (nf rfl) ?_
                  refine W.pure rfl (wo rfl) rfl rfl (p_slLen tu41 (RowS.sl hr) rfl rfl) (nf rfl) ?_
                  refine W.pure rfl (wo rfl) rfl rfl (pT (decide_eq_true (by omega)) (p_lss rfl rfl rfl)) (nf rfl) ?_
                  refine W.doneQ (y := sub [1, 1, 1, 1, 1, 0, 1, 0, 0, 0, 1] B7) rfl ?_
                  refine C.cond_true (x := sub [1, 1, 1, 1, 1, 0, 1, 0, 0, 0, 1, 0] B7) (y := sub [1, 1, 1, 1, 1, 0, 1, 0, 0, 0, 1, 1] B7) rfl rfl ?_
                  refine C.skipQ (y := sub [1, 1, 1, 1, 1, 0, 1, 0, 0, 1] B7) rfl ?_
                  refine C.seq (x := sub [1, 1, 1, 1, 1, 0, 1, 0, 0, 1, 0] B7) (y := sub [1, 1, 1, 1, 1, 0, 1, 0, 0, 1, 1] B7) ?_
                  refine C.block (id := 1) (c := sub [1, 1, 1, 1, 1, 0, 1, 0, 0, 1, 0, 0] B7) ?_
                  refine C.seq (x := sub [1, 1, 1, 1, 1, 0, 1, 0, 0, 1, 0, 0, 0] B7) (y := sub [1, 1, 1, 1, 1, 0, 1, 0, 0, 1, 0, 0, 1] B7) ?_
                  refine C.region (id := 10) (m := 6) (ops := opsOf (sub [1, 1, 1, 1, 1, 0, 1, 0, 0, 1, 0, 0, 0] B7)) rfl ?_
                  refine W.pure rfl (wo rfl) rfl rfl (p_move rfl rfl) (nf rfl) ?_
                  refine W.pure rfl (wo rfl) rfl rfl (p_move rfl rfl) (nf rfl) ?_
                  refine W.pure rfl (wo rfl) rfl rfl (p_move rfl rfl) (nf rfl) ?_
                  refine W.pure rfl (wo rfl) rfl rfl (p_ixS hr hlt tu41 ts46 rfl rfl rfl) (nf rfl) ?_
                  refine W.imm rfl (wo rfl) rfl rfl (i_ldS hr hz hcs ta46 ts46 rfl rfl) (nf rfl) ?_
                  refine W.c11 rfl (wo rfl) rfl rfl rfl (tDo x1 (hpv) (pairE _) (by omega)) (en23 _) rfl rfl rfl (args_val rfl) ?_
                  intro x3
                  refine W.doneQ (y := sub [1, 1, 1, 1, 1, 0, 1, 0, 0, 1, 0, 0, 1] B7) rfl ?_
                  refine C.region (id := 11) (m := 6) (ops := opsOf (sub [1, 1, 1, 1, 1, 0, 1, 0, 0, 1, 0, 0, 1] B7)) rfl ?_
                  refine W.pure rfl (wo rfl) rfl rfl (p_move rfl rfl) (nf rfl) ?_
                  refine W.pure rfl (wo rfl) rfl rfl (p_move rfl rfl) (nf rfl) ?_
                  refine W.pure rfl (wo rfl) rfl rfl (p_move rfl rfl) (nf rfl) ?_
                  refine W.pure rfl (wo rfl) rfl rfl (p_ixS hr hlt tu41 ts46 rfl rfl rfl) (nf rfl) ?_
                  refine W.imm rfl (wo rfl) rfl rfl (i_ldS hr hz hcs ta46 ts46 rfl rfl) (nf rfl) ?_
                  refine W.f1 rfl ?_
                  refine W.c11 rfl (wo rfl) rfl rfl rfl (tDo x2 (hpv) (pairE _) (by omega)) (en23 _) rfl rfl rfl (args_val rfl) ?_
                  intro x4
                  refine W.doneQ (y := sub [1, 1, 1, 1, 1, 0, 1, 0, 0, 1, 1] B7) rfl ?_
                  refine C.region (id := 9) (m := 3) (ops := opsOf (sub [1, 1, 1, 1, 1, 0, 1, 0, 0, 1, 1] B7)) rfl ?_
                  refine W.pure rfl (wo rfl) rfl rfl (p_move rfl rfl) (nf rfl) ?_
                  refine W.pure rfl (wo rfl) rfl rfl (pI (wk (by omega)) (p_add rfl rfl rfl)) (nf rfl) ?_
                  refine W.pure rfl (wo rfl) rfl rfl (p_assign rfl rfl) (nf rfl) ?_
                  refine W.f2 rfl ?_
                  refine W.f1 rfl ?_
                  refine W.f2 rfl ?_
                  refine W.end' fun a1 w1 ha1 hc1 => hN ⟨k + 1, _, x3, x4⟩ ⟨(by show k + 1 ≤ _; omega), (by have := doK_late s z; show (doK s z).2.late.length ≤ k + 1; omega), (by show (doK s z).2.n = n; rw [doK_n]; exact hn)⟩ (show l.length - (k + 1) < l.length - k by omega) a1 w1 (ha1.sub (Sub.cons rfl (Sub.cons rfl (Sub.cons rfl (Sub.cons rfl (Sub.cons rfl (Sub.cons rfl (Sub.nil _)))))))) hc1
                · refine C.seq (x := sub [1, 1, 1, 1, 1, 0, 1, 0, 0, 0] B7) (y := sub [1, 1, 1, 1, 1, 0, 1, 0, 0, 1] B7) ?_
                  refine C.seq (x := sub [1, 1, 1, 1, 1, 0, 1, 0, 0, 0, 0] B7) (y := sub [1, 1, 1, 1, 1, 0, 1, 0, 0, 0, 1] B7) ?_
                  refine C.region (id := 8) (m := 4) (ops := opsOf (sub [1, 1, 1, 1, 1, 0, 1, 0, 0, 0, 0] B7)) rfl ?_
                  refine W.pure rfl (wo rfl) rfl rfl (p_move rfl rfl) (nf rfl) ?_
                  refine W.pure rfl (wo rfl) rfl rfl (p_move rfl rfl) (nf rfl) ?_
                  refine W.pure rfl (wo rfl) rfl rfl (p_slLen tu41 (RowS.sl hr) rfl rfl) (nf rfl) ?_
                  refine W.pure rfl (wo rfl) rfl rfl (pF (decide_eq_false (by omega)) (p_lss rfl rfl rfl)) (nf rfl) ?_
                  refine W.doneQ (y := sub [1, 1, 1, 1, 1, 0, 1, 0, 0, 0, 1] B7) rfl ?_
                  refine C.cond_false (x := sub [1, 1, 1, 1, 1, 0, 1, 0, 0, 0, 1, 0] B7) (y := sub [1, 1, 1, 1, 1, 0, 1, 0, 0, 0, 1, 1] B7) rfl rfl ?_
                  exact C.exit fun a1 w1 ha1 hc1 => hE (show k = l.length by omega) a1 w1 (ha1.sub (Sub.cons rfl (Sub.cons rfl (Sub.cons rfl (Sub.cons rfl (Sub.cons rfl (Sub.cons rfl (Sub.nil _)))))))) hc1
              rintro ⟨k, s, x1, x2⟩ ⟨(hk : k ≤ l.length), (hsl : s.late.length ≤ k), (hn : s.n = n)⟩ (hke : k = l.length)
              show CW _ _ _ _ _ [(0, .int .i64 n), (1, lv), (7, ptr bx 0), (9, ptr p1.1 0), (11, ptr p2.1 0), (13, .int .i64 (k : Int))] (dX p1.1 p1.2 x1 ++ (dX p2.1 p2.2 x2 ++ ([(some bx, .cells (stc z0 pv0).toArray 46 (0, 0))] ++ [])))
              refine C.seq (x := sub [1, 1, 1, 1, 1, 1, 0] B7) (y := sub [1, 1, 1, 1, 1, 1, 1] B7) ?_
              refine C.region (id := 12) (m := 7) (ops := opsOf (sub [1, 1, 1, 1, 1, 1, 0] B7)) rfl ?_
              refine W.pure rfl (wo rfl) rfl rfl (p_move rfl rfl) (nf rfl) ?_
              refine W.c12 rfl (wo rfl) rfl rfl rfl (tRead x1 _ (hasD_in (by omega) (by omega)) (by omega)) (en20 _) rfl rfl rfl (args_val rfl) ?_
              intro y5
              refine W.pure rfl (wo rfl) rfl rfl (p_move rfl rfl) (nf rfl) ?_
              refine W.pure rfl (wo rfl) rfl rfl (p_extract rfl rfl rfl) (nf rfl) ?_
              refine W.pure rfl (wo rfl) rfl rfl (p_extract rfl rfl rfl) (nf rfl) ?_
              refine W.pure rfl (wo rfl) rfl rfl (p_assign rfl rfl) (nf rfl) ?_
              refine W.pure rfl (wo rfl) rfl rfl (p_assign rfl rfl) (nf rfl) ?_
              refine W.doneQ (y := sub [1, 1, 1, 1, 1, 1, 1] B7) rfl ?_
              refine C.seq (x := sub [1, 1, 1, 1, 1, 1, 1, 0] B7) (y := sub [1, 1, 1, 1, 1, 1, 1, 1] B7) ?_
              refine C.seq (x := sub [1, 1, 1, 1, 1, 1, 1, 0, 0] B7) (y := sub [1, 1, 1, 1, 1, 1, 1, 0, 1] B7) ?_
              refine C.region (id := 13) (m := 1) (ops := opsOf (sub [1, 1, 1, 1, 1, 1, 1, 0, 0] B7)) rfl ?_
              refine W.pure rfl (wo rfl) rfl rfl (p_assign rfl rfl) (nf rfl) ?_
              refine W.doneQ (y := sub [1, 1, 1, 1, 1, 1, 1, 0, 1] B7) rfl ?_
              refine C.f3 rfl ?_
              refine C.f3 rfl ?_
              refine C.f3 rfl ?_
              refine C.f3 rfl ?_
              refine C.loopB (id := 2) (c := sub [1, 1, 1, 1, 1, 1, 1, 0, 1, 0, 0] B7) (y := sub [1, 1, 1, 1, 1, 1, 1, 1] B7) (α := (j : Nat) × (xs : {xs : List Int // xs.length = 512}) × Ox .u8 xs.1) (fun q => 512 - q.1) (fun q => [(0, .int .i64 n), (1, lv), (7, ptr bx 0), (9, ptr p1.1 0), (11, ptr p2.1 0), (14, q.2.2.1.1), (16, .int .i64 (q.1 : Int))]) (fun q => oX q.2.2 ++ (dX p1.1 p1.2 x1 ++ (dX p2.1 p2.2 x2 ++ ([(some bx, .cells (stc z0 pv0).toArray 46 (0, 0))] ++ [])))) (fun q => q.1 ≤ 512) ⟨0, ⟨_, rdX x1 0⟩, y5⟩ (Nat.zero_le _) (Sub.cons rfl (Sub.cons rfl (Sub.cons rfl (Sub.cons rfl (Sub.cons rfl (Sub.cons rfl (Sub.cons rfl (Sub.nil _)))))))) rfl rfl (fun q => True) ?_ ?_
              · rintro ⟨j, ⟨xs, hxs⟩, y⟩ (hj : j ≤ 512) Q2 hN2 hE2 hR2
                show CW _ _ _ _ _ [(0, .int .i64 n), (1, lv), (7, ptr bx 0), (9, ptr p1.1 0), (11, ptr p2.1 0), (14, y.1.1), (16, .int .i64 (j : Int))] (oX y ++ (dX p1.1 p1.2 x1 ++ (dX p2.1 p2.2 x2 ++ ([(some bx, .cells (stc z0 pv0).toArray 46 (0, 0))] ++ []))))
                by_cases hlt : j < 512
                · have hjl : j < xs.length := by omega
                  obtain ⟨q, hq⟩ : ∃ q, xs[j]? = some q := ⟨_, List.getElem?_eq_getElem hjl⟩
                  refine C.seq (x := sub [1, 1, 1, 1, 1, 1, 1, 0, 1, 0, 0, 0] B7) (y := sub [1, 1, 1, 1, 1, 1, 1, 0, 1, 0, 0, 1] B7) ?_
                  refine C.seq (x := sub [1, 1, 1, 1, 1, 1, 1, 0, 1, 0, 0, 0, 0] B7) (y := sub [1, 1, 1, 1, 1, 1, 1, 0, 1, 0, 0, 0, 1] B7) ?_
                  refine C.region (id := 14) (m := 4) (ops := opsOf (sub [1, 1, 1, 1, 1, 1, 1, 0, 1, 0, 0, 0, 0] B7)) rfl ?_
                  refine W.pure rfl (wo rfl) rfl rfl (p_move rfl rfl) (nf rfl) ?_
                  refine W.pure rfl (wo rfl) rfl rfl (p_move rfl rfl) (nf rfl) ?_
                  refine W.pure rfl (wo rfl) rfl rfl (p_slLen tu32 (ox_sl y) rfl rfl) (nf rfl) ?_
                  refine W.pure rfl (wo rfl) rfl rfl (pT (decide_eq_true (by show (j : Int) < ((xs.length : Nat) : Int); omega)) (p_lss rfl rfl rfl)) (nf rfl) ?_
                  refine W.doneQ (y := sub [1, 1, 1, 1, 1, 1, 1, 0, 1, 0, 0, 0, 1] B7) rfl ?_
                  refine C.cond_true (x := sub [1, 1, 1, 1, 1, 1, 1, 0, 1, 0, 0, 0, 1, 0] B7) (y := sub [1, 1, 1, 1, 1, 1, 1, 0, 1, 0, 0, 0, 1, 1] B7) rfl rfl ?_
                  refine C.skipQ (y := sub [1, 1, 1, 1, 1, 1, 1, 0, 1, 0, 0, 1] B7) rfl ?_
                  refine C.seq (x := sub [1, 1, 1, 1, 1, 1, 1, 0, 1, 0, 0, 1, 0] B7) (y := sub [1, 1, 1, 1, 1, 1, 1, 0, 1, 0, 0, 1, 1] B7) ?_
                  refine C.block (id := 3) (c := sub [1, 1, 1, 1, 1, 1, 1, 0, 1, 0, 0, 1, 0, 0] B7) ?_
                  refine C.region (id := 16) (m := 9) (ops := opsOf (sub [1, 1, 1, 1, 1, 1, 1, 0, 1, 0, 0, 1, 0, 0] B7)) rfl ?_
                  refine W.pure rfl (wo rfl) rfl rfl (p_move rfl rfl) (nf rfl) ?_
                  refine W.pure rfl (wo rfl) rfl rfl (p_move rfl rfl) (nf rfl) ?_
                  refine W.pure rfl (wo rfl) rfl rfl (p_move rfl rfl) (nf rfl) ?_
                  refine W.pure rfl (wo rfl) rfl rfl (p_move rfl rfl) (nf rfl) ?_
                  refine W.pure rfl (wo rfl) rfl rfl (p_ixO2 y hjl tu32 ts5 rfl rfl rfl) (nf rfl) ?_
                  refine W.quiet rfl (wo rfl) rfl rfl (f_ldO y hq ta5 rfl rfl rfl) (nf rfl) ?_
                  refine W.pure rfl (wo rfl) rfl rfl (p_add rfl rfl rfl) (nf rfl) ?_
                  refine W.pure rfl (wo rfl) rfl rfl (p_ixO2 y hjl tu32 ts5 rfl rfl rfl) (nf rfl) ?_
                  refine W.put rfl (wo rfl) rfl (f_stO y hjl ts5 rfl rfl rfl rfl) (nf rfl) ?_
                  refine W.doneQ (y := sub [1, 1, 1, 1, 1, 1, 1, 0, 1, 0, 0, 1, 1] B7) rfl ?_
                  refine C.region (id := 15) (m := 3) (ops := opsOf (sub [1, 1, 1, 1, 1, 1, 1, 0, 1, 0, 0, 1, 1] B7)) rfl ?_
                  refine W.pure rfl (wo rfl) rfl rfl (p_move rfl rfl) (nf rfl) ?_
                  refine W.pure rfl (wo rfl) rfl rfl (pI (wk (by omega)) (p_add rfl rfl rfl)) (nf rfl) ?_
                  refine W.pure rfl (wo rfl) rfl rfl (p_assign rfl rfl) (nf rfl) ?_
                  refine W.end' fun a1 w1 ha1 hc1 => hN2 ⟨j + 1, ⟨_, (by rw [List.length_set]; exact hxs)⟩, y.put j hjl _⟩ (show j + 1 ≤ 512 by omega) (show 512 - (j + 1) < 512 - j by omega) a1 w1 (ha1.sub (Sub.cons rfl (Sub.cons rfl (Sub.cons rfl (Sub.cons rfl (Sub.cons rfl (Sub.cons rfl (Sub.cons rfl (Sub.nil _))))))))) hc1
                · refine C.seq (x := sub [1, 1, 1, 1, 1, 1, 1, 0, 1, 0, 0, 0] B7) (y := sub [1, 1, 1, 1, 1, 1, 1, 0, 1, 0, 0, 1] B7) ?_
                  refine C.seq (x := sub [1, 1, 1, 1, 1, 1, 1, 0, 1, 0, 0, 0, 0] B7) (y := sub [1, 1, 1, 1, 1, 1, 1, 0, 1, 0, 0, 0, 1] B7) ?_
                  refine C.region (id := 14) (m := 4) (ops := opsOf (sub [1, 1, 1, 1, 1, 1, 1, 0, 1, 0, 0, 0, 0] B7)) rfl ?_
                  refine W.pure rfl (wo rfl) rfl rfl (p_move rfl rfl) (nf rfl) ?_
                  refine W.pure rfl (wo rfl) rfl rfl (p_move rfl rfl) (nf rfl) ?_
                  refine W.pure rfl (wo rfl) rfl rfl (p_slLen tu32 (ox_sl y) rfl rfl) (nf rfl) ?_
                  refine W.pure rfl (wo rfl) rfl rfl (pF (decide_eq_false (by show ¬ (j : Int) < ((xs.length : Nat) : Int); omega)) (p_lss rfl rfl rfl)) (nf rfl) ?_
                  refine W.doneQ (y := sub [1, 1, 1, 1, 1, 1, 1, 0, 1, 0, 0, 0, 1] B7) rfl ?_
                  refine C.cond_false (x := sub [1, 1, 1, 1, 1, 1, 1, 0, 1, 0, 0, 0, 1, 0] B7) (y := sub [1, 1, 1, 1, 1, 1, 1, 0, 1, 0, 0, 0, 1, 1] B7) rfl rfl ?_
                  exact C.exit fun a1 w1 ha1 hc1 => hE2 trivial a1 w1 (ha1.sub (Sub.cons rfl (Sub.cons rfl (Sub.cons rfl (Sub.cons rfl (Sub.cons rfl (Sub.cons rfl (Sub.cons rfl (Sub.nil _))))))))) hc1
              rintro ⟨j, ⟨xs, hxs⟩, y⟩ (hj : j ≤ 512) _
              show CW _ _ _ _ _ [(0, .int .i64 n), (1, lv), (7, ptr bx 0), (9, ptr p1.1 0), (11, ptr p2.1 0), (14, y.1.1), (16, .int .i64 (j : Int))] (oX y ++ (dX p1.1 p1.2 x1 ++ (dX p2.1 p2.2 x2 ++ ([(some bx, .cells (stc z0 pv0).toArray 46 (0, 0))] ++ []))))
              refine C.seq (x := sub [1, 1, 1, 1, 1, 1, 1, 1, 0] B7) (y := sub [1, 1, 1, 1, 1, 1, 1, 1, 1] B7) ?_
              refine C.region (id := 17) (m := 3) (ops := opsOf (sub [1, 1, 1, 1, 1, 1, 1, 1, 0] B7)) rfl ?_
              refine W.pure rfl (wo rfl) rfl rfl (p_move rfl rfl) (nf rfl) ?_
              refine W.f1 rfl ?_
              refine W.c12 rfl (wo rfl) rfl rfl rfl (tCopy x1 (by omega)) (en19 _) rfl rfl rfl (args_val rfl) ?_
              intro ⟨p6, x7⟩
              refine W.pure rfl (wo rfl) rfl rfl (p_assign rfl rfl) (nf rfl) ?_
              refine W.doneQ (y := sub [1, 1, 1, 1, 1, 1, 1, 1, 1] B7) rfl ?_
              refine C.seq (x := sub [1, 1, 1, 1, 1, 1, 1, 1, 1, 0] B7) (y := sub [1, 1, 1, 1, 1, 1, 1, 1, 1, 1] B7) ?_
              refine C.seq (x := sub [1, 1, 1, 1, 1, 1, 1, 1, 1, 0, 0] B7) (y := sub [1, 1, 1, 1, 1, 1, 1, 1, 1, 0, 1] B7) ?_
              refine C.region (id := 18) (m := 28) (ops := opsOf (sub [1, 1, 1, 1, 1, 1, 1, 1, 1, 0, 0] B7)) rfl ?_
              refine W.pure rfl (wo rfl) rfl rfl (p_move rfl rfl) (nf rfl) ?_
              refine W.pure rfl (wo rfl) rfl rfl (p_eqNilP (fun b w => by kernel_rfl) (fun b w => by kernel_rfl) rfl rfl rfl) (nf rfl) ?_
              refine W.pure rfl (wo rfl) rfl rfl (p_move rfl rfl) (nf rfl) ?_
              refine W.pure rfl (wo rfl) rfl rfl (p_move rfl rfl) (nf rfl) ?_
              refine W.pure rfl (wo rfl) rfl rfl (p_move rfl rfl) (nf rfl) ?_
              refine W.f3 rfl ?_
              refine W.f1 rfl ?_
              refine W.c22 rfl (wo rfl) rfl rfl rfl (tSame x7 x2 (by omega) (by omega) (by omega) (r := true) (sameK_refl _)) (en29 _) rfl rfl rfl (args_val rfl) ?_
              intro _
              refine W.pure rfl (wo rfl) rfl rfl (p_not rfl rfl) (nf rfl) ?_
              refine W.pure rfl (wo rfl) rfl rfl (p_pick_false rfl rfl rfl) (nf rfl) ?_
              refine W.pure rfl (wo rfl) rfl rfl (p_move rfl rfl) (nf rfl) ?_
              refine W.pure rfl (wo rfl) rfl rfl (p_move rfl rfl) (nf rfl) ?_
              refine W.pure rfl (wo rfl) rfl rfl (p_move rfl rfl) (nf rfl) ?_
              refine W.f2 rfl ?_
              refine W.f2 rfl ?_
              refine W.c22 rfl (wo rfl) rfl rfl rfl (tSame x2 x1 (by omega) (by omega) (by omega) (r := true) (sameK_refl _)) (en29 _) rfl rfl rfl (args_val rfl) ?_
              intro _
              refine W.pure rfl (wo rfl) rfl rfl (p_not rfl rfl) (nf rfl) ?_
              refine W.pure rfl (wo rfl) rfl rfl (p_pick_false rfl rfl rfl) (nf rfl) ?_
              refine W.pure rfl (wo rfl) rfl rfl (p_move rfl rfl) (nf rfl) ?_
              refine W.pure rfl (wo rfl) rfl rfl (p_move rfl rfl) (nf rfl) ?_
              refine W.f2 rfl ?_
              refine W.c11 rfl (wo rfl) rfl rfl rfl (tUns x7) (en25 _) rfl rfl rfl (args_val rfl) ?_
              intro _
              refine W.pure rfl (wo rfl) rfl rfl (p_move rfl rfl) (nf rfl) ?_
              refine W.f1 rfl ?_
              refine W.c11 rfl (wo rfl) rfl rfl rfl (tUns x2) (en25 _) rfl rfl rfl (args_val rfl) ?_
              intro _
              refine W.pure rfl (wo rfl) rfl rfl (pF (by simp) (p_neq rfl rfl rfl)) (nf rfl) ?_
              refine W.pure rfl (wo rfl) rfl rfl (p_pick_false rfl rfl rfl) (nf rfl) ?_
              refine W.pure rfl (wo rfl) rfl rfl (p_move rfl rfl) (nf rfl) ?_
              refine W.pure rfl (wo rfl) rfl rfl (p_move rfl rfl) (nf rfl) ?_
              refine W.f1 rfl ?_
              refine W.c11 rfl (wo rfl) rfl rfl rfl (tDead x7 (r := s.dead) (rfl)) (en17 _) rfl rfl rfl (args_val rfl) ?_
              intro _
              refine W.pure rfl (wo rfl) rfl rfl (p_move rfl rfl) (nf rfl) ?_
              refine W.f1 rfl ?_
              refine W.c11 rfl (wo rfl) rfl rfl rfl (tDead x2 (r := s.dead) (rfl)) (en17 _) rfl rfl rfl (args_val rfl) ?_
              intro _
              refine W.pure rfl (wo rfl) rfl rfl (pF (by simp) (p_neb (fun w => by kernel_rfl) rfl rfl rfl)) (nf rfl) ?_
              refine W.pure rfl (wo rfl) rfl rfl (p_pick_false rfl rfl rfl) (nf rfl) ?_
              refine W.doneQ (y := sub [1, 1, 1, 1, 1, 1, 1, 1, 1, 0, 1] B7) rfl ?_
              refine C.cond_false (x := sub [1, 1, 1, 1, 1, 1, 1, 1, 1, 0, 1, 0] B7) (y := sub [1, 1, 1, 1, 1, 1, 1, 1, 1, 0, 1, 1] B7) rfl rfl ?_
              refine C.skipQ (y := sub [1, 1, 1, 1, 1, 1, 1, 1, 1, 1] B7) rfl ?_
              refine C.seq (x := sub [1, 1, 1, 1, 1, 1, 1, 1, 1, 1, 0] B7) (y := sub [1, 1, 1, 1, 1, 1, 1, 1, 1, 1, 1] B7) ?_
              refine C.region (id := 20) (m := 5) (ops := opsOf (sub [1, 1, 1, 1, 1, 1, 1, 1, 1, 1, 0] B7)) rfl ?_
              refine W.pure rfl (wo rfl) rfl rfl (p_move rfl rfl) (nf rfl) ?_
              refine W.f4 rfl ?_
              refine W.quiet rfl (wo rfl) rfl rfl (f_loadA (j := 0) ta46 ts46 rfl rfl rfl rfl) (nf rfl) ?_
              refine W.f2 rfl ?_
              refine W.c11 rfl (wo rfl) rfl rfl rfl (tDo x7 (hp0) (pairE _) (by omega)) (en23 _) rfl rfl rfl (args_val rfl) ?_
              intro x8
              refine W.pure rfl (wo rfl) rfl rfl (p_assign rfl rfl) (nf rfl) ?_
              refine W.pure rfl (wo rfl) rfl rfl (p_assign rfl rfl) (nf rfl) ?_
              refine W.doneQ (y := sub [1, 1, 1, 1, 1, 1, 1, 1, 1, 1, 1] B7) rfl ?_
              refine C.seq (x := sub [1, 1, 1, 1, 1, 1, 1, 1, 1, 1, 1, 0] B7) (y := sub [1, 1, 1, 1, 1, 1, 1, 1, 1, 1, 1, 1] B7) ?_
              refine C.seq (x := sub [1, 1, 1, 1, 1, 1, 1, 1, 1, 1, 1, 0, 0] B7) (y := sub [1, 1, 1, 1, 1, 1, 1, 1, 1, 1, 1, 0, 1] B7) ?_
              refine C.region (id := 21) (m := 4) (ops := opsOf (sub [1, 1, 1, 1, 1, 1, 1, 1, 1, 1, 1, 0, 0] B7)) rfl ?_
              refine W.pure rfl (wo rfl) rfl rfl (p_move rfl rfl) (nf rfl) ?_
              refine W.pure rfl (wo rfl) rfl rfl (p_move rfl rfl) (nf rfl) ?_
              refine W.f2 rfl ?_
              refine W.f3 rfl ?_
              refine W.c22 rfl (wo rfl) rfl rfl rfl (tSame x1 x2 (by omega) (by omega) (by omega) (r := true) (sameK_refl _)) (en29 _) rfl rfl rfl (args_val rfl) ?_
              intro _
              refine W.pure rfl (wo rfl) rfl rfl (p_not rfl rfl) (nf rfl) ?_
              refine W.doneQ (y := sub [1, 1, 1, 1, 1, 1, 1, 1, 1, 1, 1, 0, 1] B7) rfl ?_
              refine C.cond_false (x := sub [1, 1, 1, 1, 1, 1, 1, 1, 1, 1, 1, 0, 1, 0] B7) (y := sub [1, 1, 1, 1, 1, 1, 1, 1, 1, 1, 1, 0, 1, 1] B7) rfl rfl ?_
              refine C.skipQ (y := sub [1, 1, 1, 1, 1, 1, 1, 1, 1, 1, 1, 1] B7) rfl ?_
              refine C.seq (x := sub [1, 1, 1, 1, 1, 1, 1, 1, 1, 1, 1, 1, 0] B7) (y := sub [1, 1, 1, 1, 1, 1, 1, 1, 1, 1, 1, 1, 1] B7) ?_
              refine C.region (id := 23) (m := 4) (ops := opsOf (sub [1, 1, 1, 1, 1, 1, 1, 1, 1, 1, 1, 1, 0] B7)) rfl ?_
              refine W.pure rfl (wo rfl) rfl rfl (p_move rfl rfl) (nf rfl) ?_
              refine W.f3 rfl ?_
              refine W.quiet rfl (wo rfl) rfl rfl (f_loadA (j := 0) ta46 ts46 rfl rfl rfl rfl) (nf rfl) ?_
              refine W.f2 rfl ?_
              refine W.c11 rfl (wo rfl) rfl rfl rfl (tDo x2 (hp0) (pairE _) (by omega)) (en23 _) rfl rfl rfl (args_val rfl) ?_
              intro x9
              refine W.pure rfl (wo rfl) rfl rfl (p_assign rfl rfl) (nf rfl) ?_
              refine W.doneQ (y := sub [1, 1, 1, 1, 1, 1, 1, 1, 1, 1, 1, 1, 1] B7) rfl ?_
              refine C.seq (x := sub [1, 1, 1, 1, 1, 1, 1, 1, 1, 1, 1, 1, 1, 0] B7) (y := sub [1, 1, 1, 1, 1, 1, 1, 1, 1, 1, 1, 1, 1, 1] B7) ?_
              refine C.region (id := 24) (m := 27) (ops := opsOf (sub [1, 1, 1, 1, 1, 1, 1, 1, 1, 1, 1, 1, 1, 0] B7)) rfl ?_
              refine W.pure rfl (wo rfl) rfl rfl (p_move rfl rfl) (nf rfl) ?_
              refine W.pure rfl (wo rfl) rfl rfl (p_move rfl rfl) (nf rfl) ?_
              refine W.pure rfl (wo rfl) rfl rfl (pT (by simp) (p_eql rfl rfl rfl)) (nf rfl) ?_
              refine W.pure rfl (wo rfl) rfl rfl (p_move rfl rfl) (nf rfl) ?_
              refine W.pure rfl (wo rfl) rfl rfl (p_move rfl rfl) (nf rfl) ?_
              refine W.pure rfl (wo rfl) rfl rfl (p_move rfl rfl) (nf rfl) ?_
              refine W.f3 rfl ?_
              refine W.c22 rfl (wo rfl) rfl rfl rfl (tSame x8 x9 (by have := doK_late s z0; omega) (by have := doK_late s z0; omega) (by rw [doK_n]; omega) (r := true) (sameK_refl _)) (en29 _) rfl rfl rfl (args_val rfl) ?_
              intro _
              refine W.pure rfl (wo rfl) rfl rfl (p_pick_true rfl rfl rfl) (nf rfl) ?_
              refine W.pure rfl (wo rfl) rfl rfl (p_move rfl rfl) (nf rfl) ?_
              refine W.pure rfl (wo rfl) rfl rfl (p_move rfl rfl) (nf rfl) ?_
              refine W.c11 rfl (wo rfl) rfl rfl rfl (tCrash x8 (IntRow.nil _ _) (by have := doK_late s z0; omega)) (en18 _) rfl rfl rfl (args_val rfl) ?_
              intro x10
              refine W.quiet rfl (wo rfl) rfl rfl (f_callR rfl rfl (args_val rfl) (en12 _) (fun w2 hc2 => num_ok w2 _)) (nf rfl) ?_
              refine W.pure rfl (wo rfl) rfl rfl (p_move rfl rfl) (nf rfl) ?_
              refine W.f1 rfl ?_
              refine W.c11 rfl (wo rfl) rfl rfl rfl (tCrash x9 (IntRow.nil _ _) (by have := doK_late s z0; omega)) (en18 _) rfl rfl rfl (args_val rfl) ?_
              intro x11
              refine W.quiet rfl (wo rfl) rfl rfl (f_callR rfl rfl (args_val rfl) (en12 _) (fun w2 hc2 => num_ok w2 _)) (nf rfl) ?_
              refine W.pure rfl (wo rfl) rfl rfl (p_add rfl rfl rfl) (nf rfl) ?_
              refine W.pure rfl (wo rfl) rfl rfl (pT (by rfl) (p_eql rfl rfl rfl)) (nf rfl) ?_
              refine W.pure rfl (wo rfl) rfl rfl (p_pick_true rfl rfl rfl) (nf rfl) ?_
              refine W.pure rfl (wo rfl) rfl rfl (p_move rfl rfl) (nf rfl) ?_
              refine W.pure rfl (wo rfl) rfl rfl (p_move rfl rfl) (nf rfl) ?_
              refine W.pure rfl (wo rfl) rfl rfl (p_move rfl rfl) (nf rfl) ?_
              refine W.f1 rfl ?_
              refine W.c22 rfl (wo rfl) rfl rfl rfl (tSame x10 x11 (by simp [crashK]) (by simp [crashK]) (by show (doK s z0).2.n ≤ _; rw [doK_n]; omega) (r := true) (sameK_refl _)) (en29 _) rfl rfl rfl (args_val rfl) ?_
              intro _
              refine W.pure rfl (wo rfl) rfl rfl (p_pick_true rfl rfl rfl) (nf rfl) ?_
              refine W.pure rfl (wo rfl) rfl rfl (p_move rfl rfl) (nf rfl) ?_
              refine W.quiet rfl (wo rfl) rfl rfl (f_callR rfl rfl (args_val (vs := []) rfl) (en10 _) (fun w2 hc2 => known_ok w2)) (nf rfl) ?_
              refine W.pure rfl (wo rfl) rfl rfl (p_pick_true rfl rfl rfl) (nf rfl) ?_
              refine W.pure rfl (wo rfl) rfl rfl (p_assign rfl rfl) (nf rfl) ?_
              refine W.doneQ (y := sub [1, 1, 1, 1, 1, 1, 1, 1, 1, 1, 1, 1, 1, 1] B7) rfl ?_
              exact C.ret (R := fun e w' => e = .returned (.bool true) ∧ Below w.heap.size w w') (rs := [.tmp 8]) (vs := [.bool true]) rfl Try.func7 rfl rfl rfl (res_cons (ResV.tmp rfl) res_nil) fun w1 hc1 => ⟨rfl, hc1.toBelow⟩

end Go.Proofs.Ytjomnicfcdkfdaa
