import Derived.Test.YtjomnicfcdkfdaaDkM1
namespace Go.Proofs.Ytjomnicfcdkfdaa
open Go Go.HW Go.RowKit
set_option linter.unusedVariables false
set_option linter.unusedSimpArgs false

theorem pT {P : Program} {o : Oper} {S : Slots} {b : Bool} (h : b = true) (hp : FPure P o S (.bool b)) : FPure P o S (.bool true) := by rw [← h]; exact hp
theorem pF {P : Program} {o : Oper} {S : Slots} {b : Bool} (h : b = false) (hp : FPure P o S (.bool b)) : FPure P o S (.bool false) := by rw [← h]; exact hp

theorem has_neg {w : World} {M : Mem} (hM : Imm M w) {b m : Nat} {v : Value} {s : Dk} (hd : DkM M b m v s) (n : Int) (h : n < 0) : Calls Try.prog 34 #[ptr b 0, .int .i64 n] w fun e w' => e = .returned (.bool false) ∧ Below w.heap.size w w' := by
  have hd := hd.mono (show Ext M (heapOf w) from hM)
  refine calls_of_CW (N := 15) Try.func34 (show _ = some B34 by kernel_rfl) (by kernel_rfl) rfl (S := [(0, ptr b 0), (1, .int .i64 n)]) (by simp) (clsStart w) ?_
  show CW _ _ _ (sub [] B34) _ _ _
  refine C.seq (x := sub [0] B34) (y := sub [1] B34) ?_
  refine C.region (id := 0) (m := 1) (ops := opsOf (sub [0] B34)) rfl ?_
  refine W.pure rfl (wo rfl) rfl rfl (p_assign rfl rfl) (nf rfl) ?_
  refine W.doneQ (y := sub [1] B34) rfl ?_
  refine C.seq (x := sub [1, 0] B34) (y := sub [1, 1] B34) ?_
  refine C.region (id := 1) (m := 11) (ops := opsOf (sub [1, 0] B34)) rfl ?_
  refine W.pure rfl (wo rfl) rfl rfl (p_move rfl rfl) (nf rfl) ?_
  refine W.pure rfl (wo rfl) rfl rfl (pF (decide_eq_false (by omega)) (p_geq rfl rfl rfl)) (nf rfl) ?_
  refine W.pure rfl (wo rfl) rfl rfl (p_move rfl rfl) (nf rfl) ?_
  refine W.not rfl (wo rfl) rfl rfl ?_
  refine W.not rfl (wo rfl) rfl rfl ?_
  refine W.not rfl (wo rfl) rfl rfl ?_
  refine W.not rfl (wo rfl) rfl rfl ?_
  refine W.not rfl (wo rfl) rfl rfl ?_
  refine W.not rfl (wo rfl) rfl rfl ?_
  refine W.pure rfl (wo rfl) rfl rfl (p_pick_false rfl rfl rfl) (nf rfl) ?_
  refine W.pure rfl (wo rfl) rfl rfl (p_assign rfl rfl) (nf rfl) ?_
  refine W.doneQ (y := sub [1, 1] B34) rfl ?_
  exact C.ret (rs := [.tmp 4]) (vs := [.bool false]) rfl Try.func34 rfl rfl rfl (res_cons (ResV.tmp rfl) res_nil) fun w1 hc1 => ⟨rfl, hc1.toBelow⟩

theorem has_pos {w : World} {M : Mem} (hM : Imm M w) {b m : Nat} {v : Value} {s : Dk} (hd : DkM M b m v s) (n : Int) (h : 0 ≤ n) : Calls Try.prog 34 #[ptr b 0, .int .i64 n] w fun e w' => e = .returned (.bool (decide (n < s.n))) ∧ Below w.heap.size w w' := by
  have hd := hd.mono (show Ext M (heapOf w) from hM)
  refine calls_of_CW (N := 15) Try.func34 (show _ = some B34 by kernel_rfl) (by kernel_rfl) rfl (S := [(0, ptr b 0), (1, .int .i64 n)]) (by simp) (clsStart w) ?_
  show CW _ _ _ (sub [] B34) _ _ _
  refine C.seq (x := sub [0] B34) (y := sub [1] B34) ?_
  refine C.region (id := 0) (m := 1) (ops := opsOf (sub [0] B34)) rfl ?_
  refine W.pure rfl (wo rfl) rfl rfl (p_assign rfl rfl) (nf rfl) ?_
  refine W.doneQ (y := sub [1] B34) rfl ?_
  refine C.seq (x := sub [1, 0] B34) (y := sub [1, 1] B34) ?_
  refine C.region (id := 1) (m := 11) (ops := opsOf (sub [1, 0] B34)) rfl ?_
  refine W.pure rfl (wo rfl) rfl rfl (p_move rfl rfl) (nf rfl) ?_
  refine W.pure rfl (wo rfl) rfl rfl (pT (decide_eq_true h) (p_geq rfl rfl rfl)) (nf rfl) ?_
  refine W.pure rfl (wo rfl) rfl rfl (p_move rfl rfl) (nf rfl) ?_
  refine W.pure rfl (wo rfl) rfl rfl (p_move rfl rfl) (nf rfl) ?_
  refine W.pure rfl (wo rfl) rfl rfl (p_move rfl rfl) (nf rfl) ?_
  refine W.pure rfl (wo rfl) rfl rfl (p_nilCheck rfl rfl) (nf rfl) ?_
  refine W.pure rfl (wo rfl) rfl rfl (p_fieldAddr tf61_0 rfl rfl) (nf rfl) ?_
  refine W.imm rfl (wo rfl) rfl rfl (i_loadBoxO (off := 0) hd.hb rfl ta3 rfl rfl) (nf rfl) ?_
  refine W.pure rfl (wo rfl) rfl rfl (p_lss rfl rfl rfl) (nf rfl) ?_
  refine W.pure rfl (wo rfl) rfl rfl (p_pick_true rfl rfl rfl) (nf rfl) ?_
  refine W.pure rfl (wo rfl) rfl rfl (p_assign rfl rfl) (nf rfl) ?_
  refine W.doneQ (y := sub [1, 1] B34) rfl ?_
  exact C.ret (rs := [.tmp 4]) (vs := [.bool (decide (n < s.n))]) rfl Try.func34 rfl rfl rfl (res_cons (ResV.tmp rfl) res_nil) fun w1 hc1 => ⟨rfl, hc1.toBelow⟩

def hasD (s : Dk) (n : Int) : Bool := decide (0 ≤ n ∧ n < s.n)
theorem has_ok {w : World} {M : Mem} (hM : Imm M w) {b m : Nat} {v : Value} {s : Dk} (hd : DkM M b m v s) (n : Int) : Calls Try.prog 34 #[ptr b 0, .int .i64 n] w fun e w' => e = .returned (.bool (hasD s n)) ∧ Below w.heap.size w w' := by
  unfold hasD
  by_cases h : 0 ≤ n
  · simp only [h, true_and]; exact has_pos hM hd n h
  · simp only [h, false_and, decide_false]; exact has_neg hM hd n (by omega)

end Go.Proofs.Ytjomnicfcdkfdaa
