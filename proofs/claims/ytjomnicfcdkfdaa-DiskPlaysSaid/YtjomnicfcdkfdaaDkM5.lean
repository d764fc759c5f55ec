import Derived.Test.YtjomnicfcdkfdaaDkM1
section
namespace Go.Proofs.Ytjomnicfcdkfdaa
open Go Go.HW Go.RowKit
set_option linter.unusedVariables false
set_option linter.unusedSimpArgs false

theorem pT {P : Program} {o : Oper} {S : Slots} {b : Bool} (h : b = true) (hp : FPure P o S (.bool b)) : FPure P o S (.bool true) := by rw [← h]; exact hp
theorem pF {P : Program} {o : Oper} {S : Slots} {b : Bool} (h : b = false) (hp : FPure P o S (.bool b)) : FPure P o S (.bool false) := by rw [← h]; exact hp

theorem has_neg {w : World} {M : Mem} (hM : Imm M w) {b m : Nat} {v : Value} {s : Dk} (hd : DkM M b m v s) (n : Int) (h : n < 0) : Calls Try.prog 34 #[ptr b 0, .int .i64 n] w fun e w' => e = .returned (.bool false) ∧ Below w.heap.size w w' := by
  have hd := hd.mono (show Ext M (heapOf w) from hM)
  refine calls_of_CW (N := 15) Try.func34 (show _ = some B34 by kernel_rfl) (by kernel_rfl) rfl (S := [(0, ptr b 0), (1, .int .i64 n)]) (by simp) (clsStart w) ?_
  show CW _ _ _ (sub [] B34) _ _ _
  refine C.seq (x := sub [0] B34) (y := sub [1] B34) ?_
  refine C.region (id := 0) (m := 1) (ops := opsOf (sub [0] B34)) rfl ?_
  refine W.pure rfl (wo rfl) rfl rfl (p_assign rfl rfl) (nf rfl) ?_
  refine W.doneQ (y := sub [1] B34) rfl ?_
  refine C.seq (x := sub [1, 0] B34) (y := sub [1, 1] B34) ?_
  refine C.region (id := 1) (m := 11) (ops := opsOf (sub [1, 0] B34)) rfl ?_
  refine W.pure rfl (wo rfl) rfl rfl (p_move rfl rfl) (nf rfl) ?_
  refine W.pure rfl (wo rfl) rfl rfl (pF (decide_eq_false (by omega)) (p_geq rfl rfl rfl)) (nf rfl) ?_
  refine W.pure rfl (wo rfl) rfl rfl (p_move rfl rfl) (nf rfl) ?_
  refine W.not rfl (wo rfl) rfl rfl ?_
  refine W.not rfl (wo rfl) rfl rfl ?_
  refine W.not rfl (wo rfl) rfl rfl ?_
  refine W.not rfl (wo rfl) rfl rfl ?_
  refine W.not rfl (wo rfl) rfl rfl ?_
  refine W.not rfl (wo rfl) rfl rfl ?_
  refine W.pure rfl (wo rfl) rfl rfl (p_pick_false rfl rfl rfl) (nf rfl) ?_
  refine W.pure rfl (wo rfl) rfl rfl (p_assign rfl rfl) (nf rfl) ?_
  refine W.doneQ (y := sub [1, 1] B34) rfl ?_
  exact C.ret (rs := [.tmp 4]) (vs := [.bool false]) rfl Try.func34 rfl rfl rfl (res_cons (ResV.tmp rfl) res_nil) fun w1 hc1 => ⟨rfl, hc1.toBelow⟩

theorem has_pos {w : World} {M : Mem} (hM : Imm M w) {b m : Nat} {v : Value} {s : Dk} (hd : DkM M b m v s) (n : Int) (h : 0 ≤ n) : Calls Try.prog 34 #[ptr b 0, .int .i64 n] w fun e w' => e = .returned (.bool (decide (n < s.n))) ∧ Below w.heap.size w w' := by
  have hd := hd.mono (show Ext M (heapOf w) from hM)
  refine calls_of_CW (N := 15) Try.func34 (show _ = some B34 by kernel_rfl) (by kernel_rfl) rfl (S := [(0, ptr b 0), (1, .int .i64 n)]) (by simp) (clsStart w) ?_
  show CW _ _ _ (sub [] B34) _ _ _
  refine C.seq (x := sub [0] B34) (y := sub [1] B34) ?_
  refine C.region (id := 0) (m := 1) (ops := opsOf (sub [0] B34)) rfl ?_
  refine W.pure rfl (wo rfl) rfl rfl (p_assign rfl rfl) (nf rfl) ?_
  refine W.doneQ (y := sub [1] B34) rfl ?_
  refine C.seq (x := sub [1, 0] B34) (y := sub [1, 1] B34) ?_
  refine C.region (id := 1) (m := 11) (ops := opsOf (sub [1, 0] B34)) rfl ?_
  refine W.pure rfl (wo rfl) rfl rfl (p_move rfl rfl) (nf rfl) ?_
  refine W.pure rfl (wo rfl) rfl rfl (pT (decide_eq_true h) (p_geq rfl rfl rfl)) (nf rfl) ?_
  refine W.pure rfl (wo rfl) rfl rfl (p_move rfl rfl) (nf rfl) ?_
  refine W.pure rfl (wo rfl) rfl rfl (p_move rfl rfl) (nf rfl) ?_
  refine W.pure rfl (wo rfl) rfl rfl (p_move rfl rfl) (nf rfl) ?_
  refine W.pure rfl (wo rfl) rfl rfl (p_nilCheck rfl rfl) (nf rfl) ?_
  refine W.pure rfl (wo rfl) rfl rfl (p_fieldAddr tf61_0 rfl rfl) (nf rfl) ?_
  refine W.imm rfl (wo rfl) rfl rfl (i_loadBoxO (off := 0) hd.hb rfl ta3 rfl rfl) (nf rfl) ?_
  refine W.pure rfl (wo rfl) rfl rfl (p_lss rfl rfl rfl) (nf rfl) ?_
  refine W.pure rfl (wo rfl) rfl rfl (p_pick_true rfl rfl rfl) (nf rfl) ?_
  refine W.pure rfl (wo rfl) rfl rfl (p_assign rfl rfl) (nf rfl) ?_
  refine W.doneQ (y := sub [1, 1] B34) rfl ?_
  exact C.ret (rs := [.tmp 4]) (vs := [.bool (decide (n < s.n))]) rfl Try.func34 rfl rfl rfl (res_cons (ResV.tmp rfl) res_nil) fun w1 hc1 => ⟨rfl, hc1.toBelow⟩

def hasD (s : Dk) (n : Int) : Bool := decide (0 ≤ n ∧ n < s.n)
theorem has_ok {w : World} {M : Mem} (hM : Imm M w) {b m : Nat} {v : Value} {s : Dk} (hd : DkM M b m v s) (n : Int) : Calls Try.prog 34 #[ptr b 0, .int .i64 n] w fun e w' => e = .returned (.bool (hasD s n)) ∧ Below w.heap.size w w' := by
  unfold hasD
  by_cases h : 0 ≤ n
  · simp only [h, true_and]; exact has_pos hM hd n h
  · simp only [h, false_and, decide_false]; exact has_neg hM hd n (by omega)

theorem en17 (args : Array Value) (w : World) : (callFunc 17 args).run Try.prog w = .ok (.enter 17 args) w := by kernel_rfl
theorem dead_ok {w : World} {M : Mem} (hM : Imm M w) {b m : Nat} {v : Value} {s : Dk} (hd : DkM M b m v s) : Calls Try.prog 17 #[ptr b 0] w fun e w' => e = .returned (.bool s.dead) ∧ Below w.heap.size w w' := by
  have hd := hd.mono (show Ext M (heapOf w) from hM)
  refine calls_of_CW (N := 11) Try.func17 (show _ = some B17 by kernel_rfl) (by kernel_rfl) rfl (S := [(0, ptr b 0)]) (by simp) (clsStart w) ?_
  show CW _ _ _ (sub [] B17) _ _ _
  refine C.seq (x := sub [0] B17) (y := sub [1] B17) ?_
  refine C.region (id := 0) (m := 1) (ops := opsOf (sub [0] B17)) rfl ?_
  refine W.pure rfl (wo rfl) rfl rfl (p_assign rfl rfl) (nf rfl) ?_
  refine W.doneQ (y := sub [1] B17) rfl ?_
  refine C.seq (x := sub [1, 0] B17) (y := sub [1, 1] B17) ?_
  refine C.region (id := 1) (m := 9) (ops := opsOf (sub [1, 0] B17)) rfl ?_
  refine W.pure rfl (wo rfl) rfl rfl (p_move rfl rfl) (nf rfl) ?_
  refine W.quiet rfl (wo rfl) rfl rfl (f_callR rfl rfl (args_val (vs := [ptr b 0]) rfl) (en32 _) (fun w1 hc1 => there_ok hc1.imm hd)) (nf rfl) ?_
  refine W.pure rfl (wo rfl) rfl rfl (p_move rfl rfl) (nf rfl) ?_
  refine W.pure rfl (wo rfl) rfl rfl (p_move rfl rfl) (nf rfl) ?_
  refine W.pure rfl (wo rfl) rfl rfl (p_nilCheck rfl rfl) (nf rfl) ?_
  refine W.pure rfl (wo rfl) rfl rfl (p_fieldAddr tf61_5 rfl rfl) (nf rfl) ?_
  refine W.imm rfl (wo rfl) rfl rfl (i_loadBoxO (off := 5) hd.hb rfl ta4 rfl rfl) (nf rfl) ?_
  refine W.pure rfl (wo rfl) rfl rfl (p_pick_true rfl rfl rfl) (nf rfl) ?_
  refine W.pure rfl (wo rfl) rfl rfl (p_assign rfl rfl) (nf rfl) ?_
  refine W.doneQ (y := sub [1, 1] B17) rfl ?_
  exact C.ret (rs := [.tmp 2]) (vs := [.bool s.dead]) rfl Try.func17 rfl rfl rfl (res_cons (ResV.tmp rfl) res_nil) fun w1 hc1 => ⟨rfl, hc1.toBelow⟩

theorem en25 (args : Array Value) (w : World) : (callFunc 25 args).run Try.prog w = .ok (.enter 25 args) w := by kernel_rfl
theorem unsynced_ok {w : World} {M : Mem} (hM : Imm M w) {b m : Nat} {v : Value} {s : Dk} (hd : DkM M b m v s) : Calls Try.prog 25 #[ptr b 0] w fun e w' => e = .returned (.int .i64 (s.late.length : Int)) ∧ Below w.heap.size w w' := by
  have hd := hd.mono (show Ext M (heapOf w) from hM)
  refine calls_of_CW (N := 11) Try.func25 (show _ = some B25 by kernel_rfl) (by kernel_rfl) rfl (S := [(0, ptr b 0)]) (by simp) (clsStart w) ?_
  show CW _ _ _ (sub [] B25) _ _ _
  refine C.seq (x := sub [0] B25) (y := sub [1] B25) ?_
  refine C.region (id := 0) (m := 1) (ops := opsOf (sub [0] B25)) rfl ?_
  refine W.pure rfl (wo rfl) rfl rfl (p_assign rfl rfl) (nf rfl) ?_
  refine W.doneQ (y := sub [1] B25) rfl ?_
  refine C.seq (x := sub [1, 0] B25) (y := sub [1, 1] B25) ?_
  refine C.seq (x := sub [1, 0, 0] B25) (y := sub [1, 0, 1] B25) ?_
  refine C.region (id := 1) (m := 3) (ops := opsOf (sub [1, 0, 0] B25)) rfl ?_
  refine W.pure rfl (wo rfl) rfl rfl (p_move rfl rfl) (nf rfl) ?_
  refine W.quiet rfl (wo rfl) rfl rfl (f_callR rfl rfl (args_val (vs := [ptr b 0]) rfl) (en32 _) (fun w1 hc1 => there_ok hc1.imm hd)) (nf rfl) ?_
  refine W.pure rfl (wo rfl) rfl rfl (p_not rfl rfl) (nf rfl) ?_
  refine W.doneQ (y := sub [1, 0, 1] B25) rfl ?_
  refine C.cond_false (x := sub [1, 0, 1, 0] B25) (y := sub [1, 0, 1, 1] B25) rfl rfl ?_
  refine C.skipQ (y := sub [1, 1] B25) rfl ?_
  refine C.seq (x := sub [1, 1, 0] B25) (y := sub [1, 1, 1] B25) ?_
  refine C.region (id := 3) (m := 6) (ops := opsOf (sub [1, 1, 0] B25)) rfl ?_
  refine W.pure rfl (wo rfl) rfl rfl (p_move rfl rfl) (nf rfl) ?_
  refine W.pure rfl (wo rfl) rfl rfl (p_nilCheck rfl rfl) (nf rfl) ?_
  refine W.pure rfl (wo rfl) rfl rfl (p_fieldAddr tf61_2 rfl rfl) (nf rfl) ?_
  refine W.imm rfl (wo rfl) rfl rfl (i_loadBoxO (off := 2) hd.hb rfl ta59 rfl rfl) (nf rfl) ?_
  refine W.pure rfl (wo rfl) rfl rfl (p_slLen tu59 hd.hr.sl rfl rfl) (nf rfl) ?_
  refine W.pure rfl (wo rfl) rfl rfl (p_assign rfl rfl) (nf rfl) ?_
  refine W.doneQ (y := sub [1, 1, 1] B25) rfl ?_
  exact C.ret (rs := [.tmp 2]) (vs := [.int .i64 (s.late.length : Int)]) rfl Try.func25 rfl rfl rfl (res_cons (ResV.tmp rfl) res_nil) fun w1 hc1 => ⟨rfl, hc1.toBelow⟩

theorem en31 (args : Array Value) (w : World) : (callFunc 31 args).run Try.prog w = .ok (.enter 31 args) w := by kernel_rfl
theorem blocks_ok {w : World} {M : Mem} (hM : Imm M w) {b m : Nat} {v : Value} {s : Dk} (hd : DkM M b m v s) : Calls Try.prog 31 #[ptr b 0] w fun e w' => e = .returned (.int .i64 s.n) ∧ Below w.heap.size w w' := by
  have hd := hd.mono (show Ext M (heapOf w) from hM)
  refine calls_of_CW (N := 10) Try.func31 (show _ = some B31 by kernel_rfl) (by kernel_rfl) rfl (S := [(0, ptr b 0)]) (by simp) (clsStart w) ?_
  show CW _ _ _ (sub [] B31) _ _ _
  refine C.seq (x := sub [0] B31) (y := sub [1] B31) ?_
  refine C.region (id := 0) (m := 1) (ops := opsOf (sub [0] B31)) rfl ?_
  refine W.pure rfl (wo rfl) rfl rfl (p_assign rfl rfl) (nf rfl) ?_
  refine W.doneQ (y := sub [1] B31) rfl ?_
  refine C.seq (x := sub [1, 0] B31) (y := sub [1, 1] B31) ?_
  refine C.seq (x := sub [1, 0, 0] B31) (y := sub [1, 0, 1] B31) ?_
  refine C.region (id := 1) (m := 3) (ops := opsOf (sub [1, 0, 0] B31)) rfl ?_
  refine W.pure rfl (wo rfl) rfl rfl (p_move rfl rfl) (nf rfl) ?_
  refine W.quiet rfl (wo rfl) rfl rfl (f_callR rfl rfl (args_val (vs := [ptr b 0]) rfl) (en32 _) (fun w1 hc1 => there_ok hc1.imm hd)) (nf rfl) ?_
  refine W.pure rfl (wo rfl) rfl rfl (p_not rfl rfl) (nf rfl) ?_
  refine W.doneQ (y := sub [1, 0, 1] B31) rfl ?_
  refine C.cond_false (x := sub [1, 0, 1, 0] B31) (y := sub [1, 0, 1, 1] B31) rfl rfl ?_
  refine C.skipQ (y := sub [1, 1] B31) rfl ?_
  refine C.seq (x := sub [1, 1, 0] B31) (y := sub [1, 1, 1] B31) ?_
  refine C.region (id := 3) (m := 5) (ops := opsOf (sub [1, 1, 0] B31)) rfl ?_
  refine W.pure rfl (wo rfl) rfl rfl (p_move rfl rfl) (nf rfl) ?_
  refine W.pure rfl (wo rfl) rfl rfl (p_nilCheck rfl rfl) (nf rfl) ?_
  refine W.pure rfl (wo rfl) rfl rfl (p_fieldAddr tf61_0 rfl rfl) (nf rfl) ?_
  refine W.imm rfl (wo rfl) rfl rfl (i_loadBoxO (off := 0) hd.hb rfl ta3 rfl rfl) (nf rfl) ?_
  refine W.pure rfl (wo rfl) rfl rfl (p_assign rfl rfl) (nf rfl) ?_
  refine W.doneQ (y := sub [1, 1, 1] B31) rfl ?_
  exact C.ret (rs := [.tmp 2]) (vs := [.int .i64 s.n]) rfl Try.func31 rfl rfl rfl (res_cons (ResV.tmp rfl) res_nil) fun w1 hc1 => ⟨rfl, hc1.toBelow⟩

end Go.Proofs.Ytjomnicfcdkfdaa
end

section
namespace Go.Proofs.Ytjomnicfcdkfdaa
open Go Go.HW Go.RowKit
set_option linter.unusedVariables false
set_option linter.unusedSimpArgs false

theorem qT {P : Program} {o : Oper} {S : Slots} {w0 : World} {I : Mem} {H : Heap} {b : Bool} (h : b = true) (hp : FQuiet P o w0 I S H (.bool b)) : FQuiet P o w0 I S H (.bool true) := by rw [← h]; exact hp
theorem qF {P : Program} {o : Oper} {S : Slots} {w0 : World} {I : Mem} {H : Heap} {b : Bool} (h : b = false) (hp : FQuiet P o w0 I S H (.bool b)) : FQuiet P o w0 I S H (.bool false) := by rw [← h]; exact hp
theorem f_stDk {o : Oper} {S : Slots} {w0 : World} {I : Mem} {H : Heap} {t : TypeId} {x y : Operand} {b m j k : Nat} {v u : Value} {s s2 : Dk} (hs : ∀ w, (sizeOf t).run Try.prog w = .ok 1 w) (hn : u.cells = #[u]) (h1 : OneCell u) (hH : H[j]? = some (dk1 b m v s)) (hk : k < 6)
    (ho : o.op = .store t x y) (hx : ev S x = some (ptr b k)) (hy : ev S y = some u) (he : (some b, Obj.cells ((#[.int .i64 s.n, .map (some m), v, .int .i64 s.fuse, .bool s.armed, .bool s.dead] : Array Value).setIfInBounds k u) 61 (0, 0)) = dk1 b m v s2 := by rfl) : FPut Try.prog o w0 I S H (H.set j (dk1 b m v s2)) := by
  rw [← he]
  exact f_store hs hH hn hk h1 ho hx hy
theorem ts3 (w : World) : (sizeOf 3).run Try.prog w = .ok 1 w := by kernel_rfl
theorem ts4 (w : World) : (sizeOf 4).run Try.prog w = .ok 1 w := by kernel_rfl
theorem ts59 (w : World) : (sizeOf 59).run Try.prog w = .ok 1 w := by kernel_rfl

noncomputable def B33 : Code := bodyOf Try.f33
theorem en33 (args : Array Value) (w : World) : (callFunc 33 args).run Try.prog w = .ok (.enter 33 args) w := by kernel_rfl

theorem step_1 {w0 w : World} {I : Mem} {b m : Nat} {v : Value} {cur : Array Value} {s : Dk} (hc : Cls w0 I (dkH b m v cur s) w) (h : s.dead = true) : Calls Try.prog 33 #[ptr b 0] w fun e w' => e = .returned (.int .i64 14) ∧ Cls w0 I (dkH b m v cur s) w' := by
  refine calls_of_CW (N := 30) Try.func33 (show _ = some B33 by kernel_rfl) (by kernel_rfl) rfl (S := [(0, ptr b 0)]) (by simp) hc ?_
  show CW _ _ _ (sub [] B33) _ _ _
  refine C.seq (x := sub [0] B33) (y := sub [1] B33) ?_
  refine C.region (id := 0) (m := 1) (ops := opsOf (sub [0] B33)) rfl ?_
  refine W.pure rfl (wo rfl) rfl rfl (p_assign rfl rfl) (nf rfl) ?_
  refine W.doneQ (y := sub [1] B33) rfl ?_
  refine C.seq (x := sub [1, 0] B33) (y := sub [1, 1] B33) ?_
  refine C.block (id := 0) (c := sub [1, 0, 0] B33) ?_
  refine C.seq (x := sub [1, 0, 0, 0] B33) (y := sub [1, 0, 0, 1] B33) ?_
  refine C.region (id := 1) (m := 5) (ops := opsOf (sub [1, 0, 0, 0] B33)) rfl ?_
  refine W.pure rfl (wo rfl) rfl rfl (p_move rfl rfl) (nf rfl) ?_
  refine W.pure rfl (wo rfl) rfl rfl (p_nilCheck rfl rfl) (nf rfl) ?_
  refine W.pure rfl (wo rfl) rfl rfl (p_fieldAddr tf61_5 rfl rfl) (nf rfl) ?_
  refine W.quiet rfl (wo rfl) rfl rfl (qT (h) (f_load (j := 0) ta4 rfl (off := 5) rfl rfl rfl)) (nf rfl) ?_
  refine W.pure rfl (wo rfl) rfl rfl (p_assign rfl rfl) (nf rfl) ?_
  refine W.doneQ (y := sub [1, 0, 0, 1] B33) rfl ?_
  refine C.cond_true (x := sub [1, 0, 0, 1, 0] B33) (y := sub [1, 0, 0, 1, 1] B33) rfl rfl ?_
  refine C.seq (x := sub [1, 0, 0, 1, 0, 0] B33) (y := sub [1, 0, 0, 1, 0, 1] B33) ?_
  refine C.region (id := 2) (m := 1) (ops := opsOf (sub [1, 0, 0, 1, 0, 0] B33)) rfl ?_
  refine W.pure rfl (wo rfl) rfl rfl (p_assign rfl rfl) (nf rfl) ?_
  refine W.doneQ (y := sub [1, 0, 0, 1, 0, 1] B33) rfl ?_
  exact C.ret (R := fun e w' => e = .returned (.int .i64 14) ∧ Cls w0 I (dkH b m v cur s) w') (rs := [.tmp 2]) (vs := [.int .i64 14]) rfl Try.func33 rfl rfl rfl (res_cons (ResV.tmp rfl) res_nil) fun w1 hc1 => ⟨rfl, hc1⟩

theorem step_2 {w0 w : World} {I : Mem} {b m : Nat} {v : Value} {cur : Array Value} {s : Dk} (hc : Cls w0 I (dkH b m v cur s) w) (h : s.dead = false) (h2 : s.armed = false) : Calls Try.prog 33 #[ptr b 0] w fun e w' => e = .returned (.int .i64 0) ∧ Cls w0 I (dkH b m v cur s) w' := by
  refine calls_of_CW (N := 30) Try.func33 (show _ = some B33 by kernel_rfl) (by kernel_rfl) rfl (S := [(0, ptr b 0)]) (by simp) hc ?_
  show CW _ _ _ (sub [] B33) _ _ _
  refine C.seq (x := sub [0] B33) (y := sub [1] B33) ?_
  refine C.region (id := 0) (m := 1) (ops := opsOf (sub [0] B33)) rfl ?_
  refine W.pure rfl (wo rfl) rfl rfl (p_assign rfl rfl) (nf rfl) ?_
  refine W.doneQ (y := sub [1] B33) rfl ?_
  refine C.seq (x := sub [1, 0] B33) (y := sub [1, 1] B33) ?_
  refine C.block (id := 0) (c := sub [1, 0, 0] B33) ?_
  refine C.seq (x := sub [1, 0, 0, 0] B33) (y := sub [1, 0, 0, 1] B33) ?_
  refine C.region (id := 1) (m := 5) (ops := opsOf (sub [1, 0, 0, 0] B33)) rfl ?_
  refine W.pure rfl (wo rfl) rfl rfl (p_move rfl rfl) (nf rfl) ?_
  refine W.pure rfl (wo rfl) rfl rfl (p_nilCheck rfl rfl) (nf rfl) ?_
  refine W.pure rfl (wo rfl) rfl rfl (p_fieldAddr tf61_5 rfl rfl) (nf rfl) ?_
  refine W.quiet rfl (wo rfl) rfl rfl (qF (h) (f_load (j := 0) ta4 rfl (off := 5) rfl rfl rfl)) (nf rfl) ?_
  refine W.pure rfl (wo rfl) rfl rfl (p_assign rfl rfl) (nf rfl) ?_
  refine W.doneQ (y := sub [1, 0, 0, 1] B33) rfl ?_
  refine C.cond_false (x := sub [1, 0, 0, 1, 0] B33) (y := sub [1, 0, 0, 1, 1] B33) rfl rfl ?_
  refine C.seq (x := sub [1, 0, 0, 1, 1, 0] B33) (y := sub [1, 0, 0, 1, 1, 1] B33) ?_
  refine C.region (id := 3) (m := 6) (ops := opsOf (sub [1, 0, 0, 1, 1, 0] B33)) rfl ?_
  refine W.pure rfl (wo rfl) rfl rfl (p_move rfl rfl) (nf rfl) ?_
  refine W.pure rfl (wo rfl) rfl rfl (p_nilCheck rfl rfl) (nf rfl) ?_
  refine W.pure rfl (wo rfl) rfl rfl (p_fieldAddr tf61_4 rfl rfl) (nf rfl) ?_
  refine W.quiet rfl (wo rfl) rfl rfl (qF (h2) (f_load (j := 0) ta4 rfl (off := 4) rfl rfl rfl)) (nf rfl) ?_
  refine W.pure rfl (wo rfl) rfl rfl (p_not rfl rfl) (nf rfl) ?_
  refine W.pure rfl (wo rfl) rfl rfl (p_assign rfl rfl) (nf rfl) ?_
  refine W.doneQ (y := sub [1, 0, 0, 1, 1, 1] B33) rfl ?_
  refine C.cond_true (x := sub [1, 0, 0, 1, 1, 1, 0] B33) (y := sub [1, 0, 0, 1, 1, 1, 1] B33) rfl rfl ?_
  refine C.seq (x := sub [1, 0, 0, 1, 1, 1, 0, 0] B33) (y := sub [1, 0, 0, 1, 1, 1, 0, 1] B33) ?_
  refine C.region (id := 4) (m := 1) (ops := opsOf (sub [1, 0, 0, 1, 1, 1, 0, 0] B33)) rfl ?_
  refine W.pure rfl (wo rfl) rfl rfl (p_assign rfl rfl) (nf rfl) ?_
  refine W.doneQ (y := sub [1, 0, 0, 1, 1, 1, 0, 1] B33) rfl ?_
  exact C.ret (R := fun e w' => e = .returned (.int .i64 0) ∧ Cls w0 I (dkH b m v cur s) w') (rs := [.tmp 2]) (vs := [.int .i64 0]) rfl Try.func33 rfl rfl rfl (res_cons (ResV.tmp rfl) res_nil) fun w1 hc1 => ⟨rfl, hc1⟩

theorem step_3 {w0 w : World} {I : Mem} {b m : Nat} {v : Value} {cur : Array Value} {s : Dk} (hc : Cls w0 I (dkH b m v cur s) w) (h : s.dead = false) (h2 : s.armed = true) (h3 : s.fuse = 0) : Calls Try.prog 33 #[ptr b 0] w fun e w' => e = .returned (.int .i64 17) ∧ Cls w0 I (dkH b m v cur { s with dead := true }) w' := by
  refine calls_of_CW (N := 30) Try.func33 (show _ = some B33 by kernel_rfl) (by kernel_rfl) rfl (S := [(0, ptr b 0)]) (by simp) hc ?_
  show CW _ _ _ (sub [] B33) _ _ _
  refine C.seq (x := sub [0] B33) (y := sub [1] B33) ?_
  refine C.region (id := 0) (m := 1) (ops := opsOf (sub [0] B33)) rfl ?_
  refine W.pure rfl (wo rfl) rfl rfl (p_assign rfl rfl) (nf rfl) ?_
  refine W.doneQ (y := sub [1] B33) rfl ?_
  refine C.seq (x := sub [1, 0] B33) (y := sub [1, 1] B33) ?_
  refine C.block (id := 0) (c := sub [1, 0, 0] B33) ?_
  refine C.seq (x := sub [1, 0, 0, 0] B33) (y := sub [1, 0, 0, 1] B33) ?_
  refine C.region (id := 1) (m := 5) (ops := opsOf (sub [1, 0, 0, 0] B33)) rfl ?_
  refine W.pure rfl (wo rfl) rfl rfl (p_move rfl rfl) (nf rfl) ?_
  refine W.pure rfl (wo rfl) rfl rfl (p_nilCheck rfl rfl) (nf rfl) ?_
  refine W.pure rfl (wo rfl) rfl rfl (p_fieldAddr tf61_5 rfl rfl) (nf rfl) ?_
  refine W.quiet rfl (wo rfl) rfl rfl (qF (h) (f_load (j := 0) ta4 rfl (off := 5) rfl rfl rfl)) (nf rfl) ?_
  refine W.pure rfl (wo rfl) rfl rfl (p_assign rfl rfl) (nf rfl) ?_
  refine W.doneQ (y := sub [1, 0, 0, 1] B33) rfl ?_
  refine C.cond_false (x := sub [1, 0, 0, 1, 0] B33) (y := sub [1, 0, 0, 1, 1] B33) rfl rfl ?_
  refine C.seq (x := sub [1, 0, 0, 1, 1, 0] B33) (y := sub [1, 0, 0, 1, 1, 1] B33) ?_
  refine C.region (id := 3) (m := 6) (ops := opsOf (sub [1, 0, 0, 1, 1, 0] B33)) rfl ?_
  refine W.pure rfl (wo rfl) rfl rfl (p_move rfl rfl) (nf rfl) ?_
  refine W.pure rfl (wo rfl) rfl rfl (p_nilCheck rfl rfl) (nf rfl) ?_
  refine W.pure rfl (wo rfl) rfl rfl (p_fieldAddr tf61_4 rfl rfl) (nf rfl) ?_
  refine W.quiet rfl (wo rfl) rfl rfl (qT (h2) (f_load (j := 0) ta4 rfl (off := 4) rfl rfl rfl)) (nf rfl) ?_
  refine W.pure rfl (wo rfl) rfl rfl (p_not rfl rfl) (nf rfl) ?_
  refine W.pure rfl (wo rfl) rfl rfl (p_assign rfl rfl) (nf rfl) ?_
  refine W.doneQ (y := sub [1, 0, 0, 1, 1, 1] B33) rfl ?_
  refine C.cond_false (x := sub [1, 0, 0, 1, 1, 1, 0] B33) (y := sub [1, 0, 0, 1, 1, 1, 1] B33) rfl rfl ?_
  refine C.seq (x := sub [1, 0, 0, 1, 1, 1, 1, 0] B33) (y := sub [1, 0, 0, 1, 1, 1, 1, 1] B33) ?_
  refine C.region (id := 5) (m := 6) (ops := opsOf (sub [1, 0, 0, 1, 1, 1, 1, 0] B33)) rfl ?_
  refine W.pure rfl (wo rfl) rfl rfl (p_move rfl rfl) (nf rfl) ?_
  refine W.pure rfl (wo rfl) rfl rfl (p_nilCheck rfl rfl) (nf rfl) ?_
  refine W.pure rfl (wo rfl) rfl rfl (p_fieldAddr tf61_3 rfl rfl) (nf rfl) ?_
  refine W.quiet rfl (wo rfl) rfl rfl (f_load (j := 0) ta3 rfl (off := 3) rfl rfl rfl) (nf rfl) ?_
  refine W.pure rfl (wo rfl) rfl rfl (pT (by rw [h3]; rfl) (p_eql rfl rfl rfl)) (nf rfl) ?_
  refine W.pure rfl (wo rfl) rfl rfl (p_assign rfl rfl) (nf rfl) ?_
  refine W.doneQ (y := sub [1, 0, 0, 1, 1, 1, 1, 1] B33) rfl ?_
  refine C.cond_true (x := sub [1, 0, 0, 1, 1, 1, 1, 1, 0] B33) (y := sub [1, 0, 0, 1, 1, 1, 1, 1, 1] B33) rfl rfl ?_
  refine C.seq (x := sub [1, 0, 0, 1, 1, 1, 1, 1, 0, 0] B33) (y := sub [1, 0, 0, 1, 1, 1, 1, 1, 0, 1] B33) ?_
  refine C.region (id := 6) (m := 4) (ops := opsOf (sub [1, 0, 0, 1, 1, 1, 1, 1, 0, 0] B33)) rfl ?_
  refine W.pure rfl (wo rfl) rfl rfl (p_move rfl rfl) (nf rfl) ?_
  refine W.pure rfl (wo rfl) rfl rfl (p_nilCheck rfl rfl) (nf rfl) ?_
  refine W.pure rfl (wo rfl) rfl rfl (p_fieldAddr tf61_5 rfl rfl) (nf rfl) ?_
  refine W.put (H' := dkH b m v cur ⟨s.n, s.set, s.late, s.fuse, s.armed, true⟩) rfl (wo rfl) rfl (f_stDk (s := ⟨s.n, s.set, s.late, s.fuse, s.armed, s.dead⟩) (s2 := ⟨s.n, s.set, s.late, s.fuse, s.armed, true⟩) (k := 5) (u := .bool (true)) (j := 0) ts4 rfl trivial rfl (by decide) rfl rfl rfl) (nf rfl) ?_
  refine W.doneQ (y := sub [1, 0, 0, 1, 1, 1, 1, 1, 0, 1] B33) rfl ?_
  refine C.seq (x := sub [1, 0, 0, 1, 1, 1, 1, 1, 0, 1, 0] B33) (y := sub [1, 0, 0, 1, 1, 1, 1, 1, 0, 1, 1] B33) ?_
  refine C.region (id := 7) (m := 1) (ops := opsOf (sub [1, 0, 0, 1, 1, 1, 1, 1, 0, 1, 0] B33)) rfl ?_
  refine W.pure rfl (wo rfl) rfl rfl (p_assign rfl rfl) (nf rfl) ?_
  refine W.doneQ (y := sub [1, 0, 0, 1, 1, 1, 1, 1, 0, 1, 1] B33) rfl ?_
  exact C.ret (R := fun e w' => e = .returned (.int .i64 17) ∧ Cls w0 I (dkH b m v cur { s with dead := true }) w') (rs := [.tmp 2]) (vs := [.int .i64 17]) rfl Try.func33 rfl rfl rfl (res_cons (ResV.tmp rfl) res_nil) fun w1 hc1 => ⟨rfl, hc1⟩

theorem step_4 {w0 w : World} {I : Mem} {b m : Nat} {v : Value} {cur : Array Value} {s : Dk} (hc : Cls w0 I (dkH b m v cur s) w) (h : s.dead = false) (h2 : s.armed = true) (h3 : ¬ s.fuse = 0) : Calls Try.prog 33 #[ptr b 0] w fun e w' => e = .returned (.int .i64 0) ∧ Cls w0 I (dkH b m v cur { s with fuse := IntKind.i64.wrap (s.fuse - 1) }) w' := by
  refine calls_of_CW (N := 30) Try.func33 (show _ = some B33 by kernel_rfl) (by kernel_rfl) rfl (S := [(0, ptr b 0)]) (by simp) hc ?_
  show CW _ _ _ (sub [] B33) _ _ _
  refine C.seq (x := sub [0] B33) (y := sub [1] B33) ?_
  refine C.region (id := 0) (m := 1) (ops := opsOf (sub [0] B33)) rfl ?_
  refine W.pure rfl (wo rfl) rfl rfl (p_assign rfl rfl) (nf rfl) ?_
  refine W.doneQ (y := sub [1] B33) rfl ?_
  refine C.seq (x := sub [1, 0] B33) (y := sub [1, 1] B33) ?_
  refine C.block (id := 0) (c := sub [1, 0, 0] B33) ?_
  refine C.seq (x := sub [1, 0, 0, 0] B33) (y := sub [1, 0, 0, 1] B33) ?_
  refine C.region (id := 1) (m := 5) (ops := opsOf (sub [1, 0, 0, 0] B33)) rfl ?_
  refine W.pure rfl (wo rfl) rfl rfl (p_move rfl rfl) (nf rfl) ?_
  refine W.pure rfl (wo rfl) rfl rfl (p_nilCheck rfl rfl) (nf rfl) ?_
  refine W.pure rfl (wo rfl) rfl rfl (p_fieldAddr tf61_5 rfl rfl) (nf rfl) ?_
  refine W.quiet rfl (wo rfl) rfl rfl (qF (h) (f_load (j := 0) ta4 rfl (off := 5) rfl rfl rfl)) (nf rfl) ?_
  refine W.pure rfl (wo rfl) rfl rfl (p_assign rfl rfl) (nf rfl) ?_
  refine W.doneQ (y := sub [1, 0, 0, 1] B33) rfl ?_
  refine C.cond_false (x := sub [1, 0, 0, 1, 0] B33) (y := sub [1, 0, 0, 1, 1] B33) rfl rfl ?_
  refine C.seq (x := sub [1, 0, 0, 1, 1, 0] B33) (y := sub [1, 0, 0, 1, 1, 1] B33) ?_
  refine C.region (id := 3) (m := 6) (ops := opsOf (sub [1, 0, 0, 1, 1, 0] B33)) rfl ?_
  refine W.pure rfl (wo rfl) rfl rfl (p_move rfl rfl) (nf rfl) ?_
  refine W.pure rfl (wo rfl) rfl rfl (p_nilCheck rfl rfl) (nf rfl) ?_
  refine W.pure rfl (wo rfl) rfl rfl (p_fieldAddr tf61_4 rfl rfl) (nf rfl) ?_
  refine W.quiet rfl (wo rfl) rfl rfl (qT (h2) (f_load (j := 0) ta4 rfl (off := 4) rfl rfl rfl)) (nf rfl) ?_
  refine W.pure rfl (wo rfl) rfl rfl (p_not rfl rfl) (nf rfl) ?_
  refine W.pure rfl (wo rfl) rfl rfl (p_assign rfl rfl) (nf rfl) ?_
  refine W.doneQ (y := sub [1, 0, 0, 1, 1, 1] B33) rfl ?_
  refine C.cond_false (x := sub [1, 0, 0, 1, 1, 1, 0] B33) (y := sub [1, 0, 0, 1, 1, 1, 1] B33) rfl rfl ?_
  refine C.seq (x := sub [1, 0, 0, 1, 1, 1, 1, 0] B33) (y := sub [1, 0, 0, 1, 1, 1, 1, 1] B33) ?_
  refine C.region (id := 5) (m := 6) (ops := opsOf (sub [1, 0, 0, 1, 1, 1, 1, 0] B33)) rfl ?_
  refine W.pure rfl (wo rfl) rfl rfl (p_move rfl rfl) (nf rfl) ?_
  refine W.pure rfl (wo rfl) rfl rfl (p_nilCheck rfl rfl) (nf rfl) ?_
  refine W.pure rfl (wo rfl) rfl rfl (p_fieldAddr tf61_3 rfl rfl) (nf rfl) ?_
  refine W.quiet rfl (wo rfl) rfl rfl (f_load (j := 0) ta3 rfl (off := 3) rfl rfl rfl) (nf rfl) ?_
  refine W.pure rfl (wo rfl) rfl rfl (pF (by simpa using h3) (p_eql rfl rfl rfl)) (nf rfl) ?_
  refine W.pure rfl (wo rfl) rfl rfl (p_assign rfl rfl) (nf rfl) ?_
  refine W.doneQ (y := sub [1, 0, 0, 1, 1, 1, 1, 1] B33) rfl ?_
  refine C.cond_false (x := sub [1, 0, 0, 1, 1, 1, 1, 1, 0] B33) (y := sub [1, 0, 0, 1, 1, 1, 1, 1, 1] B33) rfl rfl ?_
  refine C.skipQ (y := sub [1, 1] B33) rfl ?_
  refine C.seq (x := sub [1, 1, 0] B33) (y := sub [1, 1, 1] B33) ?_
  refine C.region (id := 8) (m := 8) (ops := opsOf (sub [1, 1, 0] B33)) rfl ?_
  refine W.pure rfl (wo rfl) rfl rfl (p_move rfl rfl) (nf rfl) ?_
  refine W.pure rfl (wo rfl) rfl rfl (p_nilCheck rfl rfl) (nf rfl) ?_
  refine W.pure rfl (wo rfl) rfl rfl (p_fieldAddr tf61_3 rfl rfl) (nf rfl) ?_
  refine W.quiet rfl (wo rfl) rfl rfl (f_load (j := 0) ta3 rfl (off := 3) rfl rfl rfl) (nf rfl) ?_
  refine W.pure rfl (wo rfl) rfl rfl (p_sub rfl rfl rfl) (nf rfl) ?_
  refine W.pure rfl (wo rfl) rfl rfl (p_nilCheck rfl rfl) (nf rfl) ?_
  refine W.pure rfl (wo rfl) rfl rfl (p_fieldAddr tf61_3 rfl rfl) (nf rfl) ?_
  refine W.put (H' := dkH b m v cur ⟨s.n, s.set, s.late, IntKind.i64.wrap (s.fuse - 1), s.armed, s.dead⟩) rfl (wo rfl) rfl (f_stDk (s := ⟨s.n, s.set, s.late, s.fuse, s.armed, s.dead⟩) (s2 := ⟨s.n, s.set, s.late, IntKind.i64.wrap (s.fuse - 1), s.armed, s.dead⟩) (k := 3) (u := .int .i64 (IntKind.i64.wrap (s.fuse - 1))) (j := 0) ts3 rfl trivial rfl (by decide) rfl rfl rfl) (nf rfl) ?_
  refine W.doneQ (y := sub [1, 1, 1] B33) rfl ?_
  refine C.seq (x := sub [1, 1, 1, 0] B33) (y := sub [1, 1, 1, 1] B33) ?_
  refine C.region (id := 9) (m := 1) (ops := opsOf (sub [1, 1, 1, 0] B33)) rfl ?_
  refine W.pure rfl (wo rfl) rfl rfl (p_assign rfl rfl) (nf rfl) ?_
  refine W.doneQ (y := sub [1, 1, 1, 1] B33) rfl ?_
  exact C.ret (R := fun e w' => e = .returned (.int .i64 0) ∧ Cls w0 I (dkH b m v cur { s with fuse := IntKind.i64.wrap (s.fuse - 1) }) w') (rs := [.tmp 2]) (vs := [.int .i64 0]) rfl Try.func33 rfl rfl rfl (res_cons (ResV.tmp rfl) res_nil) fun w1 hc1 => ⟨rfl, hc1⟩

def stepK (s : Dk) : Int × Dk := if s.dead = true then (14, s) else if s.armed = false then (0, s) else if s.fuse = 0 then (17, { s with dead := true }) else (0, { s with fuse := IntKind.i64.wrap (s.fuse - 1) })
theorem step_ok {w0 w : World} {I : Mem} {b m : Nat} {v : Value} {cur : Array Value} {s : Dk} (hc : Cls w0 I (dkH b m v cur s) w) : Calls Try.prog 33 #[ptr b 0] w fun e w' => e = .returned (.int .i64 (stepK s).1) ∧ Cls w0 I (dkH b m v cur (stepK s).2) w' := by
  unfold stepK
  by_cases h : s.dead = true
  · rw [if_pos h]; exact step_1 hc h
  · have h' : s.dead = false := by simpa using h
    rw [if_neg h]
    by_cases h2 : s.armed = false
    · rw [if_pos h2]; exact step_2 hc h' h2
    · have h2' : s.armed = true := by simpa using h2
      rw [if_neg h2]
      by_cases h3 : s.fuse = 0
      · rw [if_pos h3]; exact step_3 hc h' h2' h3
      · rw [if_neg h3]; exact step_4 hc h' h2' h3

end Go.Proofs.Ytjomnicfcdkfdaa
end

section
namespace Go.Proofs.Ytjomnicfcdkfdaa
open Go Go.HW Go.RowKit
set_option linter.unusedVariables false
set_option linter.unusedSimpArgs false

theorem pI {P : Program} {o : Oper} {S : Slots} {k : IntKind} {a b : Int} (h : a = b) (hp : FPure P o S (.int k a)) : FPure P o S (.int k b) := by rw [← h]; exact hp
theorem wk {k : Nat} (h : k < 1099511627776) : IntKind.i64.wrap ((k : Int) + 1) = ((k + 1 : Nat) : Int) := by rw [w64 (by omega) (by omega)]; omega

noncomputable def B13 : Code := bodyOf Try.f13
theorem en13 (args : Array Value) (w : World) : (callFunc 13 args).run Try.prog w = .ok (.enter 13 args) w := by kernel_rfl

theorem setfuse_1 {w0 w : World} {I : Mem} {b m : Nat} {v : Value} {cur : Array Value} {s : Dk} (hc : Cls w0 I (dkH b m v cur s) w) (ho : DkO v cur s) (n : Int) (h : n < 0) : Calls Try.prog 13 #[ptr b 0, .int .i64 n] w fun e w' => e = .returned (.int .i64 2) ∧ Cls w0 I (dkH b m v cur s) w' := by
  refine calls_of_CW (N := 19) Try.func13 (show _ = some B13 by kernel_rfl) (by kernel_rfl) rfl (S := [(0, ptr b 0), (1, .int .i64 n)]) (by simp) hc ?_
  show CW _ _ _ (sub [] B13) _ _ _
  refine C.seq (x := sub [0] B13) (y := sub [1] B13) ?_
  refine C.region (id := 0) (m := 1) (ops := opsOf (sub [0] B13)) rfl ?_
  refine W.pure rfl (wo rfl) rfl rfl (p_assign rfl rfl) (nf rfl) ?_
  refine W.doneQ (y := sub [1] B13) rfl ?_
  refine C.seq (x := sub [1, 0] B13) (y := sub [1, 1] B13) ?_
  refine C.block (id := 0) (c := sub [1, 0, 0] B13) ?_
  refine C.seq (x := sub [1, 0, 0, 0] B13) (y := sub [1, 0, 0, 1] B13) ?_
  refine C.region (id := 1) (m := 4) (ops := opsOf (sub [1, 0, 0, 0] B13)) rfl ?_
  refine W.pure rfl (wo rfl) rfl rfl (p_move rfl rfl) (nf rfl) ?_
  refine W.quiet rfl (wo rfl) rfl rfl (f_callR rfl rfl (args_val (vs := [ptr b 0]) rfl) (en32 _) (fun w2 hc2 => there_ok (M := heapOf w2) (fun _ _ e => e) (ho.M (b := b) (m := m) hc2 (fun p hp => by first | exact hp | exact List.mem_cons_of_mem _ hp | exact List.mem_cons_of_mem _ (List.mem_cons_of_mem _ hp) | exact List.mem_append_left _ hp)))) (nf rfl) ?_
  refine W.pure rfl (wo rfl) rfl rfl (p_not rfl rfl) (nf rfl) ?_
  refine W.pure rfl (wo rfl) rfl rfl (p_assign rfl rfl) (nf rfl) ?_
  refine W.doneQ (y := sub [1, 0, 0, 1] B13) rfl ?_
  refine C.cond_false (x := sub [1, 0, 0, 1, 0] B13) (y := sub [1, 0, 0, 1, 1] B13) rfl rfl ?_
  refine C.seq (x := sub [1, 0, 0, 1, 1, 0] B13) (y := sub [1, 0, 0, 1, 1, 1] B13) ?_
  refine C.region (id := 3) (m := 3) (ops := opsOf (sub [1, 0, 0, 1, 1, 0] B13)) rfl ?_
  refine W.pure rfl (wo rfl) rfl rfl (p_move rfl rfl) (nf rfl) ?_
  refine W.pure rfl (wo rfl) rfl rfl (pT (decide_eq_true h) (p_lss rfl rfl rfl)) (nf rfl) ?_
  refine W.pure rfl (wo rfl) rfl rfl (p_assign rfl rfl) (nf rfl) ?_
  refine W.doneQ (y := sub [1, 0, 0, 1, 1, 1] B13) rfl ?_
  refine C.cond_true (x := sub [1, 0, 0, 1, 1, 1, 0] B13) (y := sub [1, 0, 0, 1, 1, 1, 1] B13) rfl rfl ?_
  refine C.seq (x := sub [1, 0, 0, 1, 1, 1, 0, 0] B13) (y := sub [1, 0, 0, 1, 1, 1, 0, 1] B13) ?_
  refine C.region (id := 4) (m := 1) (ops := opsOf (sub [1, 0, 0, 1, 1, 1, 0, 0] B13)) rfl ?_
  refine W.pure rfl (wo rfl) rfl rfl (p_assign rfl rfl) (nf rfl) ?_
  refine W.doneQ (y := sub [1, 0, 0, 1, 1, 1, 0, 1] B13) rfl ?_
  exact C.ret (R := fun e w' => e = .returned (.int .i64 2) ∧ Cls w0 I (dkH b m v cur s) w') (rs := [.tmp 4]) (vs := [.int .i64 2]) rfl Try.func13 rfl rfl rfl (res_cons (ResV.tmp rfl) res_nil) fun w1 hc1 => ⟨rfl, hc1⟩

theorem setfuse_2 {w0 w : World} {I : Mem} {b m : Nat} {v : Value} {cur : Array Value} {s : Dk} (hc : Cls w0 I (dkH b m v cur s) w) (ho : DkO v cur s) (n : Int) (h : ¬ n < 0) : Calls Try.prog 13 #[ptr b 0, .int .i64 n] w fun e w' => e = .returned (.int .i64 0) ∧ Cls w0 I (dkH b m v cur { s with fuse := n, armed := true }) w' := by
  refine calls_of_CW (N := 19) Try.func13 (show _ = some B13 by kernel_rfl) (by kernel_rfl) rfl (S := [(0, ptr b 0), (1, .int .i64 n)]) (by simp) hc ?_
  show CW _ _ _ (sub [] B13) _ _ _
  refine C.seq (x := sub [0] B13) (y := sub [1] B13) ?_
  refine C.region (id := 0) (m := 1) (ops := opsOf (sub [0] B13)) rfl ?_
  refine W.pure rfl (wo rfl) rfl rfl (p_assign rfl rfl) (nf rfl) ?_
  refine W.doneQ (y := sub [1] B13) rfl ?_
  refine C.seq (x := sub [1, 0] B13) (y := sub [1, 1] B13) ?_
  refine C.block (id := 0) (c := sub [1, 0, 0] B13) ?_
  refine C.seq (x := sub [1, 0, 0, 0] B13) (y := sub [1, 0, 0, 1] B13) ?_
  refine C.region (id := 1) (m := 4) (ops := opsOf (sub [1, 0, 0, 0] B13)) rfl ?_
  refine W.pure rfl (wo rfl) rfl rfl (p_move rfl rfl) (nf rfl) ?_
  refine W.quiet rfl (wo rfl) rfl rfl (f_callR rfl rfl (args_val (vs := [ptr b 0]) rfl) (en32 _) (fun w2 hc2 => there_ok (M := heapOf w2) (fun _ _ e => e) (ho.M (b := b) (m := m) hc2 (fun p hp => by first | exact hp | exact List.mem_cons_of_mem _ hp | exact List.mem_cons_of_mem _ (List.mem_cons_of_mem _ hp) | exact List.mem_append_left _ hp)))) (nf rfl) ?_
  refine W.pure rfl (wo rfl) rfl rfl (p_not rfl rfl) (nf rfl) ?_
  refine W.pure rfl (wo rfl) rfl rfl (p_assign rfl rfl) (nf rfl) ?_
  refine W.doneQ (y := sub [1, 0, 0, 1] B13) rfl ?_
  refine C.cond_false (x := sub [1, 0, 0, 1, 0] B13) (y := sub [1, 0, 0, 1, 1] B13) rfl rfl ?_
  refine C.seq (x := sub [1, 0, 0, 1, 1, 0] B13) (y := sub [1, 0, 0, 1, 1, 1] B13) ?_
  refine C.region (id := 3) (m := 3) (ops := opsOf (sub [1, 0, 0, 1, 1, 0] B13)) rfl ?_
  refine W.pure rfl (wo rfl) rfl rfl (p_move rfl rfl) (nf rfl) ?_
  refine W.pure rfl (wo rfl) rfl rfl (pF (decide_eq_false h) (p_lss rfl rfl rfl)) (nf rfl) ?_
  refine W.pure rfl (wo rfl) rfl rfl (p_assign rfl rfl) (nf rfl) ?_
  refine W.doneQ (y := sub [1, 0, 0, 1, 1, 1] B13) rfl ?_
  refine C.cond_false (x := sub [1, 0, 0, 1, 1, 1, 0] B13) (y := sub [1, 0, 0, 1, 1, 1, 1] B13) rfl rfl ?_
  refine C.skipQ (y := sub [1, 1] B13) rfl ?_
  refine C.seq (x := sub [1, 1, 0] B13) (y := sub [1, 1, 1] B13) ?_
  refine C.region (id := 5) (m := 9) (ops := opsOf (sub [1, 1, 0] B13)) rfl ?_
  refine W.pure rfl (wo rfl) rfl rfl (p_move rfl rfl) (nf rfl) ?_
  refine W.pure rfl (wo rfl) rfl rfl (p_move rfl rfl) (nf rfl) ?_
  refine W.pure rfl (wo rfl) rfl rfl (p_move rfl rfl) (nf rfl) ?_
  refine W.pure rfl (wo rfl) rfl rfl (p_nilCheck rfl rfl) (nf rfl) ?_
  refine W.pure rfl (wo rfl) rfl rfl (p_fieldAddr tf61_3 rfl rfl) (nf rfl) ?_
  refine W.put (H' := dkH b m v cur ⟨s.n, s.set, s.late, n, s.armed, s.dead⟩) rfl (wo rfl) rfl (f_stDk (s := ⟨s.n, s.set, s.late, s.fuse, s.armed, s.dead⟩) (s2 := ⟨s.n, s.set, s.late, n, s.armed, s.dead⟩) (k := 3) (u := .int .i64 (n)) (j := 0) ts3 rfl trivial rfl (by decide) rfl rfl rfl) (nf rfl) ?_
  refine W.pure rfl (wo rfl) rfl rfl (p_nilCheck rfl rfl) (nf rfl) ?_
  refine W.pure rfl (wo rfl) rfl rfl (p_fieldAddr tf61_4 rfl rfl) (nf rfl) ?_
  refine W.put (H' := dkH b m v cur ⟨s.n, s.set, s.late, n, true, s.dead⟩) rfl (wo rfl) rfl (f_stDk (s := ⟨s.n, s.set, s.late, n, s.armed, s.dead⟩) (s2 := ⟨s.n, s.set, s.late, n, true, s.dead⟩) (k := 4) (u := .bool (true)) (j := 0) ts4 rfl trivial rfl (by decide) rfl rfl rfl) (nf rfl) ?_
  refine W.doneQ (y := sub [1, 1, 1] B13) rfl ?_
  refine C.seq (x := sub [1, 1, 1, 0] B13) (y := sub [1, 1, 1, 1] B13) ?_
  refine C.region (id := 6) (m := 1) (ops := opsOf (sub [1, 1, 1, 0] B13)) rfl ?_
  refine W.pure rfl (wo rfl) rfl rfl (p_assign rfl rfl) (nf rfl) ?_
  refine W.doneQ (y := sub [1, 1, 1, 1] B13) rfl ?_
  exact C.ret (R := fun e w' => e = .returned (.int .i64 0) ∧ Cls w0 I (dkH b m v cur { s with fuse := n, armed := true }) w') (rs := [.tmp 4]) (vs := [.int .i64 0]) rfl Try.func13 rfl rfl rfl (res_cons (ResV.tmp rfl) res_nil) fun w1 hc1 => ⟨rfl, hc1⟩

def setFuseK (s : Dk) (n : Int) : Int × Dk := if n < 0 then (2, s) else (0, { s with fuse := n, armed := true })
theorem setfuse_ok {w0 w : World} {I : Mem} {b m : Nat} {v : Value} {cur : Array Value} {s : Dk} (hc : Cls w0 I (dkH b m v cur s) w) (ho : DkO v cur s) (n : Int) : Calls Try.prog 13 #[ptr b 0, .int .i64 n] w fun e w' => e = .returned (.int .i64 (setFuseK s n).1) ∧ Cls w0 I (dkH b m v cur (setFuseK s n).2) w' := by
  unfold setFuseK
  by_cases h : n < 0
  · rw [if_pos h]; exact setfuse_1 hc ho n h
  · rw [if_neg h]; exact setfuse_2 hc ho n h

noncomputable def B14 : Code := bodyOf Try.f14
theorem en14 (args : Array Value) (w : World) : (callFunc 14 args).run Try.prog w = .ok (.enter 14 args) w := by kernel_rfl

def setK (s : Dk) (k : Nat) : List Wr := (s.late.take k).foldl (fun l w => mput l w.1 w.2) s.set
theorem setK_succ {s : Dk} {k : Nat} {x : Wr} (h : s.late[k]? = some x) : mput (setK s k) x.1 x.2 = setK s (k + 1) := by
  unfold setK
  rw [List.take_add_one, h, List.foldl_append]; rfl
theorem late_len {v : Value} {cur : Array Value} {s : Dk} (ho : DkO v cur s) {k : Nat} {x : Wr} (h : s.late[k]? = some x) : x.2.length = 512 := by
  obtain ⟨cs, _, h2⟩ := ho.hr
  exact (h2 k x h).2
theorem setK_full {v : Value} {cur : Array Value} {s : Dk} (ho : DkO v cur s) : ∀ k, Full (setK s k)
  | 0 => ho.hs
  | k + 1 => by
    cases h : s.late[k]? with
    | none =>
      have e : setK s (k + 1) = setK s k := by unfold setK; rw [List.take_add_one, h]; simp
      rw [e]; exact setK_full ho k
    | some x =>
      rw [← setK_succ h]
      exact mput_full (setK_full ho k) (late_len ho h)
theorem sync_1 {w0 w : World} {I : Mem} {b m : Nat} {v : Value} {cur : Array Value} {s : Dk} (hc : Cls w0 I (dkH b m v cur s) w) (ho : DkO v cur s) (h : ¬ (stepK s).1 = 0) : Calls Try.prog 14 #[ptr b 0] w fun e w' => e = .returned (.int .i64 (stepK s).1) ∧ Cls w0 I (dkH b m v cur (stepK s).2) w' := by
  refine calls_of_CW (N := 35) Try.func14 (show _ = some B14 by kernel_rfl) (by kernel_rfl) rfl (S := [(0, ptr b 0)]) (by simp) hc ?_
  show CW _ _ _ (sub [] B14) _ _ _
  refine C.seq (x := sub [0] B14) (y := sub [1] B14) ?_
  refine C.region (id := 0) (m := 1) (ops := opsOf (sub [0] B14)) rfl ?_
  refine W.pure rfl (wo rfl) rfl rfl (p_assign rfl rfl) (nf rfl) ?_
  refine W.doneQ (y := sub [1] B14) rfl ?_
  refine C.seq (x := sub [1, 0] B14) (y := sub [1, 1] B14) ?_
  refine C.seq (x := sub [1, 0, 0] B14) (y := sub [1, 0, 1] B14) ?_
  refine C.region (id := 1) (m := 3) (ops := opsOf (sub [1, 0, 0] B14)) rfl ?_
  refine W.pure rfl (wo rfl) rfl rfl (p_move rfl rfl) (nf rfl) ?_
  refine W.quiet rfl (wo rfl) rfl rfl (f_callR rfl rfl (args_val (vs := [ptr b 0]) rfl) (en32 _) (fun w2 hc2 => there_ok (M := heapOf w2) (fun _ _ e => e) (ho.M (b := b) (m := m) hc2 (fun p hp => by first | exact hp | exact List.mem_cons_of_mem _ hp | exact List.mem_cons_of_mem _ (List.mem_cons_of_mem _ hp) | exact List.mem_append_left _ hp)))) (nf rfl) ?_
  refine W.pure rfl (wo rfl) rfl rfl (p_not rfl rfl) (nf rfl) ?_
  refine W.doneQ (y := sub [1, 0, 1] B14) rfl ?_
  refine C.cond_false (x := sub [1, 0, 1, 0] B14) (y := sub [1, 0, 1, 1] B14) rfl rfl ?_
  refine C.skipQ (y := sub [1, 1] B14) rfl ?_
  refine C.seq (x := sub [1, 1, 0] B14) (y := sub [1, 1, 1] B14) ?_
  refine C.region (id := 3) (m := 3) (ops := opsOf (sub [1, 1, 0] B14)) rfl ?_
  refine W.pure rfl (wo rfl) rfl rfl (p_move rfl rfl) (nf rfl) ?_
  refine W.callX (X := Unit) (u := fun _ => .int .i64 (stepK s).1) (H' := fun _ => dkH b m v cur (stepK s).2) rfl (wo rfl) rfl rfl rfl rfl rfl (args_val (vs := [ptr b 0]) rfl) (en33 _) (fun w2 hc2 => (step_ok hc2).mono fun e w3 ⟨h1, h2⟩ => ⟨(), h1, h2⟩) ?_
  intro _
  refine W.pure rfl (wo rfl) rfl rfl (p_assign rfl rfl) (nf rfl) ?_
  refine W.doneQ (y := sub [1, 1, 1] B14) rfl ?_
  refine C.seq (x := sub [1, 1, 1, 0] B14) (y := sub [1, 1, 1, 1] B14) ?_
  refine C.seq (x := sub [1, 1, 1, 0, 0] B14) (y := sub [1, 1, 1, 0, 1] B14) ?_
  refine C.region (id := 4) (m := 2) (ops := opsOf (sub [1, 1, 1, 0, 0] B14)) rfl ?_
  refine W.pure rfl (wo rfl) rfl rfl (p_move rfl rfl) (nf rfl) ?_
  refine W.pure rfl (wo rfl) rfl rfl (pF (by simpa using h) (p_eql rfl rfl rfl)) (nf rfl) ?_
  refine W.doneQ (y := sub [1, 1, 1, 0, 1] B14) rfl ?_
  refine C.cond_false (x := sub [1, 1, 1, 0, 1, 0] B14) (y := sub [1, 1, 1, 0, 1, 1] B14) rfl rfl ?_
  refine C.skipQ (y := sub [1, 1, 1, 1] B14) rfl ?_
  refine C.seq (x := sub [1, 1, 1, 1, 0] B14) (y := sub [1, 1, 1, 1, 1] B14) ?_
  refine C.region (id := 11) (m := 2) (ops := opsOf (sub [1, 1, 1, 1, 0] B14)) rfl ?_
  refine W.pure rfl (wo rfl) rfl rfl (p_move rfl rfl) (nf rfl) ?_
  refine W.pure rfl (wo rfl) rfl rfl (p_assign rfl rfl) (nf rfl) ?_
  refine W.doneQ (y := sub [1, 1, 1, 1, 1] B14) rfl ?_
  exact C.ret (R := fun e w' => e = .returned (.int .i64 (stepK s).1) ∧ Cls w0 I (dkH b m v cur (stepK s).2) w') (rs := [.tmp 2]) (vs := [.int .i64 (stepK s).1]) rfl Try.func14 rfl rfl rfl (res_cons (ResV.tmp rfl) res_nil) fun w1 hc1 => ⟨rfl, hc1⟩

end Go.Proofs.Ytjomnicfcdkfdaa
end

section
namespace Go.Proofs.Ytjomnicfcdkfdaa
open Go Go.HW Go.RowKit
set_option linter.unusedVariables false
set_option linter.unusedSimpArgs false

theorem f_stDkL {o : Oper} {S : Slots} {w0 : World} {I : Mem} {H : Heap} {t : TypeId} {x y : Operand} {b m j : Nat} {v u : Value} {s s2 : Dk} (hs : ∀ w, (sizeOf t).run Try.prog w = .ok 1 w) (hn : u.cells = #[u]) (h1 : OneCell u) (hH : H[j]? = some (dk1 b m v s))
    (ho : o.op = .store t x y) (hx : ev S x = some (ptr b 2)) (hy : ev S y = some u) (he : (some b, Obj.cells ((#[.int .i64 s.n, .map (some m), v, .int .i64 s.fuse, .bool s.armed, .bool s.dead] : Array Value).setIfInBounds 2 u) 61 (0, 0)) = dk1 b m u s2 := by rfl) : FPut Try.prog o w0 I S H (H.set j (dk1 b m u s2)) := by
  rw [← he]
  exact f_store hs hH hn (show 2 < 6 by decide) h1 ho hx hy
theorem cls_drop {w0 w : World} {I : Mem} {a c : Option Nat × Obj} {p : Option Nat × Obj} (hc : Cls w0 I [a, c, p] w) : Cls w0 I [a, c, (none, .cells #[] 64 (0, 0))] w := by
  have h1 : Cls w0 I [a, c] w := hc.fewer (by simp)
  exact ((h1.nothing (.cells #[] 64 (0, 0))).perm (List.perm_append_comm (l₁ := [(none, Obj.cells #[] 64 (0, 0))]) (l₂ := [a, c])))

theorem sync_2 {s1 : Dk} (hl : s1.late.length ≤ 1099511627775) {w0 w : World} {I : Mem} {b m : Nat} {v : Value} {cur : Array Value} {s : Dk} (hc : Cls w0 I (dkH b m v cur s) w) (ho : DkO v cur s) (ho1 : DkO v cur s1) (hstep : ∀ w2, Cls w0 I (dkH b m v cur s) w2 → Calls Try.prog 33 #[ptr b 0] w2 fun e w' => e = .returned (.int .i64 0) ∧ Cls w0 I (dkH b m v cur s1) w') : Calls Try.prog 14 #[ptr b 0] w (fun e w' => e = .returned (.int .i64 0) ∧ Cls w0 I (dkH b m (.slice none 0 0) #[] { s1 with set := setK s1 s1.late.length, late := [] }) w') := by
  obtain ⟨cs, hcs, hch⟩ := id ho1.hr
  refine calls_of_CW (N := 35) Try.func14 (show _ = some B14 by kernel_rfl) (by kernel_rfl) rfl (S := [(0, ptr b 0)]) (by simp) hc ?_
  show CW _ _ _ (sub [] B14) _ _ _
  refine C.seq (x := sub [0] B14) (y := sub [1] B14) ?_
  refine C.region (id := 0) (m := 1) (ops := opsOf (sub [0] B14)) rfl ?_
  refine W.pure rfl (wo rfl) rfl rfl (p_assign rfl rfl) (nf rfl) ?_
  refine W.doneQ (y := sub [1] B14) rfl ?_
  refine C.seq (x := sub [1, 0] B14) (y := sub [1, 1] B14) ?_
  refine C.seq (x := sub [1, 0, 0] B14) (y := sub [1, 0, 1] B14) ?_
  refine C.region (id := 1) (m := 3) (ops := opsOf (sub [1, 0, 0] B14)) rfl ?_
  refine W.pure rfl (wo rfl) rfl rfl (p_move rfl rfl) (nf rfl) ?_
  refine W.quiet rfl (wo rfl) rfl rfl (f_callR rfl rfl (args_val (vs := [ptr b 0]) rfl) (en32 _) (fun w2 hc2 => there_ok (M := heapOf w2) (fun _ _ e => e) (ho.M (b := b) (m := m) hc2 (fun p hp => by first | exact hp | exact List.mem_cons_of_mem _ hp | exact List.mem_cons_of_mem _ (List.mem_cons_of_mem _ hp) | exact List.mem_append_left _ hp)))) (nf rfl) ?_
  refine W.pure rfl (wo rfl) rfl rfl (p_not rfl rfl) (nf rfl) ?_
  refine W.doneQ (y := sub [1, 0, 1] B14) rfl ?_
  refine C.cond_false (x := sub [1, 0, 1, 0] B14) (y := sub [1, 0, 1, 1] B14) rfl rfl ?_
  refine C.skipQ (y := sub [1, 1] B14) rfl ?_
  refine C.seq (x := sub [1, 1, 0] B14) (y := sub [1, 1, 1] B14) ?_
  refine C.region (id := 3) (m := 3) (ops := opsOf (sub [1, 1, 0] B14)) rfl ?_
  refine W.pure rfl (wo rfl) rfl rfl (p_move rfl rfl) (nf rfl) ?_
  refine W.callX (X := Unit) (u := fun _ => .int .i64 0) (H' := fun _ => dkH b m v cur s1) rfl (wo rfl) rfl rfl rfl rfl rfl (args_val (vs := [ptr b 0]) rfl) (en33 _) (fun w2 hc2 => (hstep w2 hc2).mono fun e w3 ⟨h1, h2⟩ => ⟨(), h1, h2⟩) ?_
  intro _
  refine W.pure rfl (wo rfl) rfl rfl (p_assign rfl rfl) (nf rfl) ?_
  refine W.doneQ (y := sub [1, 1, 1] B14) rfl ?_
  refine C.seq (x := sub [1, 1, 1, 0] B14) (y := sub [1, 1, 1, 1] B14) ?_
  refine C.seq (x := sub [1, 1, 1, 0, 0] B14) (y := sub [1, 1, 1, 0, 1] B14) ?_
  refine C.region (id := 4) (m := 2) (ops := opsOf (sub [1, 1, 1, 0, 0] B14)) rfl ?_
  refine W.pure rfl (wo rfl) rfl rfl (p_move rfl rfl) (nf rfl) ?_
  refine W.pure rfl (wo rfl) rfl rfl (pT (beq_self_eq_true _) (p_eql rfl rfl rfl)) (nf rfl) ?_
  refine W.doneQ (y := sub [1, 1, 1, 0, 1] B14) rfl ?_
  refine C.cond_true (x := sub [1, 1, 1, 0, 1, 0] B14) (y := sub [1, 1, 1, 0, 1, 1] B14) rfl rfl ?_
  refine C.seq (x := sub [1, 1, 1, 0, 1, 0, 0] B14) (y := sub [1, 1, 1, 0, 1, 0, 1] B14) ?_
  refine C.seq (x := sub [1, 1, 1, 0, 1, 0, 0, 0] B14) (y := sub [1, 1, 1, 0, 1, 0, 0, 1] B14) ?_
  refine C.region (id := 5) (m := 6) (ops := opsOf (sub [1, 1, 1, 0, 1, 0, 0, 0] B14)) rfl ?_
  refine W.pure rfl (wo rfl) rfl rfl (p_move rfl rfl) (nf rfl) ?_
  refine W.pure rfl (wo rfl) rfl rfl (p_nilCheck rfl rfl) (nf rfl) ?_
  refine W.pure rfl (wo rfl) rfl rfl (p_fieldAddr tf61_2 rfl rfl) (nf rfl) ?_
  refine W.quiet rfl (wo rfl) rfl rfl (f_load (j := 0) ta59 rfl (off := 2) rfl rfl rfl) (nf rfl) ?_
  refine W.pure rfl (wo rfl) rfl rfl (p_slLen tu59 hcs.sl rfl rfl) (nf rfl) ?_
  refine W.pure rfl (wo rfl) rfl rfl (p_move rfl rfl) (nf rfl) ?_
  refine W.doneQ (y := sub [1, 1, 1, 0, 1, 0, 0, 1] B14) rfl ?_
  refine C.loopB (id := 0) (c := sub [1, 1, 1, 0, 1, 0, 0, 1, 0, 0] B14) (y := sub [1, 1, 1, 0, 1, 0, 1] B14) (fun k : Nat => s1.late.length - k) (fun k => [(0, ptr b 0), (3, .int .i64 0), (16, v), (17, .int .i64 (s1.late.length : Int)), (18, .int .i64 (k : Int))]) (fun k => dkH b m v cur { s1 with set := setK s1 k }) (fun k => k ≤ s1.late.length) 0 (Nat.zero_le _) (Sub.cons rfl (Sub.cons rfl (Sub.cons rfl (Sub.cons rfl (Sub.cons rfl (Sub.nil _)))))) rfl rfl (fun k => k = s1.late.length) ?_ ?_
  · intro k hk Q' hN hE hR
    by_cases hlt : k < s1.late.length
    · obtain ⟨x, hx⟩ : ∃ x, s1.late[k]? = some x := ⟨_, List.getElem?_eq_getElem hlt⟩
      have hx2 := late_len ho1 hx
      refine C.seq (x := sub [1, 1, 1, 0, 1, 0, 0, 1, 0, 0, 0] B14) (y := sub [1, 1, 1, 0, 1, 0, 0, 1, 0, 0, 1] B14) ?_
      refine C.region (id := 6) (m := 1) (ops := opsOf (sub [1, 1, 1, 0, 1, 0, 0, 1, 0, 0, 0] B14)) rfl ?_
      refine W.pure rfl (wo rfl) rfl rfl (pT (decide_eq_true (by exact_mod_cast hlt)) (p_lss rfl rfl rfl)) (nf rfl) ?_
      refine W.doneQ (y := sub [1, 1, 1, 0, 1, 0, 0, 1, 0, 0, 1] B14) rfl ?_
      refine C.seq (x := sub [1, 1, 1, 0, 1, 0, 0, 1, 0, 0, 1, 0] B14) (y := sub [1, 1, 1, 0, 1, 0, 0, 1, 0, 0, 1, 1] B14) ?_
      refine C.cond_true (x := sub [1, 1, 1, 0, 1, 0, 0, 1, 0, 0, 1, 0, 0] B14) (y := sub [1, 1, 1, 0, 1, 0, 0, 1, 0, 0, 1, 0, 1] B14) rfl rfl ?_
      refine C.skipQ (y := sub [1, 1, 1, 0, 1, 0, 0, 1, 0, 0, 1, 1] B14) rfl ?_
      refine C.seq (x := sub [1, 1, 1, 0, 1, 0, 0, 1, 0, 0, 1, 1, 0] B14) (y := sub [1, 1, 1, 0, 1, 0, 0, 1, 0, 0, 1, 1, 1] B14) ?_
      refine C.block (id := 1) (c := sub [1, 1, 1, 0, 1, 0, 0, 1, 0, 0, 1, 1, 0, 0] B14) ?_
      refine C.seq (x := sub [1, 1, 1, 0, 1, 0, 0, 1, 0, 0, 1, 1, 0, 0, 0] B14) (y := sub [1, 1, 1, 0, 1, 0, 0, 1, 0, 0, 1, 1, 0, 0, 1] B14) ?_
      refine C.region (id := 7) (m := 4) (ops := opsOf (sub [1, 1, 1, 0, 1, 0, 0, 1, 0, 0, 1, 1, 0, 0, 0] B14)) rfl ?_
      refine W.pure rfl (wo rfl) rfl rfl (p_slIx tu59 ts64 (OwnV.some hcs (Int.natCast_nonneg k) (by exact_mod_cast hlt)) (Int.natCast_nonneg k) (by exact_mod_cast hlt) rfl rfl rfl) (nf rfl) ?_
      refine W.quiet rfl (wo rfl) rfl rfl (f_loadElA (j := 2) rfl hcs (hch k x hx).1 hlt ta64 ts64 rfl rfl) (nf rfl) ?_
      refine W.new rfl (wo rfl) rfl rfl (f_alloc tz64 rfl) (nf rfl) ?_
      intro b5 hb5
      refine W.put (H' := (some b5, .cells (wrc x) 64 (0, 0)) :: dkH b m v cur { s1 with set := setK s1 k }) rfl (wo rfl) rfl (f_storeA (j := 0) (c2 := wrc x) ts64 rfl (wrc_size hx2) (wrc_size List.length_replicate) wrc_one rfl rfl rfl) (nf rfl) ?_
      refine W.doneQ (y := sub [1, 1, 1, 0, 1, 0, 0, 1, 0, 0, 1, 1, 0, 0, 1] B14) rfl ?_
      refine C.regionD (id := 8) (ops := opsOf (sub [1, 1, 1, 0, 1, 0, 0, 1, 0, 0, 1, 1, 0, 0, 1] B14)) [0, 1, 2, 3, 4, 5, 6, 7, 8] [0, 1, 3, 7, 0, 16, 0, 64, 255] [(.pure, none), (.pure, none), (.pure, none), (.quiet, none), (.pure, none), (.quiet, none), (.pure, none), (.quiet, none), (.store, none)] (by kernel_rfl) ?_
      intro wD8 hl8
      refine DW.pure rfl rfl rfl rfl rfl (p_move rfl rfl) ?_
      refine DW.pure rfl rfl rfl rfl rfl (p_nilCheck rfl rfl) ?_
      refine DW.pure rfl rfl rfl rfl rfl (p_fieldAddr tf61_1 rfl rfl) ?_
      refine DW.quiet rfl rfl rfl rfl rfl (f_load (j := 1) ta58 rfl (off := 1) rfl rfl rfl) ?_
      refine DW.pure rfl rfl rfl rfl rfl (p_fieldAddr tf64_0 rfl rfl) ?_
      refine DW.quiet rfl rfl rfl rfl rfl (f_load (j := 0) ta3 rfl (off := 0) (wrc_0 x) rfl rfl) ?_
      refine DW.pure rfl rfl rfl rfl rfl (p_fieldAddr tf64_1 rfl rfl) ?_
      refine DW.quiet rfl rfl rfl rfl rfl (f_loadSubA (j := 0) (off := 1) (vs := encl .u8 x.2) ta62 ts62 rfl (by simp [encl, hx2]) (wrc_drop hx2) rfl rfl) ?_
      refine DW.put (H' := (some b5, .cells (wrc x) 64 (0, 0)) :: dkH b m v cur { s1 with set := mput (setK s1 k) x.1 x.2 }) rfl rfl rfl rfl rfl (f_mput (j := 2) tu58 tu3 rfl rfl rfl rfl rfl) ?_
      refine DW.doneQ (y := sub [1, 1, 1, 0, 1, 0, 0, 1, 0, 0, 1, 1, 1] B14) hl8 rfl ?_
      refine C.region (id := 9) (m := 2) (ops := opsOf (sub [1, 1, 1, 0, 1, 0, 0, 1, 0, 0, 1, 1, 1] B14)) rfl ?_
      refine W.pure rfl (wo rfl) rfl rfl (pI (wk (by omega)) (p_add rfl rfl rfl)) (nf rfl) ?_
      refine W.pure rfl (wo rfl) rfl rfl (p_move rfl rfl) (nf rfl) ?_
      refine W.end' fun a1 w1 ha1 hc1 => hN (k + 1) (by omega) (by omega) a1 w1 (ha1.sub (Sub.cons rfl (Sub.cons rfl (Sub.cons rfl (Sub.cons rfl (Sub.cons rfl (Sub.nil _))))))) ?_
      rw [← setK_succ hx]; exact hc1.fewer (List.sublist_cons_self _ _)
    · refine C.seq (x := sub [1, 1, 1, 0, 1, 0, 0, 1, 0, 0, 0] B14) (y := sub [1, 1, 1, 0, 1, 0, 0, 1, 0, 0, 1] B14) ?_
      refine C.region (id := 6) (m := 1) (ops := opsOf (sub [1, 1, 1, 0, 1, 0, 0, 1, 0, 0, 0] B14)) rfl ?_
      refine W.pure rfl (wo rfl) rfl rfl (pF (decide_eq_false (by omega)) (p_lss rfl rfl rfl)) (nf rfl) ?_
      refine W.doneQ (y := sub [1, 1, 1, 0, 1, 0, 0, 1, 0, 0, 1] B14) rfl ?_
      refine C.seq (x := sub [1, 1, 1, 0, 1, 0, 0, 1, 0, 0, 1, 0] B14) (y := sub [1, 1, 1, 0, 1, 0, 0, 1, 0, 0, 1, 1] B14) ?_
      refine C.cond_false (x := sub [1, 1, 1, 0, 1, 0, 0, 1, 0, 0, 1, 0, 0] B14) (y := sub [1, 1, 1, 0, 1, 0, 0, 1, 0, 0, 1, 0, 1] B14) rfl rfl ?_
      exact C.exit fun a1 w1 ha1 hc1 => hE (by omega) a1 w1 (ha1.sub (Sub.cons rfl (Sub.cons rfl (Sub.cons rfl (Sub.cons rfl (Sub.cons rfl (Sub.nil _))))))) hc1
  intro k hk hke
  subst hke
  refine C.region (id := 10) (m := 4) (ops := opsOf (sub [1, 1, 1, 0, 1, 0, 1] B14)) rfl ?_
  refine W.pure rfl (wo rfl) rfl rfl (p_move rfl rfl) (nf rfl) ?_
  refine W.pure rfl (wo rfl) rfl rfl (p_nilCheck rfl rfl) (nf rfl) ?_
  refine W.pure rfl (wo rfl) rfl rfl (p_fieldAddr tf61_2 rfl rfl) (nf rfl) ?_
  refine W.put (H' := [dk1 b m (.slice none 0 0) { s1 with set := setK s1 s1.late.length, late := [] }, (some m, dmap (setK s1 s1.late.length)), (v.ownBlock, .cells cur 64 (0, 0))]) rfl (wo rfl) rfl (f_stDkL (s := { s1 with set := setK s1 s1.late.length }) (s2 := { s1 with set := setK s1 s1.late.length, late := [] }) (j := 0) ts59 rfl trivial rfl rfl rfl rfl) (nf rfl) ?_
  refine W.doneQ (y := sub [1, 1, 1, 1] B14) rfl ?_
  refine C.seq (x := sub [1, 1, 1, 1, 0] B14) (y := sub [1, 1, 1, 1, 1] B14) ?_
  refine C.region (id := 11) (m := 2) (ops := opsOf (sub [1, 1, 1, 1, 0] B14)) rfl ?_
  refine W.pure rfl (wo rfl) rfl rfl (p_move rfl rfl) (nf rfl) ?_
  refine W.pure rfl (wo rfl) rfl rfl (p_assign rfl rfl) (nf rfl) ?_
  refine W.doneQ (y := sub [1, 1, 1, 1, 1] B14) rfl ?_
  exact C.ret (R := fun e w' => e = .returned (.int .i64 0) ∧ Cls w0 I (dkH b m (.slice none 0 0) #[] { s1 with set := setK s1 s1.late.length, late := [] }) w') (rs := [.tmp 2]) (vs := [.int .i64 0]) rfl Try.func14 rfl rfl rfl (res_cons (ResV.tmp rfl) res_nil) fun w1 hc1 => ⟨rfl, cls_drop hc1⟩

end Go.Proofs.Ytjomnicfcdkfdaa
end
