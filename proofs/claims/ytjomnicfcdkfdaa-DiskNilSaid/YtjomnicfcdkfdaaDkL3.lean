import Derived.Test.YtjomnicfcdkfdaaDkL1
namespace Go.Proofs.Ytjomnicfcdkfdaa
open Go Go.HW Go.RowKit
set_option linter.unusedVariables false
set_option linter.unusedSimpArgs false

/-! ### disks that are not there -/
def zc : Array Value := #[.int .i64 0, .map none, .slice none 0 0, .int .i64 0, .bool false, .bool false]
def NT (M : Mem) (p : Value) : Prop := p = .pointer none ∨ ∃ b, p = ptr b 0 ∧ M b = some (.cells zc 61 (0, 0))
abbrev zG (b : Nat) : Heap := [(some b, .cells zc 61 (0, 0))]
theorem ntz {w0 w : World} {I : Mem} {H R : Heap} {b : Nat} (hH : H = zG b ++ R) (hc : Cls w0 I H w) : NT (heapOf w) (ptr b 0) := .inr ⟨b, rfl, by subst hH; exact hc.own b _ (List.mem_append_left _ (List.mem_singleton.2 rfl))⟩
theorem ne24n (w : World) : (binOp .neq 24 (.pointer none) (.pointer none)).run Try.prog w = .ok (.bool false) w := by kernel_rfl
theorem eg24n (x y : Operand) (w : World) : (eqGuard .neq 24 x y (.pointer none) (.pointer none)).run Try.prog w = .ok () w := by kernel_rfl
theorem ne58n (w : World) : (binOp .neq 58 (.map none) (.map none)).run Try.prog w = .ok (.bool false) w := by kernel_rfl
theorem eg58n (x y : Operand) (w : World) : (eqGuard .neq 58 x y (.map none) (.map none)).run Try.prog w = .ok () w := by kernel_rfl
section
variable {N : Nat} {S : Slots} {w0 : World} {I : Mem} {H : Heap} {Q : Exit → Act → World → Prop} {ops : Array Oper} {l : List Nat} {i d : Nat} {o : Oper} {v : Value}
theorem p_eqNilN {T U : TypeId} {x y : Operand} (hr : ∀ w, (binOp .eql T (.pointer none) (.pointer none)).run Try.prog w = .ok (.bool true) w) (hg : ∀ w, (eqGuard .eql T x y (.pointer none) (.pointer none)).run Try.prog w = .ok () w) (ho : o.op = .binOp .eql T x y U) (hx : ev S x = some (.pointer none)) (hy : ev S y = some (.pointer none)) : FPure Try.prog o S (.bool true) := fun ρ hρ w => by
  simp only [execOp, ho, hρ _ _ hx, hρ _ _ hy]
  refine val_run ?_
  exact (run_of_bind (hg w)).trans (hr w)
theorem cls_addNil {o : Obj} {w : World} (h : Cls w0 I H w) : Cls w0 I ((none, o) :: H) w := ⟨h.os, h.tape, h.output, h.size, h.imm, fun b o e => (by
    rcases List.mem_cons.1 e with e | e
    · cases e
    · exact h.own b o e), fun b o e => (by
    rcases List.mem_cons.1 e with e | e
    · cases e
    · exact h.disj b o e), h.nodup⟩
def nilO : Ox .u8 [] := ⟨(.slice none 0 0, #[], 5), IntOwn.nil .u8⟩
theorem W.addNil (h : WW N w0 I ops l Q S (oX nilO ++ H)) : WW N w0 I ops l Q S H := fun a w ha hc => h a w ha (cls_addNil hc)
end

theorem nothere_ok {w : World} {M : Mem} (hM : Imm M w) {p : Value} (hp : NT M p) : Calls Try.prog 32 #[p] w (fun e w' => e = .returned (.bool false) ∧ Below w.heap.size w w') := by
  rcases hp with rfl | ⟨b, rfl, hb⟩
  · refine calls_of_CW (N := 12) Try.func32 (show _ = some B32 by kernel_rfl) (by kernel_rfl) rfl (S := [(0, .pointer none)]) (by simp) (clsStart w) ?_
    show CW _ _ _ (sub [] B32) _ _ _
    refine C.seq (x := sub [0] B32) (y := sub [1] B32) ?_
    refine C.region (id := 0) (m := 1) (ops := opsOf (sub [0] B32)) rfl ?_
    refine W.pure rfl (wo rfl) rfl rfl (p_assign rfl rfl) (nf rfl) ?_
    refine W.doneQ (y := sub [1] B32) rfl ?_
    refine C.seq (x := sub [1, 0] B32) (y := sub [1, 1] B32) ?_
    refine C.region (id := 1) (m := 10) (ops := opsOf (sub [1, 0] B32)) rfl ?_
    refine W.pure rfl (wo rfl) rfl rfl (p_move rfl rfl) (nf rfl) ?_
    refine W.pure rfl (wo rfl) rfl rfl (p_neNil ne24n (eg24n _ _) rfl rfl rfl) (nf rfl) ?_
    refine W.pure rfl (wo rfl) rfl rfl (p_move rfl rfl) (nf rfl) ?_
    refine W.not rfl (wo rfl) rfl rfl ?_
    refine W.not rfl (wo rfl) rfl rfl ?_
    refine W.not rfl (wo rfl) rfl rfl ?_
    refine W.not rfl (wo rfl) rfl rfl ?_
    refine W.not rfl (wo rfl) rfl rfl ?_
    refine W.pure rfl (wo rfl) rfl rfl (p_pick_false rfl rfl rfl) (nf rfl) ?_
    refine W.pure rfl (wo rfl) rfl rfl (p_assign rfl rfl) (nf rfl) ?_
    refine W.doneQ (y := sub [1, 1] B32) rfl ?_
    exact C.ret (R := fun e w' => e = .returned (.bool false) ∧ Below w.heap.size w w') (rs := [.tmp 2]) (vs := [.bool false]) rfl Try.func32 rfl rfl rfl (res_cons (ResV.tmp rfl) res_nil) fun w1 hc1 => ⟨rfl, hc1.toBelow⟩
  · refine calls_of_CW (N := 12) Try.func32 (show _ = some B32 by kernel_rfl) (by kernel_rfl) rfl (S := [(0, ptr b 0)]) (by simp) (clsStart w) ?_
    show CW _ _ _ (sub [] B32) _ _ _
    refine C.seq (x := sub [0] B32) (y := sub [1] B32) ?_
    refine C.region (id := 0) (m := 1) (ops := opsOf (sub [0] B32)) rfl ?_
    refine W.pure rfl (wo rfl) rfl rfl (p_assign rfl rfl) (nf rfl) ?_
    refine W.doneQ (y := sub [1] B32) rfl ?_
    refine C.seq (x := sub [1, 0] B32) (y := sub [1, 1] B32) ?_
    refine C.region (id := 1) (m := 10) (ops := opsOf (sub [1, 0] B32)) rfl ?_
    refine W.pure rfl (wo rfl) rfl rfl (p_move rfl rfl) (nf rfl) ?_
    refine W.pure rfl (wo rfl) rfl rfl (p_neNil (ne24 b) (eg24 _ _ b) rfl rfl rfl) (nf rfl) ?_
    refine W.pure rfl (wo rfl) rfl rfl (p_move rfl rfl) (nf rfl) ?_
    refine W.pure rfl (wo rfl) rfl rfl (p_move rfl rfl) (nf rfl) ?_
    refine W.pure rfl (wo rfl) rfl rfl (p_nilCheck rfl rfl) (nf rfl) ?_
    refine W.pure rfl (wo rfl) rfl rfl (p_fieldAddr tf61_1 rfl rfl) (nf rfl) ?_
    refine W.imm rfl (wo rfl) rfl rfl (i_loadBoxO (I := heapOf w) (off := 1) (hM _ _ hb) rfl ta58 rfl rfl) (nf rfl) ?_
    refine W.pure rfl (wo rfl) rfl rfl (p_neNil ne58n (eg58n _ _) rfl rfl rfl) (nf rfl) ?_
    refine W.pure rfl (wo rfl) rfl rfl (p_pick_true rfl rfl rfl) (nf rfl) ?_
    refine W.pure rfl (wo rfl) rfl rfl (p_assign rfl rfl) (nf rfl) ?_
    refine W.doneQ (y := sub [1, 1] B32) rfl ?_
    exact C.ret (R := fun e w' => e = .returned (.bool false) ∧ Below w.heap.size w w') (rs := [.tmp 2]) (vs := [.bool false]) rfl Try.func32 rfl rfl rfl (res_cons (ResV.tmp rfl) res_nil) fun w1 hc1 => ⟨rfl, hc1.toBelow⟩

theorem nt_read {w : World} {M : Mem} (hM : Imm M w) {p : Value} (hp : NT M p) (n : Int) : Calls Try.prog 20 #[p, .int .i64 n] w (fun e w' => e = .returned (.tuple #[.slice none 0 0, .int .i64 1]) ∧ Below w.heap.size w w') := by
  have hp : NT (heapOf w) p := hp.imp id fun ⟨b, h1, h2⟩ => ⟨b, h1, hM b _ h2⟩
  refine calls_of_CW (N := 20) Try.func20 (show _ = some B20 by kernel_rfl) (by kernel_rfl) rfl (S := [(0, p), (1, .int .i64 n)]) (by simp) (clsStart w) ?_
  show CW _ _ _ (sub [] B20) _ _ _
  refine C.seq (x := sub [0] B20) (y := sub [1] B20) ?_
  refine C.region (id := 0) (m := 2) (ops := opsOf (sub [0] B20)) rfl ?_
  refine W.pure rfl (wo rfl) rfl rfl (p_assign rfl rfl) (nf rfl) ?_
  refine W.pure rfl (wo rfl) rfl rfl (p_assign rfl rfl) (nf rfl) ?_
  refine W.doneQ (y := sub [1] B20) rfl ?_
  refine C.seq (x := sub [1, 0] B20) (y := sub [1, 1] B20) ?_
  refine C.block (id := 0) (c := sub [1, 0, 0] B20) ?_
  refine C.seq (x := sub [1, 0, 0, 0] B20) (y := sub [1, 0, 0, 1] B20) ?_
  refine C.region (id := 1) (m := 4) (ops := opsOf (sub [1, 0, 0, 0] B20)) rfl ?_
  refine W.pure rfl (wo rfl) rfl rfl (p_move rfl rfl) (nf rfl) ?_
  refine W.quiet rfl (wo rfl) rfl rfl (f_callR rfl rfl (args_val (vs := [p]) rfl) (en32 _) (fun w1 hc1 => nothere_ok hc1.imm hp)) (nf rfl) ?_
  refine W.pure rfl (wo rfl) rfl rfl (p_not rfl rfl) (nf rfl) ?_
  refine W.pure rfl (wo rfl) rfl rfl (p_assign rfl rfl) (nf rfl) ?_
  refine W.doneQ (y := sub [1, 0, 0, 1] B20) rfl ?_
  refine C.cond_true (x := sub [1, 0, 0, 1, 0] B20) (y := sub [1, 0, 0, 1, 1] B20) rfl rfl ?_
  refine C.seq (x := sub [1, 0, 0, 1, 0, 0] B20) (y := sub [1, 0, 0, 1, 0, 1] B20) ?_
  refine C.region (id := 2) (m := 2) (ops := opsOf (sub [1, 0, 0, 1, 0, 0] B20)) rfl ?_
  refine W.pure rfl (wo rfl) rfl rfl (p_assign rfl rfl) (nf rfl) ?_
  refine W.pure rfl (wo rfl) rfl rfl (p_assign rfl rfl) (nf rfl) ?_
  refine W.doneQ (y := sub [1, 0, 0, 1, 0, 1] B20) rfl ?_
  exact C.ret (R := fun e w' => e = .returned (.tuple #[.slice none 0 0, .int .i64 1]) ∧ Below w.heap.size w w') (rs := [.tmp 4, .tmp 5]) (vs := [.slice none 0 0, .int .i64 1]) rfl Try.func20 rfl rfl rfl (res_cons (ResV.tmp rfl) (res_cons (ResV.tmp rfl) res_nil)) fun w1 hc1 => ⟨rfl, hc1.toBelow⟩

theorem nt_write {w : World} {M : Mem} (hM : Imm M w) {p : Value} (hp : NT M p) (n : Int) (x : Value) : Calls Try.prog 15 #[p, .int .i64 n, x] w (fun e w' => e = .returned (.int .i64 1) ∧ Below w.heap.size w w') := by
  have hp : NT (heapOf w) p := hp.imp id fun ⟨b, h1, h2⟩ => ⟨b, h1, hM b _ h2⟩
  refine calls_of_CW (N := 41) Try.func15 (show _ = some B15 by kernel_rfl) (by kernel_rfl) rfl (S := [(0, p), (1, .int .i64 n), (2, x)]) (by simp) (clsStart w) ?_
  show CW _ _ _ (sub [] B15) _ _ _
  refine C.seq (x := sub [0] B15) (y := sub [1] B15) ?_
  refine C.region (id := 0) (m := 1) (ops := opsOf (sub [0] B15)) rfl ?_
  refine W.pure rfl (wo rfl) rfl rfl (p_assign rfl rfl) (nf rfl) ?_
  refine W.doneQ (y := sub [1] B15) rfl ?_
  refine C.seq (x := sub [1, 0] B15) (y := sub [1, 1] B15) ?_
  refine C.block (id := 0) (c := sub [1, 0, 0] B15) ?_
  refine C.seq (x := sub [1, 0, 0, 0] B15) (y := sub [1, 0, 0, 1] B15) ?_
  refine C.region (id := 1) (m := 4) (ops := opsOf (sub [1, 0, 0, 0] B15)) rfl ?_
  refine W.pure rfl (wo rfl) rfl rfl (p_move rfl rfl) (nf rfl) ?_
  refine W.quiet rfl (wo rfl) rfl rfl (f_callR rfl rfl (args_val (vs := [p]) rfl) (en32 _) (fun w1 hc1 => nothere_ok hc1.imm hp)) (nf rfl) ?_
  refine W.pure rfl (wo rfl) rfl rfl (p_not rfl rfl) (nf rfl) ?_
  refine W.pure rfl (wo rfl) rfl rfl (p_assign rfl rfl) (nf rfl) ?_
  refine W.doneQ (y := sub [1, 0, 0, 1] B15) rfl ?_
  refine C.cond_true (x := sub [1, 0, 0, 1, 0] B15) (y := sub [1, 0, 0, 1, 1] B15) rfl rfl ?_
  refine C.seq (x := sub [1, 0, 0, 1, 0, 0] B15) (y := sub [1, 0, 0, 1, 0, 1] B15) ?_
  refine C.region (id := 2) (m := 1) (ops := opsOf (sub [1, 0, 0, 1, 0, 0] B15)) rfl ?_
  refine W.pure rfl (wo rfl) rfl rfl (p_assign rfl rfl) (nf rfl) ?_
  refine W.doneQ (y := sub [1, 0, 0, 1, 0, 1] B15) rfl ?_
  exact C.ret (R := fun e w' => e = .returned (.int .i64 1) ∧ Below w.heap.size w w') (rs := [.tmp 6]) (vs := [.int .i64 1]) rfl Try.func15 rfl rfl rfl (res_cons (ResV.tmp rfl) res_nil) fun w1 hc1 => ⟨rfl, hc1.toBelow⟩

theorem nt_sync {w : World} {M : Mem} (hM : Imm M w) {p : Value} (hp : NT M p)  : Calls Try.prog 14 #[p] w (fun e w' => e = .returned (.int .i64 1) ∧ Below w.heap.size w w') := by
  have hp : NT (heapOf w) p := hp.imp id fun ⟨b, h1, h2⟩ => ⟨b, h1, hM b _ h2⟩
  refine calls_of_CW (N := 35) Try.func14 (show _ = some B14 by kernel_rfl) (by kernel_rfl) rfl (S := [(0, p)]) (by simp) (clsStart w) ?_
  show CW _ _ _ (sub [] B14) _ _ _
  refine C.seq (x := sub [0] B14) (y := sub [1] B14) ?_
  refine C.region (id := 0) (m := 1) (ops := opsOf (sub [0] B14)) rfl ?_
  refine W.pure rfl (wo rfl) rfl rfl (p_assign rfl rfl) (nf rfl) ?_
  refine W.doneQ (y := sub [1] B14) rfl ?_
  refine C.seq (x := sub [1, 0] B14) (y := sub [1, 1] B14) ?_
  refine C.seq (x := sub [1, 0, 0] B14) (y := sub [1, 0, 1] B14) ?_
  refine C.region (id := 1) (m := 3) (ops := opsOf (sub [1, 0, 0] B14)) rfl ?_
  refine W.pure rfl (wo rfl) rfl rfl (p_move rfl rfl) (nf rfl) ?_
  refine W.quiet rfl (wo rfl) rfl rfl (f_callR rfl rfl (args_val (vs := [p]) rfl) (en32 _) (fun w1 hc1 => nothere_ok hc1.imm hp)) (nf rfl) ?_
  refine W.pure rfl (wo rfl) rfl rfl (p_not rfl rfl) (nf rfl) ?_
  refine W.doneQ (y := sub [1, 0, 1] B14) rfl ?_
  refine C.cond_true (x := sub [1, 0, 1, 0] B14) (y := sub [1, 0, 1, 1] B14) rfl rfl ?_
  refine C.seq (x := sub [1, 0, 1, 0, 0] B14) (y := sub [1, 0, 1, 0, 1] B14) ?_
  refine C.region (id := 2) (m := 1) (ops := opsOf (sub [1, 0, 1, 0, 0] B14)) rfl ?_
  refine W.pure rfl (wo rfl) rfl rfl (p_assign rfl rfl) (nf rfl) ?_
  refine W.doneQ (y := sub [1, 0, 1, 0, 1] B14) rfl ?_
  exact C.ret (R := fun e w' => e = .returned (.int .i64 1) ∧ Below w.heap.size w w') (rs := [.tmp 2]) (vs := [.int .i64 1]) rfl Try.func14 rfl rfl rfl (res_cons (ResV.tmp rfl) res_nil) fun w1 hc1 => ⟨rfl, hc1.toBelow⟩

theorem nt_fuse {w : World} {M : Mem} (hM : Imm M w) {p : Value} (hp : NT M p) (n : Int) : Calls Try.prog 13 #[p, .int .i64 n] w (fun e w' => e = .returned (.int .i64 1) ∧ Below w.heap.size w w') := by
  have hp : NT (heapOf w) p := hp.imp id fun ⟨b, h1, h2⟩ => ⟨b, h1, hM b _ h2⟩
  refine calls_of_CW (N := 19) Try.func13 (show _ = some B13 by kernel_rfl) (by kernel_rfl) rfl (S := [(0, p), (1, .int .i64 n)]) (by simp) (clsStart w) ?_
  show CW _ _ _ (sub [] B13) _ _ _
  refine C.seq (x := sub [0] B13) (y := sub [1] B13) ?_
  refine C.region (id := 0) (m := 1) (ops := opsOf (sub [0] B13)) rfl ?_
  refine W.pure rfl (wo rfl) rfl rfl (p_assign rfl rfl) (nf rfl) ?_
  refine W.doneQ (y := sub [1] B13) rfl ?_
  refine C.seq (x := sub [1, 0] B13) (y := sub [1, 1] B13) ?_
  refine C.block (id := 0) (c := sub [1, 0, 0] B13) ?_
  refine C.seq (x := sub [1, 0, 0, 0] B13) (y := sub [1, 0, 0, 1] B13) ?_
  refine C.region (id := 1) (m := 4) (ops := opsOf (sub [1, 0, 0, 0] B13)) rfl ?_
  refine W.pure rfl (wo rfl) rfl rfl (p_move rfl rfl) (nf rfl) ?_
  refine W.quiet rfl (wo rfl) rfl rfl (f_callR rfl rfl (args_val (vs := [p]) rfl) (en32 _) (fun w1 hc1 => nothere_ok hc1.imm hp)) (nf rfl) ?_
  refine W.pure rfl (wo rfl) rfl rfl (p_not rfl rfl) (nf rfl) ?_
  refine W.pure rfl (wo rfl) rfl rfl (p_assign rfl rfl) (nf rfl) ?_
  refine W.doneQ (y := sub [1, 0, 0, 1] B13) rfl ?_
  refine C.cond_true (x := sub [1, 0, 0, 1, 0] B13) (y := sub [1, 0, 0, 1, 1] B13) rfl rfl ?_
  refine C.seq (x := sub [1, 0, 0, 1, 0, 0] B13) (y := sub [1, 0, 0, 1, 0, 1] B13) ?_
  refine C.region (id := 2) (m := 1) (ops := opsOf (sub [1, 0, 0, 1, 0, 0] B13)) rfl ?_
  refine W.pure rfl (wo rfl) rfl rfl (p_assign rfl rfl) (nf rfl) ?_
  refine W.doneQ (y := sub [1, 0, 0, 1, 0, 1] B13) rfl ?_
  exact C.ret (R := fun e w' => e = .returned (.int .i64 1) ∧ Below w.heap.size w w') (rs := [.tmp 4]) (vs := [.int .i64 1]) rfl Try.func13 rfl rfl rfl (res_cons (ResV.tmp rfl) res_nil) fun w1 hc1 => ⟨rfl, hc1.toBelow⟩

theorem nt_crash {w : World} {M : Mem} (hM : Imm M w) {p : Value} (hp : NT M p) (x : Value) : Calls Try.prog 18 #[p, x] w (fun e w' => e = .returned (.int .i64 1) ∧ Below w.heap.size w w') := by
  have hp : NT (heapOf w) p := hp.imp id fun ⟨b, h1, h2⟩ => ⟨b, h1, hM b _ h2⟩
  refine calls_of_CW (N := 90) Try.func18 (show _ = some B18 by kernel_rfl) (by kernel_rfl) rfl (S := [(0, p), (1, x)]) (by simp) (clsStart w) ?_
  show CW _ _ _ (sub [] B18) _ _ _
  refine C.seq (x := sub [0] B18) (y := sub [1] B18) ?_
  refine C.region (id := 0) (m := 1) (ops := opsOf (sub [0] B18)) rfl ?_
  refine W.pure rfl (wo rfl) rfl rfl (p_assign rfl rfl) (nf rfl) ?_
  refine W.doneQ (y := sub [1] B18) rfl ?_
  refine C.seq (x := sub [1, 0] B18) (y := sub [1, 1] B18) ?_
  refine C.seq (x := sub [1, 0, 0] B18) (y := sub [1, 0, 1] B18) ?_
  refine C.region (id := 1) (m := 3) (ops := opsOf (sub [1, 0, 0] B18)) rfl ?_
  refine W.pure rfl (wo rfl) rfl rfl (p_move rfl rfl) (nf rfl) ?_
  refine W.quiet rfl (wo rfl) rfl rfl (f_callR rfl rfl (args_val (vs := [p]) rfl) (en32 _) (fun w1 hc1 => nothere_ok hc1.imm hp)) (nf rfl) ?_
  refine W.pure rfl (wo rfl) rfl rfl (p_not rfl rfl) (nf rfl) ?_
  refine W.doneQ (y := sub [1, 0, 1] B18) rfl ?_
  refine C.cond_true (x := sub [1, 0, 1, 0] B18) (y := sub [1, 0, 1, 1] B18) rfl rfl ?_
  refine C.seq (x := sub [1, 0, 1, 0, 0] B18) (y := sub [1, 0, 1, 0, 1] B18) ?_
  refine C.region (id := 2) (m := 1) (ops := opsOf (sub [1, 0, 1, 0, 0] B18)) rfl ?_
  refine W.pure rfl (wo rfl) rfl rfl (p_assign rfl rfl) (nf rfl) ?_
  refine W.doneQ (y := sub [1, 0, 1, 0, 1] B18) rfl ?_
  exact C.ret (R := fun e w' => e = .returned (.int .i64 1) ∧ Below w.heap.size w w') (rs := [.tmp 4]) (vs := [.int .i64 1]) rfl Try.func18 rfl rfl rfl (res_cons (ResV.tmp rfl) res_nil) fun w1 hc1 => ⟨rfl, hc1.toBelow⟩

theorem nt_edit {w : World} {M : Mem} (hM : Imm M w) {p : Value} (hp : NT M p) (n : Int) (a : Int) (z : Int) : Calls Try.prog 30 #[p, .int .i64 n, .int .i64 a, .int .u8 z] w (fun e w' => e = .returned (.int .i64 1) ∧ Below w.heap.size w w') := by
  have hp : NT (heapOf w) p := hp.imp id fun ⟨b, h1, h2⟩ => ⟨b, h1, hM b _ h2⟩
  refine calls_of_CW (N := 80) Try.func30 (show _ = some B30 by kernel_rfl) (by kernel_rfl) rfl (S := [(0, p), (1, .int .i64 n), (2, .int .i64 a), (3, .int .u8 z)]) (by simp) (clsStart w) ?_
  show CW _ _ _ (sub [] B30) _ _ _
  refine C.seq (x := sub [0] B30) (y := sub [1] B30) ?_
  refine C.region (id := 0) (m := 1) (ops := opsOf (sub [0] B30)) rfl ?_
  refine W.pure rfl (wo rfl) rfl rfl (p_assign rfl rfl) (nf rfl) ?_
  refine W.doneQ (y := sub [1] B30) rfl ?_
  refine C.seq (x := sub [1, 0] B30) (y := sub [1, 1] B30) ?_
  refine C.block (id := 0) (c := sub [1, 0, 0] B30) ?_
  refine C.seq (x := sub [1, 0, 0, 0] B30) (y := sub [1, 0, 0, 1] B30) ?_
  refine C.region (id := 1) (m := 4) (ops := opsOf (sub [1, 0, 0, 0] B30)) rfl ?_
  refine W.pure rfl (wo rfl) rfl rfl (p_move rfl rfl) (nf rfl) ?_
  refine W.quiet rfl (wo rfl) rfl rfl (f_callR rfl rfl (args_val (vs := [p]) rfl) (en32 _) (fun w1 hc1 => nothere_ok hc1.imm hp)) (nf rfl) ?_
  refine W.pure rfl (wo rfl) rfl rfl (p_not rfl rfl) (nf rfl) ?_
  refine W.pure rfl (wo rfl) rfl rfl (p_assign rfl rfl) (nf rfl) ?_
  refine W.doneQ (y := sub [1, 0, 0, 1] B30) rfl ?_
  refine C.cond_true (x := sub [1, 0, 0, 1, 0] B30) (y := sub [1, 0, 0, 1, 1] B30) rfl rfl ?_
  refine C.seq (x := sub [1, 0, 0, 1, 0, 0] B30) (y := sub [1, 0, 0, 1, 0, 1] B30) ?_
  refine C.region (id := 2) (m := 1) (ops := opsOf (sub [1, 0, 0, 1, 0, 0] B30)) rfl ?_
  refine W.pure rfl (wo rfl) rfl rfl (p_assign rfl rfl) (nf rfl) ?_
  refine W.doneQ (y := sub [1, 0, 0, 1, 0, 1] B30) rfl ?_
  exact C.ret (R := fun e w' => e = .returned (.int .i64 1) ∧ Below w.heap.size w w') (rs := [.tmp 8]) (vs := [.int .i64 1]) rfl Try.func30 rfl rfl rfl (res_cons (ResV.tmp rfl) res_nil) fun w1 hc1 => ⟨rfl, hc1.toBelow⟩

theorem nt_blocks {w : World} {M : Mem} (hM : Imm M w) {p : Value} (hp : NT M p)  : Calls Try.prog 31 #[p] w (fun e w' => e = .returned (.int .i64 0) ∧ Below w.heap.size w w') := by
  have hp : NT (heapOf w) p := hp.imp id fun ⟨b, h1, h2⟩ => ⟨b, h1, hM b _ h2⟩
  refine calls_of_CW (N := 10) Try.func31 (show _ = some B31 by kernel_rfl) (by kernel_rfl) rfl (S := [(0, p)]) (by simp) (clsStart w) ?_
  show CW _ _ _ (sub [] B31) _ _ _
  refine C.seq (x := sub [0] B31) (y := sub [1] B31) ?_
  refine C.region (id := 0) (m := 1) (ops := opsOf (sub [0] B31)) rfl ?_
  refine W.pure rfl (wo rfl) rfl rfl (p_assign rfl rfl) (nf rfl) ?_
  refine W.doneQ (y := sub [1] B31) rfl ?_
  refine C.seq (x := sub [1, 0] B31) (y := sub [1, 1] B31) ?_
  refine C.seq (x := sub [1, 0, 0] B31) (y := sub [1, 0, 1] B31) ?_
  refine C.region (id := 1) (m := 3) (ops := opsOf (sub [1, 0, 0] B31)) rfl ?_
  refine W.pure rfl (wo rfl) rfl rfl (p_move rfl rfl) (nf rfl) ?_
  refine W.quiet rfl (wo rfl) rfl rfl (f_callR rfl rfl (args_val (vs := [p]) rfl) (en32 _) (fun w1 hc1 => nothere_ok hc1.imm hp)) (nf rfl) ?_
  refine W.pure rfl (wo rfl) rfl rfl (p_not rfl rfl) (nf rfl) ?_
  refine W.doneQ (y := sub [1, 0, 1] B31) rfl ?_
  refine C.cond_true (x := sub [1, 0, 1, 0] B31) (y := sub [1, 0, 1, 1] B31) rfl rfl ?_
  refine C.seq (x := sub [1, 0, 1, 0, 0] B31) (y := sub [1, 0, 1, 0, 1] B31) ?_
  refine C.region (id := 2) (m := 1) (ops := opsOf (sub [1, 0, 1, 0, 0] B31)) rfl ?_
  refine W.pure rfl (wo rfl) rfl rfl (p_assign rfl rfl) (nf rfl) ?_
  refine W.doneQ (y := sub [1, 0, 1, 0, 1] B31) rfl ?_
  exact C.ret (R := fun e w' => e = .returned (.int .i64 0) ∧ Below w.heap.size w w') (rs := [.tmp 2]) (vs := [.int .i64 0]) rfl Try.func31 rfl rfl rfl (res_cons (ResV.tmp rfl) res_nil) fun w1 hc1 => ⟨rfl, hc1.toBelow⟩

theorem nt_copy {w : World} {M : Mem} (hM : Imm M w) {p : Value} (hp : NT M p)  : Calls Try.prog 19 #[p] w (fun e w' => e = .returned (.pointer none) ∧ Below w.heap.size w w') := by
  have hp : NT (heapOf w) p := hp.imp id fun ⟨b, h1, h2⟩ => ⟨b, h1, hM b _ h2⟩
  refine calls_of_CW (N := 22) Try.func19 (show _ = some B19 by kernel_rfl) (by kernel_rfl) rfl (S := [(0, p)]) (by simp) (clsStart w) ?_
  show CW _ _ _ (sub [] B19) _ _ _
  refine C.seq (x := sub [0] B19) (y := sub [1] B19) ?_
  refine C.region (id := 0) (m := 1) (ops := opsOf (sub [0] B19)) rfl ?_
  refine W.pure rfl (wo rfl) rfl rfl (p_assign rfl rfl) (nf rfl) ?_
  refine W.doneQ (y := sub [1] B19) rfl ?_
  refine C.seq (x := sub [1, 0] B19) (y := sub [1, 1] B19) ?_
  refine C.seq (x := sub [1, 0, 0] B19) (y := sub [1, 0, 1] B19) ?_
  refine C.region (id := 1) (m := 3) (ops := opsOf (sub [1, 0, 0] B19)) rfl ?_
  refine W.pure rfl (wo rfl) rfl rfl (p_move rfl rfl) (nf rfl) ?_
  refine W.quiet rfl (wo rfl) rfl rfl (f_callR rfl rfl (args_val (vs := [p]) rfl) (en32 _) (fun w1 hc1 => nothere_ok hc1.imm hp)) (nf rfl) ?_
  refine W.pure rfl (wo rfl) rfl rfl (p_not rfl rfl) (nf rfl) ?_
  refine W.doneQ (y := sub [1, 0, 1] B19) rfl ?_
  refine C.cond_true (x := sub [1, 0, 1, 0] B19) (y := sub [1, 0, 1, 1] B19) rfl rfl ?_
  refine C.seq (x := sub [1, 0, 1, 0, 0] B19) (y := sub [1, 0, 1, 0, 1] B19) ?_
  refine C.region (id := 2) (m := 1) (ops := opsOf (sub [1, 0, 1, 0, 0] B19)) rfl ?_
  refine W.pure rfl (wo rfl) rfl rfl (p_assign rfl rfl) (nf rfl) ?_
  refine W.doneQ (y := sub [1, 0, 1, 0, 1] B19) rfl ?_
  exact C.ret (R := fun e w' => e = .returned (.pointer none) ∧ Below w.heap.size w w') (rs := [.tmp 2]) (vs := [.pointer none]) rfl Try.func19 rfl rfl rfl (res_cons (ResV.tmp rfl) res_nil) fun w1 hc1 => ⟨rfl, hc1.toBelow⟩

theorem nt_dead {w : World} {M : Mem} (hM : Imm M w) {p : Value} (hp : NT M p)  : Calls Try.prog 17 #[p] w (fun e w' => e = .returned (.bool false) ∧ Below w.heap.size w w') := by
  have hp : NT (heapOf w) p := hp.imp id fun ⟨b, h1, h2⟩ => ⟨b, h1, hM b _ h2⟩
  refine calls_of_CW (N := 11) Try.func17 (show _ = some B17 by kernel_rfl) (by kernel_rfl) rfl (S := [(0, p)]) (by simp) (clsStart w) ?_
  show CW _ _ _ (sub [] B17) _ _ _
  refine C.seq (x := sub [0] B17) (y := sub [1] B17) ?_
  refine C.region (id := 0) (m := 1) (ops := opsOf (sub [0] B17)) rfl ?_
  refine W.pure rfl (wo rfl) rfl rfl (p_assign rfl rfl) (nf rfl) ?_
  refine W.doneQ (y := sub [1] B17) rfl ?_
  refine C.seq (x := sub [1, 0] B17) (y := sub [1, 1] B17) ?_
  refine C.region (id := 1) (m := 9) (ops := opsOf (sub [1, 0] B17)) rfl ?_
  refine W.pure rfl (wo rfl) rfl rfl (p_move rfl rfl) (nf rfl) ?_
  refine W.quiet rfl (wo rfl) rfl rfl (f_callR rfl rfl (args_val (vs := [p]) rfl) (en32 _) (fun w1 hc1 => nothere_ok hc1.imm hp)) (nf rfl) ?_
  refine W.pure rfl (wo rfl) rfl rfl (p_move rfl rfl) (nf rfl) ?_
  refine W.not rfl (wo rfl) rfl rfl ?_
  refine W.not rfl (wo rfl) rfl rfl ?_
  refine W.not rfl (wo rfl) rfl rfl ?_
  refine W.not rfl (wo rfl) rfl rfl ?_
  refine W.pure rfl (wo rfl) rfl rfl (p_pick_false rfl rfl rfl) (nf rfl) ?_
  refine W.pure rfl (wo rfl) rfl rfl (p_assign rfl rfl) (nf rfl) ?_
  refine W.doneQ (y := sub [1, 1] B17) rfl ?_
  exact C.ret (R := fun e w' => e = .returned (.bool false) ∧ Below w.heap.size w w') (rs := [.tmp 2]) (vs := [.bool false]) rfl Try.func17 rfl rfl rfl (res_cons (ResV.tmp rfl) res_nil) fun w1 hc1 => ⟨rfl, hc1.toBelow⟩

theorem nt_uns {w : World} {M : Mem} (hM : Imm M w) {p : Value} (hp : NT M p)  : Calls Try.prog 25 #[p] w (fun e w' => e = .returned (.int .i64 0) ∧ Below w.heap.size w w') := by
  have hp : NT (heapOf w) p := hp.imp id fun ⟨b, h1, h2⟩ => ⟨b, h1, hM b _ h2⟩
  refine calls_of_CW (N := 11) Try.func25 (show _ = some B25 by kernel_rfl) (by kernel_rfl) rfl (S := [(0, p)]) (by simp) (clsStart w) ?_
  show CW _ _ _ (sub [] B25) _ _ _
  refine C.seq (x := sub [0] B25) (y := sub [1] B25) ?_
  refine C.region (id := 0) (m := 1) (ops := opsOf (sub [0] B25)) rfl ?_
  refine W.pure rfl (wo rfl) rfl rfl (p_assign rfl rfl) (nf rfl) ?_
  refine W.doneQ (y := sub [1] B25) rfl ?_
  refine C.seq (x := sub [1, 0] B25) (y := sub [1, 1] B25) ?_
  refine C.seq (x := sub [1, 0, 0] B25) (y := sub [1, 0, 1] B25) ?_
  refine C.region (id := 1) (m := 3) (ops := opsOf (sub [1, 0, 0] B25)) rfl ?_
  refine W.pure rfl (wo rfl) rfl rfl (p_move rfl rfl) (nf rfl) ?_
  refine W.quiet rfl (wo rfl) rfl rfl (f_callR rfl rfl (args_val (vs := [p]) rfl) (en32 _) (fun w1 hc1 => nothere_ok hc1.imm hp)) (nf rfl) ?_
  refine W.pure rfl (wo rfl) rfl rfl (p_not rfl rfl) (nf rfl) ?_
  refine W.doneQ (y := sub [1, 0, 1] B25) rfl ?_
  refine C.cond_true (x := sub [1, 0, 1, 0] B25) (y := sub [1, 0, 1, 1] B25) rfl rfl ?_
  refine C.seq (x := sub [1, 0, 1, 0, 0] B25) (y := sub [1, 0, 1, 0, 1] B25) ?_
  refine C.region (id := 2) (m := 1) (ops := opsOf (sub [1, 0, 1, 0, 0] B25)) rfl ?_
  refine W.pure rfl (wo rfl) rfl rfl (p_assign rfl rfl) (nf rfl) ?_
  refine W.doneQ (y := sub [1, 0, 1, 0, 1] B25) rfl ?_
  exact C.ret (R := fun e w' => e = .returned (.int .i64 0) ∧ Below w.heap.size w w') (rs := [.tmp 2]) (vs := [.int .i64 0]) rfl Try.func25 rfl rfl rfl (res_cons (ResV.tmp rfl) res_nil) fun w1 hc1 => ⟨rfl, hc1.toBelow⟩

theorem nt_same {w : World} {M : Mem} (hM : Imm M w) {p q : Value} (hp : NT M p) (hq : NT M q) : Calls Try.prog 29 #[p, q] w (fun e w' => e = .returned (.bool true) ∧ Below w.heap.size w w') := by
  have hp : NT (heapOf w) p := hp.imp id fun ⟨b, h1, h2⟩ => ⟨b, h1, hM b _ h2⟩
  have hq : NT (heapOf w) q := hq.imp id fun ⟨b, h1, h2⟩ => ⟨b, h1, hM b _ h2⟩
  refine calls_of_CW (N := 48) Try.func29 (show _ = some B29 by kernel_rfl) (by kernel_rfl) rfl (S := [(0, p), (1, q)]) (by simp) (clsStart w) ?_
  show CW _ _ _ (sub [] B29) _ _ _
  refine C.seq (x := sub [0] B29) (y := sub [1] B29) ?_
  refine C.region (id := 0) (m := 1) (ops := opsOf (sub [0] B29)) rfl ?_
  refine W.pure rfl (wo rfl) rfl rfl (p_assign rfl rfl) (nf rfl) ?_
  refine W.doneQ (y := sub [1] B29) rfl ?_
  refine C.seq (x := sub [1, 0] B29) (y := sub [1, 1] B29) ?_
  refine C.seq (x := sub [1, 0, 0] B29) (y := sub [1, 0, 1] B29) ?_
  refine C.region (id := 1) (m := 8) (ops := opsOf (sub [1, 0, 0] B29)) rfl ?_
  refine W.pure rfl (wo rfl) rfl rfl (p_move rfl rfl) (nf rfl) ?_
  refine W.quiet rfl (wo rfl) rfl rfl (f_callR rfl rfl (args_val (vs := [p]) rfl) (en32 _) (fun w1 hc1 => nothere_ok hc1.imm hp)) (nf rfl) ?_
  refine W.pure rfl (wo rfl) rfl rfl (p_not rfl rfl) (nf rfl) ?_
  refine W.pure rfl (wo rfl) rfl rfl (p_move rfl rfl) (nf rfl) ?_
  refine W.not rfl (wo rfl) rfl rfl ?_
  refine W.not rfl (wo rfl) rfl rfl ?_
  refine W.not rfl (wo rfl) rfl rfl ?_
  refine W.pure rfl (wo rfl) rfl rfl (p_pick_true rfl rfl rfl) (nf rfl) ?_
  refine W.doneQ (y := sub [1, 0, 1] B29) rfl ?_
  refine C.cond_true (x := sub [1, 0, 1, 0] B29) (y := sub [1, 0, 1, 1] B29) rfl rfl ?_
  refine C.seq (x := sub [1, 0, 1, 0, 0] B29) (y := sub [1, 0, 1, 0, 1] B29) ?_
  refine C.region (id := 2) (m := 6) (ops := opsOf (sub [1, 0, 1, 0, 0] B29)) rfl ?_
  refine W.pure rfl (wo rfl) rfl rfl (p_move rfl rfl) (nf rfl) ?_
  refine W.quiet rfl (wo rfl) rfl rfl (f_callR rfl rfl (args_val (vs := [p]) rfl) (en32 _) (fun w1 hc1 => nothere_ok hc1.imm hp)) (nf rfl) ?_
  refine W.pure rfl (wo rfl) rfl rfl (p_move rfl rfl) (nf rfl) ?_
  refine W.quiet rfl (wo rfl) rfl rfl (f_callR rfl rfl (args_val (vs := [q]) rfl) (en32 _) (fun w1 hc1 => nothere_ok hc1.imm hq)) (nf rfl) ?_
  refine W.pure rfl (wo rfl) rfl rfl (p_eqb (fun w => by kernel_rfl) rfl rfl rfl) (nf rfl) ?_
  refine W.pure rfl (wo rfl) rfl rfl (p_assign rfl rfl) (nf rfl) ?_
  refine W.doneQ (y := sub [1, 0, 1, 0, 1] B29) rfl ?_
  exact C.ret (R := fun e w' => e = .returned (.bool true) ∧ Below w.heap.size w w') (rs := [.tmp 4]) (vs := [.bool true]) rfl Try.func29 rfl rfl rfl (res_cons (ResV.tmp rfl) res_nil) fun w1 hc1 => ⟨rfl, hc1.toBelow⟩

theorem nt_same2 {w : World} {M : Mem} (hM : Imm M w) {p : Value} (hp : NT M p) {b m : Nat} {v : Value} {s : Dk} (hd : DkM M b m v s) : Calls Try.prog 29 #[p, ptr b 0] w (fun e w' => e = .returned (.bool false) ∧ Below w.heap.size w w') := by
  have hp : NT (heapOf w) p := hp.imp id fun ⟨b, h1, h2⟩ => ⟨b, h1, hM b _ h2⟩
  have hd := hd.mono (show Ext M (heapOf w) from hM)
  refine calls_of_CW (N := 48) Try.func29 (show _ = some B29 by kernel_rfl) (by kernel_rfl) rfl (S := [(0, p), (1, ptr b 0)]) (by simp) (clsStart w) ?_
  show CW _ _ _ (sub [] B29) _ _ _
  refine C.seq (x := sub [0] B29) (y := sub [1] B29) ?_
  refine C.region (id := 0) (m := 1) (ops := opsOf (sub [0] B29)) rfl ?_
  refine W.pure rfl (wo rfl) rfl rfl (p_assign rfl rfl) (nf rfl) ?_
  refine W.doneQ (y := sub [1] B29) rfl ?_
  refine C.seq (x := sub [1, 0] B29) (y := sub [1, 1] B29) ?_
  refine C.seq (x := sub [1, 0, 0] B29) (y := sub [1, 0, 1] B29) ?_
  refine C.region (id := 1) (m := 8) (ops := opsOf (sub [1, 0, 0] B29)) rfl ?_
  refine W.pure rfl (wo rfl) rfl rfl (p_move rfl rfl) (nf rfl) ?_
  refine W.quiet rfl (wo rfl) rfl rfl (f_callR rfl rfl (args_val (vs := [p]) rfl) (en32 _) (fun w1 hc1 => nothere_ok hc1.imm hp)) (nf rfl) ?_
  refine W.pure rfl (wo rfl) rfl rfl (p_not rfl rfl) (nf rfl) ?_
  refine W.pure rfl (wo rfl) rfl rfl (p_move rfl rfl) (nf rfl) ?_
  refine W.not rfl (wo rfl) rfl rfl ?_
  refine W.not rfl (wo rfl) rfl rfl ?_
  refine W.not rfl (wo rfl) rfl rfl ?_
  refine W.pure rfl (wo rfl) rfl rfl (p_pick_true rfl rfl rfl) (nf rfl) ?_
  refine W.doneQ (y := sub [1, 0, 1] B29) rfl ?_
  refine C.cond_true (x := sub [1, 0, 1, 0] B29) (y := sub [1, 0, 1, 1] B29) rfl rfl ?_
  refine C.seq (x := sub [1, 0, 1, 0, 0] B29) (y := sub [1, 0, 1, 0, 1] B29) ?_
  refine C.region (id := 2) (m := 6) (ops := opsOf (sub [1, 0, 1, 0, 0] B29)) rfl ?_
  refine W.pure rfl (wo rfl) rfl rfl (p_move rfl rfl) (nf rfl) ?_
  refine W.quiet rfl (wo rfl) rfl rfl (f_callR rfl rfl (args_val (vs := [p]) rfl) (en32 _) (fun w1 hc1 => nothere_ok hc1.imm hp)) (nf rfl) ?_
  refine W.pure rfl (wo rfl) rfl rfl (p_move rfl rfl) (nf rfl) ?_
  refine W.quiet rfl (wo rfl) rfl rfl (f_callR rfl rfl (args_val (vs := [ptr b 0]) rfl) (en32 _) (fun w1 hc1 => there_ok hc1.imm hd)) (nf rfl) ?_
  refine W.pure rfl (wo rfl) rfl rfl (p_eqb (fun w => by kernel_rfl) rfl rfl rfl) (nf rfl) ?_
  refine W.pure rfl (wo rfl) rfl rfl (p_assign rfl rfl) (nf rfl) ?_
  refine W.doneQ (y := sub [1, 0, 1, 0, 1] B29) rfl ?_
  exact C.ret (R := fun e w' => e = .returned (.bool false) ∧ Below w.heap.size w w') (rs := [.tmp 4]) (vs := [.bool false]) rfl Try.func29 rfl rfl rfl (res_cons (ResV.tmp rfl) res_nil) fun w1 hc1 => ⟨rfl, hc1.toBelow⟩

theorem new_lo (w : World) (n : Int) (h : n < 1) : Calls Try.prog 11 #[.int .i64 n] w (fun e w' => e = .returned (.tuple #[.pointer none, .int .i64 2]) ∧ Below w.heap.size w w') := by
  refine calls_of_CW (N := 14) Try.func11 (show _ = some B11 by kernel_rfl) (by kernel_rfl) rfl (S := [(0, .int .i64 n)]) (by simp) (clsStart w) ?_
  show CW _ _ _ (sub [] B11) _ _ _
  refine C.seq (x := sub [0] B11) (y := sub [1] B11) ?_
  refine C.region (id := 0) (m := 2) (ops := opsOf (sub [0] B11)) rfl ?_
  refine W.pure rfl (wo rfl) rfl rfl (p_assign rfl rfl) (nf rfl) ?_
  refine W.pure rfl (wo rfl) rfl rfl (p_assign rfl rfl) (nf rfl) ?_
  refine W.doneQ (y := sub [1] B11) rfl ?_
  refine C.seq (x := sub [1, 0] B11) (y := sub [1, 1] B11) ?_
  refine C.seq (x := sub [1, 0, 0] B11) (y := sub [1, 0, 1] B11) ?_
  refine C.region (id := 1) (m := 6) (ops := opsOf (sub [1, 0, 0] B11)) rfl ?_
  refine W.pure rfl (wo rfl) rfl rfl (p_move rfl rfl) (nf rfl) ?_
  refine W.pure rfl (wo rfl) rfl rfl (pT (decide_eq_true h) (p_lss rfl rfl rfl)) (nf rfl) ?_
  refine W.pure rfl (wo rfl) rfl rfl (p_move rfl rfl) (nf rfl) ?_
  refine W.not rfl (wo rfl) rfl rfl ?_
  refine W.not rfl (wo rfl) rfl rfl ?_
  refine W.pure rfl (wo rfl) rfl rfl (p_pick_true rfl rfl rfl) (nf rfl) ?_
  refine W.doneQ (y := sub [1, 0, 1] B11) rfl ?_
  refine C.cond_true (x := sub [1, 0, 1, 0] B11) (y := sub [1, 0, 1, 1] B11) rfl rfl ?_
  refine C.seq (x := sub [1, 0, 1, 0, 0] B11) (y := sub [1, 0, 1, 0, 1] B11) ?_
  refine C.region (id := 2) (m := 2) (ops := opsOf (sub [1, 0, 1, 0, 0] B11)) rfl ?_
  refine W.pure rfl (wo rfl) rfl rfl (p_assign rfl rfl) (nf rfl) ?_
  refine W.pure rfl (wo rfl) rfl rfl (p_assign rfl rfl) (nf rfl) ?_
  refine W.doneQ (y := sub [1, 0, 1, 0, 1] B11) rfl ?_
  exact C.ret (R := fun e w' => e = .returned (.tuple #[.pointer none, .int .i64 2]) ∧ Below w.heap.size w w') (rs := [.tmp 2, .tmp 3]) (vs := [.pointer none, .int .i64 2]) rfl Try.func11 rfl rfl rfl (res_cons (ResV.tmp rfl) (res_cons (ResV.tmp rfl) res_nil)) fun w1 hc1 => ⟨rfl, hc1.toBelow⟩

theorem new_hi (w : World) (n : Int) (h : ¬ n < 1) (h2 : 8192 < n) : Calls Try.prog 11 #[.int .i64 n] w (fun e w' => e = .returned (.tuple #[.pointer none, .int .i64 2]) ∧ Below w.heap.size w w') := by
  refine calls_of_CW (N := 14) Try.func11 (show _ = some B11 by kernel_rfl) (by kernel_rfl) rfl (S := [(0, .int .i64 n)]) (by simp) (clsStart w) ?_
  show CW _ _ _ (sub [] B11) _ _ _
  refine C.seq (x := sub [0] B11) (y := sub [1] B11) ?_
  refine C.region (id := 0) (m := 2) (ops := opsOf (sub [0] B11)) rfl ?_
  refine W.pure rfl (wo rfl) rfl rfl (p_assign rfl rfl) (nf rfl) ?_
  refine W.pure rfl (wo rfl) rfl rfl (p_assign rfl rfl) (nf rfl) ?_
  refine W.doneQ (y := sub [1] B11) rfl ?_
  refine C.seq (x := sub [1, 0] B11) (y := sub [1, 1] B11) ?_
  refine C.seq (x := sub [1, 0, 0] B11) (y := sub [1, 0, 1] B11) ?_
  refine C.region (id := 1) (m := 6) (ops := opsOf (sub [1, 0, 0] B11)) rfl ?_
  refine W.pure rfl (wo rfl) rfl rfl (p_move rfl rfl) (nf rfl) ?_
  refine W.pure rfl (wo rfl) rfl rfl (pF (decide_eq_false h) (p_lss rfl rfl rfl)) (nf rfl) ?_
  refine W.pure rfl (wo rfl) rfl rfl (p_move rfl rfl) (nf rfl) ?_
  refine W.pure rfl (wo rfl) rfl rfl (p_move rfl rfl) (nf rfl) ?_
  refine W.pure rfl (wo rfl) rfl rfl (pT (decide_eq_true h2) (p_gtr rfl rfl rfl)) (nf rfl) ?_
  refine W.pure rfl (wo rfl) rfl rfl (p_pick_false rfl rfl rfl) (nf rfl) ?_
  refine W.doneQ (y := sub [1, 0, 1] B11) rfl ?_
  refine C.cond_true (x := sub [1, 0, 1, 0] B11) (y := sub [1, 0, 1, 1] B11) rfl rfl ?_
  refine C.seq (x := sub [1, 0, 1, 0, 0] B11) (y := sub [1, 0, 1, 0, 1] B11) ?_
  refine C.region (id := 2) (m := 2) (ops := opsOf (sub [1, 0, 1, 0, 0] B11)) rfl ?_
  refine W.pure rfl (wo rfl) rfl rfl (p_assign rfl rfl) (nf rfl) ?_
  refine W.pure rfl (wo rfl) rfl rfl (p_assign rfl rfl) (nf rfl) ?_
  refine W.doneQ (y := sub [1, 0, 1, 0, 1] B11) rfl ?_
  exact C.ret (R := fun e w' => e = .returned (.tuple #[.pointer none, .int .i64 2]) ∧ Below w.heap.size w w') (rs := [.tmp 2, .tmp 3]) (vs := [.pointer none, .int .i64 2]) rfl Try.func11 rfl rfl rfl (res_cons (ResV.tmp rfl) (res_cons (ResV.tmp rfl) res_nil)) fun w1 hc1 => ⟨rfl, hc1.toBelow⟩

theorem new_no (w : World) (n : Int) (h : n < 1 ∨ 8192 < n) : Calls Try.prog 11 #[.int .i64 n] w (fun e w' => e = .returned (.tuple #[.pointer none, .int .i64 2]) ∧ Below w.heap.size w w') := by
  by_cases h1 : n < 1
  · exact new_lo w n h1
  · exact new_hi w n h1 (by omega)

theorem read_no {w : World} {M : Mem} (hM : Imm M w) {b m : Nat} {v : Value} {s : Dk} (hd : DkM M b m v s) (n : Int) (h : hasD s n = false) : Calls Try.prog 20 #[ptr b 0, .int .i64 n] w (fun e w' => e = .returned (.tuple #[.slice none 0 0, .int .i64 2]) ∧ Below w.heap.size w w') := by
  have hd := hd.mono (show Ext M (heapOf w) from hM)
  refine calls_of_CW (N := 20) Try.func20 (show _ = some B20 by kernel_rfl) (by kernel_rfl) rfl (S := [(0, ptr b 0), (1, .int .i64 n)]) (by simp) (clsStart w) ?_
  show CW _ _ _ (sub [] B20) _ _ _
  refine C.seq (x := sub [0] B20) (y := sub [1] B20) ?_
  refine C.region (id := 0) (m := 2) (ops := opsOf (sub [0] B20)) rfl ?_
  refine W.pure rfl (wo rfl) rfl rfl (p_assign rfl rfl) (nf rfl) ?_
  refine W.pure rfl (wo rfl) rfl rfl (p_assign rfl rfl) (nf rfl) ?_
  refine W.doneQ (y := sub [1] B20) rfl ?_
  refine C.seq (x := sub [1, 0] B20) (y := sub [1, 1] B20) ?_
  refine C.block (id := 0) (c := sub [1, 0, 0] B20) ?_
  refine C.seq (x := sub [1, 0, 0, 0] B20) (y := sub [1, 0, 0, 1] B20) ?_
  refine C.region (id := 1) (m := 4) (ops := opsOf (sub [1, 0, 0, 0] B20)) rfl ?_
  refine W.pure rfl (wo rfl) rfl rfl (p_move rfl rfl) (nf rfl) ?_
  refine W.quiet rfl (wo rfl) rfl rfl (f_callR rfl rfl (args_val (vs := [ptr b 0]) rfl) (en32 _) (fun w1 hc1 => there_ok hc1.imm hd)) (nf rfl) ?_
  refine W.pure rfl (wo rfl) rfl rfl (p_not rfl rfl) (nf rfl) ?_
  refine W.pure rfl (wo rfl) rfl rfl (p_assign rfl rfl) (nf rfl) ?_
  refine W.doneQ (y := sub [1, 0, 0, 1] B20) rfl ?_
  refine C.cond_false (x := sub [1, 0, 0, 1, 0] B20) (y := sub [1, 0, 0, 1, 1] B20) rfl rfl ?_
  refine C.seq (x := sub [1, 0, 0, 1, 1, 0] B20) (y := sub [1, 0, 0, 1, 1, 1] B20) ?_
  refine C.region (id := 3) (m := 5) (ops := opsOf (sub [1, 0, 0, 1, 1, 0] B20)) rfl ?_
  refine W.pure rfl (wo rfl) rfl rfl (p_move rfl rfl) (nf rfl) ?_
  refine W.pure rfl (wo rfl) rfl rfl (p_move rfl rfl) (nf rfl) ?_
  refine W.quiet rfl (wo rfl) rfl rfl (f_callR (v := .bool false) rfl rfl (args_val (vs := [ptr b 0, .int .i64 n]) rfl) (en34 _) (fun w1 hc1 => by rw [← h]; exact has_ok hc1.imm hd n)) (nf rfl) ?_
  refine W.pure rfl (wo rfl) rfl rfl (p_not rfl rfl) (nf rfl) ?_
  refine W.pure rfl (wo rfl) rfl rfl (p_assign rfl rfl) (nf rfl) ?_
  refine W.doneQ (y := sub [1, 0, 0, 1, 1, 1] B20) rfl ?_
  refine C.cond_true (x := sub [1, 0, 0, 1, 1, 1, 0] B20) (y := sub [1, 0, 0, 1, 1, 1, 1] B20) rfl rfl ?_
  refine C.seq (x := sub [1, 0, 0, 1, 1, 1, 0, 0] B20) (y := sub [1, 0, 0, 1, 1, 1, 0, 1] B20) ?_
  refine C.region (id := 4) (m := 2) (ops := opsOf (sub [1, 0, 0, 1, 1, 1, 0, 0] B20)) rfl ?_
  refine W.pure rfl (wo rfl) rfl rfl (p_assign rfl rfl) (nf rfl) ?_
  refine W.pure rfl (wo rfl) rfl rfl (p_assign rfl rfl) (nf rfl) ?_
  refine W.doneQ (y := sub [1, 0, 0, 1, 1, 1, 0, 1] B20) rfl ?_
  exact C.ret (R := fun e w' => e = .returned (.tuple #[.slice none 0 0, .int .i64 2]) ∧ Below w.heap.size w w') (rs := [.tmp 4, .tmp 5]) (vs := [.slice none 0 0, .int .i64 2]) rfl Try.func20 rfl rfl rfl (res_cons (ResV.tmp rfl) (res_cons (ResV.tmp rfl) res_nil)) fun w1 hc1 => ⟨rfl, hc1.toBelow⟩

theorem tReadNo {I : Mem} {b m : Nat} {s : Dk} (x : Dx s) (n : Int) (h : hasD s n = false) : Turn I 20 #[ptr b 0, .int .i64 n] (dX b m x) (fun _ : Unit => .tuple #[.slice none 0 0, .int .i64 2]) (fun _ => dX b m x) :=
  Turn.same fun I' he w0 w hc => read_no (M := heapOf w) (fun _ _ e => e) (x.2.M hc fun p hp => hp) n h

end Go.Proofs.Ytjomnicfcdkfdaa
