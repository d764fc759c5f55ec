import Derived.Test.YtjomnicfcdkfdaaDkM2
section
namespace Go.Proofs.Ytjomnicfcdkfdaa
open Go Go.HW Go.RowKit
set_option linter.unusedVariables false
set_option linter.unusedSimpArgs false

theorem qT {P : Program} {o : Oper} {S : Slots} {w0 : World} {I : Mem} {H : Heap} {b : Bool} (h : b = true) (hp : FQuiet P o w0 I S H (.bool b)) : FQuiet P o w0 I S H (.bool true) := by rw [← h]; exact hp
theorem qF {P : Program} {o : Oper} {S : Slots} {w0 : World} {I : Mem} {H : Heap} {b : Bool} (h : b = false) (hp : FQuiet P o w0 I S H (.bool b)) : FQuiet P o w0 I S H (.bool false) := by rw [← h]; exact hp
theorem f_stDk {o : Oper} {S : Slots} {w0 : World} {I : Mem} {H : Heap} {t : TypeId} {x y : Operand} {b m j k : Nat} {v u : Value} {s s2 : Dk} (hs : ∀ w, (sizeOf t).run Try.prog w = .ok 1 w) (hn : u.cells = #[u]) (h1 : OneCell u) (hH : H[j]? = some (dk1 b m v s)) (hk : k < 6)
    (ho : o.op = .store t x y) (hx : ev S x = some (ptr b k)) (hy : ev S y = some u) (he : (some b, Obj.cells ((#[.int .i64 s.n, .map (some m), v, .int .i64 s.fuse, .bool s.armed, .bool s.dead] : Array Value).setIfInBounds k u) 61 (0, 0)) = dk1 b m v s2 := by rfl) : FPut Try.prog o w0 I S H (H.set j (dk1 b m v s2)) := by
  rw [← he]
  exact f_store hs hH hn hk h1 ho hx hy
theorem ts3 (w : World) : (sizeOf 3).run Try.prog w = .ok 1 w := by kernel_rfl
theorem ts4 (w : World) : (sizeOf 4).run Try.prog w = .ok 1 w := by kernel_rfl
theorem ts59 (w : World) : (sizeOf 59).run Try.prog w = .ok 1 w := by kernel_rfl

noncomputable def B33 : Code := bodyOf Try.f33
theorem en33 (args : Array Value) (w : World) : (callFunc 33 args).run Try.prog w = .ok (.enter 33 args) w := by kernel_rfl

theorem step_1 {w0 w : World} {I : Mem} {b m : Nat} {v : Value} {cur : Array Value} {s : Dk} (hc : Cls w0 I (dkH b m v cur s) w) (h : s.dead = true) : Calls Try.prog 33 #[ptr b 0] w fun e w' => e = .returned (.int .i64 14) ∧ Cls w0 I (dkH b m v cur s) w' := by
  refine calls_of_CW (N := 30) Try.func33 (show _ = some B33 by kernel_rfl) (by kernel_rfl) rfl (S := [(0, ptr b 0)]) (by simp) hc ?_
  show CW _ _ _ (sub [] B33) _ _ _
  refine C.seq (x := sub [0] B33) (y := sub [1] B33) ?_
  refine C.region (id := 0) (m := 1) (ops := opsOf (sub [0] B33)) rfl ?_
  refine W.pure rfl (wo rfl) rfl rfl (p_assign rfl rfl) (nf rfl) ?_
  refine W.doneQ (y := sub [1] B33) rfl ?_
  refine C.seq (x := sub [1, 0] B33) (y := sub [1, 1] B33) ?_
  refine C.block (id := 0) (c := sub [1, 0, 0] B33) ?_
  refine C.seq (x := sub [1, 0, 0, 0] B33) (y := sub [1, 0, 0, 1] B33) ?_
  refine C.region (id := 1) (m := 5) (ops := opsOf (sub [1, 0, 0, 0] B33)) rfl ?_
  refine W.pure rfl (wo rfl) rfl rfl (p_move rfl rfl) (nf rfl) ?_
  refine W.pure rfl (wo rfl) rfl rfl (p_nilCheck rfl rfl) (nf rfl) ?_
  refine W.pure rfl (wo rfl) rfl rfl (p_fieldAddr tf61_5 rfl rfl) (nf rfl) ?_
  refine W.quiet rfl (wo rfl) rfl rfl (qT (h) (f_load (j := 0) ta4 rfl (off := 5) rfl rfl rfl)) (nf rfl) ?_
  refine W.pure rfl (wo rfl) rfl rfl (p_assign rfl rfl) (nf rfl) ?_
  refine W.doneQ (y := sub [1, 0, 0, 1] B33) rfl ?_
  refine C.cond_true (x := sub [1, 0, 0, 1, 0] B33) (y := sub [1, 0, 0, 1, 1] B33) rfl rfl ?_
  refine C.seq (x := sub [1, 0, 0, 1, 0, 0] B33) (y := sub [1, 0, 0, 1, 0, 1] B33) ?_
  refine C.region (id := 2) (m := 1) (ops := opsOf (sub [1, 0, 0, 1, 0, 0] B33)) rfl ?_
  refine W.pure rfl (wo rfl) rfl rfl (p_assign rfl rfl) (nf rfl) ?_
  refine W.doneQ (y := sub [1, 0, 0, 1, 0, 1] B33) rfl ?_
  exact C.ret (R := fun e w' => e = .returned (.int .i64 14) ∧ Cls w0 I (dkH b m v cur s) w') (rs := [.tmp 2]) (vs := [.int .i64 14]) rfl Try.func33 rfl rfl rfl (res_cons (ResV.tmp rfl) res_nil) fun w1 hc1 => ⟨rfl, hc1⟩

theorem step_2 {w0 w : World} {I : Mem} {b m : Nat} {v : Value} {cur : Array Value} {s : Dk} (hc : Cls w0 I (dkH b m v cur s) w) (h : s.dead = false) (h2 : s.armed = false) : Calls Try.prog 33 #[ptr b 0] w fun e w' => e = .returned (.int .i64 0) ∧ Cls w0 I (dkH b m v cur s) w' := by
  refine calls_of_CW (N := 30) Try.func33 (show _ = some B33 by kernel_rfl) (by kernel_rfl) rfl (S := [(0, ptr b 0)]) (by simp) hc ?_
  show CW _ _ _ (sub [] B33) _ _ _
  refine C.seq (x := sub [0] B33) (y := sub [1] B33) ?_
  refine C.region (id := 0) (m := 1) (ops := opsOf (sub [0] B33)) rfl ?_
  refine W.pure rfl (wo rfl) rfl rfl (p_assign rfl rfl) (nf rfl) ?_
  refine W.doneQ (y := sub [1] B33) rfl ?_
  refine C.seq (x := sub [1, 0] B33) (y := sub [1, 1] B33) ?_
  refine C.block (id := 0) (c := sub [1, 0, 0] B33) ?_
  refine C.seq (x := sub [1, 0, 0, 0] B33) (y := sub [1, 0, 0, 1] B33) ?_
  refine C.region (id := 1) (m := 5) (ops := opsOf (sub [1, 0, 0, 0] B33)) rfl ?_
  refine W.pure rfl (wo rfl) rfl rfl (p_move rfl rfl) (nf rfl) ?_
  refine W.pure rfl (wo rfl) rfl rfl (p_nilCheck rfl rfl) (nf rfl) ?_
  refine W.pure rfl (wo rfl) rfl rfl (p_fieldAddr tf61_5 rfl rfl) (nf rfl) ?_
  refine W.quiet rfl (wo rfl) rfl rfl (qF (h) (f_load (j := 0) ta4 rfl (off := 5) rfl rfl rfl)) (nf rfl) ?_
  refine W.pure rfl (wo rfl) rfl rfl (p_assign rfl rfl) (nf rfl) ?_
  refine W.doneQ (y := sub [1, 0, 0, 1] B33) rfl ?_
  refine C.cond_false (x := sub [1, 0, 0, 1, 0] B33) (y := sub [1, 0, 0, 1, 1] B33) rfl rfl ?_
  refine C.seq (x := sub [1, 0, 0, 1, 1, 0] B33) (y := sub [1, 0, 0, 1, 1, 1] B33) ?_
  refine C.region (id := 3) (m := 6) (ops := opsOf (sub [1, 0, 0, 1, 1, 0] B33)) rfl ?_
  refine W.pure rfl (wo rfl) rfl rfl (p_move rfl rfl) (nf rfl) ?_
  refine W.pure rfl (wo rfl) rfl rfl (p_nilCheck rfl rfl) (nf rfl) ?_
  refine W.pure rfl (wo rfl) rfl rfl (p_fieldAddr tf61_4 rfl rfl) (nf rfl) ?_
  refine W.quiet rfl (wo rfl) rfl rfl (qF (h2) (f_load (j := 0) ta4 rfl (off := 4) rfl rfl rfl)) (nf rfl) ?_
  refine W.pure rfl (wo rfl) rfl rfl (p_not rfl rfl) (nf rfl) ?_
  refine W.pure rfl (wo rfl) rfl rfl (p_assign rfl rfl) (nf rfl) ?_
  refine W.doneQ (y := sub [1, 0, 0, 1, 1, 1] B33) rfl ?_
  refine C.cond_true (x := sub [1, 0, 0, 1, 1, 1, 0] B33) (y := sub [1, 0, 0, 1, 1, 1, 1] B33) rfl rfl ?_
  refine C.seq (x := sub [1, 0, 0, 1, 1, 1, 0, 0] B33) (y := sub [1, 0, 0, 1, 1, 1, 0, 1] B33) ?_
  refine C.region (id := 4) (m := 1) (ops := opsOf (sub [1, 0, 0, 1, 1, 1, 0, 0] B33)) rfl ?_
  refine W.pure rfl (wo rfl) rfl rfl (p_assign rfl rfl) (nf rfl) ?_
  refine W.doneQ (y := sub [1, 0, 0, 1, 1, 1, 0, 1] B33) rfl ?_
  exact C.ret (R := fun e w' => e = .returned (.int .i64 0) ∧ Cls w0 I (dkH b m v cur s) w') (rs := [.tmp 2]) (vs := [.int .i64 0]) rfl Try.func33 rfl rfl rfl (res_cons (ResV.tmp rfl) res_nil) fun w1 hc1 => ⟨rfl, hc1⟩

theorem step_3 {w0 w : World} {I : Mem} {b m : Nat} {v : Value} {cur : Array Value} {s : Dk} (hc : Cls w0 I (dkH b m v cur s) w) (h : s.dead = false) (h2 : s.armed = true) (h3 : s.fuse = 0) : Calls Try.prog 33 #[ptr b 0] w fun e w' => e = .returned (.int .i64 17) ∧ Cls w0 I (dkH b m v cur { s with dead := true }) w' := by
  refine calls_of_CW (N := 30) Try.func33 (show _ = some B33 by kernel_rfl) (by kernel_rfl) rfl (S := [(0, ptr b 0)]) (by simp) hc ?_
  show CW _ _ _ (sub [] B33) _ _ _
  refine C.seq (x := sub [0] B33) (y := sub [1] B33) ?_
  refine C.region (id := 0) (m := 1) (ops := opsOf (sub [0] B33)) rfl ?_
  refine W.pure rfl (wo rfl) rfl rfl (p_assign rfl rfl) (nf rfl) ?_
  refine W.doneQ (y := sub [1] B33) rfl ?_
  refine C.seq (x := sub [1, 0] B33) (y := sub [1, 1] B33) ?_
  refine C.block (id := 0) (c := sub [1, 0, 0] B33) ?_
  refine C.seq (x := sub [1, 0, 0, 0] B33) (y := sub [1, 0, 0, 1] B33) ?_
  refine C.region (id := 1) (m := 5) (ops := opsOf (sub [1, 0, 0, 0] B33)) rfl ?_
  refine W.pure rfl (wo rfl) rfl rfl (p_move rfl rfl) (nf rfl) ?_
  refine W.pure rfl (wo rfl) rfl rfl (p_nilCheck rfl rfl) (nf rfl) ?_
  refine W.pure rfl (wo rfl) rfl rfl (p_fieldAddr tf61_5 rfl rfl) (nf rfl) ?_
  refine W.quiet rfl (wo rfl) rfl rfl (qF (h) (f_load (j := 0) ta4 rfl (off := 5) rfl rfl rfl)) (nf rfl) ?_
  refine W.pure rfl (wo rfl) rfl rfl (p_assign rfl rfl) (nf rfl) ?_
  refine W.doneQ (y := sub [1, 0, 0, 1] B33) rfl ?_
  refine C.cond_false (x := sub [1, 0, 0, 1, 0] B33) (y := sub [1, 0, 0, 1, 1] B33) rfl rfl ?_
  refine C.seq (x := sub [1, 0, 0, 1, 1, 0] B33) (y := sub [1, 0, 0, 1, 1, 1] B33) ?_
  refine C.region (id := 3) (m := 6) (ops := opsOf (sub [1, 0, 0, 1, 1, 0] B33)) rfl ?_
  refine W.pure rfl (wo rfl) rfl rfl (p_move rfl rfl) (nf rfl) ?_
  refine W.pure rfl (wo rfl) rfl rfl (p_nilCheck rfl rfl) (nf rfl) ?_
  refine W.pure rfl (wo rfl) rfl rfl (p_fieldAddr tf61_4 rfl rfl) (nf rfl) ?_
  refine W.quiet rfl (wo rfl) rfl rfl (qT (h2) (f_load (j := 0) ta4 rfl (off := 4) rfl rfl rfl)) (nf rfl) ?_
  refine W.pure rfl (wo rfl) rfl rfl (p_not rfl rfl) (nf rfl) ?_
  refine W.pure rfl (wo rfl) rfl rfl (p_assign rfl rfl) (nf rfl) ?_
  refine W.doneQ (y := sub [1, 0, 0, 1, 1, 1] B33) rfl ?_
  refine C.cond_false (x := sub [1, 0, 0, 1, 1, 1, 0] B33) (y := sub [1, 0, 0, 1, 1, 1, 1] B33) rfl rfl ?_
  refine C.seq (x := sub [1, 0, 0, 1, 1, 1, 1, 0] B33) (y := sub [1, 0, 0, 1, 1, 1, 1, 1] B33) ?_
  refine C.region (id := 5) (m := 6) (ops := opsOf (sub [1, 0, 0, 1, 1, 1, 1, 0] B33)) rfl ?_
  refine W.pure rfl (wo rfl) rfl rfl (p_move rfl rfl) (nf rfl) ?_
  refine W.pure rfl (wo rfl) rfl rfl (p_nilCheck rfl rfl) (nf rfl) ?_
  refine W.pure rfl (wo rfl) rfl rfl (p_fieldAddr tf61_3 rfl rfl) (nf rfl) ?_
  refine W.quiet rfl (wo rfl) rfl rfl (f_load (j := 0) ta3 rfl (off := 3) rfl rfl rfl) (nf rfl) ?_
  refine W.pure rfl (wo rfl) rfl rfl (pT (by rw [h3]; rfl) (p_eql rfl rfl rfl)) (nf rfl) ?_
  refine W.pure rfl (wo rfl) rfl rfl (p_assign rfl rfl) (nf rfl) ?_
  refine W.doneQ (y := sub [1, 0, 0, 1, 1, 1, 1, 1] B33) rfl ?_
  refine C.cond_true (x := sub [1, 0, 0, 1, 1, 1, 1, 1, 0] B33) (y := sub [1, 0, 0, 1, 1, 1, 1, 1, 1] B33) rfl rfl ?_
  refine C.seq (x := sub [1, 0, 0, 1, 1, 1, 1, 1, 0, 0] B33) (y := sub [1, 0, 0, 1, 1, 1, 1, 1, 0, 1] B33) ?_
  refine C.region (id := 6) (m := 4) (ops := opsOf (sub [1, 0, 0, 1, 1, 1, 1, 1, 0, 0] B33)) rfl ?_
  refine W.pure rfl (wo rfl) rfl rfl (p_move rfl rfl) (nf rfl) ?_
  refine W.pure rfl (wo rfl) rfl rfl (p_nilCheck rfl rfl) (nf rfl) ?_
  refine W.pure rfl (wo rfl) rfl rfl (p_fieldAddr tf61_5 rfl rfl) (nf rfl) ?_
  refine W.put (H' := dkH b m v cur ⟨s.n, s.set, s.late, s.fuse, s.armed, true⟩) rfl (wo rfl) rfl (f_stDk (s := ⟨s.n, s.set, s.late, s.fuse, s.armed, s.dead⟩) (s2 := ⟨s.n, s.set, s.late, s.fuse, s.armed, true⟩) (k := 5) (u := .bool (true)) (j := 0) ts4 rfl trivial rfl (by decide) rfl rfl rfl) (nf rfl) ?_
  refine W.doneQ (y := sub [1, 0, 0, 1, 1, 1, 1, 1, 0, 1] B33) rfl ?_
  refine C.seq (x := sub [1, 0, 0, 1, 1, 1, 1, 1, 0, 1, 0] B33) (y := sub [1, 0, 0, 1, 1, 1, 1, 1, 0, 1, 1] B33) ?_
  refine C.region (id := 7) (m := 1) (ops := opsOf (sub [1, 0, 0, 1, 1, 1, 1, 1, 0, 1, 0] B33)) rfl ?_
  refine W.pure rfl (wo rfl) rfl rfl (p_assign rfl rfl) (nf rfl) ?_
  refine W.doneQ (y := sub [1, 0, 0, 1, 1, 1, 1, 1, 0, 1, 1] B33) rfl ?_
  exact C.ret (R := fun e w' => e = .returned (.int .i64 17) ∧ Cls w0 I (dkH b m v cur { s with dead := true }) w') (rs := [.tmp 2]) (vs := [.int .i64 17]) rfl Try.func33 rfl rfl rfl (res_cons (ResV.tmp rfl) res_nil) fun w1 hc1 => ⟨rfl, hc1⟩

theorem step_4 {w0 w : World} {I : Mem} {b m : Nat} {v : Value} {cur : Array Value} {s : Dk} (hc : Cls w0 I (dkH b m v cur s) w) (h : s.dead = false) (h2 : s.armed = true) (h3 : ¬ s.fuse = 0) : Calls Try.prog 33 #[ptr b 0] w fun e w' => e = .returned (.int .i64 0) ∧ Cls w0 I (dkH b m v cur { s with fuse := IntKind.i64.wrap (s.fuse - 1) }) w' := by
  refine calls_of_CW (N := 30) Try.func33 (show _ = some B33 by kernel_rfl) (by kernel_rfl) rfl (S := [(0, ptr b 0)]) (by simp) hc ?_
  show CW _ _ _ (sub [] B33) _ _ _
  refine C.seq (x := sub [0] B33) (y := sub [1] B33) ?_
  refine C.region (id := 0) (m := 1) (ops := opsOf (sub [0] B33)) rfl ?_
  refine W.pure rfl (wo rfl) rfl rfl (p_assign rfl rfl) (nf rfl) ?_
  refine W.doneQ (y := sub [1] B33) rfl ?_
  refine C.seq (x := sub [1, 0] B33) (y := sub [1, 1] B33) ?_
  refine C.block (id := 0) (c := sub [1, 0, 0] B33) ?_
  refine C.seq (x := sub [1, 0, 0, 0] B33) (y := sub [1, 0, 0, 1] B33) ?_
  refine C.region (id := 1) (m := 5) (ops := opsOf (sub [1, 0, 0, 0] B33)) rfl ?_
  refine W.pure rfl (wo rfl) rfl rfl (p_move rfl rfl) (nf rfl) ?_
  refine W.pure rfl (wo rfl) rfl rfl (p_nilCheck rfl rfl) (nf rfl) ?_
  refine W.pure rfl (wo rfl) rfl rfl (p_fieldAddr tf61_5 rfl rfl) (nf rfl) ?_
  refine W.quiet rfl (wo rfl) rfl rfl (qF (h) (f_load (j := 0) ta4 rfl (off := 5) rfl rfl rfl)) (nf rfl) ?_
  refine W.pure rfl (wo rfl) rfl rfl (p_assign rfl rfl) (nf rfl) ?_
  refine W.doneQ (y := sub [1, 0, 0, 1] B33) rfl ?_
  refine C.cond_false (x := sub [1, 0, 0, 1, 0] B33) (y := sub [1, 0, 0, 1, 1] B33) rfl rfl ?_
  refine C.seq (x := sub [1, 0, 0, 1, 1, 0] B33) (y := sub [1, 0, 0, 1, 1, 1] B33) ?_
  refine C.region (id := 3) (m := 6) (ops := opsOf (sub [1, 0, 0, 1, 1, 0] B33)) rfl ?_
  refine W.pure rfl (wo rfl) rfl rfl (p_move rfl rfl) (nf rfl) ?_
  refine W.pure rfl (wo rfl) rfl rfl (p_nilCheck rfl rfl) (nf rfl) ?_
  refine W.pure rfl (wo rfl) rfl rfl (p_fieldAddr tf61_4 rfl rfl) (nf rfl) ?_
  refine W.quiet rfl (wo rfl) rfl rfl (qT (h2) (f_load (j := 0) ta4 rfl (off := 4) rfl rfl rfl)) (nf rfl) ?_
  refine W.pure rfl (wo rfl) rfl rfl (p_not rfl rfl) (nf rfl) ?_
  refine W.pure rfl (wo rfl) rfl rfl (p_assign rfl rfl) (nf rfl) ?_
  refine W.doneQ (y := sub [1, 0, 0, 1, 1, 1] B33) rfl ?_
  refine C.cond_false (x := sub [1, 0, 0, 1, 1, 1, 0] B33) (y := sub [1, 0, 0, 1, 1, 1, 1] B33) rfl rfl ?_
  refine C.seq (x := sub [1, 0, 0, 1, 1, 1, 1, 0] B33) (y := sub [1, 0, 0, 1, 1, 1, 1, 1] B33) ?_
  refine C.region (id := 5) (m := 6) (ops := opsOf (sub [1, 0, 0, 1, 1, 1, 1, 0] B33)) rfl ?_
  refine W.pure rfl (wo rfl) rfl rfl (p_move rfl rfl) (nf rfl) ?_
  refine W.pure rfl (wo rfl) rfl rfl (p_nilCheck rfl rfl) (nf rfl) ?_
  refine W.pure rfl (wo rfl) rfl rfl (p_fieldAddr tf61_3 rfl rfl) (nf rfl) ?_
  refine W.quiet rfl (wo rfl) rfl rfl (f_load (j := 0) ta3 rfl (off := 3) rfl rfl rfl) (nf rfl) ?_
  refine W.pure rfl (wo rfl) rfl rfl (pF (by simpa using h3) (p_eql rfl rfl rfl)) (nf rfl) ?_
  refine W.pure rfl (wo rfl) rfl rfl (p_assign rfl rfl) (nf rfl) ?_
  refine W.doneQ (y := sub [1, 0, 0, 1, 1, 1, 1, 1] B33) rfl ?_
  refine C.cond_false (x := sub [1, 0, 0, 1, 1, 1, 1, 1, 0] B33) (y := sub [1, 0, 0, 1, 1, 1, 1, 1, 1] B33) rfl rfl ?_
  refine C.skipQ (y := sub [1, 1] B33) rfl ?_
  refine C.seq (x := sub [1, 1, 0] B33) (y := sub [1, 1, 1] B33) ?_
  refine C.region (id := 8) (m := 8) (ops := opsOf (sub [1, 1, 0] B33)) rfl ?_
  refine W.pure rfl (wo rfl) rfl rfl (p_move rfl rfl) (nf rfl) ?_
  refine W.pure rfl (wo rfl) rfl rfl (p_nilCheck rfl rfl) (nf rfl) ?_
  refine W.pure rfl (wo rfl) rfl rfl (p_fieldAddr tf61_3 rfl rfl) (nf rfl) ?_
  refine W.quiet rfl (wo rfl) rfl rfl (f_load (j := 0) ta3 rfl (off := 3) rfl rfl rfl) (nf rfl) ?_
  refine W.pure rfl (wo rfl) rfl rfl (p_sub rfl rfl rfl) (nf rfl) ?_
  refine W.pure rfl (wo rfl) rfl rfl (p_nilCheck rfl rfl) (nf rfl) ?_
  refine W.pure rfl (wo rfl) rfl rfl (p_fieldAddr tf61_3 rfl rfl) (nf rfl) ?_
  refine W.put (H' := dkH b m v cur ⟨s.n, s.set, s.late, IntKind.i64.wrap (s.fuse - 1), s.armed, s.dead⟩) rfl (wo rfl) rfl (f_stDk (s := ⟨s.n, s.set, s.late, s.fuse, s.armed, s.dead⟩) (s2 := ⟨s.n, s.set, s.late, IntKind.i64.wrap (s.fuse - 1), s.armed, s.dead⟩) (k := 3) (u := .int .i64 (IntKind.i64.wrap (s.fuse - 1))) (j := 0) ts3 rfl trivial rfl (by decide) rfl rfl rfl) (nf rfl) ?_
  refine W.doneQ (y := sub [1, 1, 1] B33) rfl ?_
  refine C.seq (x := sub [1, 1, 1, 0] B33) (y := sub [1, 1, 1, 1] B33) ?_
  refine C.region (id := 9) (m := 1) (ops := opsOf (sub [1, 1, 1, 0] B33)) rfl ?_
  refine W.pure rfl (wo rfl) rfl rfl (p_assign rfl rfl) (nf rfl) ?_
  refine W.doneQ (y := sub [1, 1, 1, 1] B33) rfl ?_
  exact C.ret (R := fun e w' => e = .returned (.int .i64 0) ∧ Cls w0 I (dkH b m v cur { s with fuse := IntKind.i64.wrap (s.fuse - 1) }) w') (rs := [.tmp 2]) (vs := [.int .i64 0]) rfl Try.func33 rfl rfl rfl (res_cons (ResV.tmp rfl) res_nil) fun w1 hc1 => ⟨rfl, hc1⟩

def stepK (s : Dk) : Int × Dk := if s.dead = true then (14, s) else if s.armed = false then (0, s) else if s.fuse = 0 then (17, { s with dead := true }) else (0, { s with fuse := IntKind.i64.wrap (s.fuse - 1) })
theorem step_ok {w0 w : World} {I : Mem} {b m : Nat} {v : Value} {cur : Array Value} {s : Dk} (hc : Cls w0 I (dkH b m v cur s) w) : Calls Try.prog 33 #[ptr b 0] w fun e w' => e = .returned (.int .i64 (stepK s).1) ∧ Cls w0 I (dkH b m v cur (stepK s).2) w' := by
  unfold stepK
  by_cases h : s.dead = true
  · rw [if_pos h]; exact step_1 hc h
  · have h' : s.dead = false := by simpa using h
    rw [if_neg h]
    by_cases h2 : s.armed = false
    · rw [if_pos h2]; exact step_2 hc h' h2
    · have h2' : s.armed = true := by simpa using h2
      rw [if_neg h2]
      by_cases h3 : s.fuse = 0
      · rw [if_pos h3]; exact step_3 hc h' h2' h3
      · rw [if_neg h3]; exact step_4 hc h' h2' h3

end Go.Proofs.Ytjomnicfcdkfdaa
end

section
namespace Go.Proofs.Ytjomnicfcdkfdaa
open Go Go.HW Go.RowKit
set_option linter.unusedVariables false
set_option linter.unusedSimpArgs false

theorem pI {P : Program} {o : Oper} {S : Slots} {k : IntKind} {a b : Int} (h : a = b) (hp : FPure P o S (.int k a)) : FPure P o S (.int k b) := by rw [← h]; exact hp
theorem wk {k : Nat} (h : k < 1099511627776) : IntKind.i64.wrap ((k : Int) + 1) = ((k + 1 : Nat) : Int) := by rw [w64 (by omega) (by omega)]; omega

noncomputable def B13 : Code := bodyOf Try.f13
theorem en13 (args : Array Value) (w : World) : (callFunc 13 args).run Try.prog w = .ok (.enter 13 args) w := by kernel_rfl

theorem setfuse_1 {w0 w : World} {I : Mem} {b m : Nat} {v : Value} {cur : Array Value} {s : Dk} (hc : Cls w0 I (dkH b m v cur s) w) (ho : DkO v cur s) (n : Int) (h : n < 0) : Calls Try.prog 13 #[ptr b 0, .int .i64 n] w fun e w' => e = .returned (.int .i64 2) ∧ Cls w0 I (dkH b m v cur s) w' := by
  refine calls_of_CW (N := 19) Try.func13 (show _ = some B13 by kernel_rfl) (by kernel_rfl) rfl (S := [(0, ptr b 0), (1, .int .i64 n)]) (by simp) hc ?_
  show CW _ _ _ (sub [] B13) _ _ _
  refine C.seq (x := sub [0] B13) (y := sub [1] B13) ?_
  refine C.region (id := 0) (m := 1) (ops := opsOf (sub [0] B13)) rfl ?_
  refine W.pure rfl (wo rfl) rfl rfl (p_assign rfl rfl) (nf rfl) ?_
  refine W.doneQ (y := sub [1] B13) rfl ?_
  refine C.seq (x := sub [1, 0] B13) (y := sub [1, 1] B13) ?_
  refine C.block (id := 0) (c := sub [1, 0, 0] B13) ?_
  refine C.seq (x := sub [1, 0, 0, 0] B13) (y := sub [1, 0, 0, 1] B13) ?_
  refine C.region (id := 1) (m := 4) (ops := opsOf (sub [1, 0, 0, 0] B13)) rfl ?_
  refine W.pure rfl (wo rfl) rfl rfl (p_move rfl rfl) (nf rfl) ?_
  refine W.quiet rfl (wo rfl) rfl rfl (f_callR rfl rfl (args_val (vs := [ptr b 0]) rfl) (en32 _) (fun w2 hc2 => there_ok (M := heapOf w2) (fun _ _ e => e) (ho.M (b := b) (m := m) hc2 (fun p hp => by first | exact hp | exact List.mem_cons_of_mem _ hp | exact List.mem_cons_of_mem _ (List.mem_cons_of_mem _ hp) | exact List.mem_append_left _ hp)))) (nf rfl) ?_
  refine W.pure rfl (wo rfl) rfl rfl (p_not rfl rfl) (nf rfl) ?_
  refine W.pure rfl (wo rfl) rfl rfl (p_assign rfl rfl) (nf rfl) ?_
  refine W.doneQ (y := sub [1, 0, 0, 1] B13) rfl ?_
  refine C.cond_false (x := sub [1, 0, 0, 1, 0] B13) (y := sub [1, 0, 0, 1, 1] B13) rfl rfl ?_
  refine C.seq (x := sub [1, 0, 0, 1, 1, 0] B13) (y := sub [1, 0, 0, 1, 1, 1] B13) ?_
  refine C.region (id := 3) (m := 3) (ops := opsOf (sub [1, 0, 0, 1, 1, 0] B13)) rfl ?_
  refine W.pure rfl (wo rfl) rfl rfl (p_move rfl rfl) (nf rfl) ?_
  refine W.pure rfl (wo rfl) rfl rfl (pT (decide_eq_true h) (p_lss rfl rfl rfl)) (nf rfl) ?_
  refine W.pure rfl (wo rfl) rfl rfl (p_assign rfl rfl) (nf rfl) ?_
  refine W.doneQ (y := sub [1, 0, 0, 1, 1, 1] B13) rfl ?_
  refine C.cond_true (x := sub [1, 0, 0, 1, 1, 1, 0] B13) (y := sub [1, 0, 0, 1, 1, 1, 1] B13) rfl rfl ?_
  refine C.seq (x := sub [1, 0, 0, 1, 1, 1, 0, 0] B13) (y := sub [1, 0, 0, 1, 1, 1, 0, 1] B13) ?_
  refine C.region (id := 4) (m := 1) (ops := opsOf (sub [1, 0, 0, 1, 1, 1, 0, 0] B13)) rfl ?_
  refine W.pure rfl (wo rfl) rfl rfl (p_assign rfl rfl) (nf rfl) ?_
  refine W.doneQ (y := sub [1, 0, 0, 1, 1, 1, 0, 1] B13) rfl ?_
  exact C.ret (R := fun e w' => e = .returned (.int .i64 2) ∧ Cls w0 I (dkH b m v cur s) w') (rs := [.tmp 4]) (vs := [.int .i64 2]) rfl Try.func13 rfl rfl rfl (res_cons (ResV.tmp rfl) res_nil) fun w1 hc1 => ⟨rfl, hc1⟩

theorem setfuse_2 {w0 w : World} {I : Mem} {b m : Nat} {v : Value} {cur : Array Value} {s : Dk} (hc : Cls w0 I (dkH b m v cur s) w) (ho : DkO v cur s) (n : Int) (h : ¬ n < 0) : Calls Try.prog 13 #[ptr b 0, .int .i64 n] w fun e w' => e = .returned (.int .i64 0) ∧ Cls w0 I (dkH b m v cur { s with fuse := n, armed := true }) w' := by
  refine calls_of_CW (N := 19) Try.func13 (show _ = some B13 by kernel_rfl) (by kernel_rfl) rfl (S := [(0, ptr b 0), (1, .int .i64 n)]) (by simp) hc ?_
  show CW _ _ _ (sub [] B13) _ _ _
  refine C.seq (x := sub [0] B13) (y := sub [1] B13) ?_
  refine C.region (id := 0) (m := 1) (ops := opsOf (sub [0] B13)) rfl ?_
  refine W.pure rfl (wo rfl) rfl rfl (p_assign rfl rfl) (nf rfl) ?_
  refine W.doneQ (y := sub [1] B13) rfl ?_
  refine C.seq (x := sub [1, 0] B13) (y := sub [1, 1] B13) ?_
  refine C.block (id := 0) (c := sub [1, 0, 0] B13) ?_
  refine C.seq (x := sub [1, 0, 0, 0] B13) (y := sub [1, 0, 0, 1] B13) ?_
  refine C.region (id := 1) (m := 4) (ops := opsOf (sub [1, 0, 0, 0] B13)) rfl ?_
  refine W.pure rfl (wo rfl) rfl rfl (p_move rfl rfl) (nf rfl) ?_
  refine W.quiet rfl (wo rfl) rfl rfl (f_callR rfl rfl (args_val (vs := [ptr b 0]) rfl) (en32 _) (fun w2 hc2 => there_ok (M := heapOf w2) (fun _ _ e => e) (ho.M (b := b) (m := m) hc2 (fun p hp => by first | exact hp | exact List.mem_cons_of_mem _ hp | exact List.mem_cons_of_mem _ (List.mem_cons_of_mem _ hp) | exact List.mem_append_left _ hp)))) (nf rfl) ?_
  refine W.pure rfl (wo rfl) rfl rfl (p_not rfl rfl) (nf rfl) ?_
  refine W.pure rfl (wo rfl) rfl rfl (p_assign rfl rfl) (nf rfl) ?_
  refine W.doneQ (y := sub [1, 0, 0, 1] B13) rfl ?_
  refine C.cond_false (x := sub [1, 0, 0, 1, 0] B13) (y := sub [1, 0, 0, 1, 1] B13) rfl rfl ?_
  refine C.seq (x := sub [1, 0, 0, 1, 1, 0] B13) (y := sub [1, 0, 0, 1, 1, 1] B13) ?_
  refine C.region (id := 3) (m := 3) (ops := opsOf (sub [1, 0, 0, 1, 1, 0] B13)) rfl ?_
  refine W.pure rfl (wo rfl) rfl rfl (p_move rfl rfl) (nf rfl) ?_
  refine W.pure rfl (wo rfl) rfl rfl (pF (decide_eq_false h) (p_lss rfl rfl rfl)) (nf rfl) ?_
  refine W.pure rfl (wo rfl) rfl rfl (p_assign rfl rfl) (nf rfl) ?_
  refine W.doneQ (y := sub [1, 0, 0, 1, 1, 1] B13) rfl ?_
  refine C.cond_false (x := sub [1, 0, 0, 1, 1, 1, 0] B13) (y := sub [1, 0, 0, 1, 1, 1, 1] B13) rfl rfl ?_
  refine C.skipQ (y := sub [1, 1] B13) rfl ?_
  refine C.seq (x := sub [1, 1, 0] B13) (y := sub [1, 1, 1] B13) ?_
  refine C.region (id := 5) (m := 9) (ops := opsOf (sub [1, 1, 0] B13)) rfl ?_
  refine W.pure rfl (wo rfl) rfl rfl (p_move rfl rfl) (nf rfl) ?_
  refine W.pure rfl (wo rfl) rfl rfl (p_move rfl rfl) (nf rfl) ?_
  refine W.pure rfl (wo rfl) rfl rfl (p_move rfl rfl) (nf rfl) ?_
  refine W.pure rfl (wo rfl) rfl rfl (p_nilCheck rfl rfl) (nf rfl) ?_
  refine W.pure rfl (wo rfl) rfl rfl (p_fieldAddr tf61_3 rfl rfl) (nf rfl) ?_
  refine W.put (H' := dkH b m v cur ⟨s.n, s.set, s.late, n, s.armed, s.dead⟩) rfl (wo rfl) rfl (f_stDk (s := ⟨s.n, s.set, s.late, s.fuse, s.armed, s.dead⟩) (s2 := ⟨s.n, s.set, s.late, n, s.armed, s.dead⟩) (k := 3) (u := .int .i64 (n)) (j := 0) ts3 rfl trivial rfl (by decide) rfl rfl rfl) (nf rfl) ?_
  refine W.pure rfl (wo rfl) rfl rfl (p_nilCheck rfl rfl) (nf rfl) ?_
  refine W.pure rfl (wo rfl) rfl rfl (p_fieldAddr tf61_4 rfl rfl) (nf rfl) ?_
  refine W.put (H' := dkH b m v cur ⟨s.n, s.set, s.late, n, true, s.dead⟩) rfl (wo rfl) rfl (f_stDk (s := ⟨s.n, s.set, s.late, n, s.armed, s.dead⟩) (s2 := ⟨s.n, s.set, s.late, n, true, s.dead⟩) (k := 4) (u := .bool (true)) (j := 0) ts4 rfl trivial rfl (by decide) rfl rfl rfl) (nf rfl) ?_
  refine W.doneQ (y := sub [1, 1, 1] B13) rfl ?_
  refine C.seq (x := sub [1, 1, 1, 0] B13) (y := sub [1, 1, 1, 1] B13) ?_
  refine C.region (id := 6) (m := 1) (ops := opsOf (sub [1, 1, 1, 0] B13)) rfl ?_
  refine W.pure rfl (wo rfl) rfl rfl (p_assign rfl rfl) (nf rfl) ?_
  refine W.doneQ (y := sub [1, 1, 1, 1] B13) rfl ?_
  exact C.ret (R := fun e w' => e = .returned (.int .i64 0) ∧ Cls w0 I (dkH b m v cur { s with fuse := n, armed := true }) w') (rs := [.tmp 4]) (vs := [.int .i64 0]) rfl Try.func13 rfl rfl rfl (res_cons (ResV.tmp rfl) res_nil) fun w1 hc1 => ⟨rfl, hc1⟩

def setFuseK (s : Dk) (n : Int) : Int × Dk := if n < 0 then (2, s) else (0, { s with fuse := n, armed := true })
theorem setfuse_ok {w0 w : World} {I : Mem} {b m : Nat} {v : Value} {cur : Array Value} {s : Dk} (hc : Cls w0 I (dkH b m v cur s) w) (ho : DkO v cur s) (n : Int) : Calls Try.prog 13 #[ptr b 0, .int .i64 n] w fun e w' => e = .returned (.int .i64 (setFuseK s n).1) ∧ Cls w0 I (dkH b m v cur (setFuseK s n).2) w' := by
  unfold setFuseK
  by_cases h : n < 0
  · rw [if_pos h]; exact setfuse_1 hc ho n h
  · rw [if_neg h]; exact setfuse_2 hc ho n h

noncomputable def B14 : Code := bodyOf Try.f14
theorem en14 (args : Array Value) (w : World) : (callFunc 14 args).run Try.prog w = .ok (.enter 14 args) w := by kernel_rfl

def setK (s : Dk) (k : Nat) : List Wr := (s.late.take k).foldl (fun l w => mput l w.1 w.2) s.set
theorem setK_succ {s : Dk} {k : Nat} {x : Wr} (h : s.late[k]? = some x) : mput (setK s k) x.1 x.2 = setK s (k + 1) := by
  unfold setK
  rw [List.take_add_one, h, List.foldl_append]; rfl
theorem late_len {v : Value} {cur : Array Value} {s : Dk} (ho : DkO v cur s) {k : Nat} {x : Wr} (h : s.late[k]? = some x) : x.2.length = 512 := by
  obtain ⟨cs, _, h2⟩ := ho.hr
  exact (h2 k x h).2
theorem setK_full {v : Value} {cur : Array Value} {s : Dk} (ho : DkO v cur s) : ∀ k, Full (setK s k)
  | 0 => ho.hs
  | k + 1 => by
    cases h : s.late[k]? with
    | none =>
      have e : setK s (k + 1) = setK s k := by unfold setK; rw [List.take_add_one, h]; simp
      rw [e]; exact setK_full ho k
    | some x =>
      rw [← setK_succ h]
      exact mput_full (setK_full ho k) (late_len ho h)
theorem sync_1 {w0 w : World} {I : Mem} {b m : Nat} {v : Value} {cur : Array Value} {s : Dk} (hc : Cls w0 I (dkH b m v cur s) w) (ho : DkO v cur s) (h : ¬ (stepK s).1 = 0) : Calls Try.prog 14 #[ptr b 0] w fun e w' => e = .returned (.int .i64 (stepK s).1) ∧ Cls w0 I (dkH b m v cur (stepK s).2) w' := by
  refine calls_of_CW (N := 35) Try.func14 (show _ = some B14 by kernel_rfl) (by kernel_rfl) rfl (S := [(0, ptr b 0)]) (by simp) hc ?_
  show CW _ _ _ (sub [] B14) _ _ _
  refine C.seq (x := sub [0] B14) (y := sub [1] B14) ?_
  refine C.region (id := 0) (m := 1) (ops := opsOf (sub [0] B14)) rfl ?_
  refine W.pure rfl (wo rfl) rfl rfl (p_assign rfl rfl) (nf rfl) ?_
  refine W.doneQ (y := sub [1] B14) rfl ?_
  refine C.seq (x := sub [1, 0] B14) (y := sub [1, 1] B14) ?_
  refine C.seq (x := sub [1, 0, 0] B14) (y := sub [1, 0, 1] B14) ?_
  refine C.region (id := 1) (m := 3) (ops := opsOf (sub [1, 0, 0] B14)) rfl ?_
  refine W.pure rfl (wo rfl) rfl rfl (p_move rfl rfl) (nf rfl) ?_
  refine W.quiet rfl (wo rfl) rfl rfl (f_callR rfl rfl (args_val (vs := [ptr b 0]) rfl) (en32 _) (fun w2 hc2 => there_ok (M := heapOf w2) (fun _ _ e => e) (ho.M (b := b) (m := m) hc2 (fun p hp => by first | exact hp | exact List.mem_cons_of_mem _ hp | exact List.mem_cons_of_mem _ (List.mem_cons_of_mem _ hp) | exact List.mem_append_left _ hp)))) (nf rfl) ?_
  refine W.pure rfl (wo rfl) rfl rfl (p_not rfl rfl) (nf rfl) ?_
  refine W.doneQ (y := sub [1, 0, 1] B14) rfl ?_
  refine C.cond_false (x := sub [1, 0, 1, 0] B14) (y := sub [1, 0, 1, 1] B14) rfl rfl ?_
  refine C.skipQ (y := sub [1, 1] B14) rfl ?_
  refine C.seq (x := sub [1, 1, 0] B14) (y := sub [1, 1, 1] B14) ?_
  refine C.region (id := 3) (m := 3) (ops := opsOf (sub [1, 1, 0] B14)) rfl ?_
  refine W.pure rfl (wo rfl) rfl rfl (p_move rfl rfl) (nf rfl) ?_
  refine W.callX (X := Unit) (u := fun _ => .int .i64 (stepK s).1) (H' := fun _ => dkH b m v cur (stepK s).2) rfl (wo rfl) rfl rfl rfl rfl rfl (args_val (vs := [ptr b 0]) rfl) (en33 _) (fun w2 hc2 => (step_ok hc2).mono fun e w3 ⟨h1, h2⟩ => ⟨(), h1, h2⟩) ?_
  intro _
  refine W.pure rfl (wo rfl) rfl rfl (p_assign rfl rfl) (nf rfl) ?_
  refine W.doneQ (y := sub [1, 1, 1] B14) rfl ?_
  refine C.seq (x := sub [1, 1, 1, 0] B14) (y := sub [1, 1, 1, 1] B14) ?_
  refine C.seq (x := sub [1, 1, 1, 0, 0] B14) (y := sub [1, 1, 1, 0, 1] B14) ?_
  refine C.region (id := 4) (m := 2) (ops := opsOf (sub [1, 1, 1, 0, 0] B14)) rfl ?_
  refine W.pure rfl (wo rfl) rfl rfl (p_move rfl rfl) (nf rfl) ?_
  refine W.pure rfl (wo rfl) rfl rfl (pF (by simpa using h) (p_eql rfl rfl rfl)) (nf rfl) ?_
  refine W.doneQ (y := sub [1, 1, 1, 0, 1] B14) rfl ?_
  refine C.cond_false (x := sub [1, 1, 1, 0, 1, 0] B14) (y := sub [1, 1, 1, 0, 1, 1] B14) rfl rfl ?_
  refine C.skipQ (y := sub [1, 1, 1, 1] B14) rfl ?_
  refine C.seq (x := sub [1, 1, 1, 1, 0] B14) (y := sub [1, 1, 1, 1, 1] B14) ?_
  refine C.region (id := 11) (m := 2) (ops := opsOf (sub [1, 1, 1, 1, 0] B14)) rfl ?_
  refine W.pure rfl (wo rfl) rfl rfl (p_move rfl rfl) (nf rfl) ?_
  refine W.pure rfl (wo rfl) rfl rfl (p_assign rfl rfl) (nf rfl) ?_
  refine W.doneQ (y := sub [1, 1, 1, 1, 1] B14) rfl ?_
  exact C.ret (R := fun e w' => e = .returned (.int .i64 (stepK s).1) ∧ Cls w0 I (dkH b m v cur (stepK s).2) w') (rs := [.tmp 2]) (vs := [.int .i64 (stepK s).1]) rfl Try.func14 rfl rfl rfl (res_cons (ResV.tmp rfl) res_nil) fun w1 hc1 => ⟨rfl, hc1⟩

end Go.Proofs.Ytjomnicfcdkfdaa
end

section
namespace Go.Proofs.Ytjomnicfcdkfdaa
open Go Go.HW Go.RowKit
set_option linter.unusedVariables false
set_option linter.unusedSimpArgs false

theorem f_stDkL {o : Oper} {S : Slots} {w0 : World} {I : Mem} {H : Heap} {t : TypeId} {x y : Operand} {b m j : Nat} {v u : Value} {s s2 : Dk} (hs : ∀ w, (sizeOf t).run Try.prog w = .ok 1 w) (hn : u.cells = #[u]) (h1 : OneCell u) (hH : H[j]? = some (dk1 b m v s))
    (ho : o.op = .store t x y) (hx : ev S x = some (ptr b 2)) (hy : ev S y = some u) (he : (some b, Obj.cells ((#[.int .i64 s.n, .map (some m), v, .int .i64 s.fuse, .bool s.armed, .bool s.dead] : Array Value).setIfInBounds 2 u) 61 (0, 0)) = dk1 b m u s2 := by rfl) : FPut Try.prog o w0 I S H (H.set j (dk1 b m u s2)) := by
  rw [← he]
  exact f_store hs hH hn (show 2 < 6 by decide) h1 ho hx hy
theorem cls_drop {w0 w : World} {I : Mem} {a c : Option Nat × Obj} {p : Option Nat × Obj} (hc : Cls w0 I [a, c, p] w) : Cls w0 I [a, c, (none, .cells #[] 64 (0, 0))] w := by
  have h1 : Cls w0 I [a, c] w := hc.fewer (by simp)
  exact ((h1.nothing (.cells #[] 64 (0, 0))).perm (List.perm_append_comm (l₁ := [(none, Obj.cells #[] 64 (0, 0))]) (l₂ := [a, c])))

theorem sync_2 {s1 : Dk} (hl : s1.late.length ≤ 1099511627775) {w0 w : World} {I : Mem} {b m : Nat} {v : Value} {cur : Array Value} {s : Dk} (hc : Cls w0 I (dkH b m v cur s) w) (ho : DkO v cur s) (ho1 : DkO v cur s1) (hstep : ∀ w2, Cls w0 I (dkH b m v cur s) w2 → Calls Try.prog 33 #[ptr b 0] w2 fun e w' => e = .returned (.int .i64 0) ∧ Cls w0 I (dkH b m v cur s1) w') : Calls Try.prog 14 #[ptr b 0] w (fun e w' => e = .returned (.int .i64 0) ∧ Cls w0 I (dkH b m (.slice none 0 0) #[] { s1 with set := setK s1 s1.late.length, late := [] }) w') := by
  obtain ⟨cs, hcs, hch⟩ := id ho1.hr
  refine calls_of_CW (N := 35) Try.func14 (show _ = some B14 by kernel_rfl) (by kernel_rfl) rfl (S := [(0, ptr b 0)]) (by simp) hc ?_
  show CW _ _ _ (sub [] B14) _ _ _
  refine C.seq (x := sub [0] B14) (y := sub [1] B14) ?_
  refine C.region (id := 0) (m := 1) (ops := opsOf (sub [0] B14)) rfl ?_
  refine W.pure rfl (wo rfl) rfl rfl (p_assign rfl rfl) (nf rfl) ?_
  refine W.doneQ (y := sub [1] B14) rfl ?_
  refine C.seq (x := sub [1, 0] B14) (y := sub [1, 1] B14) ?_
  refine C.seq (x := sub [1, 0, 0] B14) (y := sub [1, 0, 1] B14) ?_
  refine C.region (id := 1) (m := 3) (ops := opsOf (sub [1, 0, 0] B14)) rfl ?_
  refine W.pure rfl (wo rfl) rfl rfl (p_move rfl rfl) (nf rfl) ?_
  refine W.quiet rfl (wo rfl) rfl rfl (f_callR rfl rfl (args_val (vs := [ptr b 0]) rfl) (en32 _) (fun w2 hc2 => there_ok (M := heapOf w2) (fun _ _ e => e) (ho.M (b := b) (m := m) hc2 (fun p hp => by first | exact hp | exact List.mem_cons_of_mem _ hp | exact List.mem_cons_of_mem _ (List.mem_cons_of_mem _ hp) | exact List.mem_append_left _ hp)))) (nf rfl) ?_
  refine W.pure rfl (wo rfl) rfl rfl (p_not rfl rfl) (nf rfl) ?_
  refine W.doneQ (y := sub [1, 0, 1] B14) rfl ?_
  refine C.cond_false (x := sub [1, 0, 1, 0] B14) (y := sub [1, 0, 1, 1] B14) rfl rfl ?_
  refine C.skipQ (y := sub [1, 1] B14) rfl ?_
  refine C.seq (x := sub [1, 1, 0] B14) (y := sub [1, 1, 1] B14) ?_
  refine C.region (id := 3) (m := 3) (ops := opsOf (sub [1, 1, 0] B14)) rfl ?_
  refine W.pure rfl (wo rfl) rfl rfl (p_move rfl rfl) (nf rfl) ?_
  refine W.callX (X := Unit) (u := fun _ => .int .i64 0) (H' := fun _ => dkH b m v cur s1) rfl (wo rfl) rfl rfl rfl rfl rfl (args_val (vs := [ptr b 0]) rfl) (en33 _) (fun w2 hc2 => (hstep w2 hc2).mono fun e w3 ⟨h1, h2⟩ => ⟨(), h1, h2⟩) ?_
  intro _
  refine W.pure rfl (wo rfl) rfl rfl (p_assign rfl rfl) (nf rfl) ?_
  refine W.doneQ (y := sub [1, 1, 1] B14) rfl ?_
  refine C.seq (x := sub [1, 1, 1, 0] B14) (y := sub [1, 1, 1, 1] B14) ?_
  refine C.seq (x := sub [1, 1, 1, 0, 0] B14) (y := sub [1, 1, 1, 0, 1] B14) ?_
  refine C.region (id := 4) (m := 2) (ops := opsOf (sub [1, 1, 1, 0, 0] B14)) rfl ?_
  refine W.pure rfl (wo rfl) rfl rfl (p_move rfl rfl) (nf rfl) ?_
  refine W.pure rfl (wo rfl) rfl rfl (pT (beq_self_eq_true _) (p_eql rfl rfl rfl)) (nf rfl) ?_
  refine W.doneQ (y := sub [1, 1, 1, 0, 1] B14) rfl ?_
  refine C.cond_true (x := sub [1, 1, 1, 0, 1, 0] B14) (y := sub [1, 1, 1, 0, 1, 1] B14) rfl rfl ?_
  refine C.seq (x := sub [1, 1, 1, 0, 1, 0, 0] B14) (y := sub [1, 1, 1, 0, 1, 0, 1] B14) ?_
  refine C.seq (x := sub [1, 1, 1, 0, 1, 0, 0, 0] B14) (y := sub [1, 1, 1, 0, 1, 0, 0, 1] B14) ?_
  refine C.region (id := 5) (m := 6) (ops := opsOf (sub [1, 1, 1, 0, 1, 0, 0, 0] B14)) rfl ?_
  refine W.pure rfl (wo rfl) rfl rfl (p_move rfl rfl) (nf rfl) ?_
  refine W.pure rfl (wo rfl) rfl rfl (p_nilCheck rfl rfl) (nf rfl) ?_
  refine W.pure rfl (wo rfl) rfl rfl (p_fieldAddr tf61_2 rfl rfl) (nf rfl) ?_
  refine W.quiet rfl (wo rfl) rfl rfl (f_load (j := 0) ta59 rfl (off := 2) rfl rfl rfl) (nf rfl) ?_
  refine W.pure rfl (wo rfl) rfl rfl (p_slLen tu59 hcs.sl rfl rfl) (nf rfl) ?_
  refine W.pure rfl (wo rfl) rfl rfl (p_move rfl rfl) (nf rfl) ?_
  refine W.doneQ (y := sub [1, 1, 1, 0, 1, 0, 0, 1] B14) rfl ?_
  refine C.loopB (id := 0) (c := sub [1, 1, 1, 0, 1, 0, 0, 1, 0, 0] B14) (y := sub [1, 1, 1, 0, 1, 0, 1] B14) (fun k : Nat => s1.late.length - k) (fun k => [(0, ptr b 0), (3, .int .i64 0), (16, v), (17, .int .i64 (s1.late.length : Int)), (18, .int .i64 (k : Int))]) (fun k => dkH b m v cur { s1 with set := setK s1 k }) (fun k => k ≤ s1.late.length) 0 (Nat.zero_le _) (Sub.cons rfl (Sub.cons rfl (Sub.cons rfl (Sub.cons rfl (Sub.cons rfl (Sub.nil _)))))) rfl rfl (fun k => k = s1.late.length) ?_ ?_
  · intro k hk Q' hN hE hR
    by_cases hlt : k < s1.late.length
    · obtain ⟨x, hx⟩ : ∃ x, s1.late[k]? = some x := ⟨_, List.getElem?_eq_getElem hlt⟩
      have hx2 := late_len ho1 hx
      refine C.seq (x := sub [1, 1, 1, 0, 1, 0, 0, 1, 0, 0, 0] B14) (y := sub [1, 1, 1, 0, 1, 0, 0, 1, 0, 0, 1] B14) ?_
      refine C.region (id := 6) (m := 1) (ops := opsOf (sub [1, 1, 1, 0, 1, 0, 0, 1, 0, 0, 0] B14)) rfl ?_
      refine W.pure rfl (wo rfl) rfl rfl (pT (decide_eq_true (by exact_mod_cast hlt)) (p_lss rfl rfl rfl)) (nf rfl) ?_
      refine W.doneQ (y := sub [1, 1, 1, 0, 1, 0, 0, 1, 0, 0, 1] B14) rfl ?_
      refine C.seq (x := sub [1, 1, 1, 0, 1, 0, 0, 1, 0, 0, 1, 0] B14) (y := sub [1, 1, 1, 0, 1, 0, 0, 1, 0, 0, 1, 1] B14) ?_
      refine C.cond_true (x := sub [1, 1, 1, 0, 1, 0, 0, 1, 0, 0, 1, 0, 0] B14) (y := sub [1, 1, 1, 0, 1, 0, 0, 1, 0, 0, 1, 0, 1] B14) rfl rfl ?_
      refine C.skipQ (y := sub [1, 1, 1, 0, 1, 0, 0, 1, 0, 0, 1, 1] B14) rfl ?_
      refine C.seq (x := sub [1, 1, 1, 0, 1, 0, 0, 1, 0, 0, 1, 1, 0] B14) (y := sub [1, 1, 1, 0, 1, 0, 0, 1, 0, 0, 1, 1, 1] B14) ?_
      refine C.block (id := 1) (c := sub [1, 1, 1, 0, 1, 0, 0, 1, 0, 0, 1, 1, 0, 0] B14) ?_
      refine C.seq (x := sub [1, 1, 1, 0, 1, 0, 0, 1, 0, 0, 1, 1, 0, 0, 0] B14) (y := sub [1, 1, 1, 0, 1, 0, 0, 1, 0, 0, 1, 1, 0, 0, 1] B14) ?_
      refine C.region (id := 7) (m := 4) (ops := opsOf (sub [1, 1, 1, 0, 1, 0, 0, 1, 0, 0, 1, 1, 0, 0, 0] B14)) rfl ?_
      refine W.pure rfl (wo rfl) rfl rfl (p_slIx tu59 ts64 (OwnV.some hcs (Int.natCast_nonneg k) (by exact_mod_cast hlt)) (Int.natCast_nonneg k) (by exact_mod_cast hlt) rfl rfl rfl) (nf rfl) ?_
      refine W.quiet rfl (wo rfl) rfl rfl (f_loadElA (j := 2) rfl hcs (hch k x hx).1 hlt ta64 ts64 rfl rfl) (nf rfl) ?_
      refine W.new rfl (wo rfl) rfl rfl (f_alloc tz64 rfl) (nf rfl) ?_
      intro b5 hb5
      refine W.put (H' := (some b5, .cells (wrc x) 64 (0, 0)) :: dkH b m v cur { s1 with set := setK s1 k }) rfl (wo rfl) rfl (f_storeA (j := 0) (c2 := wrc x) ts64 rfl (wrc_size hx2) (wrc_size List.length_replicate) wrc_one rfl rfl rfl) (nf rfl) ?_
      refine W.doneQ (y := sub [1, 1, 1, 0, 1, 0, 0, 1, 0, 0, 1, 1, 0, 0, 1] B14) rfl ?_
      refine C.regionD (id := 8) (ops := opsOf (sub [1, 1, 1, 0, 1, 0, 0, 1, 0, 0, 1, 1, 0, 0, 1] B14)) [0, 1, 2, 3, 4, 5, 6, 7, 8] [0, 1, 3, 7, 0, 16, 0, 64, 255] [(.pure, none), (.pure, none), (.pure, none), (.quiet, none), (.pure, none), (.quiet, none), (.pure, none), (.quiet, none), (.store, none)] (by kernel_rfl) ?_
      intro wD8 hl8
      refine DW.pure rfl rfl rfl rfl rfl (p_move rfl rfl) ?_
      refine DW.pure rfl rfl rfl rfl rfl (p_nilCheck rfl rfl) ?_
      refine DW.pure rfl rfl rfl rfl rfl (p_fieldAddr tf61_1 rfl rfl) ?_
      refine DW.quiet rfl rfl rfl rfl rfl (f_load (j := 1) ta58 rfl (off := 1) rfl rfl rfl) ?_
      refine DW.pure rfl rfl rfl rfl rfl (p_fieldAddr tf64_0 rfl rfl) ?_
      refine DW.quiet rfl rfl rfl rfl rfl (f_load (j := 0) ta3 rfl (off := 0) (wrc_0 x) rfl rfl) ?_
      refine DW.pure rfl rfl rfl rfl rfl (p_fieldAddr tf64_1 rfl rfl) ?_
      refine DW.quiet rfl rfl rfl rfl rfl (f_loadSubA (j := 0) (off := 1) (vs := encl .u8 x.2) ta62 ts62 rfl (by simp [encl, hx2]) (wrc_drop hx2) rfl rfl) ?_
      refine DW.put (H' := (some b5, .cells (wrc x) 64 (0, 0)) :: dkH b m v cur { s1 with set := mput (setK s1 k) x.1 x.2 }) rfl rfl rfl rfl rfl (f_mput (j := 2) tu58 tu3 rfl rfl rfl rfl rfl) ?_
      refine DW.doneQ (y := sub [1, 1, 1, 0, 1, 0, 0, 1, 0, 0, 1, 1, 1] B14) hl8 rfl ?_
      refine C.region (id := 9) (m := 2) (ops := opsOf (sub [1, 1, 1, 0, 1, 0, 0, 1, 0, 0, 1, 1, 1] B14)) rfl ?_
      refine W.pure rfl (wo rfl) rfl rfl (pI (wk (by omega)) (p_add rfl rfl rfl)) (nf rfl) ?_
      refine W.pure rfl (wo rfl) rfl rfl (p_move rfl rfl) (nf rfl) ?_
      refine W.end' fun a1 w1 ha1 hc1 => hN (k + 1) (by omega) (by omega) a1 w1 (ha1.sub (Sub.cons rfl (Sub.cons rfl (Sub.cons rfl (Sub.cons rfl (Sub.cons rfl (Sub.nil _))))))) ?_
      rw [← setK_succ hx]; exact hc1.fewer (List.sublist_cons_self _ _)
    · refine C.seq (x := sub [1, 1, 1, 0, 1, 0, 0, 1, 0, 0, 0] B14) (y := sub [1, 1, 1, 0, 1, 0, 0, 1, 0, 0, 1] B14) ?_
      refine C.region (id := 6) (m := 1) (ops := opsOf (sub [1, 1, 1, 0, 1, 0, 0, 1, 0, 0, 0] B14)) rfl ?_
      refine W.pure rfl (wo rfl) rfl rfl (pF (decide_eq_false (by omega)) (p_lss rfl rfl rfl)) (nf rfl) ?_
      refine W.doneQ (y := sub [1, 1, 1, 0, 1, 0, 0, 1, 0, 0, 1] B14) rfl ?_
      refine C.seq (x := sub [1, 1, 1, 0, 1, 0, 0, 1, 0, 0, 1, 0] B14) (y := sub [1, 1, 1, 0, 1, 0, 0, 1, 0, 0, 1, 1] B14) ?_
      refine C.cond_false (x := sub [1, 1, 1, 0, 1, 0, 0, 1, 0, 0, 1, 0, 0] B14) (y := sub [1, 1, 1, 0, 1, 0, 0, 1, 0, 0, 1, 0, 1] B14) rfl rfl ?_
      exact C.exit fun a1 w1 ha1 hc1 => hE (by omega) a1 w1 (ha1.sub (Sub.cons rfl (Sub.cons rfl (Sub.cons rfl (Sub.cons rfl (Sub.cons rfl (Sub.nil _))))))) hc1
  intro k hk hke
  subst hke
  refine C.region (id := 10) (m := 4) (ops := opsOf (sub [1, 1, 1, 0, 1, 0, 1] B14)) rfl ?_
  refine W.pure rfl (wo rfl) rfl rfl (p_move rfl rfl) (nf rfl) ?_
  refine W.pure rfl (wo rfl) rfl rfl (p_nilCheck rfl rfl) (nf rfl) ?_
  refine W.pure rfl (wo rfl) rfl rfl (p_fieldAddr tf61_2 rfl rfl) (nf rfl) ?_
  refine W.put (H' := [dk1 b m (.slice none 0 0) { s1 with set := setK s1 s1.late.length, late := [] }, (some m, dmap (setK s1 s1.late.length)), (v.ownBlock, .cells cur 64 (0, 0))]) rfl (wo rfl) rfl (f_stDkL (s := { s1 with set := setK s1 s1.late.length }) (s2 := { s1 with set := setK s1 s1.late.length, late := [] }) (j := 0) ts59 rfl trivial rfl rfl rfl rfl) (nf rfl) ?_
  refine W.doneQ (y := sub [1, 1, 1, 1] B14) rfl ?_
  refine C.seq (x := sub [1, 1, 1, 1, 0] B14) (y := sub [1, 1, 1, 1, 1] B14) ?_
  refine C.region (id := 11) (m := 2) (ops := opsOf (sub [1, 1, 1, 1, 0] B14)) rfl ?_
  refine W.pure rfl (wo rfl) rfl rfl (p_move rfl rfl) (nf rfl) ?_
  refine W.pure rfl (wo rfl) rfl rfl (p_assign rfl rfl) (nf rfl) ?_
  refine W.doneQ (y := sub [1, 1, 1, 1, 1] B14) rfl ?_
  exact C.ret (R := fun e w' => e = .returned (.int .i64 0) ∧ Cls w0 I (dkH b m (.slice none 0 0) #[] { s1 with set := setK s1 s1.late.length, late := [] }) w') (rs := [.tmp 2]) (vs := [.int .i64 0]) rfl Try.func14 rfl rfl rfl (res_cons (ResV.tmp rfl) res_nil) fun w1 hc1 => ⟨rfl, cls_drop hc1⟩

end Go.Proofs.Ytjomnicfcdkfdaa
end

section
namespace Go.Proofs.Ytjomnicfcdkfdaa
open Go Go.HW Go.RowKit
set_option linter.unusedVariables false
set_option linter.unusedSimpArgs false

theorem fold_set : ∀ (l p c r : List Value) (off k : Nat), off + k = p.length → c.length = l.length →
    (l.zipIdx k).foldl (fun (cs : Array Value) (x : Value × Nat) => cs.setIfInBounds (off + x.2) x.1) (p ++ c ++ r).toArray = (p ++ l ++ r).toArray
  | [], p, c, r, off, k, _, h => by
    have : c = [] := List.eq_nil_of_length_eq_zero h
    subst this; rfl
  | x :: l, p, c, r, off, k, h, h2 => by
    match c, h2 with
    | u :: c, h2 =>
      rw [List.zipIdx_cons, List.foldl_cons]
      have e : (p ++ u :: c ++ r).toArray.setIfInBounds (off + k) x = ((p ++ [x]) ++ c ++ r).toArray := by
        rw [h]; simp
      rw [e, fold_set l (p ++ [x]) c r off (k + 1) (by simp; omega) (by simpa using h2)]
      simp
theorem fold_set_arr (v c : Array Value) (p r : List Value) (mid : List Value) (hc : c = (p ++ mid ++ r).toArray) (hm : mid.length = v.size) :
    v.zipIdx.foldl (fun cs (x, j) => cs.setIfInBounds (p.length + j) x) c = (p ++ v.toList ++ r).toArray := by
  subst hc
  have := fold_set v.toList p mid r p.length 0 (by simp) (by simpa using hm)
  rw [← this, ← Array.foldl_toList, Array.toList_zipIdx]
theorem fill_one' {place : Nat → Option (Nat × Nat)} {c : Array Value} {v : Value} {i sz : Nat} (hp : place i = some (0, sz)) (hv : v.cells.size = sz) (hc : c.size = sz) : Instr.fill place c [(i, v)] = some v.cells := by
  simp only [Instr.fill, hp]
  rw [if_neg (by simp [hv, hc])]
  have := fold_set_arr v.cells c [] [] c.toList (by simp) (by simp [hv, hc])
  simp at this
  simp [this]

def fldW (n : String) (t : TypeId) (o b : Nat) : Field := { name := n, type := t, offset := o, embedded := false, tag := "", pkgPath := "escutcheon/disk", byteOffset := b }
theorem tu64 (w : World) : (underlying 64).run Try.prog w = .ok (.struct #[fldW "n" 3 0 0, fldW "b" 62 1 8]) w := by kernel_rfl
theorem places64 (w : World) : ((#[fldW "n" 3 0 0, fldW "b" 62 1 8] : Array Field).mapM fun f => (do Pure.pure (f.offset, ← sizeOf f.type) : Sem (Nat × Nat))).run Try.prog w = .ok #[(0, 1), (1, 512)] w := by kernel_rfl
theorem run_build_struct {P : Program} {t : TypeId} {z : Value} {fields : Array Field} {places : Array (Nat × Nat)} {parts : Array (Nat × Value)} {cells : Array Value} {w : World} (hz : (zeroValue t).run P w = .ok z w) (hu : (underlying t).run P w = .ok (.struct fields) w)
    (hp : (fields.mapM fun f => (do Pure.pure (f.offset, ← sizeOf f.type) : Sem (Nat × Nat))).run P w = .ok places w) (hf : Instr.fill (places[·]?) z.cells parts.toList = some cells) : (Instr.build t parts).run P w = .ok (.agg cells) w := by
  unfold Instr.build
  refine (run_of_bind hz).trans ?_
  refine (run_of_bind hu).trans ?_
  refine (run_of_bind hp).trans ?_
  simp only [hf]; rfl
theorem build64 {n : Int} {xs : List Int} (h : xs.length = 512) (w : World) : (Instr.build 64 #[(0, .int .i64 n), (1, Blk xs)]).run Try.prog w = .ok (.agg (wrc (n, xs))) w := by
  have hf : Instr.fill ((#[(0, 1), (1, 512)] : Array (Nat × Nat))[·]?) (Value.agg (wrc (0, zeros))).cells [(0, .int .i64 n), (1, Blk xs)] = some (wrc (n, xs)) := by
    have hz : zeros.length = 512 := List.length_replicate
    have h1 : (Value.int .i64 n).cells = #[.int .i64 n] := rfl
    have h2 : (Blk xs).cells = enc .u8 xs := rfl
    have hs : (Value.agg (wrc (0, zeros))).cells.size = 513 := wrc_size hz
    simp only [Instr.fill, List.getElem?_toArray, List.getElem?_cons_zero, List.getElem?_cons_succ]
    rw [if_neg (by rw [hs]; simp [h1])]
    have e1 : ((Value.int .i64 n).cells.zipIdx.foldl (fun cs (x, j) => cs.setIfInBounds (0 + j) x) (Value.agg (wrc (0, zeros))).cells) = (([.int .i64 n] : List Value) ++ encl .u8 zeros ++ []).toArray := by
      have := fold_set_arr (Value.int .i64 n).cells (wrc (0, zeros)) [] (encl .u8 zeros) [.int .i64 0] (by simp [wrc, enc, encl]) (by simp [h1])
      have hcell : (Value.agg (wrc (0, zeros))).cells = wrc (0, zeros) := rfl
      rw [hcell]
      simpa [h1] using this
    rw [e1, if_neg (by simp [h2, enc_size, h, encl, hz])]
    have e2 := fold_set_arr (Blk xs).cells _ [.int .i64 n] [] (encl .u8 zeros) rfl (by simp [h2, enc_size, h, encl, hz])
    have e3 : ([Value.int .i64 n] : List Value).length = 1 := rfl
    rw [e3] at e2
    rw [e2]
    simp [h2, wrc, enc]
  exact run_build_struct (tz64 w) (tu64 w) (places64 w) hf
theorem elem59 : Elem Try.prog 59 64 513 520 (.agg (wrc (0, zeros))) := Elem.of (by kernel_rfl) (by kernel_rfl) (wrc_size List.length_replicate) (by decide)
theorem f_buildW {o : Oper} {S : Slots} {parts : Array (Nat × Operand)} {x : Wr} (hx : x.2.length = 512) (ho : o.op = .buildSlice 59 1 parts) (hp : ∀ ρ, Val S ρ → (parts.map fun p => (p.1, ρ p.2)).toList = [(0, .agg (wrc x))]) :
    FNew Try.prog o S (.cells (wrc x) 64) (fun b => .slice (some ⟨b, 0, none⟩) 1 1) :=
  f_buildS elem59 (by decide) (by decide) (fill_one' (v := .agg (wrc x)) rfl (wrc_size hx) (by simp)) ho hp
/-- an append of few that are large -/
theorem f_appendL {P : Program} {o : Oper} {S : Slots} {w0 : World} {I : Mem} {H : Heap} {t e size bytes n m j : Nat} {z : Value} {x y : Operand} {v u : Value} {cur : Array Value} {cs news : List Value} (E : Elem P t e size bytes z) (hH : H[j]? = some (v.ownBlock, .cells cur e (0, 0))) (hown : OwnV v cur size n cs)
    (hb : n + m ≤ 137438953472) (hby : bytes ≤ 1024) (hu : ∀ w, Cls w0 I H w → HW.Src w u m size news) (ho : o.op = .call { callee := .builtin .append, args := #[x, y], argTypes := #[t, t] }) (hx : ev S x = some v) (hy : ev S y = some u) :
    FAct P o w0 I S H {x : Value × Array Value // OwnV x.1 x.2 size (n + m) (cs ++ news)} (fun x => x.1.1) (fun x => H.set j (x.1.1.ownBlock, .cells x.1.2 e (0, 0))) := fun ρ hρ w hc => by
  obtain ⟨hl, h1, hsrc⟩ := hu w hc
  obtain ⟨cc, hrun⟩ := run_builtin (P := P) (ρ := ρ) (vs := #[v, u]) ho (by simp [hρ _ _ hx, hρ _ _ hy]) w
  have hlt : j < H.length := by
    rcases Nat.lt_or_ge j H.length with h | h
    · exact h
    · rw [List.getElem?_eq_none h] at hH; cases hH
  have hmem := List.mem_of_getElem? hH
  rcases hsrc with ⟨c, rfl, rfl⟩ | ⟨a, c, rfl, hcells⟩
  · have hn : news = [] := List.eq_nil_of_length_eq_zero (by simpa using hl)
    subst hn
    refine .inl ⟨⟨(v, cur), by simpa using hown⟩, w, ?_, ?_⟩
    · rw [hrun]
      exact val_run (run_append_none E hown w)
    · have : H.set j (v.ownBlock, .cells cur e (0, 0)) = H := by
        have hg : H[j] = (v.ownBlock, .cells cur e (0, 0)) := by rw [List.getElem?_eq_getElem hlt] at hH; exact Option.some.inj hH
        rw [← hg]; exact List.set_getElem_self hlt
      simp only [this]; exact hc
  · obtain ⟨i, hi, hz, hs, hbb⟩ := E.hi
    have hr := hown.owns hc hmem
    obtain ⟨v', w', hr1, hr2, hr3, -, hr5⟩ := run_append_own_at (P := P) w 0 t o.type e i z size bytes E.ht hi hz hs hbb E.hz E.hs v n cs hr a m c news hl hcells h1 (by simp [maxLen]; omega)
      (by
        have : (n + m) * bytes ≤ 137438953472 * 1024 := Nat.mul_le_mul hb hby
        omega) (Nat.zero_le _)
    have hv' : ∃ cur', OwnV v' cur' size (n + m) (cs ++ news) ∧ ∀ b, v'.ownBlock = some b → w'.heap[b]? = some (.cells cur' e (0, 0)) := by
      refine Exists.elim (show ∃ cur', _ from ?_) fun cur' h => ⟨cur', h⟩
      rcases hr2.2 with ⟨rfl, hz0⟩ | ⟨g, cap, cur', rfl, -, k2, k3, k4, k5, k6⟩
      · exact ⟨#[], ⟨hr2.1, .inl ⟨rfl, hz0⟩⟩, fun b hb => by cases hb⟩
      · exact ⟨cur', ⟨hr2.1, .inr ⟨g, cap, rfl, k3, k4, k5, k6⟩⟩, fun b hb => by cases hb; exact k2⟩
    obtain ⟨cur', ho1, ho2⟩ := hv'
    exact .inl ⟨⟨(v', cur'), ho1⟩, w', by rw [hrun]; exact val_run hr1, hc.grown hH hr3 hr5 ho2⟩
/-- a row of shapes, and one more -/
theorem OwnS.snocW {cur' : Array Value} {xs : List Wr} {x : Wr} {cs : List Value} {v' : Value} (hx : x.2.length = 512) (h : ∀ i y, xs[i]? = some y → ShWr.rep (fun _ => none) (chunk cs 513 i) y) (hl : cs.length = xs.length * 513) (hn : OwnV v' cur' 513 (xs.length + 1) (cs ++ (wrc x).toList)) : OwnS ShWr (fun _ => none) v' cur' (xs ++ [x]) := by
  refine ⟨cs ++ (wrc x).toList, by rw [List.length_append]; exact hn, fun i y hy => ?_⟩
  have hw : (wrc x).toList.length = 513 := by simpa using wrc_size hx
  by_cases hi : i < xs.length
  · rw [List.getElem?_append_left hi] at hy
    have h1 := h i y hy
    have e : chunk (cs ++ (wrc x).toList) 513 i = chunk cs 513 i := by
      have hm : (i + 1) * 513 ≤ xs.length * 513 := Nat.mul_le_mul_right _ hi
      have h2 : i * 513 ≤ cs.length := by rw [hl]; exact Nat.mul_le_mul_right _ (Nat.le_of_lt hi)
      have h3 : 513 ≤ (cs.drop (i * 513)).length := by rw [List.length_drop, hl]; rw [Nat.add_mul] at hm; exact Nat.le_sub_of_add_le (by rw [Nat.add_comm]; simpa using hm)
      unfold chunk
      rw [List.drop_append_of_le_length h2, List.take_append_of_le_length h3]
    show ShWr.rep _ (chunk _ 513 i) y
    rw [e]; exact h1
  · have hi2 : i = xs.length := by
      have := (List.getElem?_eq_some_iff.1 hy).1
      simp at this; omega
    subst hi2
    rw [List.getElem?_append_right (Nat.le_refl _)] at hy
    simp at hy
    subst hy
    have e : chunk (cs ++ (wrc x).toList) 513 xs.length = (wrc x).toList := by
      unfold chunk
      rw [← hl, List.drop_left, List.take_of_length_le (by omega)]
    show chunk _ 513 xs.length = _ ∧ _
    exact ⟨e, hx⟩
theorem p_s2a {P : Program} {o : Oper} {S : Slots} {t e n len cap : Nat} {x : Operand} {a : Addr} (hu : ∀ w, (underlying t).run P w = .ok (.array n e) w) (hn : ¬ len < n) (ho : o.op = .sliceToArrayPointer t x) (hx : ev S x = some (.slice (some a) len cap)) : FPure P o S (.pointer (some a)) := fun ρ hρ w => by
  simp only [execOp, ho, hρ _ _ hx]
  refine val_run ?_
  unfold Instr.arrayAt
  refine (run_of_bind (hu w)).trans ?_
  simp only [if_neg hn]; rfl
theorem tu62 (w : World) : (underlying 62).run Try.prog w = .ok (.array 512 5) w := by kernel_rfl
/-- What else is owned stays. -/
theorem frame {X : Type} {u : X → Value} {E A : Heap} {E' : X → Heap} {f : FuncId} {args : Array Value} (h : ∀ (w0 : World) (I : Mem) (w : World), Cls w0 I E w → Calls Try.prog f args w fun e w' => ∃ x, e = .returned (u x) ∧ Cls w0 I (E' x) w') {w0 w : World} {I : Mem} (hc : Cls w0 I (E ++ A) w) :
    Calls Try.prog f args w fun e w' => ∃ x, e = .returned (u x) ∧ Cls w0 I (E' x ++ A) w' := by
  refine (h w0 (addJ I A) w hc.settle).mono fun e w' ⟨x, he, hc'⟩ => ⟨x, he, ?_⟩
  have hnA : (A.filterMap Prod.fst).Nodup := hc.nodup.sublist ((List.sublist_append_right E A).filterMap _)
  have hA : ∀ b o, (some b, o) ∈ A → addJ I A b = some o := fun b o hm => by
    unfold addJ
    rw [hc.disj b o (List.mem_append_right _ hm)]
    exact inJ_of_mem hnA hm
  refine ⟨hc'.os, hc'.tape, hc'.output, hc'.size, fun b o e => hc'.imm b o (Ext.addJ _ _ b o e), fun b o hm => ?_, fun b o hm => ?_, ?_⟩
  · rcases List.mem_append.1 hm with hm | hm
    · exact hc'.own b o hm
    · exact hc'.imm b o (hA b o hm)
  · rcases List.mem_append.1 hm with hm | hm
    · have := hc'.disj b o hm
      cases hI : I b with
      | none => rfl
      | some z => rw [Ext.addJ I A b z hI] at this; cases this
    · exact hc.disj b o (List.mem_append_right _ hm)
  · rw [List.filterMap_append, List.nodup_append]
    refine ⟨hc'.nodup, hnA, fun a ha b hb e => ?_⟩
    subst e
    obtain ⟨z, hz⟩ := mem_ids.1 ha
    obtain ⟨y, hy⟩ := mem_ids.1 hb
    have h1 := hc'.disj a z hz
    rw [hA a y hy] at h1; cases h1
end Go.Proofs.Ytjomnicfcdkfdaa
end
