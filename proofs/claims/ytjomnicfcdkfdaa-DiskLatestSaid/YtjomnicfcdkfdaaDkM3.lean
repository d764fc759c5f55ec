import Derived.Test.YtjomnicfcdkfdaaDkM2
namespace Go.Proofs.Ytjomnicfcdkfdaa
open Go Go.HW Go.RowKit
set_option linter.unusedVariables false
set_option linter.unusedSimpArgs false

theorem qT {P : Program} {o : Oper} {S : Slots} {w0 : World} {I : Mem} {H : Heap} {b : Bool} (h : b = true) (hp : FQuiet P o w0 I S H (.bool b)) : FQuiet P o w0 I S H (.bool true) := by rw [← h]; exact hp
theorem qF {P : Program} {o : Oper} {S : Slots} {w0 : World} {I : Mem} {H : Heap} {b : Bool} (h : b = false) (hp : FQuiet P o w0 I S H (.bool b)) : FQuiet P o w0 I S H (.bool false) := by rw [← h]; exact hp
theorem f_stDk {o : Oper} {S : Slots} {w0 : World} {I : Mem} {H : Heap} {t : TypeId} {x y : Operand} {b m j k : Nat} {v u : Value} {s s2 : Dk} (hs : ∀ w, (sizeOf t).run Try.prog w = .ok 1 w) (hn : u.cells = #[u]) (h1 : OneCell u) (hH : H[j]? = some (dk1 b m v s)) (hk : k < 6)
    (ho : o.op = .store t x y) (hx : ev S x = some (ptr b k)) (hy : ev S y = some u) (he : (some b, Obj.cells ((#[.int .i64 s.n, .map (some m), v, .int .i64 s.fuse, .bool s.armed, .bool s.dead] : Array Value).setIfInBounds k u) 61 (0, 0)) = dk1 b m v s2 := by rfl) : FPut Try.prog o w0 I S H (H.set j (dk1 b m v s2)) := by
  rw [← he]
  exact f_store hs hH hn hk h1 ho hx hy
theorem ts3 (w : World) : (sizeOf 3).run Try.prog w = .ok 1 w := by kernel_rfl
theorem ts4 (w : World) : (sizeOf 4).run Try.prog w = .ok 1 w := by kernel_rfl
theorem ts59 (w : World) : (sizeOf 59).run Try.prog w = .ok 1 w := by kernel_rfl

noncomputable def B33 : Code := bodyOf Try.f33
theorem en33 (args : Array Value) (w : World) : (callFunc 33 args).run Try.prog w = .ok (.enter 33 args) w := by kernel_rfl

theorem step_1 {w0 w : World} {I : Mem} {b m : Nat} {v : Value} {cur : Array Value} {s : Dk} (hc : Cls w0 I (dkH b m v cur s) w) (h : s.dead = true) : Calls Try.prog 33 #[ptr b 0] w fun e w' => e = .returned (.int .i64 14) ∧ Cls w0 I (dkH b m v cur s) w' := by
  refine calls_of_CW (N := 30) Try.func33 (show _ = some B33 by kernel_rfl) (by kernel_rfl) rfl (S := [(0, ptr b 0)]) (by simp) hc ?_
  show CW _ _ _ (sub [] B33) _ _ _
  refine C.seq (x := sub [0] B33) (y := sub [1] B33) ?_
  refine C.region (id := 0) (m := 1) (ops := opsOf (sub [0] B33)) rfl ?_
  refine W.pure rfl (wo rfl) rfl rfl (p_assign rfl rfl) (nf rfl) ?_
  refine W.doneQ (y := sub [1] B33) rfl ?_
  refine C.seq (x := sub [1, 0] B33) (y := sub [1, 1] B33) ?_
  refine C.block (id := 0) (c := sub [1, 0, 0] B33) ?_
  refine C.seq (x := sub [1, 0, 0, 0] B33) (y := sub [1, 0, 0, 1] B33) ?_
  refine C.region (id := 1) (m := 5) (ops := opsOf (sub [1, 0, 0, 0] B33)) rfl ?_
  refine W.pure rfl (wo rfl) rfl rfl (p_move rfl rfl) (nf rfl) ?_
  refine W.pure rfl (wo rfl) rfl rfl (p_nilCheck rfl rfl) (nf rfl) ?_
  refine W.pure rfl (wo rfl) rfl rfl (p_fieldAddr tf61_5 rfl rfl) (nf rfl) ?_
  refine W.quiet rfl (wo rfl) rfl rfl (qT (h) (f_load (j := 0) ta4 rfl (off := 5) rfl rfl rfl)) (nf rfl) ?_
  refine W.pure rfl (wo rfl) rfl rfl (p_assign rfl rfl) (nf rfl) ?_
  refine W.doneQ (y := sub [1, 0, 0, 1] B33) rfl ?_
  refine C.cond_true (x := sub [1, 0, 0, 1, 0] B33) (y := sub [1, 0, 0, 1, 1] B33) rfl rfl ?_
  refine C.seq (x := sub [1, 0, 0, 1, 0, 0] B33) (y := sub [1, 0, 0, 1, 0, 1] B33) ?_
  refine C.region (id := 2) (m := 1) (ops := opsOf (sub [1, 0, 0, 1, 0, 0] B33)) rfl ?_
  refine W.pure rfl (wo rfl) rfl rfl (p_assign rfl rfl) (nf rfl) ?_
  refine W.doneQ (y := sub [1, 0, 0, 1, 0, 1] B33) rfl ?_
  exact C.ret (R := fun e w' => e = .returned (.int .i64 14) ∧ Cls w0 I (dkH b m v cur s) w') (rs := [.tmp 2]) (vs := [.int .i64 14]) rfl Try.func33 rfl rfl rfl (res_cons (ResV.tmp rfl) res_nil) fun w1 hc1 => ⟨rfl, hc1⟩

theorem step_2 {w0 w : World} {I : Mem} {b m : Nat} {v : Value} {cur : Array Value} {s : Dk} (hc : Cls w0 I (dkH b m v cur s) w) (h : s.dead = false) (h2 : s.armed = false) : Calls Try.prog 33 #[ptr b 0] w fun e w' => e = .returned (.int .i64 0) ∧ Cls w0 I (dkH b m v cur s) w' := by
  refine calls_of_CW (N := 30) Try.func33 (show _ = some B33 by kernel_rfl) (by kernel_rfl) rfl (S := [(0, ptr b 0)]) (by simp) hc ?_
  show CW _ _ _ (sub [] B33) _ _ _
  refine C.seq (x := sub [0] B33) (y := sub [1] B33) ?_
  refine C.region (id := 0) (m := 1) (ops := opsOf (sub [0] B33)) rfl ?_
  refine W.pure rfl (wo rfl) rfl rfl (p_assign rfl rfl) (nf rfl) ?_
  refine W.doneQ (y := sub [1] B33) rfl ?_
  refine C.seq (x := sub [1, 0] B33) (y := sub [1, 1] B33) ?_
  refine C.block (id := 0) (c := sub [1, 0, 0] B33) ?_
  refine C.seq (x := sub [1, 0, 0, 0] B33) (y := sub [1, 0, 0, 1] B33) ?_
  refine C.region (id := 1) (m := 5) (ops := opsOf (sub [1, 0, 0, 0] B33)) rfl ?_
  refine W.pure rfl (wo rfl) rfl rfl (p_move rfl rfl) (nf rfl) ?_
  refine W.pure rfl (wo rfl) rfl rfl (p_nilCheck rfl rfl) (nf rfl) ?_
  refine W.pure rfl (wo rfl) rfl rfl (p_fieldAddr tf61_5 rfl rfl) (nf rfl) ?_
  refine W.quiet rfl (wo rfl) rfl rfl (qF (h) (f_load (j := 0) ta4 rfl (off := 5) rfl rfl rfl)) (nf rfl) ?_
  refine W.pure rfl (wo rfl) rfl rfl (p_assign rfl rfl) (nf rfl) ?_
  refine W.doneQ (y := sub [1, 0, 0, 1] B33) rfl ?_
  refine C.cond_false (x := sub [1, 0, 0, 1, 0] B33) (y := sub [1, 0, 0, 1, 1] B33) rfl rfl ?_
  refine C.seq (x := sub [1, 0, 0, 1, 1, 0] B33) (y := sub [1, 0, 0, 1, 1, 1] B33) ?_
  refine C.region (id := 3) (m := 6) (ops := opsOf (sub [1, 0, 0, 1, 1, 0] B33)) rfl ?_
  refine W.pure rfl (wo rfl) rfl rfl (p_move rfl rfl) (nf rfl) ?_
  refine W.pure rfl (wo rfl) rfl rfl (p_nilCheck rfl rfl) (nf rfl) ?_
  refine W.pure rfl (wo rfl) rfl rfl (p_fieldAddr tf61_4 rfl rfl) (nf rfl) ?_
  refine W.quiet rfl (wo rfl) rfl rfl (qF (h2) (f_load (j := 0) ta4 rfl (off := 4) rfl rfl rfl)) (nf rfl) ?_
  refine W.pure rfl (wo rfl) rfl rfl (p_not rfl rfl) (nf rfl) ?_
  refine W.pure rfl (wo rfl) rfl rfl (p_assign rfl rfl) (nf rfl) ?_
  refine W.doneQ (y := sub [1, 0, 0, 1, 1, 1] B33) rfl ?_
  refine C.cond_true (x := sub [1, 0, 0, 1, 1, 1, 0] B33) (y := sub [1, 0, 0, 1, 1, 1, 1] B33) rfl rfl ?_
  refine C.seq (x := sub [1, 0, 0, 1, 1, 1, 0, 0] B33) (y := sub [1, 0, 0, 1, 1, 1, 0, 1] B33) ?_
  refine C.region (id := 4) (m := 1) (ops := opsOf (sub [1, 0, 0, 1, 1, 1, 0, 0] B33)) rfl ?_
  refine W.pure rfl (wo rfl) rfl rfl (p_assign rfl rfl) (nf rfl) ?_
  refine W.doneQ (y := sub [1, 0, 0, 1, 1, 1, 0, 1] B33) rfl ?_
  exact C.ret (R := fun e w' => e = .returned (.int .i64 0) ∧ Cls w0 I (dkH b m v cur s) w') (rs := [.tmp 2]) (vs := [.int .i64 0]) rfl Try.func33 rfl rfl rfl (res_cons (ResV.tmp rfl) res_nil) fun w1 hc1 => ⟨rfl, hc1⟩

theorem step_3 {w0 w : World} {I : Mem} {b m : Nat} {v : Value} {cur : Array Value} {s : Dk} (hc : Cls w0 I (dkH b m v cur s) w) (h : s.dead = false) (h2 : s.armed = true) (h3 : s.fuse = 0) : Calls Try.prog 33 #[ptr b 0] w fun e w' => e = .returned (.int .i64 17) ∧ Cls w0 I (dkH b m v cur { s with dead := true }) w' := by
  refine calls_of_CW (N := 30) Try.func33 (show _ = some B33 by kernel_rfl) (by kernel_rfl) rfl (S := [(0, ptr b 0)]) (by simp) hc ?_
  show CW _ _ _ (sub [] B33) _ _ _
  refine C.seq (x := sub [0] B33) (y := sub [1] B33) ?_
  refine C.region (id := 0) (m := 1) (ops := opsOf (sub [0] B33)) rfl ?_
  refine W.pure rfl (wo rfl) rfl rfl (p_assign rfl rfl) (nf rfl) ?_
  refine W.doneQ (y := sub [1] B33) rfl ?_
  refine C.seq (x := sub [1, 0] B33) (y := sub [1, 1] B33) ?_
  refine C.block (id := 0) (c := sub [1, 0, 0] B33) ?_
  refine C.seq (x := sub [1, 0, 0, 0] B33) (y := sub [1, 0, 0, 1] B33) ?_
  refine C.region (id := 1) (m := 5) (ops := opsOf (sub [1, 0, 0, 0] B33)) rfl ?_
  refine W.pure rfl (wo rfl) rfl rfl (p_move rfl rfl) (nf rfl) ?_
  refine W.pure rfl (wo rfl) rfl rfl (p_nilCheck rfl rfl) (nf rfl) ?_
  refine W.pure rfl (wo rfl) rfl rfl (p_fieldAddr tf61_5 rfl rfl) (nf rfl) ?_
  refine W.quiet rfl (wo rfl) rfl rfl (qF (h) (f_load (j := 0) ta4 rfl (off := 5) rfl rfl rfl)) (nf rfl) ?_
  refine W.pure rfl (wo rfl) rfl rfl (p_assign rfl rfl) (nf rfl) ?_
  refine W.doneQ (y := sub [1, 0, 0, 1] B33) rfl ?_
  refine C.cond_false (x := sub [1, 0, 0, 1, 0] B33) (y := sub [1, 0, 0, 1, 1] B33) rfl rfl ?_
  refine C.seq (x := sub [1, 0, 0, 1, 1, 0] B33) (y := sub [1, 0, 0, 1, 1, 1] B33) ?_
  refine C.region (id := 3) (m := 6) (ops := opsOf (sub [1, 0, 0, 1, 1, 0] B33)) rfl ?_
  refine W.pure rfl (wo rfl) rfl rfl (p_move rfl rfl) (nf rfl) ?_
  refine W.pure rfl (wo rfl) rfl rfl (p_nilCheck rfl rfl) (nf rfl) ?_
  refine W.pure rfl (wo rfl) rfl rfl (p_fieldAddr tf61_4 rfl rfl) (nf rfl) ?_
  refine W.quiet rfl (wo rfl) rfl rfl (qT (h2) (f_load (j := 0) ta4 rfl (off := 4) rfl rfl rfl)) (nf rfl) ?_
  refine W.pure rfl (wo rfl) rfl rfl (p_not rfl rfl) (nf rfl) ?_
  refine W.pure rfl (wo rfl) rfl rfl (p_assign rfl rfl) (nf rfl) ?_
  refine W.doneQ (y := sub [1, 0, 0, 1, 1, 1] B33) rfl ?_
  refine C.cond_false (x := sub [1, 0, 0, 1, 1, 1, 0] B33) (y := sub [1, 0, 0, 1, 1, 1, 1] B33) rfl rfl ?_
  refine C.seq (x := sub [1, 0, 0, 1, 1, 1, 1, 0] B33) (y := sub [1, 0, 0, 1, 1, 1, 1, 1] B33) ?_
  refine C.region (id := 5) (m := 6) (ops := opsOf (sub [1, 0, 0, 1, 1, 1, 1, 0] B33)) rfl ?_
  refine W.pure rfl (wo rfl) rfl rfl (p_move rfl rfl) (nf rfl) ?_
  refine W.pure rfl (wo rfl) rfl rfl (p_nilCheck rfl rfl) (nf rfl) ?_
  refine W.pure rfl (wo rfl) rfl rfl (p_fieldAddr tf61_3 rfl rfl) (nf rfl) ?_
  refine W.quiet rfl (wo rfl) rfl rfl (f_load (j := 0) ta3 rfl (off := 3) rfl rfl rfl) (nf rfl) ?_
  refine W.pure rfl (wo rfl) rfl rfl (pT (by rw [h3]; rfl) (p_eql rfl rfl rfl)) (nf rfl) ?_
  refine W.pure rfl (wo rfl) rfl rfl (p_assign rfl rfl) (nf rfl) ?_
  refine W.doneQ (y := sub [1, 0, 0, 1, 1, 1, 1, 1] B33) rfl ?_
  refine C.cond_true (x := sub [1, 0, 0, 1, 1, 1, 1, 1, 0] B33) (y := sub [1, 0, 0, 1, 1, 1, 1, 1, 1] B33) rfl rfl ?_
  refine C.seq (x := sub [1, 0, 0, 1, 1, 1, 1, 1, 0, 0] B33) (y := sub [1, 0, 0, 1, 1, 1, 1, 1, 0, 1] B33) ?_
  refine C.region (id := 6) (m := 4) (ops := opsOf (sub [1, 0, 0, 1, 1, 1, 1, 1, 0, 0] B33)) rfl ?_
  refine W.pure rfl (wo rfl) rfl rfl (p_move rfl rfl) (nf rfl) ?_
  refine W.pure rfl (wo rfl) rfl rfl (p_nilCheck rfl rfl) (nf rfl) ?_
  refine W.pure rfl (wo rfl) rfl rfl (p_fieldAddr tf61_5 rfl rfl) (nf rfl) ?_
  refine W.put (H' := dkH b m v cur ⟨s.n, s.set, s.late, s.fuse, s.armed, true⟩) rfl (wo rfl) rfl (f_stDk (s := ⟨s.n, s.set, s.late, s.fuse, s.armed, s.dead⟩) (s2 := ⟨s.n, s.set, s.late, s.fuse, s.armed, true⟩) (k := 5) (u := .bool (true)) (j := 0) ts4 rfl trivial rfl (by decide) rfl rfl rfl) (nf rfl) ?_
  refine W.doneQ (y := sub [1, 0, 0, 1, 1, 1, 1, 1, 0, 1] B33) rfl ?_
  refine C.seq (x := sub [1, 0, 0, 1, 1, 1, 1, 1, 0, 1, 0] B33) (y := sub [1, 0, 0, 1, 1, 1, 1, 1, 0, 1, 1] B33) ?_
  refine C.region (id := 7) (m := 1) (ops := opsOf (sub [1, 0, 0, 1, 1, 1, 1, 1, 0, 1, 0] B33)) rfl ?_
  refine W.pure rfl (wo rfl) rfl rfl (p_assign rfl rfl) (nf rfl) ?_
  refine W.doneQ (y := sub [1, 0, 0, 1, 1, 1, 1, 1, 0, 1, 1] B33) rfl ?_
  exact C.ret (R := fun e w' => e = .returned (.int .i64 17) ∧ Cls w0 I (dkH b m v cur { s with dead := true }) w') (rs := [.tmp 2]) (vs := [.int .i64 17]) rfl Try.func33 rfl rfl rfl (res_cons (ResV.tmp rfl) res_nil) fun w1 hc1 => ⟨rfl, hc1⟩

theorem step_4 {w0 w : World} {I : Mem} {b m : Nat} {v : Value} {cur : Array Value} {s : Dk} (hc : Cls w0 I (dkH b m v cur s) w) (h : s.dead = false) (h2 : s.armed = true) (h3 : ¬ s.fuse = 0) : Calls Try.prog 33 #[ptr b 0] w fun e w' => e = .returned (.int .i64 0) ∧ Cls w0 I (dkH b m v cur { s with fuse := IntKind.i64.wrap (s.fuse - 1) }) w' := by
  refine calls_of_CW (N := 30) Try.func33 (show _ = some B33 by kernel_rfl) (by kernel_rfl) rfl (S := [(0, ptr b 0)]) (by simp) hc ?_
  show CW _ _ _ (sub [] B33) _ _ _
  refine C.seq (x := sub [0] B33) (y := sub [1] B33) ?_
  refine C.region (id := 0) (m := 1) (ops := opsOf (sub [0] B33)) rfl ?_
  refine W.pure rfl (wo rfl) rfl rfl (p_assign rfl rfl) (nf rfl) ?_
  refine W.doneQ (y := sub [1] B33) rfl ?_
  refine C.seq (x := sub [1, 0] B33) (y := sub [1, 1] B33) ?_
  refine C.block (id := 0) (c := sub [1, 0, 0] B33) ?_
  refine C.seq (x := sub [1, 0, 0, 0] B33) (y := sub [1, 0, 0, 1] B33) ?_
  refine C.region (id := 1) (m := 5) (ops := opsOf (sub [1, 0, 0, 0] B33)) rfl ?_
  refine W.pure rfl (wo rfl) rfl rfl (p_move rfl rfl) (nf rfl) ?_
  refine W.pure rfl (wo rfl) rfl rfl (p_nilCheck rfl rfl) (nf rfl) ?_
  refine W.pure rfl (wo rfl) rfl rfl (p_fieldAddr tf61_5 rfl rfl) (nf rfl) ?_
  refine W.quiet rfl (wo rfl) rfl rfl (qF (h) (f_load (j := 0) ta4 rfl (off := 5) rfl rfl rfl)) (nf rfl) ?_
  refine W.pure rfl (wo rfl) rfl rfl (p_assign rfl rfl) (nf rfl) ?_
  refine W.doneQ (y := sub [1, 0, 0, 1] B33) rfl ?_
  refine C.cond_false (x := sub [1, 0, 0, 1, 0] B33) (y := sub [1, 0, 0, 1, 1] B33) rfl rfl ?_
  refine C.seq (x := sub [1, 0, 0, 1, 1, 0] B33) (y := sub [1, 0, 0, 1, 1, 1] B33) ?_
  refine C.region (id := 3) (m := 6) (ops := opsOf (sub [1, 0, 0, 1, 1, 0] B33)) rfl ?_
  refine W.pure rfl (wo rfl) rfl rfl (p_move rfl rfl) (nf rfl) ?_
  refine W.pure rfl (wo rfl) rfl rfl (p_nilCheck rfl rfl) (nf rfl) ?_
  refine W.pure rfl (wo rfl) rfl rfl (p_fieldAddr tf61_4 rfl rfl) (nf rfl) ?_
  refine W.quiet rfl (wo rfl) rfl rfl (qT (h2) (f_load (j := 0) ta4 rfl (off := 4) rfl rfl rfl)) (nf rfl) ?_
  refine W.pure rfl (wo rfl) rfl rfl (p_not rfl rfl) (nf rfl) ?_
  refine W.pure rfl (wo rfl) rfl rfl (p_assign rfl rfl) (nf rfl) ?_
  refine W.doneQ (y := sub [1, 0, 0, 1, 1, 1] B33) rfl ?_
  refine C.cond_false (x := sub [1, 0, 0, 1, 1, 1, 0] B33) (y := sub [1, 0, 0, 1, 1, 1, 1] B33) rfl rfl ?_
  refine C.seq (x := sub [1, 0, 0, 1, 1, 1, 1, 0] B33) (y := sub [1, 0, 0, 1, 1, 1, 1, 1] B33) ?_
  refine C.region (id := 5) (m := 6) (ops := opsOf (sub [1, 0, 0, 1, 1, 1, 1, 0] B33)) rfl ?_
  refine W.pure rfl (wo rfl) rfl rfl (p_move rfl rfl) (nf rfl) ?_
  refine W.pure rfl (wo rfl) rfl rfl (p_nilCheck rfl rfl) (nf rfl) ?_
  refine W.pure rfl (wo rfl) rfl rfl (p_fieldAddr tf61_3 rfl rfl) (nf rfl) ?_
  refine W.quiet rfl (wo rfl) rfl rfl (f_load (j := 0) ta3 rfl (off := 3) rfl rfl rfl) (nf rfl) ?_
  refine W.pure rfl (wo rfl) rfl rfl (pF (by simpa using h3) (p_eql rfl rfl rfl)) (nf rfl) ?_
  refine W.pure rfl (wo rfl) rfl rfl (p_assign rfl rfl) (nf rfl) ?_
  refine W.doneQ (y := sub [1, 0, 0, 1, 1, 1, 1, 1] B33) rfl ?_
  refine C.cond_false (x := sub [1, 0, 0, 1, 1, 1, 1, 1, 0] B33) (y := sub [1, 0, 0, 1, 1, 1, 1, 1, 1] B33) rfl rfl ?_
  refine C.skipQ (y := sub [1, 1] B33) rfl ?_
  refine C.seq (x := sub [1, 1, 0] B33) (y := sub [1, 1, 1] B33) ?_
  refine C.region (id := 8) (m := 8) (ops := opsOf (sub [1, 1, 0] B33)) rfl ?_
  refine W.pure rfl (wo rfl) rfl rfl (p_move rfl rfl) (nf rfl) ?_
  refine W.pure rfl (wo rfl) rfl rfl (p_nilCheck rfl rfl) (nf rfl) ?_
  refine W.pure rfl (wo rfl) rfl rfl (p_fieldAddr tf61_3 rfl rfl) (nf rfl) ?_
  refine W.quiet rfl (wo rfl) rfl rfl (f_load (j := 0) ta3 rfl (off := 3) rfl rfl rfl) (nf rfl) ?_
  refine W.pure rfl (wo rfl) rfl rfl (p_sub rfl rfl rfl) (nf rfl) ?_
  refine W.pure rfl (wo rfl) rfl rfl (p_nilCheck rfl rfl) (nf rfl) ?_
  refine W.pure rfl (wo rfl) rfl rfl (p_fieldAddr tf61_3 rfl rfl) (nf rfl) ?_
  refine W.put (H' := dkH b m v cur ⟨s.n, s.set, s.late, IntKind.i64.wrap (s.fuse - 1), s.armed, s.dead⟩) rfl (wo rfl) rfl (f_stDk (s := ⟨s.n, s.set, s.late, s.fuse, s.armed, s.dead⟩) (s2 := ⟨s.n, s.set, s.late, IntKind.i64.wrap (s.fuse - 1), s.armed, s.dead⟩) (k := 3) (u := .int .i64 (IntKind.i64.wrap (s.fuse - 1))) (j := 0) ts3 rfl trivial rfl (by decide) rfl rfl rfl) (nf rfl) ?_
  refine W.doneQ (y := sub [1, 1, 1] B33) rfl ?_
  refine C.seq (x := sub [1, 1, 1, 0] B33) (y := sub [1, 1, 1, 1] B33) ?_
  refine C.region (id := 9) (m := 1) (ops := opsOf (sub [1, 1, 1, 0] B33)) rfl ?_
  refine W.pure rfl (wo rfl) rfl rfl (p_assign rfl rfl) (nf rfl) ?_
  refine W.doneQ (y := sub [1, 1, 1, 1] B33) rfl ?_
  exact C.ret (R := fun e w' => e = .returned (.int .i64 0) ∧ Cls w0 I (dkH b m v cur { s with fuse := IntKind.i64.wrap (s.fuse - 1) }) w') (rs := [.tmp 2]) (vs := [.int .i64 0]) rfl Try.func33 rfl rfl rfl (res_cons (ResV.tmp rfl) res_nil) fun w1 hc1 => ⟨rfl, hc1⟩

def stepK (s : Dk) : Int × Dk := if s.dead = true then (14, s) else if s.armed = false then (0, s) else if s.fuse = 0 then (17, { s with dead := true }) else (0, { s with fuse := IntKind.i64.wrap (s.fuse - 1) })
theorem step_ok {w0 w : World} {I : Mem} {b m : Nat} {v : Value} {cur : Array Value} {s : Dk} (hc : Cls w0 I (dkH b m v cur s) w) : Calls Try.prog 33 #[ptr b 0] w fun e w' => e = .returned (.int .i64 (stepK s).1) ∧ Cls w0 I (dkH b m v cur (stepK s).2) w' := by
  unfold stepK
  by_cases h : s.dead = true
  · rw [if_pos h]; exact step_1 hc h
  · have h' : s.dead = false := by simpa using h
    rw [if_neg h]
    by_cases h2 : s.armed = false
    · rw [if_pos h2]; exact step_2 hc h' h2
    · have h2' : s.armed = true := by simpa using h2
      rw [if_neg h2]
      by_cases h3 : s.fuse = 0
      · rw [if_pos h3]; exact step_3 hc h' h2' h3
      · rw [if_neg h3]; exact step_4 hc h' h2' h3

end Go.Proofs.Ytjomnicfcdkfdaa
