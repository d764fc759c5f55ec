import Derived.Test.YtjomnicfcdkfdaaDkM3
namespace Go.Proofs.Ytjomnicfcdkfdaa
open Go Go.HW Go.RowKit
set_option linter.unusedVariables false
set_option linter.unusedSimpArgs false

theorem pI {P : Program} {o : Oper} {S : Slots} {k : IntKind} {a b : Int} (h : a = b) (hp : FPure P o S (.int k a)) : FPure P o S (.int k b) := by rw [← h]; exact hp
theorem wk {k : Nat} (h : k < 1099511627776) : IntKind.i64.wrap ((k : Int) + 1) = ((k + 1 : Nat) : Int) := by rw [w64 (by omega) (by omega)]; omega

noncomputable def B13 : Code := bodyOf Try.f13
theorem en13 (args : Array Value) (w : World) : (callFunc 13 args).run Try.prog w = .ok (.enter 13 args) w := by kernel_rfl

theorem setfuse_1 {w0 w : World} {I : Mem} {b m : Nat} {v : Value} {cur : Array Value} {s : Dk} (hc : Cls w0 I (dkH b m v cur s) w) (ho : DkO v cur s) (n : Int) (h : n < 0) : Calls Try.prog 13 #[ptr b 0, .int .i64 n] w fun e w' => e = .returned (.int .i64 2) ∧ Cls w0 I (dkH b m v cur s) w' := by
  refine calls_of_CW (N := 19) Try.func13 (show _ = some B13 by kernel_rfl) (by kernel_rfl) rfl (S := [(0, ptr b 0), (1, .int .i64 n)]) (by simp) hc ?_
  show CW _ _ _ (sub [] B13) _ _ _
  refine C.seq (x := sub [0] B13) (y := sub [1] B13) ?_
  refine C.region (id := 0) (m := 1) (ops := opsOf (sub [0] B13)) rfl ?_
  refine W.pure rfl (wo rfl) rfl rfl (p_assign rfl rfl) (nf rfl) ?_
  refine W.doneQ (y := sub [1] B13) rfl ?_
  refine C.seq (x := sub [1, 0] B13) (y := sub [1, 1] B13) ?_
  refine C.block (id := 0) (c := sub [1, 0, 0] B13) ?_
  refine C.seq (x := sub [1, 0, 0, 0] B13) (y := sub [1, 0, 0, 1] B13) ?_
  refine C.region (id := 1) (m := 4) (ops := opsOf (sub [1, 0, 0, 0] B13)) rfl ?_
  refine W.pure rfl (wo rfl) rfl rfl (p_move rfl rfl) (nf rfl) ?_
  refine W.quiet rfl (wo rfl) rfl rfl (f_callR rfl rfl (args_val (vs := [ptr b 0]) rfl) (en32 _) (fun w2 hc2 => there_ok (M := heapOf w2) (fun _ _ e => e) (ho.M (b := b) (m := m) hc2 (fun p hp => by first | exact hp | exact List.mem_cons_of_mem _ hp | exact List.mem_cons_of_mem _ (List.mem_cons_of_mem _ hp) | exact List.mem_append_left _ hp)))) (nf rfl) ?_
  refine W.pure rfl (wo rfl) rfl rfl (p_not rfl rfl) (nf rfl) ?_
  refine W.pure rfl (wo rfl) rfl rfl (p_assign rfl rfl) (nf rfl) ?_
  refine W.doneQ (y := sub [1, 0, 0, 1] B13) rfl ?_
  refine C.cond_false (x := sub [1, 0, 0, 1, 0] B13) (y := sub [1, 0, 0, 1, 1] B13) rfl rfl ?_
  refine C.seq (x := sub [1, 0, 0, 1, 1, 0] B13) (y := sub [1, 0, 0, 1, 1, 1] B13) ?_
  refine C.region (id := 3) (m := 3) (ops := opsOf (sub [1, 0, 0, 1, 1, 0] B13)) rfl ?_
  refine W.pure rfl (wo rfl) rfl rfl (p_move rfl rfl) (nf rfl) ?_
  refine W.pure rfl (wo rfl) rfl rfl (pT (decide_eq_true h) (p_lss rfl rfl rfl)) (nf rfl) ?_
  refine W.pure rfl (wo rfl) rfl rfl (p_assign rfl rfl) (nf rfl) ?_
  refine W.doneQ (y := sub [1, 0, 0, 1, 1, 1] B13) rfl ?_
  refine C.cond_true (x := sub [1, 0, 0, 1, 1, 1, 0] B13) (y := sub [1, 0, 0, 1, 1, 1, 1] B13) rfl rfl ?_
  refine C.seq (x := sub [1, 0, 0, 1, 1, 1, 0, 0] B13) (y := sub [1, 0, 0, 1, 1, 1, 0, 1] B13) ?_
  refine C.region (id := 4) (m := 1) (ops := opsOf (sub [1, 0, 0, 1, 1, 1, 0, 0] B13)) rfl ?_
  refine W.pure rfl (wo rfl) rfl rfl (p_assign rfl rfl) (nf rfl) ?_
  refine W.doneQ (y := sub [1, 0, 0, 1, 1, 1, 0, 1] B13) rfl ?_
  exact C.ret (R := fun e w' => e = .returned (.int .i64 2) ∧ Cls w0 I (dkH b m v cur s) w') (rs := [.tmp 4]) (vs := [.int .i64 2]) rfl Try.func13 rfl rfl rfl (res_cons (ResV.tmp rfl) res_nil) fun w1 hc1 => ⟨rfl, hc1⟩

theorem setfuse_2 {w0 w : World} {I : Mem} {b m : Nat} {v : Value} {cur : Array Value} {s : Dk} (hc : Cls w0 I (dkH b m v cur s) w) (ho : DkO v cur s) (n : Int) (h : ¬ n < 0) : Calls Try.prog 13 #[ptr b 0, .int .i64 n] w fun e w' => e = .returned (.int .i64 0) ∧ Cls w0 I (dkH b m v cur { s with fuse := n, armed := true }) w' := by
  refine calls_of_CW (N := 19) Try.func13 (show _ = some B13 by kernel_rfl) (by kernel_rfl) rfl (S := [(0, ptr b 0), (1, .int .i64 n)]) (by simp) hc ?_
  show CW _ _ _ (sub [] B13) _ _ _
  refine C.seq (x := sub [0] B13) (y := sub [1] B13) ?_
  refine C.region (id := 0) (m := 1) (ops := opsOf (sub [0] B13)) rfl ?_
  refine W.pure rfl (wo rfl) rfl rfl (p_assign rfl rfl) (nf rfl) ?_
  refine W.doneQ (y := sub [1] B13) rfl ?_
  refine C.seq (x := sub [1, 0] B13) (y := sub [1, 1] B13) ?_
  refine C.block (id := 0) (c := sub [1, 0, 0] B13) ?_
  refine C.seq (x := sub [1, 0, 0, 0] B13) (y := sub [1, 0, 0, 1] B13) ?_
  refine C.region (id := 1) (m := 4) (ops := opsOf (sub [1, 0, 0, 0] B13)) rfl ?_
  refine W.pure rfl (wo rfl) rfl rfl (p_move rfl rfl) (nf rfl) ?_
  refine W.quiet rfl (wo rfl) rfl rfl (f_callR rfl rfl (args_val (vs := [ptr b 0]) rfl) (en32 _) (fun w2 hc2 => there_ok (M := heapOf w2) (fun _ _ e => e) (ho.M (b := b) (m := m) hc2 (fun p hp => by first | exact hp | exact List.mem_cons_of_mem _ hp | exact List.mem_cons_of_mem _ (List.mem_cons_of_mem _ hp) | exact List.mem_append_left _ hp)))) (nf rfl) ?_
  refine W.pure rfl (wo rfl) rfl rfl (p_not rfl rfl) (nf rfl) ?_
  refine W.pure rfl (wo rfl) rfl rfl (p_assign rfl rfl) (nf rfl) ?_
  refine W.doneQ (y := sub [1, 0, 0, 1] B13) rfl ?_
  refine C.cond_false (x := sub [1, 0, 0, 1, 0] B13) (y := sub [1, 0, 0, 1, 1] B13) rfl rfl ?_
  refine C.seq (x := sub [1, 0, 0, 1, 1, 0] B13) (y := sub [1, 0, 0, 1, 1, 1] B13) ?_
  refine C.region (id := 3) (m := 3) (ops := opsOf (sub [1, 0, 0, 1, 1, 0] B13)) rfl ?_
  refine W.pure rfl (wo rfl) rfl rfl (p_move rfl rfl) (nf rfl) ?_
  refine W.pure rfl (wo rfl) rfl rfl (pF (decide_eq_false h) (p_lss rfl rfl rfl)) (nf rfl) ?_
  refine W.pure rfl (wo rfl) rfl rfl (p_assign rfl rfl) (nf rfl) ?_
  refine W.doneQ (y := sub [1, 0, 0, 1, 1, 1] B13) rfl ?_
  refine C.cond_false (x := sub [1, 0, 0, 1, 1, 1, 0] B13) (y := sub [1, 0, 0, 1, 1, 1, 1] B13) rfl rfl ?_
  refine C.skipQ (y := sub [1, 1] B13) rfl ?_
  refine C.seq (x := sub [1, 1, 0] B13) (y := sub [1, 1, 1] B13) ?_
  refine C.region (id := 5) (m := 9) (ops := opsOf (sub [1, 1, 0] B13)) rfl ?_
  refine W.pure rfl (wo rfl) rfl rfl (p_move rfl rfl) (nf rfl) ?_
  refine W.pure rfl (wo rfl) rfl rfl (p_move rfl rfl) (nf rfl) ?_
  refine W.pure rfl (wo rfl) rfl rfl (p_move rfl rfl) (nf rfl) ?_
  refine W.pure rfl (wo rfl) rfl rfl (p_nilCheck rfl rfl) (nf rfl) ?_
  refine W.pure rfl (wo rfl) rfl rfl (p_fieldAddr tf61_3 rfl rfl) (nf rfl) ?_
  refine W.put (H' := dkH b m v cur ⟨s.n, s.set, s.late, n, s.armed, s.dead⟩) rfl (wo rfl) rfl (f_stDk (s := ⟨s.n, s.set, s.late, s.fuse, s.armed, s.dead⟩) (s2 := ⟨s.n, s.set, s.late, n, s.armed, s.dead⟩) (k := 3) (u := .int .i64 (n)) (j := 0) ts3 rfl trivial rfl (by decide) rfl rfl rfl) (nf rfl) ?_
  refine W.pure rfl (wo rfl) rfl rfl (p_nilCheck rfl rfl) (nf rfl) ?_
  refine W.pure rfl (wo rfl) rfl rfl (p_fieldAddr tf61_4 rfl rfl) (nf rfl) ?_
  refine W.put (H' := dkH b m v cur ⟨s.n, s.set, s.late, n, true, s.dead⟩) rfl (wo rfl) rfl (f_stDk (s := ⟨s.n, s.set, s.late, n, s.armed, s.dead⟩) (s2 := ⟨s.n, s.set, s.late, n, true, s.dead⟩) (k := 4) (u := .bool (true)) (j := 0) ts4 rfl trivial rfl (by decide) rfl rfl rfl) (nf rfl) ?_
  refine W.doneQ (y := sub [1, 1, 1] B13) rfl ?_
  refine C.seq (x := sub [1, 1, 1, 0] B13) (y := sub [1, 1, 1, 1] B13) ?_
  refine C.region (id := 6) (m := 1) (ops := opsOf (sub [1, 1, 1, 0] B13)) rfl ?_
  refine W.pure rfl (wo rfl) rfl rfl (p_assign rfl rfl) (nf rfl) ?_
  refine W.doneQ (y := sub [1, 1, 1, 1] B13) rfl ?_
  exact C.ret (R := fun e w' => e = .returned (.int .i64 0) ∧ Cls w0 I (dkH b m v cur { s with fuse := n, armed := true }) w') (rs := [.tmp 4]) (vs := [.int .i64 0]) rfl Try.func13 rfl rfl rfl (res_cons (ResV.tmp rfl) res_nil) fun w1 hc1 => ⟨rfl, hc1⟩

def setFuseK (s : Dk) (n : Int) : Int × Dk := if n < 0 then (2, s) else (0, { s with fuse := n, armed := true })
theorem setfuse_ok {w0 w : World} {I : Mem} {b m : Nat} {v : Value} {cur : Array Value} {s : Dk} (hc : Cls w0 I (dkH b m v cur s) w) (ho : DkO v cur s) (n : Int) : Calls Try.prog 13 #[ptr b 0, .int .i64 n] w fun e w' => e = .returned (.int .i64 (setFuseK s n).1) ∧ Cls w0 I (dkH b m v cur (setFuseK s n).2) w' := by
  unfold setFuseK
  by_cases h : n < 0
  · rw [if_pos h]; exact setfuse_1 hc ho n h
  · rw [if_neg h]; exact setfuse_2 hc ho n h

noncomputable def B14 : Code := bodyOf Try.f14
theorem en14 (args : Array Value) (w : World) : (callFunc 14 args).run Try.prog w = .ok (.enter 14 args) w := by kernel_rfl

def setK (s : Dk) (k : Nat) : List Wr := (s.late.take k).foldl (fun l w => mput l w.1 w.2) s.set
theorem setK_succ {s : Dk} {k : Nat} {x : Wr} (h : s.late[k]? = some x) : mput (setK s k) x.1 x.2 = setK s (k + 1) := by
  unfold setK
  rw [List.take_add_one, h, List.foldl_append]; rfl
theorem late_len {v : Value} {cur : Array Value} {s : Dk} (ho : DkO v cur s) {k : Nat} {x : Wr} (h : s.late[k]? = some x) : x.2.length = 512 := by
  obtain ⟨cs, _, h2⟩ := ho.hr
  exact (h2 k x h).2
theorem setK_full {v : Value} {cur : Array Value} {s : Dk} (ho : DkO v cur s) : ∀ k, Full (setK s k)
  | 0 => ho.hs
  | k + 1 => by
    cases h : s.late[k]? with
    | none =>
      have e : setK s (k + 1) = setK s k := by unfold setK; rw [List.take_add_one, h]; simp
      rw [e]; exact setK_full ho k
    | some x =>
      rw [← setK_succ h]
      exact mput_full (setK_full ho k) (late_len ho h)
theorem sync_1 {w0 w : World} {I : Mem} {b m : Nat} {v : Value} {cur : Array Value} {s : Dk} (hc : Cls w0 I (dkH b m v cur s) w) (ho : DkO v cur s) (h : ¬ (stepK s).1 = 0) : Calls Try.prog 14 #[ptr b 0] w fun e w' => e = .returned (.int .i64 (stepK s).1) ∧ Cls w0 I (dkH b m v cur (stepK s).2) w' := by
  refine calls_of_CW (N := 35) Try.func14 (show _ = some B14 by kernel_rfl) (by kernel_rfl) rfl (S := [(0, ptr b 0)]) (by simp) hc ?_
  show CW _ _ _ (sub [] B14) _ _ _
  refine C.seq (x := sub [0] B14) (y := sub [1] B14) ?_
  refine C.region (id := 0) (m := 1) (ops := opsOf (sub [0] B14)) rfl ?_
  refine W.pure rfl (wo rfl) rfl rfl (p_assign rfl rfl) (nf rfl) ?_
  refine W.doneQ (y := sub [1] B14) rfl ?_
  refine C.seq (x := sub [1, 0] B14) (y := sub [1, 1] B14) ?_
  refine C.seq (x := sub [1, 0, 0] B14) (y := sub [1, 0, 1] B14) ?_
  refine C.region (id := 1) (m := 3) (ops := opsOf (sub [1, 0, 0] B14)) rfl ?_
  refine W.pure rfl (wo rfl) rfl rfl (p_move rfl rfl) (nf rfl) ?_
  refine W.quiet rfl (wo rfl) rfl rfl (f_callR rfl rfl (args_val (vs := [ptr b 0]) rfl) (en32 _) (fun w2 hc2 => there_ok (M := heapOf w2) (fun _ _ e => e) (ho.M (b := b) (m := m) hc2 (fun p hp => by first | exact hp | exact List.mem_cons_of_mem _ hp | exact List.mem_cons_of_mem _ (List.mem_cons_of_mem _ hp) | exact List.mem_append_left _ hp)))) (nf rfl) ?_
  refine W.pure rfl (wo rfl) rfl rfl (p_not rfl rfl) (nf rfl) ?_
  refine W.doneQ (y := sub [1, 0, 1] B14) rfl ?_
  refine C.cond_false (x := sub [1, 0, 1, 0] B14) (y := sub [1, 0, 1, 1] B14) rfl rfl ?_
  refine C.skipQ (y := sub [1, 1] B14) rfl ?_
  refine C.seq (x := sub [1, 1, 0] B14) (y := sub [1, 1, 1] B14) ?_
  refine C.region (id := 3) (m := 3) (ops := opsOf (sub [1, 1, 0] B14)) rfl ?_
  refine W.pure rfl (wo rfl) rfl rfl (p_move rfl rfl) (nf rfl) ?_
  refine W.callX (X := Unit) (u := fun _ => .int .i64 (stepK s).1) (H' := fun _ => dkH b m v cur (stepK s).2) rfl (wo rfl) rfl rfl rfl rfl rfl (args_val (vs := [ptr b 0]) rfl) (en33 _) (fun w2 hc2 => (step_ok hc2).mono fun e w3 ⟨h1, h2⟩ => ⟨(), h1, h2⟩) ?_
  intro _
  refine W.pure rfl (wo rfl) rfl rfl (p_assign rfl rfl) (nf rfl) ?_
  refine W.doneQ (y := sub [1, 1, 1] B14) rfl ?_
  refine C.seq (x := sub [1, 1, 1, 0] B14) (y := sub [1, 1, 1, 1] B14) ?_
  refine C.seq (x := sub [1, 1, 1, 0, 0] B14) (y := sub [1, 1, 1, 0, 1] B14) ?_
  refine C.region (id := 4) (m := 2) (ops := opsOf (sub [1, 1, 1, 0, 0] B14)) rfl ?_
  refine W.pure rfl (wo rfl) rfl rfl (p_move rfl rfl) (nf rfl) ?_
  refine W.pure rfl (wo rfl) rfl rfl (pF (by simpa using h) (p_eql rfl rfl rfl)) (nf rfl) ?_
  refine W.doneQ (y := sub [1, 1, 1, 0, 1] B14) rfl ?_
  refine C.cond_false (x := sub [1, 1, 1, 0, 1, 0] B14) (y := sub [1, 1, 1, 0, 1, 1] B14) rfl rfl ?_
  refine C.skipQ (y := sub [1, 1, 1, 1] B14) rfl ?_
  refine C.seq (x := sub [1, 1, 1, 1, 0] B14) (y := sub [1, 1, 1, 1, 1] B14) ?_
  refine C.region (id := 11) (m := 2) (ops := opsOf (sub [1, 1, 1, 1, 0] B14)) rfl ?_
  refine W.pure rfl (wo rfl) rfl rfl (p_move rfl rfl) (nf rfl) ?_
  refine W.pure rfl (wo rfl) rfl rfl (p_assign rfl rfl) (nf rfl) ?_
  refine W.doneQ (y := sub [1, 1, 1, 1, 1] B14) rfl ?_
  exact C.ret (R := fun e w' => e = .returned (.int .i64 (stepK s).1) ∧ Cls w0 I (dkH b m v cur (stepK s).2) w') (rs := [.tmp 2]) (vs := [.int .i64 (stepK s).1]) rfl Try.func14 rfl rfl rfl (res_cons (ResV.tmp rfl) res_nil) fun w1 hc1 => ⟨rfl, hc1⟩

end Go.Proofs.Ytjomnicfcdkfdaa
