import Derived.Test.YtjomnicfcdkfdaaDkM3
namespace Go.Proofs.Ytjomnicfcdkfdaa
open Go Go.HW Go.RowKit
set_option linter.unusedVariables false
set_option linter.unusedSimpArgs false

theorem pI {P : Program} {o : Oper} {S : Slots} {k : IntKind} {a b : Int} (h : a = b) (hp : FPure P o S (.int k a)) : FPure P o S (.int k b) := by rw [← h]; exact hp
theorem wk {k : Nat} (h : k < 1099511627776) : IntKind.i64.wrap ((k : Int) + 1) = ((k + 1 : Nat) : Int) := by rw [w64 (by omega) (by omega)]; omega

noncomputable def B14 : Code := bodyOf Try.f14
theorem en14 (args : Array Value) (w : World) : (callFunc 14 args).run Try.prog w = .ok (.enter 14 args) w := by kernel_rfl

def setK (s : Dk) (k : Nat) : List Wr := (s.late.take k).foldl (fun l w => mput l w.1 w.2) s.set
theorem setK_succ {s : Dk} {k : Nat} {x : Wr} (h : s.late[k]? = some x) : mput (setK s k) x.1 x.2 = setK s (k + 1) := by
  unfold setK
  rw [List.take_add_one, h, List.foldl_append]; rfl
theorem late_len {v : Value} {cur : Array Value} {s : Dk} (ho : DkO v cur s) {k : Nat} {x : Wr} (h : s.late[k]? = some x) : x.2.length = 512 := by
  obtain ⟨cs, _, h2⟩ := ho.hr
  exact (h2 k x h).2
theorem setK_full {v : Value} {cur : Array Value} {s : Dk} (ho : DkO v cur s) : ∀ k, Full (setK s k)
  | 0 => ho.hs
  | k + 1 => by
    cases h : s.late[k]? with
    | none =>
      have e : setK s (k + 1) = setK s k := by unfold setK; rw [List.take_add_one, h]; simp
      rw [e]; exact setK_full ho k
    | some x =>
      rw [← setK_succ h]
      exact mput_full (setK_full ho k) (late_len ho h)
theorem sync_1 {w0 w : World} {I : Mem} {b m : Nat} {v : Value} {cur : Array Value} {s : Dk} (hc : Cls w0 I (dkH b m v cur s) w) (ho : DkO v cur s) (h : ¬ (stepK s).1 = 0) : Calls Try.prog 14 #[ptr b 0] w fun e w' => e = .returned (.int .i64 (stepK s).1) ∧ Cls w0 I (dkH b m v cur (stepK s).2) w' := by
  refine calls_of_CW (N := 35) Try.func14 (show _ = some B14 by kernel_rfl) (by kernel_rfl) rfl (S := [(0, ptr b 0)]) (by simp) hc ?_
  show CW _ _ _ (sub [] B14) _ _ _
  refine C.seq (x := sub [0] B14) (y := sub [1] B14) ?_
  refine C.region (id := 0) (m := 1) (ops := opsOf (sub [0] B14)) rfl ?_
  refine W.pure rfl (wo rfl) rfl rfl (p_assign rfl rfl) (nf rfl) ?_
  refine W.doneQ (y := sub [1] B14) rfl ?_
  refine C.seq (x := sub [1, 0] B14) (y := sub [1, 1] B14) ?_
  refine C.seq (x := sub [1, 0, 0] B14) (y := sub [1, 0, 1] B14) ?_
  refine C.region (id := 1) (m := 3) (ops := opsOf (sub [1, 0, 0] B14)) rfl ?_
  refine W.pure rfl (wo rfl) rfl rfl (p_move rfl rfl) (nf rfl) ?_
  refine W.quiet rfl (wo rfl) rfl rfl (f_callR rfl rfl (args_val (vs := [ptr b 0]) rfl) (en32 _) (fun w2 hc2 => there_ok (M := heapOf w2) (fun _ _ e => e) (ho.M (b := b) (m := m) hc2 (fun p hp => by first | exact hp | exact List.mem_cons_of_mem _ hp | exact List.mem_cons_of_mem _ (List.mem_cons_of_mem _ hp) | exact List.mem_append_left _ hp)))) (nf rfl) ?_
  refine W.pure rfl (wo rfl) rfl rfl (p_not rfl rfl) (nf rfl) ?_
  refine W.doneQ (y := sub [1, 0, 1] B14) rfl ?_
  refine C.cond_false (x := sub [1, 0, 1, 0] B14) (y := sub [1, 0, 1, 1] B14) rfl rfl ?_
  refine C.skipQ (y := sub [1, 1] B14) rfl ?_
  refine C.seq (x := sub [1, 1, 0] B14) (y := sub [1, 1, 1] B14) ?_
  refine C.region (id := 3) (m := 3) (ops := opsOf (sub [1, 1, 0] B14)) rfl ?_
  refine W.pure rfl (wo rfl) rfl rfl (p_move rfl rfl) (nf rfl) ?_
  refine W.callX (X := Unit) (u := fun _ => .int .i64 (stepK s).1) (H' := fun _ => dkH b m v cur (stepK s).2) rfl (wo rfl) rfl rfl rfl rfl rfl (args_val (vs := [ptr b 0]) rfl) (en33 _) (fun w2 hc2 => (step_ok hc2).mono fun e w3 ⟨h1, h2⟩ => ⟨(), h1, h2⟩) ?_
  intro _
  refine W.pure rfl (wo rfl) rfl rfl (p_assign rfl rfl) (nf rfl) ?_
  refine W.doneQ (y := sub [1, 1, 1] B14) rfl ?_
  refine C.seq (x := sub [1, 1, 1, 0] B14) (y := sub [1, 1, 1, 1] B14) ?_
  refine C.seq (x := sub [1, 1, 1, 0, 0] B14) (y := sub [1, 1, 1, 0, 1] B14) ?_
  refine C.region (id := 4) (m := 2) (ops := opsOf (sub [1, 1, 1, 0, 0] B14)) rfl ?_
  refine W.pure rfl (wo rfl) rfl rfl (p_move rfl rfl) (nf rfl) ?_
  refine W.pure rfl (wo rfl) rfl rfl (pF (by simpa using h) (p_eql rfl rfl rfl)) (nf rfl) ?_
  refine W.doneQ (y := sub [1, 1, 1, 0, 1] B14) rfl ?_
  refine C.cond_false (x := sub [1, 1, 1, 0, 1, 0] B14) (y := sub [1, 1, 1, 0, 1, 1] B14) rfl rfl ?_
  refine C.skipQ (y := sub [1, 1, 1, 1] B14) rfl ?_
  refine C.seq (x := sub [1, 1, 1, 1, 0] B14) (y := sub [1, 1, 1, 1, 1] B14) ?_
  refine C.region (id := 11) (m := 2) (ops := opsOf (sub [1, 1, 1, 1, 0] B14)) rfl ?_
  refine W.pure rfl (wo rfl) rfl rfl (p_move rfl rfl) (nf rfl) ?_
  refine W.pure rfl (wo rfl) rfl rfl (p_assign rfl rfl) (nf rfl) ?_
  refine W.doneQ (y := sub [1, 1, 1, 1, 1] B14) rfl ?_
  exact C.ret (R := fun e w' => e = .returned (.int .i64 (stepK s).1) ∧ Cls w0 I (dkH b m v cur (stepK s).2) w') (rs := [.tmp 2]) (vs := [.int .i64 (stepK s).1]) rfl Try.func14 rfl rfl rfl (res_cons (ResV.tmp rfl) res_nil) fun w1 hc1 => ⟨rfl, hc1⟩

end Go.Proofs.Ytjomnicfcdkfdaa
