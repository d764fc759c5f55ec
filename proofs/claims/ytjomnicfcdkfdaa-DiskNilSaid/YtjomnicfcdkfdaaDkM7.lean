import Derived.Test.YtjomnicfcdkfdaaDkM6
namespace Go.Proofs.Ytjomnicfcdkfdaa
open Go Go.HW Go.RowKit
set_option linter.unusedVariables false
set_option linter.unusedSimpArgs false

theorem en11 (args : Array Value) (w : World) : (callFunc 11 args).run Try.prog w = .ok (.enter 11 args) w := by kernel_rfl
noncomputable def B11 : Code := bodyOf Try.f11
theorem bu61 (n : Int) (m : Nat) (w : World) : (Instr.build 61 #[(0, .int .i64 n), (1, .map (some m))]).run Try.prog w = .ok (.agg #[.int .i64 n, .map (some m), .slice none 0 0, .int .i64 0, .bool false, .bool false]) w := by kernel_rfl
def newK (n : Int) : Dk := ⟨n, [], [], 0, false, false⟩
theorem new_ok {w0 w : World} {I : Mem} {H : Heap} (hc : Cls w0 I H w) (n : Int) (h : ¬ n < 1) (h2 : ¬ 8192 < n) : Calls Try.prog 11 #[.int .i64 n] w (fun e w' => ∃ b m, e = .returned (.tuple #[ptr b 0, .int .i64 0]) ∧ Cls w0 I (dkH b m (.slice none 0 0) #[] (newK n) ++ H) w') := by
  refine calls_of_CW (N := 14) Try.func11 (show _ = some B11 by kernel_rfl) (by kernel_rfl) rfl (S := [(0, .int .i64 n)]) (by simp) hc ?_
  show CW _ _ _ (sub [] B11) _ _ _
  refine C.seq (x := sub [0] B11) (y := sub [1] B11) ?_
  refine C.region (id := 0) (m := 2) (ops := opsOf (sub [0] B11)) rfl ?_
  refine W.pure rfl (wo rfl) rfl rfl (p_assign rfl rfl) (nf rfl) ?_
  refine W.pure rfl (wo rfl) rfl rfl (p_assign rfl rfl) (nf rfl) ?_
  refine W.doneQ (y := sub [1] B11) rfl ?_
  refine C.seq (x := sub [1, 0] B11) (y := sub [1, 1] B11) ?_
  refine C.seq (x := sub [1, 0, 0] B11) (y := sub [1, 0, 1] B11) ?_
  refine C.region (id := 1) (m := 6) (ops := opsOf (sub [1, 0, 0] B11)) rfl ?_
  refine W.pure rfl (wo rfl) rfl rfl (p_move rfl rfl) (nf rfl) ?_
  refine W.pure rfl (wo rfl) rfl rfl (pF (decide_eq_false h) (p_lss rfl rfl rfl)) (nf rfl) ?_
  refine W.pure rfl (wo rfl) rfl rfl (p_move rfl rfl) (nf rfl) ?_
  refine W.pure rfl (wo rfl) rfl rfl (p_move rfl rfl) (nf rfl) ?_
  refine W.pure rfl (wo rfl) rfl rfl (pF (decide_eq_false h2) (p_gtr rfl rfl rfl)) (nf rfl) ?_
  refine W.pure rfl (wo rfl) rfl rfl (p_pick_false rfl rfl rfl) (nf rfl) ?_
  refine W.doneQ (y := sub [1, 0, 1] B11) rfl ?_
  refine C.cond_false (x := sub [1, 0, 1, 0] B11) (y := sub [1, 0, 1, 1] B11) rfl rfl ?_
  refine C.skipQ (y := sub [1, 1] B11) rfl ?_
  refine C.seq (x := sub [1, 1, 0] B11) (y := sub [1, 1, 1] B11) ?_
  refine C.region (id := 3) (m := 6) (ops := opsOf (sub [1, 1, 0] B11)) rfl ?_
  refine W.pure rfl (wo rfl) rfl rfl (p_move rfl rfl) (nf rfl) ?_
  refine W.new rfl (wo rfl) rfl rfl (f_makeMap (k := .i64) rfl) (nf rfl) ?_
  intro m hm
  refine W.pure rfl (wo rfl) rfl rfl (p_build (vs := [(0, .int .i64 n), (1, .map (some m))]) (fun w => bu61 n m w) rfl rfl) (nf rfl) ?_
  refine W.new rfl (wo rfl) rfl rfl (f_box rfl rfl) (nf rfl) ?_
  intro b hb
  refine W.pure rfl (wo rfl) rfl rfl (p_assign rfl rfl) (nf rfl) ?_
  refine W.pure rfl (wo rfl) rfl rfl (p_assign rfl rfl) (nf rfl) ?_
  refine W.doneQ (y := sub [1, 1, 1] B11) rfl ?_
  exact C.ret (R := fun e w' => ∃ b m, e = .returned (.tuple #[ptr b 0, .int .i64 0]) ∧ Cls w0 I (dkH b m (.slice none 0 0) #[] (newK n) ++ H) w') (rs := [.tmp 2, .tmp 3]) (vs := [ptr b 0, .int .i64 0]) rfl Try.func11 rfl rfl rfl (res_cons (ResV.tmp rfl) (res_cons (ResV.tmp rfl) res_nil)) fun w1 hc1 => ⟨b, m, rfl, (hc1.nothing (.cells #[] 64 (0, 0))).perm (List.perm_append_comm_assoc [(none, Obj.cells #[] 64 (0, 0))] [dk1 b m (.slice none 0 0) (newK n), (some m, dmap [])] H)⟩

end Go.Proofs.Ytjomnicfcdkfdaa
