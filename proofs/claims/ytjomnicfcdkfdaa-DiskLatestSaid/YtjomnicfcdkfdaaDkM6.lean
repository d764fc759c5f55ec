import Derived.Test.YtjomnicfcdkfdaaDkB
namespace Go.Proofs.Ytjomnicfcdkfdaa
open Go Go.HW Go.RowKit
set_option linter.unusedVariables false
set_option linter.unusedSimpArgs false

noncomputable def B15 : Code := bodyOf Try.f15
theorem en15 (args : Array Value) (w : World) : (callFunc 15 args).run Try.prog w = .ok (.enter 15 args) w := by kernel_rfl

theorem wnew {b : Nat} {x : Wr} (hx : x.2.length = 512) : OwnV (.slice (some ⟨b, 0, none⟩) 1 1) (wrc x) 513 1 (wrc x).toList := by
  have h := wrc_size hx
  have h2 : (wrc x).toList.length = 513 := by simpa using h
  exact OwnV.fresh (Nat.le_refl _) (by simp [maxLen]) (by rw [h]) (by rw [Nat.one_mul, List.take_of_length_le (by rw [h2]; exact Nat.le_refl _)]) (by rw [h2])
theorem tu32 (w : World) : (underlying 32).run Try.prog w = .ok (.slice 5) w := by kernel_rfl

theorem write_1 {w0 w : World} {I : Mem} {b m : Nat} {v xv : Value} {cur xc : Array Value} {ex : Nat} {s : Dk} (hc : Cls w0 I (dkH b m v cur s ++ [(xv.ownBlock, .cells xc ex (0, 0))]) w) (ho : DkO v cur s) {xs : List Int} (hx : IntOwn .u8 xv xc xs) (n : Int) (h : hasD s n = false) : Calls Try.prog 15 #[ptr b 0, .int .i64 n, xv] w (fun e w' => ∃ v2 cur2, e = .returned (.int .i64 2) ∧ DkO v2 cur2 s ∧ Cls w0 I (dkH b m v2 cur2 s ++ [(xv.ownBlock, .cells xc ex (0, 0))]) w') := by
  refine calls_of_CW (N := 41) Try.func15 (show _ = some B15 by kernel_rfl) (by kernel_rfl) rfl (S := [(0, ptr b 0), (1, .int .i64 n), (2, xv)]) (by simp) hc ?_
  show CW _ _ _ (sub [] B15) _ _ _
  refine C.seq (x := sub [0] B15) (y := sub [1] B15) ?_
  refine C.region (id := 0) (m := 1) (ops := opsOf (sub [0] B15)) rfl ?_
  refine W.pure rfl (wo rfl) rfl rfl (p_assign rfl rfl) (nf rfl) ?_
  refine W.doneQ (y := sub [1] B15) rfl ?_
  refine C.seq (x := sub [1, 0] B15) (y := sub [1, 1] B15) ?_
  refine C.block (id := 0) (c := sub [1, 0, 0] B15) ?_
  refine C.seq (x := sub [1, 0, 0, 0] B15) (y := sub [1, 0, 0, 1] B15) ?_
  refine C.region (id := 1) (m := 4) (ops := opsOf (sub [1, 0, 0, 0] B15)) rfl ?_
  refine W.pure rfl (wo rfl) rfl rfl (p_move rfl rfl) (nf rfl) ?_
  refine W.quiet rfl (wo rfl) rfl rfl (f_callR rfl rfl (args_val (vs := [ptr b 0]) rfl) (en32 _) (fun w2 hc2 => there_ok (M := heapOf w2) (fun _ _ e => e) (ho.M (b := b) (m := m) hc2 (fun p hp => by first | exact hp | exact List.mem_cons_of_mem _ hp | exact List.mem_cons_of_mem _ (List.mem_cons_of_mem _ hp) | exact List.mem_append_left _ hp)))) (nf rfl) ?_
  refine W.pure rfl (wo rfl) rfl rfl (p_not rfl rfl) (nf rfl) ?_
  refine W.pure rfl (wo rfl) rfl rfl (p_assign rfl rfl) (nf rfl) ?_
  refine W.doneQ (y := sub [1, 0, 0, 1] B15) rfl ?_
  refine C.cond_false (x := sub [1, 0, 0, 1, 0] B15) (y := sub [1, 0, 0, 1, 1] B15) rfl rfl ?_
  refine C.seq (x := sub [1, 0, 0, 1, 1, 0] B15) (y := sub [1, 0, 0, 1, 1, 1] B15) ?_
  refine C.region (id := 3) (m := 10) (ops := opsOf (sub [1, 0, 0, 1, 1, 0] B15)) rfl ?_
  refine W.pure rfl (wo rfl) rfl rfl (p_move rfl rfl) (nf rfl) ?_
  refine W.pure rfl (wo rfl) rfl rfl (p_move rfl rfl) (nf rfl) ?_
  refine W.quiet rfl (wo rfl) rfl rfl (qF (h) (f_callR rfl rfl (args_val (vs := [ptr b 0, .int .i64 n]) rfl) (en34 _) (fun w2 hc2 => has_ok (M := heapOf w2) (fun _ _ e => e) (ho.M (b := b) (m := m) hc2 (fun p hp => by first | exact hp | exact List.mem_cons_of_mem _ hp | exact List.mem_cons_of_mem _ (List.mem_cons_of_mem _ hp) | exact List.mem_append_left _ hp)) n))) (nf rfl) ?_
  refine W.pure rfl (wo rfl) rfl rfl (p_not rfl rfl) (nf rfl) ?_
  refine W.pure rfl (wo rfl) rfl rfl (p_move rfl rfl) (nf rfl) ?_
  refine W.not rfl (wo rfl) rfl rfl ?_
  refine W.not rfl (wo rfl) rfl rfl ?_
  refine W.not rfl (wo rfl) rfl rfl ?_
  refine W.pure rfl (wo rfl) rfl rfl (p_pick_true rfl rfl rfl) (nf rfl) ?_
  refine W.pure rfl (wo rfl) rfl rfl (p_assign rfl rfl) (nf rfl) ?_
  refine W.doneQ (y := sub [1, 0, 0, 1, 1, 1] B15) rfl ?_
  refine C.cond_true (x := sub [1, 0, 0, 1, 1, 1, 0] B15) (y := sub [1, 0, 0, 1, 1, 1, 1] B15) rfl rfl ?_
  refine C.seq (x := sub [1, 0, 0, 1, 1, 1, 0, 0] B15) (y := sub [1, 0, 0, 1, 1, 1, 0, 1] B15) ?_
  refine C.region (id := 4) (m := 1) (ops := opsOf (sub [1, 0, 0, 1, 1, 1, 0, 0] B15)) rfl ?_
  refine W.pure rfl (wo rfl) rfl rfl (p_assign rfl rfl) (nf rfl) ?_
  refine W.doneQ (y := sub [1, 0, 0, 1, 1, 1, 0, 1] B15) rfl ?_
  exact C.ret (R := fun e w' => ∃ v2 cur2, e = .returned (.int .i64 2) ∧ DkO v2 cur2 s ∧ Cls w0 I (dkH b m v2 cur2 s ++ [(xv.ownBlock, .cells xc ex (0, 0))]) w') (rs := [.tmp 6]) (vs := [.int .i64 2]) rfl Try.func15 rfl rfl rfl (res_cons (ResV.tmp rfl) res_nil) fun w1 hc1 => ⟨v, cur, rfl, ho, hc1⟩

theorem write_2 {w0 w : World} {I : Mem} {b m : Nat} {v xv : Value} {cur xc : Array Value} {ex : Nat} {s : Dk} (hc : Cls w0 I (dkH b m v cur s ++ [(xv.ownBlock, .cells xc ex (0, 0))]) w) (ho : DkO v cur s) {xs : List Int} (hx : IntOwn .u8 xv xc xs) (n : Int) (h : hasD s n = true) (h2 : ¬ xs.length = 512) : Calls Try.prog 15 #[ptr b 0, .int .i64 n, xv] w (fun e w' => ∃ v2 cur2, e = .returned (.int .i64 2) ∧ DkO v2 cur2 s ∧ Cls w0 I (dkH b m v2 cur2 s ++ [(xv.ownBlock, .cells xc ex (0, 0))]) w') := by
  refine calls_of_CW (N := 41) Try.func15 (show _ = some B15 by kernel_rfl) (by kernel_rfl) rfl (S := [(0, ptr b 0), (1, .int .i64 n), (2, xv)]) (by simp) hc ?_
  show CW _ _ _ (sub [] B15) _ _ _
  refine C.seq (x := sub [0] B15) (y := sub [1] B15) ?_
  refine C.region (id := 0) (m := 1) (ops := opsOf (sub [0] B15)) rfl ?_
  refine W.pure rfl (wo rfl) rfl rfl (p_assign rfl rfl) (nf rfl) ?_
  refine W.doneQ (y := sub [1] B15) rfl ?_
  refine C.seq (x := sub [1, 0] B15) (y := sub [1, 1] B15) ?_
  refine C.block (id := 0) (c := sub [1, 0, 0] B15) ?_
  refine C.seq (x := sub [1, 0, 0, 0] B15) (y := sub [1, 0, 0, 1] B15) ?_
  refine C.region (id := 1) (m := 4) (ops := opsOf (sub [1, 0, 0, 0] B15)) rfl ?_
  refine W.pure rfl (wo rfl) rfl rfl (p_move rfl rfl) (nf rfl) ?_
  refine W.quiet rfl (wo rfl) rfl rfl (f_callR rfl rfl (args_val (vs := [ptr b 0]) rfl) (en32 _) (fun w2 hc2 => there_ok (M := heapOf w2) (fun _ _ e => e) (ho.M (b := b) (m := m) hc2 (fun p hp => by first | exact hp | exact List.mem_cons_of_mem _ hp | exact List.mem_cons_of_mem _ (List.mem_cons_of_mem _ hp) | exact List.mem_append_left _ hp)))) (nf rfl) ?_
  refine W.pure rfl (wo rfl) rfl rfl (p_not rfl rfl) (nf rfl) ?_
  refine W.pure rfl (wo rfl) rfl rfl (p_assign rfl rfl) (nf rfl) ?_
  refine W.doneQ (y := sub [1, 0, 0, 1] B15) rfl ?_
  refine C.cond_false (x := sub [1, 0, 0, 1, 0] B15) (y := sub [1, 0, 0, 1, 1] B15) rfl rfl ?_
  refine C.seq (x := sub [1, 0, 0, 1, 1, 0] B15) (y := sub [1, 0, 0, 1, 1, 1] B15) ?_
  refine C.region (id := 3) (m := 10) (ops := opsOf (sub [1, 0, 0, 1, 1, 0] B15)) rfl ?_
  refine W.pure rfl (wo rfl) rfl rfl (p_move rfl rfl) (nf rfl) ?_
  refine W.pure rfl (wo rfl) rfl rfl (p_move rfl rfl) (nf rfl) ?_
  refine W.quiet rfl (wo rfl) rfl rfl (qT (h) (f_callR rfl rfl (args_val (vs := [ptr b 0, .int .i64 n]) rfl) (en34 _) (fun w2 hc2 => has_ok (M := heapOf w2) (fun _ _ e => e) (ho.M (b := b) (m := m) hc2 (fun p hp => by first | exact hp | exact List.mem_cons_of_mem _ hp | exact List.mem_cons_of_mem _ (List.mem_cons_of_mem _ hp) | exact List.mem_append_left _ hp)) n))) (nf rfl) ?_
  refine W.pure rfl (wo rfl) rfl rfl (p_not rfl rfl) (nf rfl) ?_
  refine W.pure rfl (wo rfl) rfl rfl (p_move rfl rfl) (nf rfl) ?_
  refine W.pure rfl (wo rfl) rfl rfl (p_move rfl rfl) (nf rfl) ?_
  refine W.pure rfl (wo rfl) rfl rfl (p_slLen tu32 hx.sl rfl rfl) (nf rfl) ?_
  refine W.pure rfl (wo rfl) rfl rfl (pT (by simp; omega) (p_neq rfl rfl rfl)) (nf rfl) ?_
  refine W.pure rfl (wo rfl) rfl rfl (p_pick_false rfl rfl rfl) (nf rfl) ?_
  refine W.pure rfl (wo rfl) rfl rfl (p_assign rfl rfl) (nf rfl) ?_
  refine W.doneQ (y := sub [1, 0, 0, 1, 1, 1] B15) rfl ?_
  refine C.cond_true (x := sub [1, 0, 0, 1, 1, 1, 0] B15) (y := sub [1, 0, 0, 1, 1, 1, 1] B15) rfl rfl ?_
  refine C.seq (x := sub [1, 0, 0, 1, 1, 1, 0, 0] B15) (y := sub [1, 0, 0, 1, 1, 1, 0, 1] B15) ?_
  refine C.region (id := 4) (m := 1) (ops := opsOf (sub [1, 0, 0, 1, 1, 1, 0, 0] B15)) rfl ?_
  refine W.pure rfl (wo rfl) rfl rfl (p_assign rfl rfl) (nf rfl) ?_
  refine W.doneQ (y := sub [1, 0, 0, 1, 1, 1, 0, 1] B15) rfl ?_
  exact C.ret (R := fun e w' => ∃ v2 cur2, e = .returned (.int .i64 2) ∧ DkO v2 cur2 s ∧ Cls w0 I (dkH b m v2 cur2 s ++ [(xv.ownBlock, .cells xc ex (0, 0))]) w') (rs := [.tmp 6]) (vs := [.int .i64 2]) rfl Try.func15 rfl rfl rfl (res_cons (ResV.tmp rfl) res_nil) fun w1 hc1 => ⟨v, cur, rfl, ho, hc1⟩

theorem write_3 {w0 w : World} {I : Mem} {b m : Nat} {v xv : Value} {cur xc : Array Value} {ex : Nat} {s : Dk} (hc : Cls w0 I (dkH b m v cur s ++ [(xv.ownBlock, .cells xc ex (0, 0))]) w) (ho : DkO v cur s) {xs : List Int} (hx : IntOwn .u8 xv xc xs) (n : Int) {e1 : Int} {s1 : Dk} (hstep : ∀ {w0 w : World} {I : Mem}, Cls w0 I (dkH b m v cur s) w → Calls Try.prog 33 #[ptr b 0] w fun e w' => e = .returned (.int .i64 e1) ∧ Cls w0 I (dkH b m v cur s1) w') (ho1 : DkO v cur s1) (h : hasD s n = true) (h2 : xs.length = 512) (h3 : e1 = 14) : Calls Try.prog 15 #[ptr b 0, .int .i64 n, xv] w (fun e w' => ∃ v2 cur2, e = .returned (.int .i64 e1) ∧ DkO v2 cur2 s1 ∧ Cls w0 I (dkH b m v2 cur2 s1 ++ [(xv.ownBlock, .cells xc ex (0, 0))]) w') := by
  refine calls_of_CW (N := 41) Try.func15 (show _ = some B15 by kernel_rfl) (by kernel_rfl) rfl (S := [(0, ptr b 0), (1, .int .i64 n), (2, xv)]) (by simp) hc ?_
  show CW _ _ _ (sub [] B15) _ _ _
  refine C.seq (x := sub [0] B15) (y := sub [1] B15) ?_
  refine C.region (id := 0) (m := 1) (ops := opsOf (sub [0] B15)) rfl ?_
  refine W.pure rfl (wo rfl) rfl rfl (p_assign rfl rfl) (nf rfl) ?_
  refine W.doneQ (y := sub [1] B15) rfl ?_
  refine C.seq (x := sub [1, 0] B15) (y := sub [1, 1] B15) ?_
  refine C.block (id := 0) (c := sub [1, 0, 0] B15) ?_
  refine C.seq (x := sub [1, 0, 0, 0] B15) (y := sub [1, 0, 0, 1] B15) ?_
  refine C.region (id := 1) (m := 4) (ops := opsOf (sub [1, 0, 0, 0] B15)) rfl ?_
  refine W.pure rfl (wo rfl) rfl rfl (p_move rfl rfl) (nf rfl) ?_
  refine W.quiet rfl (wo rfl) rfl rfl (f_callR rfl rfl (args_val (vs := [ptr b 0]) rfl) (en32 _) (fun w2 hc2 => there_ok (M := heapOf w2) (fun _ _ e => e) (ho.M (b := b) (m := m) hc2 (fun p hp => by first | exact hp | exact List.mem_cons_of_mem _ hp | exact List.mem_cons_of_mem _ (List.mem_cons_of_mem _ hp) | exact List.mem_append_left _ hp)))) (nf rfl) ?_
  refine W.pure rfl (wo rfl) rfl rfl (p_not rfl rfl) (nf rfl) ?_
  refine W.pure rfl (wo rfl) rfl rfl (p_assign rfl rfl) (nf rfl) ?_
  refine W.doneQ (y := sub [1, 0, 0, 1] B15) rfl ?_
  refine C.cond_false (x := sub [1, 0, 0, 1, 0] B15) (y := sub [1, 0, 0, 1, 1] B15) rfl rfl ?_
  refine C.seq (x := sub [1, 0, 0, 1, 1, 0] B15) (y := sub [1, 0, 0, 1, 1, 1] B15) ?_
  refine C.region (id := 3) (m := 10) (ops := opsOf (sub [1, 0, 0, 1, 1, 0] B15)) rfl ?_
  refine W.pure rfl (wo rfl) rfl rfl (p_move rfl rfl) (nf rfl) ?_
  refine W.pure rfl (wo rfl) rfl rfl (p_move rfl rfl) (nf rfl) ?_
  refine W.quiet rfl (wo rfl) rfl rfl (qT (h) (f_callR rfl rfl (args_val (vs := [ptr b 0, .int .i64 n]) rfl) (en34 _) (fun w2 hc2 => has_ok (M := heapOf w2) (fun _ _ e => e) (ho.M (b := b) (m := m) hc2 (fun p hp => by first | exact hp | exact List.mem_cons_of_mem _ hp | exact List.mem_cons_of_mem _ (List.mem_cons_of_mem _ hp) | exact List.mem_append_left _ hp)) n))) (nf rfl) ?_
  refine W.pure rfl (wo rfl) rfl rfl (p_not rfl rfl) (nf rfl) ?_
  refine W.pure rfl (wo rfl) rfl rfl (p_move rfl rfl) (nf rfl) ?_
  refine W.pure rfl (wo rfl) rfl rfl (p_move rfl rfl) (nf rfl) ?_
  refine W.pure rfl (wo rfl) rfl rfl (p_slLen tu32 hx.sl rfl rfl) (nf rfl) ?_
  refine W.pure rfl (wo rfl) rfl rfl (pF (by simp; omega) (p_neq rfl rfl rfl)) (nf rfl) ?_
  refine W.pure rfl (wo rfl) rfl rfl (p_pick_false rfl rfl rfl) (nf rfl) ?_
  refine W.pure rfl (wo rfl) rfl rfl (p_assign rfl rfl) (nf rfl) ?_
  refine W.doneQ (y := sub [1, 0, 0, 1, 1, 1] B15) rfl ?_
  refine C.cond_false (x := sub [1, 0, 0, 1, 1, 1, 0] B15) (y := sub [1, 0, 0, 1, 1, 1, 1] B15) rfl rfl ?_
  refine C.skipQ (y := sub [1, 1] B15) rfl ?_
  refine C.seq (x := sub [1, 1, 0] B15) (y := sub [1, 1, 1] B15) ?_
  refine C.region (id := 5) (m := 3) (ops := opsOf (sub [1, 1, 0] B15)) rfl ?_
  refine W.pure rfl (wo rfl) rfl rfl (p_move rfl rfl) (nf rfl) ?_
  refine W.callX (X := Unit) (u := fun _ => .int .i64 e1) (H' := fun _ => dkH b m v cur s1 ++ [(xv.ownBlock, .cells xc ex (0, 0))]) rfl (wo rfl) rfl rfl rfl rfl rfl (args_val (vs := [ptr b 0]) rfl) (en33 _) (fun w2 hc2 => frame (X := Unit) (u := fun _ => .int .i64 e1) (E' := fun _ => dkH b m v cur s1) (fun w0 I w hc => (hstep hc).mono fun e w3 ⟨h1, h2⟩ => ⟨(), h1, h2⟩) hc2) ?_
  intro _
  refine W.pure rfl (wo rfl) rfl rfl (p_assign rfl rfl) (nf rfl) ?_
  refine W.doneQ (y := sub [1, 1, 1] B15) rfl ?_
  refine C.seq (x := sub [1, 1, 1, 0] B15) (y := sub [1, 1, 1, 1] B15) ?_
  refine C.seq (x := sub [1, 1, 1, 0, 0] B15) (y := sub [1, 1, 1, 0, 1] B15) ?_
  refine C.region (id := 6) (m := 2) (ops := opsOf (sub [1, 1, 1, 0, 0] B15)) rfl ?_
  refine W.pure rfl (wo rfl) rfl rfl (p_move rfl rfl) (nf rfl) ?_
  refine W.pure rfl (wo rfl) rfl rfl (pF (by subst h3; rfl) (p_neq rfl rfl rfl)) (nf rfl) ?_
  refine W.doneQ (y := sub [1, 1, 1, 0, 1] B15) rfl ?_
  refine C.cond_false (x := sub [1, 1, 1, 0, 1, 0] B15) (y := sub [1, 1, 1, 0, 1, 1] B15) rfl rfl ?_
  refine C.skipQ (y := sub [1, 1, 1, 1] B15) rfl ?_
  refine C.seq (x := sub [1, 1, 1, 1, 0] B15) (y := sub [1, 1, 1, 1, 1] B15) ?_
  refine C.region (id := 8) (m := 2) (ops := opsOf (sub [1, 1, 1, 1, 0] B15)) rfl ?_
  refine W.pure rfl (wo rfl) rfl rfl (p_move rfl rfl) (nf rfl) ?_
  refine W.pure rfl (wo rfl) rfl rfl (p_assign rfl rfl) (nf rfl) ?_
  refine W.doneQ (y := sub [1, 1, 1, 1, 1] B15) rfl ?_
  exact C.ret (R := fun e w' => ∃ v2 cur2, e = .returned (.int .i64 e1) ∧ DkO v2 cur2 s1 ∧ Cls w0 I (dkH b m v2 cur2 s1 ++ [(xv.ownBlock, .cells xc ex (0, 0))]) w') (rs := [.tmp 6]) (vs := [.int .i64 e1]) rfl Try.func15 rfl rfl rfl (res_cons (ResV.tmp rfl) res_nil) fun w1 hc1 => ⟨v, cur, rfl, ho1, hc1⟩

theorem write_4 {w0 w : World} {I : Mem} {b m : Nat} {v xv : Value} {cur xc : Array Value} {ex : Nat} {s : Dk} (hc : Cls w0 I (dkH b m v cur s ++ [(xv.ownBlock, .cells xc ex (0, 0))]) w) (ho : DkO v cur s) {xs : List Int} (hx : IntOwn .u8 xv xc xs) (n : Int) {e1 : Int} {s1 : Dk} (hstep : ∀ {w0 w : World} {I : Mem}, Cls w0 I (dkH b m v cur s) w → Calls Try.prog 33 #[ptr b 0] w fun e w' => e = .returned (.int .i64 e1) ∧ Cls w0 I (dkH b m v cur s1) w') (ho1 : DkO v cur s1) (h : hasD s n = true) (h2 : xs.length = 512) (h3 : ¬ e1 = 14) (hl : s1.late.length ≤ 137438953471) : Calls Try.prog 15 #[ptr b 0, .int .i64 n, xv] w (fun e w' => ∃ v2 cur2, e = .returned (.int .i64 e1) ∧ DkO v2 cur2 { s1 with late := s1.late ++ [(n, xs)] } ∧ Cls w0 I (dkH b m v2 cur2 { s1 with late := s1.late ++ [(n, xs)] } ++ [(xv.ownBlock, .cells xc ex (0, 0))]) w') := by
  obtain ⟨cs, hcs, hch⟩ := id ho1.hr
  have hcl := hcs.1
  rcases hx.2 with ⟨rfl, h0⟩ | ⟨g, cap, rfl, k1, k2, k3, k4⟩
  · omega
  have hk4 : (xc.toList.drop 0).take 512 = encl .u8 xs := by rw [List.drop_zero, ← k4, h2]
  refine calls_of_CW (N := 41) Try.func15 (show _ = some B15 by kernel_rfl) (by kernel_rfl) rfl (S := [(0, ptr b 0), (1, .int .i64 n), (2, .slice (some ⟨g, 0, none⟩) xs.length cap)]) (by simp) hc ?_
  show CW _ _ _ (sub [] B15) _ _ _
  refine C.seq (x := sub [0] B15) (y := sub [1] B15) ?_
  refine C.region (id := 0) (m := 1) (ops := opsOf (sub [0] B15)) rfl ?_
  refine W.pure rfl (wo rfl) rfl rfl (p_assign rfl rfl) (nf rfl) ?_
  refine W.doneQ (y := sub [1] B15) rfl ?_
  refine C.seq (x := sub [1, 0] B15) (y := sub [1, 1] B15) ?_
  refine C.block (id := 0) (c := sub [1, 0, 0] B15) ?_
  refine C.seq (x := sub [1, 0, 0, 0] B15) (y := sub [1, 0, 0, 1] B15) ?_
  refine C.region (id := 1) (m := 4) (ops := opsOf (sub [1, 0, 0, 0] B15)) rfl ?_
  refine W.pure rfl (wo rfl) rfl rfl (p_move rfl rfl) (nf rfl) ?_
  refine W.quiet rfl (wo rfl) rfl rfl (f_callR rfl rfl (args_val (vs := [ptr b 0]) rfl) (en32 _) (fun w2 hc2 => there_ok (M := heapOf w2) (fun _ _ e => e) (ho.M (b := b) (m := m) hc2 (fun p hp => by first | exact hp | exact List.mem_cons_of_mem _ hp | exact List.mem_cons_of_mem _ (List.mem_cons_of_mem _ hp) | exact List.mem_append_left _ hp)))) (nf rfl) ?_
  refine W.pure rfl (wo rfl) rfl rfl (p_not rfl rfl) (nf rfl) ?_
  refine W.pure rfl (wo rfl) rfl rfl (p_assign rfl rfl) (nf rfl) ?_
  refine W.doneQ (y := sub [1, 0, 0, 1] B15) rfl ?_
  refine C.cond_false (x := sub [1, 0, 0, 1, 0] B15) (y := sub [1, 0, 0, 1, 1] B15) rfl rfl ?_
  refine C.seq (x := sub [1, 0, 0, 1, 1, 0] B15) (y := sub [1, 0, 0, 1, 1, 1] B15) ?_
  refine C.region (id := 3) (m := 10) (ops := opsOf (sub [1, 0, 0, 1, 1, 0] B15)) rfl ?_
  refine W.pure rfl (wo rfl) rfl rfl (p_move rfl rfl) (nf rfl) ?_
  refine W.pure rfl (wo rfl) rfl rfl (p_move rfl rfl) (nf rfl) ?_
  refine W.quiet rfl (wo rfl) rfl rfl (qT (h) (f_callR rfl rfl (args_val (vs := [ptr b 0, .int .i64 n]) rfl) (en34 _) (fun w2 hc2 => has_ok (M := heapOf w2) (fun _ _ e => e) (ho.M (b := b) (m := m) hc2 (fun p hp => by first | exact hp | exact List.mem_cons_of_mem _ hp | exact List.mem_cons_of_mem _ (List.mem_cons_of_mem _ hp) | exact List.mem_append_left _ hp)) n))) (nf rfl) ?_
  refine W.pure rfl (wo rfl) rfl rfl (p_not rfl rfl) (nf rfl) ?_
  refine W.pure rfl (wo rfl) rfl rfl (p_move rfl rfl) (nf rfl) ?_
  refine W.pure rfl (wo rfl) rfl rfl (p_move rfl rfl) (nf rfl) ?_
  refine W.pure rfl (wo rfl) rfl rfl (p_slLen tu32 hx.sl rfl rfl) (nf rfl) ?_
  refine W.pure rfl (wo rfl) rfl rfl (pF (by simp; omega) (p_neq rfl rfl rfl)) (nf rfl) ?_
  refine W.pure rfl (wo rfl) rfl rfl (p_pick_false rfl rfl rfl) (nf rfl) ?_
  refine W.pure rfl (wo rfl) rfl rfl (p_assign rfl rfl) (nf rfl) ?_
  refine W.doneQ (y := sub [1, 0, 0, 1, 1, 1] B15) rfl ?_
  refine C.cond_false (x := sub [1, 0, 0, 1, 1, 1, 0] B15) (y := sub [1, 0, 0, 1, 1, 1, 1] B15) rfl rfl ?_
  refine C.skipQ (y := sub [1, 1] B15) rfl ?_
  refine C.seq (x := sub [1, 1, 0] B15) (y := sub [1, 1, 1] B15) ?_
  refine C.region (id := 5) (m := 3) (ops := opsOf (sub [1, 1, 0] B15)) rfl ?_
  refine W.pure rfl (wo rfl) rfl rfl (p_move rfl rfl) (nf rfl) ?_
  refine W.callX (X := Unit) (u := fun _ => .int .i64 e1) (H' := fun _ => dkH b m v cur s1 ++ [((Value.slice (some ⟨g, 0, none⟩) xs.length cap).ownBlock, .cells xc ex (0, 0))]) rfl (wo rfl) rfl rfl rfl rfl rfl (args_val (vs := [ptr b 0]) rfl) (en33 _) (fun w2 hc2 => frame (X := Unit) (u := fun _ => .int .i64 e1) (E' := fun _ => dkH b m v cur s1) (fun w0 I w hc => (hstep hc).mono fun e w3 ⟨h1, h2⟩ => ⟨(), h1, h2⟩) hc2) ?_
  intro _
  refine W.pure rfl (wo rfl) rfl rfl (p_assign rfl rfl) (nf rfl) ?_
  refine W.doneQ (y := sub [1, 1, 1] B15) rfl ?_
  refine C.seq (x := sub [1, 1, 1, 0] B15) (y := sub [1, 1, 1, 1] B15) ?_
  refine C.seq (x := sub [1, 1, 1, 0, 0] B15) (y := sub [1, 1, 1, 0, 1] B15) ?_
  refine C.region (id := 6) (m := 2) (ops := opsOf (sub [1, 1, 1, 0, 0] B15)) rfl ?_
  refine W.pure rfl (wo rfl) rfl rfl (p_move rfl rfl) (nf rfl) ?_
  refine W.pure rfl (wo rfl) rfl rfl (pT (by simpa using h3) (p_neq rfl rfl rfl)) (nf rfl) ?_
  refine W.doneQ (y := sub [1, 1, 1, 0, 1] B15) rfl ?_
  refine C.cond_true (x := sub [1, 1, 1, 0, 1, 0] B15) (y := sub [1, 1, 1, 0, 1, 1] B15) rfl rfl ?_
  refine C.regionD (id := 7) (ops := opsOf (sub [1, 1, 1, 0, 1, 0] B15)) [0, 1, 2, 3, 4, 5, 6, 7, 8, 9, 10, 11, 12, 13, 14] [0, 0, 2, 6, 14, 0, 0, 64, 192, 480, 992, 2046, 4095, 8191, 16383] [(.pure, none), (.pure, none), (.pure, none), (.pure, none), (.quiet, none), (.pure, none), (.pure, none), (.pure, none), (.quiet, none), (.pure, none), (.alloc, none), (.actx, none), (.pure, none), (.pure, none), (.store, none)] (by kernel_rfl) ?_
  intro wD7 hl7
  refine DW.pure rfl rfl rfl rfl rfl (p_move rfl rfl) ?_
  refine DW.pure rfl rfl rfl rfl rfl (p_move rfl rfl) ?_
  refine DW.pure rfl rfl rfl rfl rfl (p_nilCheck rfl rfl) ?_
  refine DW.pure rfl rfl rfl rfl rfl (p_fieldAddr tf61_2 rfl rfl) ?_
  refine DW.quiet rfl rfl rfl rfl rfl (f_load (j := 0) ta59 rfl (off := 2) rfl rfl rfl) ?_
  refine DW.pure rfl rfl rfl rfl rfl (p_move rfl rfl) ?_
  refine DW.pure rfl rfl rfl rfl rfl (p_move rfl rfl) ?_
  refine DW.pure rfl rfl rfl rfl rfl (p_s2a tu62 (by omega) rfl rfl) ?_
  refine DW.quiet rfl rfl rfl rfl rfl (f_loadSubA (j := 3) (off := 0) (vs := encl .u8 xs) ta62 ts62 rfl (by simp [encl, h2]) hk4 rfl rfl) ?_
  refine DW.pure rfl rfl rfl rfl rfl (p_build (vs := [(0, .int .i64 n), (1, Blk xs)]) (fun w => build64 h2 w) rfl rfl) ?_
  refine DW.new rfl rfl rfl rfl rfl (f_buildW (x := (n, xs)) h2 rfl (args_val2 rfl)) ?_
  intro bw hbw
  refine DW.actx rfl rfl rfl rfl rfl (f_appendL (j := 3) (m := 1) elem59 rfl hcs (by omega) (by decide) (fun w hc => OwnV.src (cur := wrc (n, xs)) (e := 64) (wnew (b := bw) (x := (n, xs)) h2) hc List.mem_cons_self (ShWr.one (M := fun _ => none) (x := (n, xs)) ⟨rfl, h2⟩)) rfl rfl rfl) ?_
  rintro ⟨⟨v2, cur2⟩, hown2⟩
  refine DW.pure rfl rfl rfl rfl rfl (p_nilCheck rfl rfl) ?_
  refine DW.pure rfl rfl rfl rfl rfl (p_fieldAddr tf61_2 rfl rfl) ?_
  refine DW.put (H' := [(some bw, .cells (wrc (n, xs)) 64 (0, 0)), dk1 b m v2 { s1 with late := s1.late ++ [(n, xs)] }, (some m, dmap s1.set), (v2.ownBlock, .cells cur2 64 (0, 0)), (some g, .cells xc ex (0, 0))]) rfl rfl rfl rfl rfl (f_stDkL (s := s1) (s2 := { s1 with late := s1.late ++ [(n, xs)] }) (j := 1) ts59 (sl_cells hown2.sl) (sl_one hown2.sl) rfl rfl rfl rfl) ?_
  refine DW.doneQ (y := sub [1, 1, 1, 1] B15) hl7 rfl ?_
  refine C.seq (x := sub [1, 1, 1, 1, 0] B15) (y := sub [1, 1, 1, 1, 1] B15) ?_
  refine C.region (id := 8) (m := 2) (ops := opsOf (sub [1, 1, 1, 1, 0] B15)) rfl ?_
  refine W.pure rfl (wo rfl) rfl rfl (p_move rfl rfl) (nf rfl) ?_
  refine W.pure rfl (wo rfl) rfl rfl (p_assign rfl rfl) (nf rfl) ?_
  refine W.doneQ (y := sub [1, 1, 1, 1, 1] B15) rfl ?_
  exact C.ret (R := fun e w' => ∃ v2 cur2, e = .returned (.int .i64 e1) ∧ DkO v2 cur2 { s1 with late := s1.late ++ [(n, xs)] } ∧ Cls w0 I (dkH b m v2 cur2 { s1 with late := s1.late ++ [(n, xs)] } ++ [((Value.slice (some ⟨g, 0, none⟩) xs.length cap).ownBlock, .cells xc ex (0, 0))]) w') (rs := [.tmp 6]) (vs := [.int .i64 e1]) rfl Try.func15 rfl rfl rfl (res_cons (ResV.tmp rfl) res_nil) fun w1 hc1 => ⟨v2, cur2, rfl, ⟨OwnS.snocW h2 hch hcl hown2, ho1.hs⟩, hc1.tail⟩

theorem stepK_late (s : Dk) : (stepK s).2.late = s.late ∧ (stepK s).2.set = s.set ∧ (stepK s).2.n = s.n := by
  unfold stepK
  split
  · exact ⟨rfl, rfl, rfl⟩
  · split
    · exact ⟨rfl, rfl, rfl⟩
    · split <;> exact ⟨rfl, rfl, rfl⟩
theorem stepK_O {v : Value} {cur : Array Value} {s : Dk} (ho : DkO v cur s) : DkO v cur (stepK s).2 := ⟨by rw [(stepK_late s).1]; exact ho.hr, by rw [(stepK_late s).2.1]; exact ho.hs⟩
def writeK (s : Dk) (n : Int) (xs : List Int) : Int × Dk := if hasD s n = false then (2, s) else if ¬ xs.length = 512 then (2, s) else if (stepK s).1 = 14 then (14, (stepK s).2) else ((stepK s).1, { (stepK s).2 with late := (stepK s).2.late ++ [(n, xs)] })
theorem write_ok {w0 w : World} {I : Mem} {b m : Nat} {v xv : Value} {cur xc : Array Value} {ex : Nat} {s : Dk} (hc : Cls w0 I (dkH b m v cur s ++ [(xv.ownBlock, .cells xc ex (0, 0))]) w) (ho : DkO v cur s) {xs : List Int} (hx : IntOwn .u8 xv xc xs) (n : Int) (hl : s.late.length ≤ 137438953471) : Calls Try.prog 15 #[ptr b 0, .int .i64 n, xv] w (fun e w' => ∃ v2 cur2, e = .returned (.int .i64 (writeK s n xs).1) ∧ DkO v2 cur2 (writeK s n xs).2 ∧ Cls w0 I (dkH b m v2 cur2 (writeK s n xs).2 ++ [(xv.ownBlock, .cells xc ex (0, 0))]) w') := by
  unfold writeK
  by_cases h : hasD s n = false
  · rw [if_pos h]; exact write_1 hc ho hx n h
  · rw [if_neg h]
    have h' : hasD s n = true := by simpa using h
    by_cases h2 : xs.length = 512
    · rw [if_neg (by simpa using h2)]
      have hl1 : (stepK s).2.late.length ≤ 137438953471 := by rw [(stepK_late s).1]; exact hl
      by_cases h3 : (stepK s).1 = 14
      · rw [if_pos h3]
        have := write_3 hc ho hx n (fun hc => step_ok hc) (stepK_O ho) h' h2 h3
        rw [h3] at this; exact this
      · rw [if_neg h3]; exact write_4 hc ho hx n (fun hc => step_ok hc) (stepK_O ho) h' h2 h3 hl1
    · rw [if_pos h2]; exact write_2 hc ho hx n h' h2

end Go.Proofs.Ytjomnicfcdkfdaa
