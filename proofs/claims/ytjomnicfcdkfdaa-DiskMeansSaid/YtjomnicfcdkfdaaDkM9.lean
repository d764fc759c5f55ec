import Derived.Test.YtjomnicfcdkfdaaDkB
section
namespace Go.Proofs.Ytjomnicfcdkfdaa
open Go Go.HW Go.RowKit
set_option linter.unusedVariables false
set_option linter.unusedSimpArgs false

noncomputable def B15 : Code := bodyOf Try.f15
theorem en15 (args : Array Value) (w : World) : (callFunc 15 args).run Try.prog w = .ok (.enter 15 args) w := by kernel_rfl

theorem wnew {b : Nat} {x : Wr} (hx : x.2.length = 512) : OwnV (.slice (some ⟨b, 0, none⟩) 1 1) (wrc x) 513 1 (wrc x).toList := by
  have h := wrc_size hx
  have h2 : (wrc x).toList.length = 513 := by simpa using h
  exact OwnV.fresh (Nat.le_refl _) (by simp [maxLen]) (by rw [h]) (by rw [Nat.one_mul, List.take_of_length_le (by rw [h2]; exact Nat.le_refl _)]) (by rw [h2])
theorem tu32 (w : World) : (underlying 32).run Try.prog w = .ok (.slice 5) w := by kernel_rfl

theorem write_1 {w0 w : World} {I : Mem} {b m : Nat} {v xv : Value} {cur xc : Array Value} {ex : Nat} {s : Dk} (hc : Cls w0 I (dkH b m v cur s ++ [(xv.ownBlock, .cells xc ex (0, 0))]) w) (ho : DkO v cur s) {xs : List Int} (hx : IntOwn .u8 xv xc xs) (n : Int) (h : hasD s n = false) : Calls Try.prog 15 #[ptr b 0, .int .i64 n, xv] w (fun e w' => ∃ v2 cur2, e = .returned (.int .i64 2) ∧ DkO v2 cur2 s ∧ Cls w0 I (dkH b m v2 cur2 s ++ [(xv.ownBlock, .cells xc ex (0, 0))]) w') := by
  refine calls_of_CW (N := 41) Try.func15 (show _ = some B15 by kernel_rfl) (by kernel_rfl) rfl (S := [(0, ptr b 0), (1, .int .i64 n), (2, xv)]) (by simp) hc ?_
  show CW _ _ _ (sub [] B15) _ _ _
  refine C.seq (x := sub [0] B15) (y := sub [1] B15) ?_
  refine C.region (id := 0) (m := 1) (ops := opsOf (sub [0] B15)) rfl ?_
  refine W.pure rfl (wo rfl) rfl rfl (p_assign rfl rfl) (nf rfl) ?_
  refine W.doneQ (y := sub [1] B15) rfl ?_
  refine C.seq (x := sub [1, 0] B15) (y := sub [1, 1] B15) ?_
  refine C.block (id := 0) (c := sub [1, 0, 0] B15) ?_
  refine C.seq (x := sub [1, 0, 0, 0] B15) (y := sub [1, 0, 0, 1] B15) ?_
  refine C.region (id := 1) (m := 4) (ops := opsOf (sub [1, 0, 0, 0] B15)) rfl ?_
  refine W.pure rfl (wo rfl) rfl rfl (p_move rfl rfl) (nf rfl) ?_
  refine W.quiet rfl (wo rfl) rfl rfl (f_callR rfl rfl (args_val (vs := [ptr b 0]) rfl) (en32 _) (fun w2 hc2 => there_ok (M := heapOf w2) (fun _ _ e => e) (ho.M (b := b) (m := m) hc2 (fun p hp => by first | exact hp | exact List.mem_cons_of_mem _ hp | exact List.mem_cons_of_mem _ (List.mem_cons_of_mem _ hp) | exact List.mem_append_left _ hp)))) (nf rfl) ?_
  refine W.pure rfl (wo rfl) rfl rfl (p_not rfl rfl) (nf rfl) ?_
  refine W.pure rfl (wo rfl) rfl rfl (p_assign rfl rfl) (nf rfl) ?_
  refine W.doneQ (y := sub [1, 0, 0, 1] B15) rfl ?_
  refine C.cond_false (x := sub [1, 0, 0, 1, 0] B15) (y := sub [1, 0, 0, 1, 1] B15) rfl rfl ?_
  refine C.seq (x := sub [1, 0, 0, 1, 1, 0] B15) (y := sub [1, 0, 0, 1, 1, 1] B15) ?_
  refine C.region (id := 3) (m := 10) (ops := opsOf (sub [1, 0, 0, 1, 1, 0] B15)) rfl ?_
  refine W.pure rfl (wo rfl) rfl rfl (p_move rfl rfl) (nf rfl) ?_
  refine W.pure rfl (wo rfl) rfl rfl (p_move rfl rfl) (nf rfl) ?_
  refine W.quiet rfl (wo rfl) rfl rfl (qF (h) (f_callR rfl rfl (args_val (vs := [ptr b 0, .int .i64 n]) rfl) (en34 _) (fun w2 hc2 => has_ok (M := heapOf w2) (fun _ _ e => e) (ho.M (b := b) (m := m) hc2 (fun p hp => by first | exact hp | exact List.mem_cons_of_mem _ hp | exact List.mem_cons_of_mem _ (List.mem_cons_of_mem _ hp) | exact List.mem_append_left _ hp)) n))) (nf rfl) ?_
  refine W.pure rfl (wo rfl) rfl rfl (p_not rfl rfl) (nf rfl) ?_
  refine W.pure rfl (wo rfl) rfl rfl (p_move rfl rfl) (nf rfl) ?_
  refine W.not rfl (wo rfl) rfl rfl ?_
  refine W.not rfl (wo rfl) rfl rfl ?_
  refine W.not rfl (wo rfl) rfl rfl ?_
  refine W.pure rfl (wo rfl) rfl rfl (p_pick_true rfl rfl rfl) (nf rfl) ?_
  refine W.pure rfl (wo rfl) rfl rfl (p_assign rfl rfl) (nf rfl) ?_
  refine W.doneQ (y := sub [1, 0, 0, 1, 1, 1] B15) rfl ?_
  refine C.cond_true (x := sub [1, 0, 0, 1, 1, 1, 0] B15) (y := sub [1, 0, 0, 1, 1, 1, 1] B15) rfl rfl ?_
  refine C.seq (x := sub [1, 0, 0, 1, 1, 1, 0, 0] B15) (y := sub [1, 0, 0, 1, 1, 1, 0, 1] B15) ?_
  refine C.region (id := 4) (m := 1) (ops := opsOf (sub [1, 0, 0, 1, 1, 1, 0, 0] B15)) rfl ?_
  refine W.pure rfl (wo rfl) rfl rfl (p_assign rfl rfl) (nf rfl) ?_
  refine W.doneQ (y := sub [1, 0, 0, 1, 1, 1, 0, 1] B15) rfl ?_
  exact C.ret (R := fun e w' => ∃ v2 cur2, e = .returned (.int .i64 2) ∧ DkO v2 cur2 s ∧ Cls w0 I (dkH b m v2 cur2 s ++ [(xv.ownBlock, .cells xc ex (0, 0))]) w') (rs := [.tmp 6]) (vs := [.int .i64 2]) rfl Try.func15 rfl rfl rfl (res_cons (ResV.tmp rfl) res_nil) fun w1 hc1 => ⟨v, cur, rfl, ho, hc1⟩

theorem write_2 {w0 w : World} {I : Mem} {b m : Nat} {v xv : Value} {cur xc : Array Value} {ex : Nat} {s : Dk} (hc : Cls w0 I (dkH b m v cur s ++ [(xv.ownBlock, .cells xc ex (0, 0))]) w) (ho : DkO v cur s) {xs : List Int} (hx : IntOwn .u8 xv xc xs) (n : Int) (h : hasD s n = true) (h2 : ¬ xs.length = 512) : Calls Try.prog 15 #[ptr b 0, .int .i64 n, xv] w (fun e w' => ∃ v2 cur2, e = .returned (.int .i64 2) ∧ DkO v2 cur2 s ∧ Cls w0 I (dkH b m v2 cur2 s ++ [(xv.ownBlock, .cells xc ex (0, 0))]) w') := by
  refine calls_of_CW (N := 41) Try.func15 (show _ = some B15 by kernel_rfl) (by kernel_rfl) rfl (S := [(0, ptr b 0), (1, .int .i64 n), (2, xv)]) (by simp) hc ?_
  show CW _ _ _ (sub [] B15) _ _ _
  refine C.seq (x := sub [0] B15) (y := sub [1] B15) ?_
  refine C.region (id := 0) (m := 1) (ops := opsOf (sub [0] B15)) rfl ?_
  refine W.pure rfl (wo rfl) rfl rfl (p_assign rfl rfl) (nf rfl) ?_
  refine W.doneQ (y := sub [1] B15) rfl ?_
  refine C.seq (x := sub [1, 0] B15) (y := sub [1, 1] B15) ?_
  refine C.block (id := 0) (c := sub [1, 0, 0] B15) ?_
  refine C.seq (x := sub [1, 0, 0, 0] B15) (y := sub [1, 0, 0, 1] B15) ?_
  refine C.region (id := 1) (m := 4) (ops := opsOf (sub [1, 0, 0, 0] B15)) rfl ?_
  refine W.pure rfl (wo rfl) rfl rfl (p_move rfl rfl) (nf rfl) ?_
  refine W.quiet rfl (wo rfl) rfl rfl (f_callR rfl rfl (args_val (vs := [ptr b 0]) rfl) (en32 _) (fun w2 hc2 => there_ok (M := heapOf w2) (fun _ _ e => e) (ho.M (b := b) (m := m) hc2 (fun p hp => by first | exact hp | exact List.mem_cons_of_mem _ hp | exact List.mem_cons_of_mem _ (List.mem_cons_of_mem _ hp) | exact List.mem_append_left _ hp)))) (nf rfl) ?_
  refine W.pure rfl (wo rfl) rfl rfl (p_not rfl rfl) (nf rfl) ?_
  refine W.pure rfl (wo rfl) rfl rfl (p_assign rfl rfl) (nf rfl) ?_
  refine W.doneQ (y := sub [1, 0, 0, 1] B15) rfl ?_
  refine C.cond_false (x := sub [1, 0, 0, 1, 0] B15) (y := sub [1, 0, 0, 1, 1] B15) rfl rfl ?_
  refine C.seq (x := sub [1, 0, 0, 1, 1, 0] B15) (y := sub [1, 0, 0, 1, 1, 1] B15) ?_
  refine C.region (id := 3) (m := 10) (ops := opsOf (sub [1, 0, 0, 1, 1, 0] B15)) rfl ?_
  refine W.pure rfl (wo rfl) rfl rfl (p_move rfl rfl) (nf rfl) ?_
  refine W.pure rfl (wo rfl) rfl rfl (p_move rfl rfl) (nf rfl) ?_
  refine W.quiet rfl (wo rfl) rfl rfl (qT (h) (f_callR rfl rfl (args_val (vs := [ptr b 0, .int .i64 n]) rfl) (en34 _) (fun w2 hc2 => has_ok (M := heapOf w2) (fun _ _ e => e) (ho.M (b := b) (m := m) hc2 (fun p hp => by first | exact hp | exact List.mem_cons_of_mem _ hp | exact List.mem_cons_of_mem _ (List.mem_cons_of_mem _ hp) | exact List.mem_append_left _ hp)) n))) (nf rfl) ?_
  refine W.pure rfl (wo rfl) rfl rfl (p_not rfl rfl) (nf rfl) ?_
  refine W.pure rfl (wo rfl) rfl rfl (p_move rfl rfl) (nf rfl) ?_
  refine W.pure rfl (wo rfl) rfl rfl (p_move rfl rfl) (nf rfl) ?_
  refine W.pure rfl (wo rfl) rfl rfl (p_slLen tu32 hx.sl rfl rfl) (nf rfl) ?_
  refine W.pure rfl (wo rfl) rfl rfl (pT (by simp; omega) (p_neq rfl rfl rfl)) (nf rfl) ?_
  refine W.pure rfl (wo rfl) rfl rfl (p_pick_false rfl rfl rfl) (nf rfl) ?_
  refine W.pure rfl (wo rfl) rfl rfl (p_assign rfl rfl) (nf rfl) ?_
  refine W.doneQ (y := sub [1, 0, 0, 1, 1, 1] B15) rfl ?_
  refine C.cond_true (x := sub [1, 0, 0, 1, 1, 1, 0] B15) (y := sub [1, 0, 0, 1, 1, 1, 1] B15) rfl rfl ?_
  refine C.seq (x := sub [1, 0, 0, 1, 1, 1, 0, 0] B15) (y := sub [1, 0, 0, 1, 1, 1, 0, 1] B15) ?_
  refine C.region (id := 4) (m := 1) (ops := opsOf (sub [1, 0, 0, 1, 1, 1, 0, 0] B15)) rfl ?_
  refine W.pure rfl (wo rfl) rfl rfl (p_assign rfl rfl) (nf rfl) ?_
  refine W.doneQ (y := sub [1, 0, 0, 1, 1, 1, 0, 1] B15) rfl ?_
  exact C.ret (R := fun e w' => ∃ v2 cur2, e = .returned (.int .i64 2) ∧ DkO v2 cur2 s ∧ Cls w0 I (dkH b m v2 cur2 s ++ [(xv.ownBlock, .cells xc ex (0, 0))]) w') (rs := [.tmp 6]) (vs := [.int .i64 2]) rfl Try.func15 rfl rfl rfl (res_cons (ResV.tmp rfl) res_nil) fun w1 hc1 => ⟨v, cur, rfl, ho, hc1⟩

theorem write_3 {w0 w : World} {I : Mem} {b m : Nat} {v xv : Value} {cur xc : Array Value} {ex : Nat} {s : Dk} (hc : Cls w0 I (dkH b m v cur s ++ [(xv.ownBlock, .cells xc ex (0, 0))]) w) (ho : DkO v cur s) {xs : List Int} (hx : IntOwn .u8 xv xc xs) (n : Int) {e1 : Int} {s1 : Dk} (hstep : ∀ {w0 w : World} {I : Mem}, Cls w0 I (dkH b m v cur s) w → Calls Try.prog 33 #[ptr b 0] w fun e w' => e = .returned (.int .i64 e1) ∧ Cls w0 I (dkH b m v cur s1) w') (ho1 : DkO v cur s1) (h : hasD s n = true) (h2 : xs.length = 512) (h3 : e1 = 14) : Calls Try.prog 15 #[ptr b 0, .int .i64 n, xv] w (fun e w' => ∃ v2 cur2, e = .returned (.int .i64 e1) ∧ DkO v2 cur2 s1 ∧ Cls w0 I (dkH b m v2 cur2 s1 ++ [(xv.ownBlock, .cells xc ex (0, 0))]) w') := by
  refine calls_of_CW (N := 41) Try.func15 (show _ = some B15 by kernel_rfl) (by kernel_rfl) rfl (S := [(0, ptr b 0), (1, .int .i64 n), (2, xv)]) (by simp) hc ?_
  show CW _ _ _ (sub [] B15) _ _ _
  refine C.seq (x := sub [0] B15) (y := sub [1] B15) ?_
  refine C.region (id := 0) (m := 1) (ops := opsOf (sub [0] B15)) rfl ?_
  refine W.pure rfl (wo rfl) rfl rfl (p_assign rfl rfl) (nf rfl) ?_
  refine W.doneQ (y := sub [1] B15) rfl ?_
  refine C.seq (x := sub [1, 0] B15) (y := sub [1, 1] B15) ?_
  refine C.block (id := 0) (c := sub [1, 0, 0] B15) ?_
  refine C.seq (x := sub [1, 0, 0, 0] B15) (y := sub [1, 0, 0, 1] B15) ?_
  refine C.region (id := 1) (m := 4) (ops := opsOf (sub [1, 0, 0, 0] B15)) rfl ?_
  refine W.pure rfl (wo rfl) rfl rfl (p_move rfl rfl) (nf rfl) ?_
  refine W.quiet rfl (wo rfl) rfl rfl (f_callR rfl rfl (args_val (vs := [ptr b 0]) rfl) (en32 _) (fun w2 hc2 => there_ok (M := heapOf w2) (fun _ _ e => e) (ho.M (b := b) (m := m) hc2 (fun p hp => by first | exact hp | exact List.mem_cons_of_mem _ hp | exact List.mem_cons_of_mem _ (List.mem_cons_of_mem _ hp) | exact List.mem_append_left _ hp)))) (nf rfl) ?_
  refine W.pure rfl (wo rfl) rfl rfl (p_not rfl rfl) (nf rfl) ?_
  refine W.pure rfl (wo rfl) rfl rfl (p_assign rfl rfl) (nf rfl) ?_
  refine W.doneQ (y := sub [1, 0, 0, 1] B15) rfl ?_
  refine C.cond_false (x := sub [1, 0, 0, 1, 0] B15) (y := sub [1, 0, 0, 1, 1] B15) rfl rfl ?_
  refine C.seq (x := sub [1, 0, 0, 1, 1, 0] B15) (y := sub [1, 0, 0, 1, 1, 1] B15) ?_
  refine C.region (id := 3) (m := 10) (ops := opsOf (sub [1, 0, 0, 1, 1, 0] B15)) rfl ?_
  refine W.pure rfl (wo rfl) rfl rfl (p_move rfl rfl) (nf rfl) ?_
  refine W.pure rfl (wo rfl) rfl rfl (p_move rfl rfl) (nf rfl) ?_
  refine W.quiet rfl (wo rfl) rfl rfl (qT (h) (f_callR rfl rfl (args_val (vs := [ptr b 0, .int .i64 n]) rfl) (en34 _) (fun w2 hc2 => has_ok (M := heapOf w2) (fun _ _ e => e) (ho.M (b := b) (m := m) hc2 (fun p hp => by first | exact hp | exact List.mem_cons_of_mem _ hp | exact List.mem_cons_of_mem _ (List.mem_cons_of_mem _ hp) | exact List.mem_append_left _ hp)) n))) (nf rfl) ?_
  refine W.pure rfl (wo rfl) rfl rfl (p_not rfl rfl) (nf rfl) ?_
  refine W.pure rfl (wo rfl) rfl rfl (p_move rfl rfl) (nf rfl) ?_
  refine W.pure rfl (wo rfl) rfl rfl (p_move rfl rfl) (nf rfl) ?_
  refine W.pure rfl (wo rfl) rfl rfl (p_slLen tu32 hx.sl rfl rfl) (nf rfl) ?_
  refine W.pure rfl (wo rfl) rfl rfl (pF (by simp; omega) (p_neq rfl rfl rfl)) (nf rfl) ?_
  refine W.pure rfl (wo rfl) rfl rfl (p_pick_false rfl rfl rfl) (nf rfl) ?_
  refine W.pure rfl (wo rfl) rfl rfl (p_assign rfl rfl) (nf rfl) ?_
  refine W.doneQ (y := sub [1, 0, 0, 1, 1, 1] B15) rfl ?_
  refine C.cond_false (x := sub [1, 0, 0, 1, 1, 1, 0] B15) (y := sub [1, 0, 0, 1, 1, 1, 1] B15) rfl rfl ?_
  refine C.skipQ (y := sub [1, 1] B15) rfl ?_
  refine C.seq (x := sub [1, 1, 0] B15) (y := sub [1, 1, 1] B15) ?_
  refine C.region (id := 5) (m := 3) (ops := opsOf (sub [1, 1, 0] B15)) rfl ?_
  refine W.pure rfl (wo rfl) rfl rfl (p_move rfl rfl) (nf rfl) ?_
  refine W.callX (X := Unit) (u := fun _ => .int .i64 e1) (H' := fun _ => dkH b m v cur s1 ++ [(xv.ownBlock, .cells xc ex (0, 0))]) rfl (wo rfl) rfl rfl rfl rfl rfl (args_val (vs := [ptr b 0]) rfl) (en33 _) (fun w2 hc2 => frame (X := Unit) (u := fun _ => .int .i64 e1) (E' := fun _ => dkH b m v cur s1) (fun w0 I w hc => (hstep hc).mono fun e w3 ⟨h1, h2⟩ => ⟨(), h1, h2⟩) hc2) ?_
  intro _
  refine W.pure rfl (wo rfl) rfl rfl (p_assign rfl rfl) (nf rfl) ?_
  refine W.doneQ (y := sub [1, 1, 1] B15) rfl ?_
  refine C.seq (x := sub [1, 1, 1, 0] B15) (y := sub [1, 1, 1, 1] B15) ?_
  refine C.seq (x := sub [1, 1, 1, 0, 0] B15) (y := sub [1, 1, 1, 0, 1] B15) ?_
  refine C.region (id := 6) (m := 2) (ops := opsOf (sub [1, 1, 1, 0, 0] B15)) rfl ?_
  refine W.pure rfl (wo rfl) rfl rfl (p_move rfl rfl) (nf rfl) ?_
  refine W.pure rfl (wo rfl) rfl rfl (pF (by subst h3; rfl) (p_neq rfl rfl rfl)) (nf rfl) ?_
  refine W.doneQ (y := sub [1, 1, 1, 0, 1] B15) rfl ?_
  refine C.cond_false (x := sub [1, 1, 1, 0, 1, 0] B15) (y := sub [1, 1, 1, 0, 1, 1] B15) rfl rfl ?_
  refine C.skipQ (y := sub [1, 1, 1, 1] B15) rfl ?_
  refine C.seq (x := sub [1, 1, 1, 1, 0] B15) (y := sub [1, 1, 1, 1, 1] B15) ?_
  refine C.region (id := 8) (m := 2) (ops := opsOf (sub [1, 1, 1, 1, 0] B15)) rfl ?_
  refine W.pure rfl (wo rfl) rfl rfl (p_move rfl rfl) (nf rfl) ?_
  refine W.pure rfl (wo rfl) rfl rfl (p_assign rfl rfl) (nf rfl) ?_
  refine W.doneQ (y := sub [1, 1, 1, 1, 1] B15) rfl ?_
  exact C.ret (R := fun e w' => ∃ v2 cur2, e = .returned (.int .i64 e1) ∧ DkO v2 cur2 s1 ∧ Cls w0 I (dkH b m v2 cur2 s1 ++ [(xv.ownBlock, .cells xc ex (0, 0))]) w') (rs := [.tmp 6]) (vs := [.int .i64 e1]) rfl Try.func15 rfl rfl rfl (res_cons (ResV.tmp rfl) res_nil) fun w1 hc1 => ⟨v, cur, rfl, ho1, hc1⟩

theorem write_4 {w0 w : World} {I : Mem} {b m : Nat} {v xv : Value} {cur xc : Array Value} {ex : Nat} {s : Dk} (hc : Cls w0 I (dkH b m v cur s ++ [(xv.ownBlock, .cells xc ex (0, 0))]) w) (ho : DkO v cur s) {xs : List Int} (hx : IntOwn .u8 xv xc xs) (n : Int) {e1 : Int} {s1 : Dk} (hstep : ∀ {w0 w : World} {I : Mem}, Cls w0 I (dkH b m v cur s) w → Calls Try.prog 33 #[ptr b 0] w fun e w' => e = .returned (.int .i64 e1) ∧ Cls w0 I (dkH b m v cur s1) w') (ho1 : DkO v cur s1) (h : hasD s n = true) (h2 : xs.length = 512) (h3 : ¬ e1 = 14) (hl : s1.late.length ≤ 137438953471) : Calls Try.prog 15 #[ptr b 0, .int .i64 n, xv] w (fun e w' => ∃ v2 cur2, e = .returned (.int .i64 e1) ∧ DkO v2 cur2 { s1 with late := s1.late ++ [(n, xs)] } ∧ Cls w0 I (dkH b m v2 cur2 { s1 with late := s1.late ++ [(n, xs)] } ++ [(xv.ownBlock, .cells xc ex (0, 0))]) w') := by
  obtain ⟨cs, hcs, hch⟩ := id ho1.hr
  have hcl := hcs.1
  rcases hx.2 with ⟨rfl, h0⟩ | ⟨g, cap, rfl, k1, k2, k3, k4⟩
  · omega
  have hk4 : (xc.toList.drop 0).take 512 = encl .u8 xs := by rw [List.drop_zero, ← k4, h2]
  refine calls_of_CW (N := 41) Try.func15 (show _ = some B15 by kernel_rfl) (by kernel_rfl) rfl (S := [(0, ptr b 0), (1, .int .i64 n), (2, .slice (some ⟨g, 0, none⟩) xs.length cap)]) (by simp) hc ?_
  show CW _ _ _ (sub [] B15) _ _ _
  refine C.seq (x := sub [0] B15) (y := sub [1] B15) ?_
  refine C.region (id := 0) (m := 1) (ops := opsOf (sub [0] B15)) rfl ?_
  refine W.pure rfl (wo rfl) rfl rfl (p_assign rfl rfl) (nf rfl) ?_
  refine W.doneQ (y := sub [1] B15) rfl ?_
  refine C.seq (x := sub [1, 0] B15) (y := sub [1, 1] B15) ?_
  refine C.block (id := 0) (c := sub [1, 0, 0] B15) ?_
  refine C.seq (x := sub [1, 0, 0, 0] B15) (y := sub [1, 0, 0, 1] B15) ?_
  refine C.region (id := 1) (m := 4) (ops := opsOf (sub [1, 0, 0, 0] B15)) rfl ?_
  refine W.pure rfl (wo rfl) rfl rfl (p_move rfl rfl) (nf rfl) ?_
  refine W.quiet rfl (wo rfl) rfl rfl (f_callR rfl rfl (args_val (vs := [ptr b 0]) rfl) (en32 _) (fun w2 hc2 => there_ok (M := heapOf w2) (fun _ _ e => e) (ho.M (b := b) (m := m) hc2 (fun p hp => by first | exact hp | exact List.mem_cons_of_mem _ hp | exact List.mem_cons_of_mem _ (List.mem_cons_of_mem _ hp) | exact List.mem_append_left _ hp)))) (nf rfl) ?_
  refine W.pure rfl (wo rfl) rfl rfl (p_not rfl rfl) (nf rfl) ?_
  refine W.pure rfl (wo rfl) rfl rfl (p_assign rfl rfl) (nf rfl) ?_
  refine W.doneQ (y := sub [1, 0, 0, 1] B15) rfl ?_
  refine C.cond_false (x := sub [1, 0, 0, 1, 0] B15) (y := sub [1, 0, 0, 1, 1] B15) rfl rfl ?_
  refine C.seq (x := sub [1, 0, 0, 1, 1, 0] B15) (y := sub [1, 0, 0, 1, 1, 1] B15) ?_
  refine C.region (id := 3) (m := 10) (ops := opsOf (sub [1, 0, 0, 1, 1, 0] B15)) rfl ?_
  refine W.pure rfl (wo rfl) rfl rfl (p_move rfl rfl) (nf rfl) ?_
  refine W.pure rfl (wo rfl) rfl rfl (p_move rfl rfl) (nf rfl) ?_
  refine W.quiet rfl (wo rfl) rfl rfl (qT (h) (f_callR rfl rfl (args_val (vs := [ptr b 0, .int .i64 n]) rfl) (en34 _) (fun w2 hc2 => has_ok (M := heapOf w2) (fun _ _ e => e) (ho.M (b := b) (m := m) hc2 (fun p hp => by first | exact hp | exact List.mem_cons_of_mem _ hp | exact List.mem_cons_of_mem _ (List.mem_cons_of_mem _ hp) | exact List.mem_append_left _ hp)) n))) (nf rfl) ?_
  refine W.pure rfl (wo rfl) rfl rfl (p_not rfl rfl) (nf rfl) ?_
  refine W.pure rfl (wo rfl) rfl rfl (p_move rfl rfl) (nf rfl) ?_
  refine W.pure rfl (wo rfl) rfl rfl (p_move rfl rfl) (nf rfl) ?_
  refine W.pure rfl (wo rfl) rfl rfl (p_slLen tu32 hx.sl rfl rfl) (nf rfl) ?_
  refine W.pure rfl (wo rfl) rfl rfl (pF (by simp; omega) (p_neq rfl rfl rfl)) (nf rfl) ?_
  refine W.pure rfl (wo rfl) rfl rfl (p_pick_false rfl rfl rfl) (nf rfl) ?_
  refine W.pure rfl (wo rfl) rfl rfl (p_assign rfl rfl) (nf rfl) ?_
  refine W.doneQ (y := sub [1, 0, 0, 1, 1, 1] B15) rfl ?_
  refine C.cond_false (x := sub [1, 0, 0, 1, 1, 1, 0] B15) (y := sub [1, 0, 0, 1, 1, 1, 1] B15) rfl rfl ?_
  refine C.skipQ (y := sub [1, 1] B15) rfl ?_
  refine C.seq (x := sub [1, 1, 0] B15) (y := sub [1, 1, 1] B15) ?_
  refine C.region (id := 5) (m := 3) (ops := opsOf (sub [1, 1, 0] B15)) rfl ?_
  refine W.pure rfl (wo rfl) rfl rfl (p_move rfl rfl) (nf rfl) ?_
  refine W.callX (X := Unit) (u := fun _ => .int .i64 e1) (H' := fun _ => dkH b m v cur s1 ++ [((Value.slice (some ⟨g, 0, none⟩) xs.length cap).ownBlock, .cells xc ex (0, 0))]) rfl (wo rfl) rfl rfl rfl rfl rfl (args_val (vs := [ptr b 0]) rfl) (en33 _) (fun w2 hc2 => frame (X := Unit) (u := fun _ => .int .i64 e1) (E' := fun _ => dkH b m v cur s1) (fun w0 I w hc => (hstep hc).mono fun e w3 ⟨h1, h2⟩ => ⟨(), h1, h2⟩) hc2) ?_
  intro _
  refine W.pure rfl (wo rfl) rfl rfl (p_assign rfl rfl) (nf rfl) ?_
  refine W.doneQ (y := sub [1, 1, 1] B15) rfl ?_
  refine C.seq (x := sub [1, 1, 1, 0] B15) (y := sub [1, 1, 1, 1] B15) ?_
  refine C.seq (x := sub [1, 1, 1, 0, 0] B15) (y := sub [1, 1, 1, 0, 1] B15) ?_
  refine C.region (id := 6) (m := 2) (ops := opsOf (sub [1, 1, 1, 0, 0] B15)) rfl ?_
  refine W.pure rfl (wo rfl) rfl rfl (p_move rfl rfl) (nf rfl) ?_
  refine W.pure rfl (wo rfl) rfl rfl (pT (by simpa using h3) (p_neq rfl rfl rfl)) (nf rfl) ?_
  refine W.doneQ (y := sub [1, 1, 1, 0, 1] B15) rfl ?_
  refine C.cond_true (x := sub [1, 1, 1, 0, 1, 0] B15) (y := sub [1, 1, 1, 0, 1, 1] B15) rfl rfl ?_
  refine C.regionD (id := 7) (ops := opsOf (sub [1, 1, 1, 0, 1, 0] B15)) [0, 1, 2, 3, 4, 5, 6, 7, 8, 9, 10, 11, 12, 13, 14] [0, 0, 2, 6, 14, 0, 0, 64, 192, 480, 992, 2046, 4095, 8191, 16383] [(.pure, none), (.pure, none), (.pure, none), (.pure, none), (.quiet, none), (.pure, none), (.pure, none), (.pure, none), (.quiet, none), (.pure, none), (.alloc, none), (.actx, none), (.pure, none), (.pure, none), (.store, none)] (by kernel_rfl) ?_
  intro wD7 hl7
  refine DW.pure rfl rfl rfl rfl rfl (p_move rfl rfl) ?_
  refine DW.pure rfl rfl rfl rfl rfl (p_move rfl rfl) ?_
  refine DW.pure rfl rfl rfl rfl rfl (p_nilCheck rfl rfl) ?_
  refine DW.pure rfl rfl rfl rfl rfl (p_fieldAddr tf61_2 rfl rfl) ?_
  refine DW.quiet rfl rfl rfl rfl rfl (f_load (j := 0) ta59 rfl (off := 2) rfl rfl rfl) ?_
  refine DW.pure rfl rfl rfl rfl rfl (p_move rfl rfl) ?_
  refine DW.pure rfl rfl rfl rfl rfl (p_move rfl rfl) ?_
  refine DW.pure rfl rfl rfl rfl rfl (p_s2a tu62 (by omega) rfl rfl) ?_
  refine DW.quiet rfl rfl rfl rfl rfl (f_loadSubA (j := 3) (off := 0) (vs := encl .u8 xs) ta62 ts62 rfl (by simp [encl, h2]) hk4 rfl rfl) ?_
  refine DW.pure rfl rfl rfl rfl rfl (p_build (vs := [(0, .int .i64 n), (1, Blk xs)]) (fun w => build64 h2 w) rfl rfl) ?_
  refine DW.new rfl rfl rfl rfl rfl (f_buildW (x := (n, xs)) h2 rfl (args_val2 rfl)) ?_
  intro bw hbw
  refine DW.actx rfl rfl rfl rfl rfl (f_appendL (j := 3) (m := 1) elem59 rfl hcs (by omega) (by decide) (fun w hc => OwnV.src (cur := wrc (n, xs)) (e := 64) (wnew (b := bw) (x := (n, xs)) h2) hc List.mem_cons_self (ShWr.one (M := fun _ => none) (x := (n, xs)) ⟨rfl, h2⟩)) rfl rfl rfl) ?_
  rintro ⟨⟨v2, cur2⟩, hown2⟩
  refine DW.pure rfl rfl rfl rfl rfl (p_nilCheck rfl rfl) ?_
  refine DW.pure rfl rfl rfl rfl rfl (p_fieldAddr tf61_2 rfl rfl) ?_
  refine DW.put (H' := [(some bw, .cells (wrc (n, xs)) 64 (0, 0)), dk1 b m v2 { s1 with late := s1.late ++ [(n, xs)] }, (some m, dmap s1.set), (v2.ownBlock, .cells cur2 64 (0, 0)), (some g, .cells xc ex (0, 0))]) rfl rfl rfl rfl rfl (f_stDkL (s := s1) (s2 := { s1 with late := s1.late ++ [(n, xs)] }) (j := 1) ts59 (sl_cells hown2.sl) (sl_one hown2.sl) rfl rfl rfl rfl) ?_
  refine DW.doneQ (y := sub [1, 1, 1, 1] B15) hl7 rfl ?_
  refine C.seq (x := sub [1, 1, 1, 1, 0] B15) (y := sub [1, 1, 1, 1, 1] B15) ?_
  refine C.region (id := 8) (m := 2) (ops := opsOf (sub [1, 1, 1, 1, 0] B15)) rfl ?_
  refine W.pure rfl (wo rfl) rfl rfl (p_move rfl rfl) (nf rfl) ?_
  refine W.pure rfl (wo rfl) rfl rfl (p_assign rfl rfl) (nf rfl) ?_
  refine W.doneQ (y := sub [1, 1, 1, 1, 1] B15) rfl ?_
  exact C.ret (R := fun e w' => ∃ v2 cur2, e = .returned (.int .i64 e1) ∧ DkO v2 cur2 { s1 with late := s1.late ++ [(n, xs)] } ∧ Cls w0 I (dkH b m v2 cur2 { s1 with late := s1.late ++ [(n, xs)] } ++ [((Value.slice (some ⟨g, 0, none⟩) xs.length cap).ownBlock, .cells xc ex (0, 0))]) w') (rs := [.tmp 6]) (vs := [.int .i64 e1]) rfl Try.func15 rfl rfl rfl (res_cons (ResV.tmp rfl) res_nil) fun w1 hc1 => ⟨v2, cur2, rfl, ⟨OwnS.snocW h2 hch hcl hown2, ho1.hs⟩, hc1.tail⟩

theorem stepK_late (s : Dk) : (stepK s).2.late = s.late ∧ (stepK s).2.set = s.set ∧ (stepK s).2.n = s.n := by
  unfold stepK
  split
  · exact ⟨rfl, rfl, rfl⟩
  · split
    · exact ⟨rfl, rfl, rfl⟩
    · split <;> exact ⟨rfl, rfl, rfl⟩
theorem stepK_O {v : Value} {cur : Array Value} {s : Dk} (ho : DkO v cur s) : DkO v cur (stepK s).2 := ⟨by rw [(stepK_late s).1]; exact ho.hr, by rw [(stepK_late s).2.1]; exact ho.hs⟩
def writeK (s : Dk) (n : Int) (xs : List Int) : Int × Dk := if hasD s n = false then (2, s) else if ¬ xs.length = 512 then (2, s) else if (stepK s).1 = 14 then (14, (stepK s).2) else ((stepK s).1, { (stepK s).2 with late := (stepK s).2.late ++ [(n, xs)] })
theorem write_ok {w0 w : World} {I : Mem} {b m : Nat} {v xv : Value} {cur xc : Array Value} {ex : Nat} {s : Dk} (hc : Cls w0 I (dkH b m v cur s ++ [(xv.ownBlock, .cells xc ex (0, 0))]) w) (ho : DkO v cur s) {xs : List Int} (hx : IntOwn .u8 xv xc xs) (n : Int) (hl : s.late.length ≤ 137438953471) : Calls Try.prog 15 #[ptr b 0, .int .i64 n, xv] w (fun e w' => ∃ v2 cur2, e = .returned (.int .i64 (writeK s n xs).1) ∧ DkO v2 cur2 (writeK s n xs).2 ∧ Cls w0 I (dkH b m v2 cur2 (writeK s n xs).2 ++ [(xv.ownBlock, .cells xc ex (0, 0))]) w') := by
  unfold writeK
  by_cases h : hasD s n = false
  · rw [if_pos h]; exact write_1 hc ho hx n h
  · rw [if_neg h]
    have h' : hasD s n = true := by simpa using h
    by_cases h2 : xs.length = 512
    · rw [if_neg (by simpa using h2)]
      have hl1 : (stepK s).2.late.length ≤ 137438953471 := by rw [(stepK_late s).1]; exact hl
      by_cases h3 : (stepK s).1 = 14
      · rw [if_pos h3]
        have := write_3 hc ho hx n (fun hc => step_ok hc) (stepK_O ho) h' h2 h3
        rw [h3] at this; exact this
      · rw [if_neg h3]; exact write_4 hc ho hx n (fun hc => step_ok hc) (stepK_O ho) h' h2 h3 hl1
    · rw [if_pos h2]; exact write_2 hc ho hx n h' h2

end Go.Proofs.Ytjomnicfcdkfdaa
end

section
namespace Go.Proofs.Ytjomnicfcdkfdaa
open Go Go.HW Go.RowKit
set_option linter.unusedVariables false
set_option linter.unusedSimpArgs false

theorem en11 (args : Array Value) (w : World) : (callFunc 11 args).run Try.prog w = .ok (.enter 11 args) w := by kernel_rfl
noncomputable def B11 : Code := bodyOf Try.f11
theorem bu61 (n : Int) (m : Nat) (w : World) : (Instr.build 61 #[(0, .int .i64 n), (1, .map (some m))]).run Try.prog w = .ok (.agg #[.int .i64 n, .map (some m), .slice none 0 0, .int .i64 0, .bool false, .bool false]) w := by kernel_rfl
def newK (n : Int) : Dk := ⟨n, [], [], 0, false, false⟩
theorem new_ok {w0 w : World} {I : Mem} {H : Heap} (hc : Cls w0 I H w) (n : Int) (h : ¬ n < 1) (h2 : ¬ 8192 < n) : Calls Try.prog 11 #[.int .i64 n] w (fun e w' => ∃ b m, e = .returned (.tuple #[ptr b 0, .int .i64 0]) ∧ Cls w0 I (dkH b m (.slice none 0 0) #[] (newK n) ++ H) w') := by
  refine calls_of_CW (N := 14) Try.func11 (show _ = some B11 by kernel_rfl) (by kernel_rfl) rfl (S := [(0, .int .i64 n)]) (by simp) hc ?_
  show CW _ _ _ (sub [] B11) _ _ _
  refine C.seq (x := sub [0] B11) (y := sub [1] B11) ?_
  refine C.region (id := 0) (m := 2) (ops := opsOf (sub [0] B11)) rfl ?_
  refine W.pure rfl (wo rfl) rfl rfl (p_assign rfl rfl) (nf rfl) ?_
  refine W.pure rfl (wo rfl) rfl rfl (p_assign rfl rfl) (nf rfl) ?_
  refine W.doneQ (y := sub [1] B11) rfl ?_
  refine C.seq (x := sub [1, 0] B11) (y := sub [1, 1] B11) ?_
  refine C.seq (x := sub [1, 0, 0] B11) (y := sub [1, 0, 1] B11) ?_
  refine C.region (id := 1) (m := 6) (ops := opsOf (sub [1, 0, 0] B11)) rfl ?_
  refine W.pure rfl (wo rfl) rfl rfl (p_move rfl rfl) (nf rfl) ?_
  refine W.pure rfl (wo rfl) rfl rfl (pF (decide_eq_false h) (p_lss rfl rfl rfl)) (nf rfl) ?_
  refine W.pure rfl (wo rfl) rfl rfl (p_move rfl rfl) (nf rfl) ?_
  refine W.pure rfl (wo rfl) rfl rfl (p_move rfl rfl) (nf rfl) ?_
  refine W.pure rfl (wo rfl) rfl rfl (pF (decide_eq_false h2) (p_gtr rfl rfl rfl)) (nf rfl) ?_
  refine W.pure rfl (wo rfl) rfl rfl (p_pick_false rfl rfl rfl) (nf rfl) ?_
  refine W.doneQ (y := sub [1, 0, 1] B11) rfl ?_
  refine C.cond_false (x := sub [1, 0, 1, 0] B11) (y := sub [1, 0, 1, 1] B11) rfl rfl ?_
  refine C.skipQ (y := sub [1, 1] B11) rfl ?_
  refine C.seq (x := sub [1, 1, 0] B11) (y := sub [1, 1, 1] B11) ?_
  refine C.region (id := 3) (m := 6) (ops := opsOf (sub [1, 1, 0] B11)) rfl ?_
  refine W.pure rfl (wo rfl) rfl rfl (p_move rfl rfl) (nf rfl) ?_
  refine W.new rfl (wo rfl) rfl rfl (f_makeMap (k := .i64) rfl) (nf rfl) ?_
  intro m hm
  refine W.pure rfl (wo rfl) rfl rfl (p_build (vs := [(0, .int .i64 n), (1, .map (some m))]) (fun w => bu61 n m w) rfl rfl) (nf rfl) ?_
  refine W.new rfl (wo rfl) rfl rfl (f_box rfl rfl) (nf rfl) ?_
  intro b hb
  refine W.pure rfl (wo rfl) rfl rfl (p_assign rfl rfl) (nf rfl) ?_
  refine W.pure rfl (wo rfl) rfl rfl (p_assign rfl rfl) (nf rfl) ?_
  refine W.doneQ (y := sub [1, 1, 1] B11) rfl ?_
  exact C.ret (R := fun e w' => ∃ b m, e = .returned (.tuple #[ptr b 0, .int .i64 0]) ∧ Cls w0 I (dkH b m (.slice none 0 0) #[] (newK n) ++ H) w') (rs := [.tmp 2, .tmp 3]) (vs := [ptr b 0, .int .i64 0]) rfl Try.func11 rfl rfl rfl (res_cons (ResV.tmp rfl) (res_cons (ResV.tmp rfl) res_nil)) fun w1 hc1 => ⟨b, m, rfl, (hc1.nothing (.cells #[] 64 (0, 0))).perm (List.perm_append_comm_assoc [(none, Obj.cells #[] 64 (0, 0))] [dk1 b m (.slice none 0 0) (newK n), (some m, dmap [])] H)⟩

end Go.Proofs.Ytjomnicfcdkfdaa
end

section
namespace Go.Proofs.Ytjomnicfcdkfdaa
open Go Go.HW Go.RowKit
set_option linter.unusedVariables false
set_option linter.unusedSimpArgs false

noncomputable def B20 : Code := bodyOf Try.f20
theorem en20 (args : Array Value) (w : World) : (callFunc 20 args).run Try.prog w = .ok (.enter 20 args) w := by kernel_rfl
theorem en38 (args : Array Value) (w : World) : (callFunc 38 args).run Try.prog w = .ok (.enter 38 args) w := by kernel_rfl

theorem lfind_len : ∀ {l : List Wr} {n : Int} {b : List Int}, (∀ p ∈ l, p.2.length = 512) → lfind l n = some b → b.length = 512
  | [], _, _, _, h => by cases h
  | (a, c) :: r, n, b, hl, h => by
    unfold lfind at h
    split at h
    · cases h; exact hl (a, c) (by simp)
    · exact lfind_len (fun p hp => hl p (by simp [hp])) h
theorem rd_len {s : Dk} (hs : Full s.set) (hl : Full s.late) (n : Int) : (rd s n).length = 512 := by
  unfold rd
  cases h : lfind s.late.reverse n with
  | none => exact mget_len hs n
  | some b => exact lfind_len (fun p hp => hl p (by simpa using hp)) h
theorem DkM.late {M : Mem} {b m : Nat} {v : Value} {s : Dk} (h : DkM M b m v s) : Full s.late := fun p hp => by
  obtain ⟨cs, _, h2⟩ := h.hr
  obtain ⟨i, hi, rfl⟩ := List.getElem_of_mem hp
  exact (h2 i _ (List.getElem?_eq_getElem hi)).2
theorem p_slA {P : Program} {o : Oper} {S : Slots} {t e n b sz : Nat} {x : Operand} (hu : ∀ w, (underlying t).run P w = .ok (.array n e) w) (hs : ∀ w, (sizeOf e).run P w = .ok sz w) (ho : o.op = .slice t x none none none) (hx : ev S x = some (ptr b 0)) (hn : 0 < n) : FPure P o S (.slice (some ⟨b, 0, none⟩) n n) := fun ρ hρ w => by
  simp only [execOp, ho, hρ _ _ hx, Option.map_none]
  refine val_run ?_
  unfold Instr.sliceAt
  refine (run_of_bind (hu w)).trans ?_
  refine (run_of_bind (a := ⟨b, 0, none⟩) (w' := w) rfl).trans ?_
  refine (run_of_bind (a := (0, n, n)) (w' := w) rfl).trans ?_
  refine (run_of_bind (hs w)).trans ?_
  rw [if_neg (by omega)]
  simp [Addr.add]
theorem ts5 (w : World) : (sizeOf 5).run Try.prog w = .ok 1 w := by kernel_rfl

theorem own_arr {xs : List Int} {b : Nat} (h : xs.length = 512) : IntOwn .u8 (.slice (some ⟨b, 0, none⟩) 512 512) (enc .u8 xs) xs := by
  unfold IntOwn
  rw [h]
  exact OwnV.fresh (Nat.le_refl _) (by simp [maxLen]) (by rw [enc_size, h]) (by rw [List.take_of_length_le]; rfl; simp [enc, h]) (by simp [encl, h])

theorem readm_ok {w0 w : World} {I : Mem} {H : Heap} (hc : Cls w0 I H w) {b m : Nat} {v : Value} {s : Dk} (hd : ∀ w, Cls w0 I H w → DkM (heapOf w) b m v s) (hl0 : s.late.length ≤ 1099511627776) (n : Int) (h : hasD s n = true) : Calls Try.prog 20 #[ptr b 0, .int .i64 n] w (fun e w' => ∃ v2 cur2, e = .returned (.tuple #[v2, .int .i64 0]) ∧ IntOwn .u8 v2 cur2 (rd s n) ∧ Cls w0 I ((v2.ownBlock, .cells cur2 62 (0, 0)) :: H) w') := by
  have hrl : (rd s n).length = 512 := rd_len (hd w hc).hs (hd w hc).late n
  refine calls_of_CW (N := 20) Try.func20 (show _ = some B20 by kernel_rfl) (by kernel_rfl) rfl (S := [(0, ptr b 0), (1, .int .i64 n)]) (by simp) hc ?_
  show CW _ _ _ (sub [] B20) _ _ _
  refine C.seq (x := sub [0] B20) (y := sub [1] B20) ?_
  refine C.region (id := 0) (m := 2) (ops := opsOf (sub [0] B20)) rfl ?_
  refine W.pure rfl (wo rfl) rfl rfl (p_assign rfl rfl) (nf rfl) ?_
  refine W.pure rfl (wo rfl) rfl rfl (p_assign rfl rfl) (nf rfl) ?_
  refine W.doneQ (y := sub [1] B20) rfl ?_
  refine C.seq (x := sub [1, 0] B20) (y := sub [1, 1] B20) ?_
  refine C.block (id := 0) (c := sub [1, 0, 0] B20) ?_
  refine C.seq (x := sub [1, 0, 0, 0] B20) (y := sub [1, 0, 0, 1] B20) ?_
  refine C.region (id := 1) (m := 4) (ops := opsOf (sub [1, 0, 0, 0] B20)) rfl ?_
  refine W.pure rfl (wo rfl) rfl rfl (p_move rfl rfl) (nf rfl) ?_
  refine W.quiet rfl (wo rfl) rfl rfl (f_callR rfl rfl (args_val (vs := [ptr b 0]) rfl) (en32 _) (fun w2 hc2 => there_ok (M := heapOf w2) (fun _ _ e => e) (hd w2 hc2))) (nf rfl) ?_
  refine W.pure rfl (wo rfl) rfl rfl (p_not rfl rfl) (nf rfl) ?_
  refine W.pure rfl (wo rfl) rfl rfl (p_assign rfl rfl) (nf rfl) ?_
  refine W.doneQ (y := sub [1, 0, 0, 1] B20) rfl ?_
  refine C.cond_false (x := sub [1, 0, 0, 1, 0] B20) (y := sub [1, 0, 0, 1, 1] B20) rfl rfl ?_
  refine C.seq (x := sub [1, 0, 0, 1, 1, 0] B20) (y := sub [1, 0, 0, 1, 1, 1] B20) ?_
  refine C.region (id := 3) (m := 5) (ops := opsOf (sub [1, 0, 0, 1, 1, 0] B20)) rfl ?_
  refine W.pure rfl (wo rfl) rfl rfl (p_move rfl rfl) (nf rfl) ?_
  refine W.pure rfl (wo rfl) rfl rfl (p_move rfl rfl) (nf rfl) ?_
  refine W.quiet rfl (wo rfl) rfl rfl (qT (h) (f_callR rfl rfl (args_val (vs := [ptr b 0, .int .i64 n]) rfl) (en34 _) (fun w2 hc2 => has_ok (M := heapOf w2) (fun _ _ e => e) (hd w2 hc2) n))) (nf rfl) ?_
  refine W.pure rfl (wo rfl) rfl rfl (p_not rfl rfl) (nf rfl) ?_
  refine W.pure rfl (wo rfl) rfl rfl (p_assign rfl rfl) (nf rfl) ?_
  refine W.doneQ (y := sub [1, 0, 0, 1, 1, 1] B20) rfl ?_
  refine C.cond_false (x := sub [1, 0, 0, 1, 1, 1, 0] B20) (y := sub [1, 0, 0, 1, 1, 1, 1] B20) rfl rfl ?_
  refine C.skipQ (y := sub [1, 1] B20) rfl ?_
  refine C.seq (x := sub [1, 1, 0] B20) (y := sub [1, 1, 1] B20) ?_
  refine C.region (id := 5) (m := 5) (ops := opsOf (sub [1, 1, 0] B20)) rfl ?_
  refine W.pure rfl (wo rfl) rfl rfl (p_move rfl rfl) (nf rfl) ?_
  refine W.pure rfl (wo rfl) rfl rfl (p_move rfl rfl) (nf rfl) ?_
  refine W.quiet rfl (wo rfl) rfl rfl (f_callR rfl rfl (args_val (vs := [ptr b 0, .int .i64 n]) rfl) (en38 _) (fun w2 hc2 => read_ok (M := heapOf w2) (fun _ _ e => e) (hd w2 hc2) hl0 n)) (nf rfl) ?_
  refine W.new rfl (wo rfl) rfl rfl (f_alloc tz62 rfl) (nf rfl) ?_
  intro br hbr
  refine W.put (H' := (some br, .cells (enc .u8 (rd s n)) 62 (0, 0)) :: H) rfl (wo rfl) rfl (f_storeA (j := 0) (c2 := enc .u8 (rd s n)) ts62 rfl (by rw [enc_size]; exact hrl) (by rw [show (Blk zeros).cells = enc .u8 zeros from rfl, enc_size]; exact List.length_replicate) (enc_oneCell _ _) rfl rfl rfl) (nf rfl) ?_
  refine W.doneQ (y := sub [1, 1, 1] B20) rfl ?_
  refine C.seq (x := sub [1, 1, 1, 0] B20) (y := sub [1, 1, 1, 1] B20) ?_
  refine C.region (id := 6) (m := 3) (ops := opsOf (sub [1, 1, 1, 0] B20)) rfl ?_
  refine W.pure rfl (wo rfl) rfl rfl (p_slA tu62 ts5 rfl rfl (by decide)) (nf rfl) ?_
  refine W.pure rfl (wo rfl) rfl rfl (p_assign rfl rfl) (nf rfl) ?_
  refine W.pure rfl (wo rfl) rfl rfl (p_assign rfl rfl) (nf rfl) ?_
  refine W.doneQ (y := sub [1, 1, 1, 1] B20) rfl ?_
  exact C.ret (R := fun e w' => ∃ v2 cur2, e = .returned (.tuple #[v2, .int .i64 0]) ∧ IntOwn .u8 v2 cur2 (rd s n) ∧ Cls w0 I ((v2.ownBlock, .cells cur2 62 (0, 0)) :: H) w') (rs := [.tmp 4, .tmp 5]) (vs := [.slice (some ⟨br, 0, none⟩) 512 512, .int .i64 0]) rfl Try.func20 rfl rfl rfl (res_cons (ResV.tmp rfl) (res_cons (ResV.tmp rfl) res_nil)) fun w1 hc1 => ⟨.slice (some ⟨br, 0, none⟩) 512 512, enc .u8 (rd s n), rfl, own_arr hrl, hc1⟩

end Go.Proofs.Ytjomnicfcdkfdaa
end

section
namespace Go.Proofs.Ytjomnicfcdkfdaa
open Go Go.HW Go.RowKit
set_option linter.unusedVariables false
set_option linter.unusedSimpArgs false

theorem ta5 (w : World) : (isAgg 5).run Try.prog w = .ok false w := by kernel_rfl
end Go.Proofs.Ytjomnicfcdkfdaa
end
