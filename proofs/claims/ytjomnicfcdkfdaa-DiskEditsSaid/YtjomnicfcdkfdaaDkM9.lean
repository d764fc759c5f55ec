import Derived.Test.YtjomnicfcdkfdaaDkM8
namespace Go.Proofs.Ytjomnicfcdkfdaa
open Go Go.HW Go.RowKit
set_option linter.unusedVariables false
set_option linter.unusedSimpArgs false

noncomputable def B29 : Code := bodyOf Try.f29
theorem en29 (args : Array Value) (w : World) : (callFunc 29 args).run Try.prog w = .ok (.enter 29 args) w := by kernel_rfl
theorem g62 : Try.prog.eqGuardType Try.prog.depth 62 = false := by kernel_rfl
theorem ue62 : Try.prog.underlying 62 = some (.array 512 5) := by kernel_rfl
theorem ue5 : Try.prog.underlying 5 = some (.int .u8) := by kernel_rfl
theorem ta5 (w : World) : (isAgg 5).run Try.prog w = .ok false w := by kernel_rfl
theorem q_loadD {o : Oper} {S : Slots} {w0 : World} {I : Mem} {H : Heap} {b m off : Nat} {v u : Value} {s : Dk} {t : TypeId} {x : Operand} (hd : ∀ w, Cls w0 I H w → DkM (heapOf w) b m v s) (ha : ∀ w, (isAgg t).run Try.prog w = .ok false w)
    (hv : (#[.int .i64 s.n, .map (some m), v, .int .i64 s.fuse, .bool s.armed, .bool s.dead] : Array Value)[off]? = some u) (ho : o.op = .load t x) (hx : ev S x = some (ptr b off)) : FQuiet Try.prog o w0 I S H u := fun ρ hρ w hc => .inl (i_loadBoxO (I := heapOf w) (hd w hc).hb hv ha ho hx ρ hρ w (fun _ _ e => e))
def sameP (s o : Dk) (k : Nat) : Bool := (s.n == o.n) && (List.range k).all fun i => rd s i == rd o i
def sameK (s o : Dk) : Bool := sameP s o s.n.toNat
theorem sameP_succ (s o : Dk) (k : Nat) : sameP s o (k + 1) = (sameP s o k && (rd s k == rd o k)) := by
  unfold sameP
  rw [List.range_succ, List.all_append]
  simp [Bool.and_assoc]
theorem sameP_false {s o : Dk} : ∀ {k j : Nat}, k ≤ j → sameP s o k = false → sameP s o j = false := fun {k j} h hk => by
  induction h with
  | refl => exact hk
  | step _ ih => rw [sameP_succ, ih]; rfl

theorem same_ok {w0 w : World} {I : Mem} {H : Heap} (hc : Cls w0 I H w) {b m b2 m2 : Nat} {v v2 : Value} {s o : Dk} (hd : ∀ w, Cls w0 I H w → DkM (heapOf w) b m v s) (hd2 : ∀ w, Cls w0 I H w → DkM (heapOf w) b2 m2 v2 o) (hl0 : s.late.length ≤ 1099511627776) (hl2 : o.late.length ≤ 1099511627776) (hn : s.n ≤ 1099511627776) : Calls Try.prog 29 #[ptr b 0, ptr b2 0] w (fun e w' => e = .returned (.bool (sameK s o)) ∧ Cls w0 I H w') := by
  have hrl1 : ∀ k : Nat, (rd s (k : Int)).length = 512 := fun k => rd_len (hd w hc).hs (hd w hc).late _
  have hrl2 : ∀ k : Nat, (rd o (k : Int)).length = 512 := fun k => rd_len (hd2 w hc).hs (hd2 w hc).late _
  refine calls_of_CW (N := 48) Try.func29 (show _ = some B29 by kernel_rfl) (by kernel_rfl) rfl (S := [(0, ptr b 0), (1, ptr b2 0)]) (by simp) hc ?_
  show CW _ _ _ (sub [] B29) _ _ _
  refine C.seq (x := sub [0] B29) (y := sub [1] B29) ?_
  refine C.region (id := 0) (m := 1) (ops := opsOf (sub [0] B29)) rfl ?_
  refine W.pure rfl (wo rfl) rfl rfl (p_assign rfl rfl) (nf rfl) ?_
  refine W.doneQ (y := sub [1] B29) rfl ?_
  refine C.seq (x := sub [1, 0] B29) (y := sub [1, 1] B29) ?_
  refine C.seq (x := sub [1, 0, 0] B29) (y := sub [1, 0, 1] B29) ?_
  refine C.region (id := 1) (m := 8) (ops := opsOf (sub [1, 0, 0] B29)) rfl ?_
  refine W.pure rfl (wo rfl) rfl rfl (p_move rfl rfl) (nf rfl) ?_
  refine W.quiet rfl (wo rfl) rfl rfl (f_callR rfl rfl (args_val (vs := [ptr b 0]) rfl) (en32 _) (fun w2 hc2 => there_ok (M := heapOf w2) (fun _ _ e => e) (hd w2 hc2))) (nf rfl) ?_
  refine W.pure rfl (wo rfl) rfl rfl (p_not rfl rfl) (nf rfl) ?_
  refine W.pure rfl (wo rfl) rfl rfl (p_move rfl rfl) (nf rfl) ?_
  refine W.pure rfl (wo rfl) rfl rfl (p_move rfl rfl) (nf rfl) ?_
  refine W.quiet rfl (wo rfl) rfl rfl (f_callR rfl rfl (args_val (vs := [ptr b2 0]) rfl) (en32 _) (fun w2 hc2 => there_ok (M := heapOf w2) (fun _ _ e => e) (hd2 w2 hc2))) (nf rfl) ?_
  refine W.pure rfl (wo rfl) rfl rfl (p_not rfl rfl) (nf rfl) ?_
  refine W.pure rfl (wo rfl) rfl rfl (p_pick_false rfl rfl rfl) (nf rfl) ?_
  refine W.doneQ (y := sub [1, 0, 1] B29) rfl ?_
  refine C.cond_false (x := sub [1, 0, 1, 0] B29) (y := sub [1, 0, 1, 1] B29) rfl rfl ?_
  refine C.skipQ (y := sub [1, 1] B29) rfl ?_
  refine C.seq (x := sub [1, 1, 0] B29) (y := sub [1, 1, 1] B29) ?_
  refine C.regionD (id := 3) (ops := opsOf (sub [1, 1, 0] B29)) [0, 1, 2, 3, 4, 5, 6, 7, 8, 9] [0, 1, 3, 7, 0, 16, 48, 112, 255, 511] [(.pure, none), (.pure, none), (.pure, none), (.quiet, none), (.pure, none), (.pure, none), (.pure, none), (.quiet, none), (.pure, none), (.pure, none)] (by kernel_rfl) ?_
  intro wD3 hl3
  refine DW.pure rfl rfl rfl rfl rfl (p_move rfl rfl) ?_
  refine DW.pure rfl rfl rfl rfl rfl (p_nilCheck rfl rfl) ?_
  refine DW.pure rfl rfl rfl rfl rfl (p_fieldAddr tf61_0 rfl rfl) ?_
  refine DW.quiet rfl rfl rfl rfl rfl (q_loadD (off := 0) (fun w hc => hd w (hc.later hl3)) ta3 rfl rfl rfl) ?_
  refine DW.pure rfl rfl rfl rfl rfl (p_move rfl rfl) ?_
  refine DW.pure rfl rfl rfl rfl rfl (p_nilCheck rfl rfl) ?_
  refine DW.pure rfl rfl rfl rfl rfl (p_fieldAddr tf61_0 rfl rfl) ?_
  refine DW.quiet rfl rfl rfl rfl rfl (q_loadD (off := 0) (fun w hc => hd2 w (hc.later hl3)) ta3 rfl rfl rfl) ?_
  refine DW.pure rfl rfl rfl rfl rfl (p_eql rfl rfl rfl) ?_
  refine DW.pure rfl rfl rfl rfl rfl (p_assign rfl rfl) ?_
  refine DW.doneQ (y := sub [1, 1, 1] B29) hl3 rfl ?_
  refine C.seq (x := sub [1, 1, 1, 0] B29) (y := sub [1, 1, 1, 1] B29) ?_
  refine C.seq (x := sub [1, 1, 1, 0, 0] B29) (y := sub [1, 1, 1, 0, 1] B29) ?_
  refine C.region (id := 4) (m := 1) (ops := opsOf (sub [1, 1, 1, 0, 0] B29)) rfl ?_
  refine W.pure rfl (wo rfl) rfl rfl (p_assign rfl rfl) (nf rfl) ?_
  refine W.doneQ (y := sub [1, 1, 1, 0, 1] B29) rfl ?_
  refine C.loopB (id := 0) (c := sub [1, 1, 1, 0, 1, 0, 0] B29) (y := sub [1, 1, 1, 1] B29) (fun k : Nat => s.n.toNat - k) (fun k => [(0, ptr b 0), (1, ptr b2 0), (5, .bool (sameP s o k)), (6, .int .i64 (k : Int))]) (fun _ => H) (fun k => k ≤ s.n.toNat) 0 (Nat.zero_le _) (Sub.cons rfl (Sub.cons rfl (Sub.cons (by simp [sameP, HW.get]) (Sub.cons rfl (Sub.nil _))))) rfl rfl (fun k => sameP s o k = false ∨ k = s.n.toNat) ?_ ?_
  · intro k hk Q' hN hE hR
    cases hP : sameP s o k with
    | true =>
      by_cases hlt : k < s.n.toNat
      · refine C.seq (x := sub [1, 1, 1, 0, 1, 0, 0, 0] B29) (y := sub [1, 1, 1, 0, 1, 0, 0, 1] B29) ?_
        refine C.seq (x := sub [1, 1, 1, 0, 1, 0, 0, 0, 0] B29) (y := sub [1, 1, 1, 0, 1, 0, 0, 0, 1] B29) ?_
        refine C.region (id := 5) (m := 9) (ops := opsOf (sub [1, 1, 1, 0, 1, 0, 0, 0, 0] B29)) rfl ?_
        refine W.pure rfl (wo rfl) rfl rfl (p_move rfl rfl) (nf rfl) ?_
        refine W.pure rfl (wo rfl) rfl rfl (p_move rfl rfl) (nf rfl) ?_
        refine W.pure rfl (wo rfl) rfl rfl (p_move rfl rfl) (nf rfl) ?_
        refine W.pure rfl (wo rfl) rfl rfl (p_move rfl rfl) (nf rfl) ?_
        refine W.pure rfl (wo rfl) rfl rfl (p_nilCheck rfl rfl) (nf rfl) ?_
        refine W.pure rfl (wo rfl) rfl rfl (p_fieldAddr tf61_0 rfl rfl) (nf rfl) ?_
        refine W.quiet rfl (wo rfl) rfl rfl (q_loadD (off := 0) hd ta3 rfl rfl rfl) (nf rfl) ?_
        refine W.pure rfl (wo rfl) rfl rfl (pT (decide_eq_true (by omega)) (p_lss rfl rfl rfl)) (nf rfl) ?_
        refine W.pure rfl (wo rfl) rfl rfl (p_pick_true rfl rfl rfl) (nf rfl) ?_
        refine W.doneQ (y := sub [1, 1, 1, 0, 1, 0, 0, 0, 1] B29) rfl ?_
        refine C.cond_true (x := sub [1, 1, 1, 0, 1, 0, 0, 0, 1, 0] B29) (y := sub [1, 1, 1, 0, 1, 0, 0, 0, 1, 1] B29) rfl rfl ?_
        refine C.skipQ (y := sub [1, 1, 1, 0, 1, 0, 0, 1] B29) rfl ?_
        refine C.seq (x := sub [1, 1, 1, 0, 1, 0, 0, 1, 0] B29) (y := sub [1, 1, 1, 0, 1, 0, 0, 1, 1] B29) ?_
        refine C.block (id := 1) (c := sub [1, 1, 1, 0, 1, 0, 0, 1, 0, 0] B29) ?_
        refine C.region (id := 7) (m := 8) (ops := opsOf (sub [1, 1, 1, 0, 1, 0, 0, 1, 0, 0] B29)) rfl ?_
        refine W.pure rfl (wo rfl) rfl rfl (p_move rfl rfl) (nf rfl) ?_
        refine W.pure rfl (wo rfl) rfl rfl (p_move rfl rfl) (nf rfl) ?_
        refine W.quiet rfl (wo rfl) rfl rfl (f_callR rfl rfl (args_val (vs := [ptr b 0, .int .i64 (k : Int)]) rfl) (en38 _) (fun w2 hc2 => read_ok (M := heapOf w2) (fun _ _ e => e) (hd w2 hc2) hl0 (k : Int))) (nf rfl) ?_
        refine W.pure rfl (wo rfl) rfl rfl (p_move rfl rfl) (nf rfl) ?_
        refine W.pure rfl (wo rfl) rfl rfl (p_move rfl rfl) (nf rfl) ?_
        refine W.quiet rfl (wo rfl) rfl rfl (f_callR rfl rfl (args_val (vs := [ptr b2 0, .int .i64 (k : Int)]) rfl) (en38 _) (fun w2 hc2 => read_ok (M := heapOf w2) (fun _ _ e => e) (hd2 w2 hc2) hl2 (k : Int))) (nf rfl) ?_
        refine W.pure rfl (wo rfl) rfl rfl (p_eqAgg g62 (fun w => run_eqRow (d := 9998) ue62 ts5 ta5 ue5 (hrl1 k) (hrl2 k) w) rfl rfl rfl) (nf rfl) ?_
        refine W.pure rfl (wo rfl) rfl rfl (p_assign rfl rfl) (nf rfl) ?_
        refine W.doneQ (y := sub [1, 1, 1, 0, 1, 0, 0, 1, 1] B29) rfl ?_
        refine C.region (id := 6) (m := 3) (ops := opsOf (sub [1, 1, 1, 0, 1, 0, 0, 1, 1] B29)) rfl ?_
        refine W.pure rfl (wo rfl) rfl rfl (p_move rfl rfl) (nf rfl) ?_
        refine W.pure rfl (wo rfl) rfl rfl (pI (wk (by omega)) (p_add rfl rfl rfl)) (nf rfl) ?_
        refine W.pure rfl (wo rfl) rfl rfl (p_assign rfl rfl) (nf rfl) ?_
        refine W.end' fun a1 w1 ha1 hc1 => hN (k + 1) (by omega) (by omega) a1 w1 (ha1.sub (Sub.cons rfl (Sub.cons rfl (Sub.cons ?_ (Sub.cons rfl (Sub.nil _)))))) hc1
        rw [sameP_succ, hP]; rfl
      · refine C.seq (x := sub [1, 1, 1, 0, 1, 0, 0, 0] B29) (y := sub [1, 1, 1, 0, 1, 0, 0, 1] B29) ?_
        refine C.seq (x := sub [1, 1, 1, 0, 1, 0, 0, 0, 0] B29) (y := sub [1, 1, 1, 0, 1, 0, 0, 0, 1] B29) ?_
        refine C.region (id := 5) (m := 9) (ops := opsOf (sub [1, 1, 1, 0, 1, 0, 0, 0, 0] B29)) rfl ?_
        refine W.pure rfl (wo rfl) rfl rfl (p_move rfl rfl) (nf rfl) ?_
        refine W.pure rfl (wo rfl) rfl rfl (p_move rfl rfl) (nf rfl) ?_
        refine W.pure rfl (wo rfl) rfl rfl (p_move rfl rfl) (nf rfl) ?_
        refine W.pure rfl (wo rfl) rfl rfl (p_move rfl rfl) (nf rfl) ?_
        refine W.pure rfl (wo rfl) rfl rfl (p_nilCheck rfl rfl) (nf rfl) ?_
        refine W.pure rfl (wo rfl) rfl rfl (p_fieldAddr tf61_0 rfl rfl) (nf rfl) ?_
        refine W.quiet rfl (wo rfl) rfl rfl (q_loadD (off := 0) hd ta3 rfl rfl rfl) (nf rfl) ?_
        refine W.pure rfl (wo rfl) rfl rfl (pF (decide_eq_false (by omega)) (p_lss rfl rfl rfl)) (nf rfl) ?_
        refine W.pure rfl (wo rfl) rfl rfl (p_pick_true rfl rfl rfl) (nf rfl) ?_
        refine W.doneQ (y := sub [1, 1, 1, 0, 1, 0, 0, 0, 1] B29) rfl ?_
        refine C.cond_false (x := sub [1, 1, 1, 0, 1, 0, 0, 0, 1, 0] B29) (y := sub [1, 1, 1, 0, 1, 0, 0, 0, 1, 1] B29) rfl rfl ?_
        exact C.exit fun a1 w1 ha1 hc1 => hE (Or.inr (by omega)) a1 w1 (ha1.sub (Sub.cons rfl (Sub.cons rfl (Sub.cons (by show _ = some (Value.bool (sameP s o k)); rw [hP]; rfl) (Sub.cons rfl (Sub.nil _)))))) hc1
    | false =>
      refine C.seq (x := sub [1, 1, 1, 0, 1, 0, 0, 0] B29) (y := sub [1, 1, 1, 0, 1, 0, 0, 1] B29) ?_
      refine C.seq (x := sub [1, 1, 1, 0, 1, 0, 0, 0, 0] B29) (y := sub [1, 1, 1, 0, 1, 0, 0, 0, 1] B29) ?_
      refine C.region (id := 5) (m := 9) (ops := opsOf (sub [1, 1, 1, 0, 1, 0, 0, 0, 0] B29)) rfl ?_
      refine W.pure rfl (wo rfl) rfl rfl (p_move rfl rfl) (nf rfl) ?_
      refine W.pure rfl (wo rfl) rfl rfl (p_move rfl rfl) (nf rfl) ?_
      refine W.not rfl (wo rfl) rfl rfl ?_
      refine W.not rfl (wo rfl) rfl rfl ?_
      refine W.not rfl (wo rfl) rfl rfl ?_
      refine W.not rfl (wo rfl) rfl rfl ?_
      refine W.not rfl (wo rfl) rfl rfl ?_
      refine W.not rfl (wo rfl) rfl rfl ?_
      refine W.pure rfl (wo rfl) rfl rfl (p_pick_false rfl rfl rfl) (nf rfl) ?_
      refine W.doneQ (y := sub [1, 1, 1, 0, 1, 0, 0, 0, 1] B29) rfl ?_
      refine C.cond_false (x := sub [1, 1, 1, 0, 1, 0, 0, 0, 1, 0] B29) (y := sub [1, 1, 1, 0, 1, 0, 0, 0, 1, 1] B29) rfl rfl ?_
      exact C.exit fun a1 w1 ha1 hc1 => hE (Or.inl hP) a1 w1 (ha1.sub (Sub.cons rfl (Sub.cons rfl (Sub.cons (by show _ = some (Value.bool (sameP s o k)); rw [hP]; rfl) (Sub.cons rfl (Sub.nil _)))))) hc1
  intro k hk hke
  have hres : sameP s o k = sameK s o := by
    rcases hke with h | h
    · rw [h]; exact (sameP_false hk h).symm
    · rw [h]; rfl
  refine C.seq (x := sub [1, 1, 1, 1, 0] B29) (y := sub [1, 1, 1, 1, 1] B29) ?_
  refine C.region (id := 8) (m := 2) (ops := opsOf (sub [1, 1, 1, 1, 0] B29)) rfl ?_
  refine W.pure rfl (wo rfl) rfl rfl (p_move rfl rfl) (nf rfl) ?_
  refine W.pure rfl (wo rfl) rfl rfl (p_assign rfl rfl) (nf rfl) ?_
  refine W.doneQ (y := sub [1, 1, 1, 1, 1] B29) rfl ?_
  exact C.ret (R := fun e w' => e = .returned (.bool (sameK s o)) ∧ Cls w0 I H w') (rs := [.tmp 4]) (vs := [.bool (sameP s o k)]) rfl Try.func29 rfl rfl rfl (res_cons (ResV.tmp rfl) res_nil) fun w1 hc1 => ⟨by rw [hres]; rfl, hc1⟩

end Go.Proofs.Ytjomnicfcdkfdaa
