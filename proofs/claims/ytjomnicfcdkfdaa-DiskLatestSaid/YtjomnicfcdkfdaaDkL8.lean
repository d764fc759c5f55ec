import Derived.Test.YtjomnicfcdkfdaaDkV
namespace Go.Proofs.Ytjomnicfcdkfdaa
open Go Go.HW Go.RowKit
set_option linter.unusedVariables false
set_option linter.unusedSimpArgs false

section
variable {N : Nat} {S : Slots} {w0 : World} {I : Mem} {H : Heap} {o : Oper} {v : Value}
theorem i_rowStr {xs : List Int} (h : IntRow I .u8 v xs) {x : Operand} (ho : o.op = .convert 32 9 x) (hx : ev S x = some v) : FImm Try.prog o I S (str (bytesL xs)) := fun ρ hρ w hi => by
  simp only [execOp, ho, hρ _ _ hx]
  exact val_run (run_bytesStr us32 us5 us9 (RowV.mono h hi))
abbrev nowG (b : Nat) (xs : List Int) : Heap := [(some b, .cells (enc .u8 xs) 36 (0, 0))]
theorem f_stN {b j : Nat} {xs : List Int} (hj : j < xs.length) {R : Heap} {x z : Operand} {q : Int} (hH : H = nowG b xs ++ R) (ho : o.op = .store 5 x z) (hx : ev S x = some (ptr b j)) (hy : ev S z = some (.int .u8 q)) : FPut Try.prog o w0 I S H (nowG b (xs.set j q) ++ R) := by
  subst hH
  exact f_storeE (j := 0) (off := j) ts5 rfl hj ho hx hy
theorem tz36 (w : World) : (zeroValue 36).run Try.prog w = .ok (.agg (enc .u8 (List.replicate 40 0))) w := by kernel_rfl
theorem tu36 (w : World) : (underlying 36).run Try.prog w = .ok (.array 40 5) w := by kernel_rfl
end
def nilO64 : Ox .i64 [] := ⟨(.slice none 0 0, #[], 3), IntOwn.nil .i64⟩
theorem W.addNil64 {N : Nat} {S : Slots} {w0 : World} {I : Mem} {H : Heap} {Q : Exit → Act → World → Prop} {ops : Array Oper} {l : List Nat} (h : WW N w0 I ops l Q S (oX nilO64 ++ H)) : WW N w0 I ops l Q S H := fun a w ha hc => h a w ha (cls_addNil hc)
theorem rep1 (n : Int) (b : List Int) (ws : List Wr) : List.replicate ws.length (1 : Int) ++ [1] = List.replicate (ws ++ [(n, b)]).length 1 := by
  rw [List.length_append]; exact (List.replicate_succ' (n := ws.length) (a := (1 : Int))).symm
structure LSt (nb : Int) where
  k : Nat
  ws : List Wr
  now : List Int
  x : Dx (ltS nb ws)
  e : {z : Ox .i64 (List.replicate ws.length 1) // z.1.2.2 = 3}

theorem enc_at {xs : List Int} {j : Nat} (h : j < xs.length) : (enc .u8 xs)[j]? = some (.int .u8 (xs.getD j 0)) := by
  rw [enc, List.getElem?_toArray, List.getElem?_map, List.getElem?_eq_getElem h, List.getD_eq_getElem?_getD, List.getElem?_eq_getElem h]; rfl

noncomputable def B4 : Code := bodyOf Try.f4
theorem latest_ok {w : World} {nv fv pv : Value} {l fs ps : List Int} (hnv : IntRow (heapOf w) .i64 nv l) (hfv : IntRow (heapOf w) .u8 fv fs) (hpv : IntRow (heapOf w) .i64 pv ps) (nb : Int) : Calls Try.prog 4 #[.int .i64 nb, nv, fv, pv] w (fun e w' => e = .returned (.bool true) ∧ Below w.heap.size w w') := by
  refine calls_of_CW (N := 189) Try.func4 (show _ = some B4 by kernel_rfl) (by kernel_rfl) rfl (S := [(0, .int .i64 nb), (1, nv), (2, fv), (3, pv)]) (by simp) (clsStart w) ?_
  show CW _ _ _ (sub [] B4) _ _ _
  refine C.seq (x := sub [0] B4) (y := sub [1] B4) ?_
  refine C.region (id := 0) (m := 1) (ops := opsOf (sub [0] B4)) rfl ?_
  refine W.pure rfl (wo rfl) rfl rfl (p_assign rfl rfl) (nf rfl) ?_
  refine W.doneQ (y := sub [1] B4) rfl ?_
  refine C.seq (x := sub [1, 0] B4) (y := sub [1, 1] B4) ?_
  refine C.seq (x := sub [1, 0, 0] B4) (y := sub [1, 0, 1] B4) ?_
  refine C.region (id := 1) (m := 21) (ops := opsOf (sub [1, 0, 0] B4)) rfl ?_
  refine W.pure rfl (wo rfl) rfl rfl (p_move rfl rfl) (nf rfl) ?_
  by_cases h0 : nb < 1
  · refine W.pure rfl (wo rfl) rfl rfl (pT (decide_eq_true h0) (p_lss rfl rfl rfl)) (nf rfl) ?_
    refine W.pure rfl (wo rfl) rfl rfl (p_move rfl rfl) (nf rfl) ?_
    refine W.not rfl (wo rfl) rfl rfl ?_
    refine W.not rfl (wo rfl) rfl rfl ?_
    refine W.pure rfl (wo rfl) rfl rfl (p_pick_true rfl rfl rfl) (nf rfl) ?_
    refine W.pure rfl (wo rfl) rfl rfl (p_move rfl rfl) (nf rfl) ?_
    refine W.not rfl (wo rfl) rfl rfl ?_
    refine W.not rfl (wo rfl) rfl rfl ?_
    refine W.not rfl (wo rfl) rfl rfl ?_
    refine W.pure rfl (wo rfl) rfl rfl (p_pick_true rfl rfl rfl) (nf rfl) ?_
    refine W.pure rfl (wo rfl) rfl rfl (p_move rfl rfl) (nf rfl) ?_
    refine W.not rfl (wo rfl) rfl rfl ?_
    refine W.not rfl (wo rfl) rfl rfl ?_
    refine W.not rfl (wo rfl) rfl rfl ?_
    refine W.pure rfl (wo rfl) rfl rfl (p_pick_true rfl rfl rfl) (nf rfl) ?_
    refine W.pure rfl (wo rfl) rfl rfl (p_move rfl rfl) (nf rfl) ?_
    refine W.not rfl (wo rfl) rfl rfl ?_
    refine W.not rfl (wo rfl) rfl rfl ?_
    refine W.not rfl (wo rfl) rfl rfl ?_
    refine W.pure rfl (wo rfl) rfl rfl (p_pick_true rfl rfl rfl) (nf rfl) ?_
    refine W.doneQ (y := sub [1, 0, 1] B4) rfl ?_
    refine C.cond_true (x := sub [1, 0, 1, 0] B4) (y := sub [1, 0, 1, 1] B4) rfl rfl ?_
    refine C.seq (x := sub [1, 0, 1, 0, 0] B4) (y := sub [1, 0, 1, 0, 1] B4) ?_
    refine C.region (id := 2) (m := 2) (ops := opsOf (sub [1, 0, 1, 0, 0] B4)) rfl ?_
    refine W.quiet rfl (wo rfl) rfl rfl (f_callR rfl rfl (args_val (vs := []) rfl) (en10 _) (fun w2 hc2 => known_ok w2)) (nf rfl) ?_
    refine W.pure rfl (wo rfl) rfl rfl (p_assign rfl rfl) (nf rfl) ?_
    refine W.doneQ (y := sub [1, 0, 1, 0, 1] B4) rfl ?_
    exact C.ret (R := fun e w' => e = .returned (.bool true) ∧ Below w.heap.size w w') (rs := [.tmp 8]) (vs := [.bool true]) rfl Try.func4 rfl rfl rfl (res_cons (ResV.tmp rfl) res_nil) fun w1 hc1 => ⟨rfl, hc1.toBelow⟩
  · refine W.pure rfl (wo rfl) rfl rfl (pF (decide_eq_false h0) (p_lss rfl rfl rfl)) (nf rfl) ?_
    refine W.pure rfl (wo rfl) rfl rfl (p_move rfl rfl) (nf rfl) ?_
    refine W.pure rfl (wo rfl) rfl rfl (p_move rfl rfl) (nf rfl) ?_
    by_cases h1 : 40 < nb
    · refine W.pure rfl (wo rfl) rfl rfl (pT (decide_eq_true h1) (p_gtr rfl rfl rfl)) (nf rfl) ?_
      refine W.pure rfl (wo rfl) rfl rfl (p_pick_false rfl rfl rfl) (nf rfl) ?_
      refine W.pure rfl (wo rfl) rfl rfl (p_move rfl rfl) (nf rfl) ?_
      refine W.not rfl (wo rfl) rfl rfl ?_
      refine W.not rfl (wo rfl) rfl rfl ?_
      refine W.not rfl (wo rfl) rfl rfl ?_
      refine W.pure rfl (wo rfl) rfl rfl (p_pick_true rfl rfl rfl) (nf rfl) ?_
      refine W.pure rfl (wo rfl) rfl rfl (p_move rfl rfl) (nf rfl) ?_
      refine W.not rfl (wo rfl) rfl rfl ?_
      refine W.not rfl (wo rfl) rfl rfl ?_
      refine W.not rfl (wo rfl) rfl rfl ?_
      refine W.pure rfl (wo rfl) rfl rfl (p_pick_true rfl rfl rfl) (nf rfl) ?_
      refine W.pure rfl (wo rfl) rfl rfl (p_move rfl rfl) (nf rfl) ?_
      refine W.not rfl (wo rfl) rfl rfl ?_
      refine W.not rfl (wo rfl) rfl rfl ?_
      refine W.not rfl (wo rfl) rfl rfl ?_
      refine W.pure rfl (wo rfl) rfl rfl (p_pick_true rfl rfl rfl) (nf rfl) ?_
      refine W.doneQ (y := sub [1, 0, 1] B4) rfl ?_
      refine C.cond_true (x := sub [1, 0, 1, 0] B4) (y := sub [1, 0, 1, 1] B4) rfl rfl ?_
      refine C.seq (x := sub [1, 0, 1, 0, 0] B4) (y := sub [1, 0, 1, 0, 1] B4) ?_
      refine C.region (id := 2) (m := 2) (ops := opsOf (sub [1, 0, 1, 0, 0] B4)) rfl ?_
      refine W.quiet rfl (wo rfl) rfl rfl (f_callR rfl rfl (args_val (vs := []) rfl) (en10 _) (fun w2 hc2 => known_ok w2)) (nf rfl) ?_
      refine W.pure rfl (wo rfl) rfl rfl (p_assign rfl rfl) (nf rfl) ?_
      refine W.doneQ (y := sub [1, 0, 1, 0, 1] B4) rfl ?_
      exact C.ret (R := fun e w' => e = .returned (.bool true) ∧ Below w.heap.size w w') (rs := [.tmp 8]) (vs := [.bool true]) rfl Try.func4 rfl rfl rfl (res_cons (ResV.tmp rfl) res_nil) fun w1 hc1 => ⟨rfl, hc1.toBelow⟩
    · refine W.pure rfl (wo rfl) rfl rfl (pF (decide_eq_false h1) (p_gtr rfl rfl rfl)) (nf rfl) ?_
      refine W.pure rfl (wo rfl) rfl rfl (p_pick_false rfl rfl rfl) (nf rfl) ?_
      refine W.pure rfl (wo rfl) rfl rfl (p_move rfl rfl) (nf rfl) ?_
      refine W.pure rfl (wo rfl) rfl rfl (p_move rfl rfl) (nf rfl) ?_
      refine W.pure rfl (wo rfl) rfl rfl (p_slLen tu22 (row_sl hnv) rfl rfl) (nf rfl) ?_
      by_cases h2 : 80 < (l.length : Int)
      · refine W.pure rfl (wo rfl) rfl rfl (pT (decide_eq_true h2) (p_gtr rfl rfl rfl)) (nf rfl) ?_
        refine W.pure rfl (wo rfl) rfl rfl (p_pick_false rfl rfl rfl) (nf rfl) ?_
        refine W.pure rfl (wo rfl) rfl rfl (p_move rfl rfl) (nf rfl) ?_
        refine W.not rfl (wo rfl) rfl rfl ?_
        refine W.not rfl (wo rfl) rfl rfl ?_
        refine W.not rfl (wo rfl) rfl rfl ?_
        refine W.pure rfl (wo rfl) rfl rfl (p_pick_true rfl rfl rfl) (nf rfl) ?_
        refine W.pure rfl (wo rfl) rfl rfl (p_move rfl rfl) (nf rfl) ?_
        refine W.not rfl (wo rfl) rfl rfl ?_
        refine W.not rfl (wo rfl) rfl rfl ?_
        refine W.not rfl (wo rfl) rfl rfl ?_
        refine W.pure rfl (wo rfl) rfl rfl (p_pick_true rfl rfl rfl) (nf rfl) ?_
        refine W.doneQ (y := sub [1, 0, 1] B4) rfl ?_
        refine C.cond_true (x := sub [1, 0, 1, 0] B4) (y := sub [1, 0, 1, 1] B4) rfl rfl ?_
        refine C.seq (x := sub [1, 0, 1, 0, 0] B4) (y := sub [1, 0, 1, 0, 1] B4) ?_
        refine C.region (id := 2) (m := 2) (ops := opsOf (sub [1, 0, 1, 0, 0] B4)) rfl ?_
        refine W.quiet rfl (wo rfl) rfl rfl (f_callR rfl rfl (args_val (vs := []) rfl) (en10 _) (fun w2 hc2 => known_ok w2)) (nf rfl) ?_
        refine W.pure rfl (wo rfl) rfl rfl (p_assign rfl rfl) (nf rfl) ?_
        refine W.doneQ (y := sub [1, 0, 1, 0, 1] B4) rfl ?_
        exact C.ret (R := fun e w' => e = .returned (.bool true) ∧ Below w.heap.size w w') (rs := [.tmp 8]) (vs := [.bool true]) rfl Try.func4 rfl rfl rfl (res_cons (ResV.tmp rfl) res_nil) fun w1 hc1 => ⟨rfl, hc1.toBelow⟩
      · refine W.pure rfl (wo rfl) rfl rfl (pF (decide_eq_false h2) (p_gtr rfl rfl rfl)) (nf rfl) ?_
        refine W.pure rfl (wo rfl) rfl rfl (p_pick_false rfl rfl rfl) (nf rfl) ?_
        refine W.pure rfl (wo rfl) rfl rfl (p_move rfl rfl) (nf rfl) ?_
        refine W.pure rfl (wo rfl) rfl rfl (p_move rfl rfl) (nf rfl) ?_
        refine W.pure rfl (wo rfl) rfl rfl (p_slLen tu32 (row_sl hfv) rfl rfl) (nf rfl) ?_
        by_cases h3 : 80 < (fs.length : Int)
        · refine W.pure rfl (wo rfl) rfl rfl (pT (decide_eq_true h3) (p_gtr rfl rfl rfl)) (nf rfl) ?_
          refine W.pure rfl (wo rfl) rfl rfl (p_pick_false rfl rfl rfl) (nf rfl) ?_
          refine W.pure rfl (wo rfl) rfl rfl (p_move rfl rfl) (nf rfl) ?_
          refine W.not rfl (wo rfl) rfl rfl ?_
          refine W.not rfl (wo rfl) rfl rfl ?_
          refine W.not rfl (wo rfl) rfl rfl ?_
          refine W.pure rfl (wo rfl) rfl rfl (p_pick_true rfl rfl rfl) (nf rfl) ?_
          refine W.doneQ (y := sub [1, 0, 1] B4) rfl ?_
          refine C.cond_true (x := sub [1, 0, 1, 0] B4) (y := sub [1, 0, 1, 1] B4) rfl rfl ?_
          refine C.seq (x := sub [1, 0, 1, 0, 0] B4) (y := sub [1, 0, 1, 0, 1] B4) ?_
          refine C.region (id := 2) (m := 2) (ops := opsOf (sub [1, 0, 1, 0, 0] B4)) rfl ?_
          refine W.quiet rfl (wo rfl) rfl rfl (f_callR rfl rfl (args_val (vs := []) rfl) (en10 _) (fun w2 hc2 => known_ok w2)) (nf rfl) ?_
          refine W.pure rfl (wo rfl) rfl rfl (p_assign rfl rfl) (nf rfl) ?_
          refine W.doneQ (y := sub [1, 0, 1, 0, 1] B4) rfl ?_
          exact C.ret (R := fun e w' => e = .returned (.bool true) ∧ Below w.heap.size w w') (rs := [.tmp 8]) (vs := [.bool true]) rfl Try.func4 rfl rfl rfl (res_cons (ResV.tmp rfl) res_nil) fun w1 hc1 => ⟨rfl, hc1.toBelow⟩
        · refine W.pure rfl (wo rfl) rfl rfl (pF (decide_eq_false h3) (p_gtr rfl rfl rfl)) (nf rfl) ?_
          refine W.pure rfl (wo rfl) rfl rfl (p_pick_false rfl rfl rfl) (nf rfl) ?_
          refine W.pure rfl (wo rfl) rfl rfl (p_move rfl rfl) (nf rfl) ?_
          refine W.pure rfl (wo rfl) rfl rfl (p_move rfl rfl) (nf rfl) ?_
          refine W.pure rfl (wo rfl) rfl rfl (p_slLen tu22 (row_sl hpv) rfl rfl) (nf rfl) ?_
          by_cases h4 : 1000 < (ps.length : Int)
          · refine W.pure rfl (wo rfl) rfl rfl (pT (decide_eq_true h4) (p_gtr rfl rfl rfl)) (nf rfl) ?_
            refine W.pure rfl (wo rfl) rfl rfl (p_pick_false rfl rfl rfl) (nf rfl) ?_
            refine W.doneQ (y := sub [1, 0, 1] B4) rfl ?_
            refine C.cond_true (x := sub [1, 0, 1, 0] B4) (y := sub [1, 0, 1, 1] B4) rfl rfl ?_
            refine C.seq (x := sub [1, 0, 1, 0, 0] B4) (y := sub [1, 0, 1, 0, 1] B4) ?_
            refine C.region (id := 2) (m := 2) (ops := opsOf (sub [1, 0, 1, 0, 0] B4)) rfl ?_
            refine W.quiet rfl (wo rfl) rfl rfl (f_callR rfl rfl (args_val (vs := []) rfl) (en10 _) (fun w2 hc2 => known_ok w2)) (nf rfl) ?_
            refine W.pure rfl (wo rfl) rfl rfl (p_assign rfl rfl) (nf rfl) ?_
            refine W.doneQ (y := sub [1, 0, 1, 0, 1] B4) rfl ?_
            exact C.ret (R := fun e w' => e = .returned (.bool true) ∧ Below w.heap.size w w') (rs := [.tmp 8]) (vs := [.bool true]) rfl Try.func4 rfl rfl rfl (res_cons (ResV.tmp rfl) res_nil) fun w1 hc1 => ⟨rfl, hc1.toBelow⟩
          · refine W.pure rfl (wo rfl) rfl rfl (pF (decide_eq_false h4) (p_gtr rfl rfl rfl)) (nf rfl) ?_
            refine W.pure rfl (wo rfl) rfl rfl (p_pick_false rfl rfl rfl) (nf rfl) ?_
            refine W.doneQ (y := sub [1, 0, 1] B4) rfl ?_
            refine C.cond_false (x := sub [1, 0, 1, 0] B4) (y := sub [1, 0, 1, 1] B4) rfl rfl ?_
            refine C.skipQ (y := sub [1, 1] B4) rfl ?_
            refine C.seq (x := sub [1, 1, 0] B4) (y := sub [1, 1, 1] B4) ?_
            refine C.region (id := 3) (m := 7) (ops := opsOf (sub [1, 1, 0] B4)) rfl ?_
            refine W.pure rfl (wo rfl) rfl rfl (p_move rfl rfl) (nf rfl) ?_
            refine W.c01 rfl (wo rfl) rfl rfl (tNew _ (by omega) (by omega)) (en11 _) rfl rfl rfl (args_val rfl) ?_
            intro p1
            refine W.pure rfl (wo rfl) rfl rfl (p_move rfl rfl) (nf rfl) ?_
            refine W.pure rfl (wo rfl) rfl rfl (p_extract rfl rfl rfl) (nf rfl) ?_
            refine W.pure rfl (wo rfl) rfl rfl (p_extract rfl rfl rfl) (nf rfl) ?_
            refine W.pure rfl (wo rfl) rfl rfl (p_assign rfl rfl) (nf rfl) ?_
            refine W.pure rfl (wo rfl) rfl rfl (p_assign rfl rfl) (nf rfl) ?_
            refine W.doneQ (y := sub [1, 1, 1] B4) rfl ?_
            refine C.seq (x := sub [1, 1, 1, 0] B4) (y := sub [1, 1, 1, 1] B4) ?_
            refine C.seq (x := sub [1, 1, 1, 0, 0] B4) (y := sub [1, 1, 1, 0, 1] B4) ?_
            refine C.region (id := 4) (m := 7) (ops := opsOf (sub [1, 1, 1, 0, 0] B4)) rfl ?_
            refine W.pure rfl (wo rfl) rfl rfl (p_move rfl rfl) (nf rfl) ?_
            refine W.pure rfl (wo rfl) rfl rfl (p_eqNilP (fun b w => by kernel_rfl) (fun b w => by kernel_rfl) rfl rfl rfl) (nf rfl) ?_
            refine W.pure rfl (wo rfl) rfl rfl (p_move rfl rfl) (nf rfl) ?_
            refine W.pure rfl (wo rfl) rfl rfl (p_move rfl rfl) (nf rfl) ?_
            refine W.quiet rfl (wo rfl) rfl rfl (f_callR rfl rfl (args_val rfl) (en12 _) (fun w2 hc2 => num_ok w2 _)) (nf rfl) ?_
            refine W.pure rfl (wo rfl) rfl rfl (pF (by rfl) (p_neq rfl rfl rfl)) (nf rfl) ?_
            refine W.pure rfl (wo rfl) rfl rfl (p_pick_false rfl rfl rfl) (nf rfl) ?_
            refine W.doneQ (y := sub [1, 1, 1, 0, 1] B4) rfl ?_
            refine C.cond_false (x := sub [1, 1, 1, 0, 1, 0] B4) (y := sub [1, 1, 1, 0, 1, 1] B4) rfl rfl ?_
            refine C.skipQ (y := sub [1, 1, 1, 1] B4) rfl ?_
            refine C.seq (x := sub [1, 1, 1, 1, 0] B4) (y := sub [1, 1, 1, 1, 1] B4) ?_
            refine C.region (id := 6) (m := 1) (ops := opsOf (sub [1, 1, 1, 1, 0] B4)) rfl ?_
            refine W.new rfl (wo rfl) rfl rfl (f_alloc tz36 rfl) (nf rfl) ?_
            intro bn hbn0
            refine W.heapIs (H2 := nowG bn (List.replicate 40 0) ++ (dX p1.1 p1.2 (x0 _) ++ [])) rfl ?_
            refine W.doneQ (y := sub [1, 1, 1, 1, 1] B4) rfl ?_
            refine C.seq (x := sub [1, 1, 1, 1, 1, 0] B4) (y := sub [1, 1, 1, 1, 1, 1] B4) ?_
            refine C.region (id := 7) (m := 1) (ops := opsOf (sub [1, 1, 1, 1, 1, 0] B4)) rfl ?_
            refine W.addNil64 ?_
            refine W.pure rfl (wo rfl) rfl rfl (p_assign (v := .slice none 0 0) rfl rfl) (nf rfl) ?_
            refine W.doneQ (y := sub [1, 1, 1, 1, 1, 1] B4) rfl ?_
            refine C.seq (x := sub [1, 1, 1, 1, 1, 1, 0] B4) (y := sub [1, 1, 1, 1, 1, 1, 1] B4) ?_
            refine C.seq (x := sub [1, 1, 1, 1, 1, 1, 0, 0] B4) (y := sub [1, 1, 1, 1, 1, 1, 0, 1] B4) ?_
            refine C.region (id := 8) (m := 1) (ops := opsOf (sub [1, 1, 1, 1, 1, 1, 0, 0] B4)) rfl ?_
            refine W.pure rfl (wo rfl) rfl rfl (p_assign rfl rfl) (nf rfl) ?_
            refine W.doneQ (y := sub [1, 1, 1, 1, 1, 1, 0, 1] B4) rfl ?_
            refine C.f1 rfl ?_
            refine C.f2 rfl ?_
            refine C.loopB (id := 0) (c := sub [1, 1, 1, 1, 1, 1, 0, 1, 0, 0] B4) (y := sub [1, 1, 1, 1, 1, 1, 1] B4) (α := LSt nb) (fun q => l.length - q.k) (fun q => [(0, .int .i64 nb), (1, nv), (2, fv), (3, pv), (9, ptr p1.1 0), (11, ptr bn 0), (12, q.e.1.1.1), (13, .int .i64 (q.k : Int))]) (fun q => dX p1.1 p1.2 q.x ++ (nowG bn q.now ++ (oX q.e.1 ++ []))) (fun q => q.k ≤ l.length ∧ q.k ≤ fs.length ∧ q.ws.length ≤ q.k ∧ LtJ nb q.ws q.now) ⟨0, [], List.replicate 40 0, x0 nb, ⟨nilO64, rfl⟩⟩ ⟨Nat.zero_le _, Nat.zero_le _, Nat.le_refl _, ltJ_0 nb⟩ (Sub.cons rfl (Sub.cons rfl (Sub.cons rfl (Sub.cons rfl (Sub.cons rfl (Sub.cons rfl (Sub.cons rfl (Sub.cons rfl (Sub.nil _))))))))) rfl rfl (fun q => True) ?_ ?_
            · rintro ⟨k, ws, now, x, e⟩ ⟨(hk : k ≤ l.length), (hk2 : k ≤ fs.length), (hw : ws.length ≤ k), (hJ : LtJ nb ws now)⟩ Q' hN hE hR
              show CW _ _ _ _ _ [(0, .int .i64 nb), (1, nv), (2, fv), (3, pv), (9, ptr p1.1 0), (11, ptr bn 0), (12, e.1.1.1), (13, .int .i64 (k : Int))] (dX p1.1 p1.2 x ++ (nowG bn now ++ (oX e.1 ++ [])))
              by_cases hln : k < l.length
              · by_cases hlf : k < fs.length
                · obtain ⟨z, hz⟩ : ∃ z, l[k]? = some z := ⟨_, List.getElem?_eq_getElem hln⟩
                  obtain ⟨f, hf⟩ : ∃ f, fs[k]? = some f := ⟨_, List.getElem?_eq_getElem hlf⟩
                  refine C.seq (x := sub [1, 1, 1, 1, 1, 1, 0, 1, 0, 0, 0] B4) (y := sub [1, 1, 1, 1, 1, 1, 0, 1, 0, 0, 1] B4) ?_
                  refine C.seq (x := sub [1, 1, 1, 1, 1, 1, 0, 1, 0, 0, 0, 0] B4) (y := sub [1, 1, 1, 1, 1, 1, 0, 1, 0, 0, 0, 1] B4) ?_
                  refine C.region (id := 9) (m := 10) (ops := opsOf (sub [1, 1, 1, 1, 1, 1, 0, 1, 0, 0, 0, 0] B4)) rfl ?_
                  refine W.pure rfl (wo rfl) rfl rfl (p_move rfl rfl) (nf rfl) ?_
                  refine W.pure rfl (wo rfl) rfl rfl (p_move rfl rfl) (nf rfl) ?_
                  refine W.pure rfl (wo rfl) rfl rfl (p_slLen tu22 (row_sl hnv) rfl rfl) (nf rfl) ?_
                  refine W.pure rfl (wo rfl) rfl rfl (pT (decide_eq_true (by omega)) (p_lss rfl rfl rfl)) (nf rfl) ?_
                  refine W.pure rfl (wo rfl) rfl rfl (p_move rfl rfl) (nf rfl) ?_
                  refine W.pure rfl (wo rfl) rfl rfl (p_move rfl rfl) (nf rfl) ?_
                  refine W.pure rfl (wo rfl) rfl rfl (p_move rfl rfl) (nf rfl) ?_
                  refine W.pure rfl (wo rfl) rfl rfl (p_slLen tu32 (row_sl hfv) rfl rfl) (nf rfl) ?_
                  refine W.pure rfl (wo rfl) rfl rfl (pT (decide_eq_true (by omega)) (p_lss rfl rfl rfl)) (nf rfl) ?_
                  refine W.pure rfl (wo rfl) rfl rfl (p_pick_true rfl rfl rfl) (nf rfl) ?_
                  refine W.doneQ (y := sub [1, 1, 1, 1, 1, 1, 0, 1, 0, 0, 0, 1] B4) rfl ?_
                  refine C.cond_true (x := sub [1, 1, 1, 1, 1, 1, 0, 1, 0, 0, 0, 1, 0] B4) (y := sub [1, 1, 1, 1, 1, 1, 0, 1, 0, 0, 0, 1, 1] B4) rfl rfl ?_
                  refine C.skipQ (y := sub [1, 1, 1, 1, 1, 1, 0, 1, 0, 0, 1] B4) rfl ?_
                  refine C.seq (x := sub [1, 1, 1, 1, 1, 1, 0, 1, 0, 0, 1, 0] B4) (y := sub [1, 1, 1, 1, 1, 1, 0, 1, 0, 0, 1, 1] B4) ?_
                  refine C.block (id := 1) (c := sub [1, 1, 1, 1, 1, 1, 0, 1, 0, 0, 1, 0, 0] B4) ?_
                  refine C.seq (x := sub [1, 1, 1, 1, 1, 1, 0, 1, 0, 0, 1, 0, 0, 0] B4) (y := sub [1, 1, 1, 1, 1, 1, 0, 1, 0, 0, 1, 0, 0, 1] B4) ?_
                  refine C.region (id := 11) (m := 5) (ops := opsOf (sub [1, 1, 1, 1, 1, 1, 0, 1, 0, 0, 1, 0, 0, 0] B4)) rfl ?_
                  refine W.pure rfl (wo rfl) rfl rfl (p_move rfl rfl) (nf rfl) ?_
                  refine W.pure rfl (wo rfl) rfl rfl (p_move rfl rfl) (nf rfl) ?_
                  refine W.pure rfl (wo rfl) rfl rfl (p_ixR hnv hln tu22 ts3 rfl rfl rfl) (nf rfl) ?_
                  refine W.imm rfl (wo rfl) rfl rfl (i_ldR hnv hz ta3 rfl rfl) (nf rfl) ?_
                  refine W.pure rfl (wo rfl) rfl rfl (p_assign rfl rfl) (nf rfl) ?_
                  refine W.doneQ (y := sub [1, 1, 1, 1, 1, 1, 0, 1, 0, 0, 1, 0, 0, 1] B4) rfl ?_
                  refine C.seq (x := sub [1, 1, 1, 1, 1, 1, 0, 1, 0, 0, 1, 0, 0, 1, 0] B4) (y := sub [1, 1, 1, 1, 1, 1, 0, 1, 0, 0, 1, 0, 0, 1, 1] B4) ?_
                  refine C.seq (x := sub [1, 1, 1, 1, 1, 1, 0, 1, 0, 0, 1, 0, 0, 1, 0, 0] B4) (y := sub [1, 1, 1, 1, 1, 1, 0, 1, 0, 0, 1, 0, 0, 1, 0, 1] B4) ?_
                  refine C.region (id := 12) (m := 7) (ops := opsOf (sub [1, 1, 1, 1, 1, 1, 0, 1, 0, 0, 1, 0, 0, 1, 0, 0] B4)) rfl ?_
                  refine W.pure rfl (wo rfl) rfl rfl (p_move rfl rfl) (nf rfl) ?_
                  by_cases g0 : z < 0
                  · refine W.pure rfl (wo rfl) rfl rfl (pT (decide_eq_true g0) (p_lss rfl rfl rfl)) (nf rfl) ?_
                    refine W.pure rfl (wo rfl) rfl rfl (p_move rfl rfl) (nf rfl) ?_
                    refine W.not rfl (wo rfl) rfl rfl ?_
                    refine W.not rfl (wo rfl) rfl rfl ?_
                    refine W.not rfl (wo rfl) rfl rfl ?_
                    refine W.pure rfl (wo rfl) rfl rfl (p_pick_true rfl rfl rfl) (nf rfl) ?_
                    refine W.doneQ (y := sub [1, 1, 1, 1, 1, 1, 0, 1, 0, 0, 1, 0, 0, 1, 0, 1] B4) rfl ?_
                    refine C.cond_true (x := sub [1, 1, 1, 1, 1, 1, 0, 1, 0, 0, 1, 0, 0, 1, 0, 1, 0] B4) (y := sub [1, 1, 1, 1, 1, 1, 0, 1, 0, 0, 1, 0, 0, 1, 0, 1, 1] B4) rfl rfl ?_
                    refine C.seq (x := sub [1, 1, 1, 1, 1, 1, 0, 1, 0, 0, 1, 0, 0, 1, 0, 1, 0, 0] B4) (y := sub [1, 1, 1, 1, 1, 1, 0, 1, 0, 0, 1, 0, 0, 1, 0, 1, 0, 1] B4) ?_
                    refine C.seq (x := sub [1, 1, 1, 1, 1, 1, 0, 1, 0, 0, 1, 0, 0, 1, 0, 1, 0, 0, 0] B4) (y := sub [1, 1, 1, 1, 1, 1, 0, 1, 0, 0, 1, 0, 0, 1, 0, 1, 0, 0, 1] B4) ?_
                    refine C.region (id := 13) (m := 10) (ops := opsOf (sub [1, 1, 1, 1, 1, 1, 0, 1, 0, 0, 1, 0, 0, 1, 0, 1, 0, 0, 0] B4)) rfl ?_
                    refine W.pure rfl (wo rfl) rfl rfl (p_move rfl rfl) (nf rfl) ?_
                    refine W.pure rfl (wo rfl) rfl rfl (p_move rfl rfl) (nf rfl) ?_
                    refine W.pure rfl (wo rfl) rfl rfl (p_move rfl rfl) (nf rfl) ?_
                    refine W.pure rfl (wo rfl) rfl rfl (p_move rfl rfl) (nf rfl) ?_
                    refine W.pure rfl (wo rfl) rfl rfl (p_ixR hfv hlf tu32 ts5 rfl rfl rfl) (nf rfl) ?_
                    refine W.imm rfl (wo rfl) rfl rfl (i_ldR hfv hf ta5 rfl rfl) (nf rfl) ?_
                    refine W.c01 rfl (wo rfl) rfl rfl (tFill _) (en16 _) rfl rfl rfl (args_val rfl) ?_
                    intro y2
                    refine W.f1 rfl ?_
                    refine W.c22 rfl (wo rfl) rfl rfl rfl (tWrite x y2 _ (lt_no (.inl g0)) (by show ws.length ≤ _; omega)) (en15 _) rfl rfl rfl (args_val rfl) ?_
                    intro x3
                    refine W.f1 rfl ?_
                    refine W.dr rfl ?_
                    refine W.quiet rfl (wo rfl) rfl rfl (f_callR rfl rfl (args_val rfl) (en12 _) (fun w2 hc2 => num_ok w2 _)) (nf rfl) ?_
                    refine W.pure rfl (wo rfl) rfl rfl (pF (by rfl) (p_neq rfl rfl rfl)) (nf rfl) ?_
                    refine W.doneQ (y := sub [1, 1, 1, 1, 1, 1, 0, 1, 0, 0, 1, 0, 0, 1, 0, 1, 0, 0, 1] B4) rfl ?_
                    refine C.cond_false (x := sub [1, 1, 1, 1, 1, 1, 0, 1, 0, 0, 1, 0, 0, 1, 0, 1, 0, 0, 1, 0] B4) (y := sub [1, 1, 1, 1, 1, 1, 0, 1, 0, 0, 1, 0, 0, 1, 0, 1, 0, 0, 1, 1] B4) rfl rfl ?_
                    refine C.skipQ (y := sub [1, 1, 1, 1, 1, 1, 0, 1, 0, 0, 1, 0, 0, 1, 0, 1, 0, 1] B4) rfl ?_
                    refine C.exitQ (y := sub [1, 1, 1, 1, 1, 1, 0, 1, 0, 0, 1, 1] B4) rfl ?_
                    refine C.region (id := 10) (m := 3) (ops := opsOf (sub [1, 1, 1, 1, 1, 1, 0, 1, 0, 0, 1, 1] B4)) rfl ?_
                    refine W.pure rfl (wo rfl) rfl rfl (p_move rfl rfl) (nf rfl) ?_
                    refine W.pure rfl (wo rfl) rfl rfl (pI (wk (by omega)) (p_add rfl rfl rfl)) (nf rfl) ?_
                    refine W.pure rfl (wo rfl) rfl rfl (p_assign rfl rfl) (nf rfl) ?_
                    refine W.f2 rfl ?_
                    refine W.f2 rfl ?_
                    refine W.f2 rfl ?_
                    refine W.end' fun a1 w1 ha1 hc1 => hN ⟨k + 1, _, now, x3, e⟩ ⟨(by show k + 1 ≤ _; omega), (by show k + 1 ≤ _; omega), (by show ws.length ≤ k + 1; omega), hJ⟩ (show l.length - (k + 1) < l.length - k by omega) a1 w1 (ha1.sub (Sub.cons rfl (Sub.cons rfl (Sub.cons rfl (Sub.cons rfl (Sub.cons rfl (Sub.cons rfl (Sub.cons rfl (Sub.cons rfl (Sub.nil _)))))))))) hc1
                  · refine W.pure rfl (wo rfl) rfl rfl (pF (decide_eq_false g0) (p_lss rfl rfl rfl)) (nf rfl) ?_
                    refine W.pure rfl (wo rfl) rfl rfl (p_move rfl rfl) (nf rfl) ?_
                    refine W.pure rfl (wo rfl) rfl rfl (p_move rfl rfl) (nf rfl) ?_
                    refine W.pure rfl (wo rfl) rfl rfl (p_move rfl rfl) (nf rfl) ?_
                    by_cases g1 : nb ≤ z
                    · refine W.pure rfl (wo rfl) rfl rfl (pT (decide_eq_true g1) (p_geq rfl rfl rfl)) (nf rfl) ?_
                      refine W.pure rfl (wo rfl) rfl rfl (p_pick_false rfl rfl rfl) (nf rfl) ?_
                      refine W.doneQ (y := sub [1, 1, 1, 1, 1, 1, 0, 1, 0, 0, 1, 0, 0, 1, 0, 1] B4) rfl ?_
                      refine C.cond_true (x := sub [1, 1, 1, 1, 1, 1, 0, 1, 0, 0, 1, 0, 0, 1, 0, 1, 0] B4) (y := sub [1, 1, 1, 1, 1, 1, 0, 1, 0, 0, 1, 0, 0, 1, 0, 1, 1] B4) rfl rfl ?_
                      refine C.seq (x := sub [1, 1, 1, 1, 1, 1, 0, 1, 0, 0, 1, 0, 0, 1, 0, 1, 0, 0] B4) (y := sub [1, 1, 1, 1, 1, 1, 0, 1, 0, 0, 1, 0, 0, 1, 0, 1, 0, 1] B4) ?_
                      refine C.seq (x := sub [1, 1, 1, 1, 1, 1, 0, 1, 0, 0, 1, 0, 0, 1, 0, 1, 0, 0, 0] B4) (y := sub [1, 1, 1, 1, 1, 1, 0, 1, 0, 0, 1, 0, 0, 1, 0, 1, 0, 0, 1] B4) ?_
                      refine C.region (id := 13) (m := 10) (ops := opsOf (sub [1, 1, 1, 1, 1, 1, 0, 1, 0, 0, 1, 0, 0, 1, 0, 1, 0, 0, 0] B4)) rfl ?_
                      refine W.pure rfl (wo rfl) rfl rfl (p_move rfl rfl) (nf rfl) ?_
                      refine W.pure rfl (wo rfl) rfl rfl (p_move rfl rfl) (nf rfl) ?_
                      refine W.pure rfl (wo rfl) rfl rfl (p_move rfl rfl) (nf rfl) ?_
                      refine W.pure rfl (wo rfl) rfl rfl (p_move rfl rfl) (nf rfl) ?_
                      refine W.pure rfl (wo rfl) rfl rfl (p_ixR hfv hlf tu32 ts5 rfl rfl rfl) (nf rfl) ?_
                      refine W.imm rfl (wo rfl) rfl rfl (i_ldR hfv hf ta5 rfl rfl) (nf rfl) ?_
                      refine W.c01 rfl (wo rfl) rfl rfl (tFill _) (en16 _) rfl rfl rfl (args_val rfl) ?_
                      intro y2
                      refine W.f1 rfl ?_
                      refine W.c22 rfl (wo rfl) rfl rfl rfl (tWrite x y2 _ (lt_no (.inr g1)) (by show ws.length ≤ _; omega)) (en15 _) rfl rfl rfl (args_val rfl) ?_
                      intro x3
                      refine W.f1 rfl ?_
                      refine W.dr rfl ?_
                      refine W.quiet rfl (wo rfl) rfl rfl (f_callR rfl rfl (args_val rfl) (en12 _) (fun w2 hc2 => num_ok w2 _)) (nf rfl) ?_
                      refine W.pure rfl (wo rfl) rfl rfl (pF (by rfl) (p_neq rfl rfl rfl)) (nf rfl) ?_
                      refine W.doneQ (y := sub [1, 1, 1, 1, 1, 1, 0, 1, 0, 0, 1, 0, 0, 1, 0, 1, 0, 0, 1] B4) rfl ?_
                      refine C.cond_false (x := sub [1, 1, 1, 1, 1, 1, 0, 1, 0, 0, 1, 0, 0, 1, 0, 1, 0, 0, 1, 0] B4) (y := sub [1, 1, 1, 1, 1, 1, 0, 1, 0, 0, 1, 0, 0, 1, 0, 1, 0, 0, 1, 1] B4) rfl rfl ?_
                      refine C.skipQ (y := sub [1, 1, 1, 1, 1, 1, 0, 1, 0, 0, 1, 0, 0, 1, 0, 1, 0, 1] B4) rfl ?_
                      refine C.exitQ (y := sub [1, 1, 1, 1, 1, 1, 0, 1, 0, 0, 1, 1] B4) rfl ?_
                      refine C.region (id := 10) (m := 3) (ops := opsOf (sub [1, 1, 1, 1, 1, 1, 0, 1, 0, 0, 1, 1] B4)) rfl ?_
                      refine W.pure rfl (wo rfl) rfl rfl (p_move rfl rfl) (nf rfl) ?_
                      refine W.pure rfl (wo rfl) rfl rfl (pI (wk (by omega)) (p_add rfl rfl rfl)) (nf rfl) ?_
                      refine W.pure rfl (wo rfl) rfl rfl (p_assign rfl rfl) (nf rfl) ?_
                      refine W.f2 rfl ?_
                      refine W.f2 rfl ?_
                      refine W.f2 rfl ?_
                      refine W.end' fun a1 w1 ha1 hc1 => hN ⟨k + 1, _, now, x3, e⟩ ⟨(by show k + 1 ≤ _; omega), (by show k + 1 ≤ _; omega), (by show ws.length ≤ k + 1; omega), hJ⟩ (show l.length - (k + 1) < l.length - k by omega) a1 w1 (ha1.sub (Sub.cons rfl (Sub.cons rfl (Sub.cons rfl (Sub.cons rfl (Sub.cons rfl (Sub.cons rfl (Sub.cons rfl (Sub.cons rfl (Sub.nil _)))))))))) hc1
                    · refine W.pure rfl (wo rfl) rfl rfl (pF (decide_eq_false g1) (p_geq rfl rfl rfl)) (nf rfl) ?_
                      refine W.pure rfl (wo rfl) rfl rfl (p_pick_false rfl rfl rfl) (nf rfl) ?_
                      refine W.doneQ (y := sub [1, 1, 1, 1, 1, 1, 0, 1, 0, 0, 1, 0, 0, 1, 0, 1] B4) rfl ?_
                      refine C.cond_false (x := sub [1, 1, 1, 1, 1, 1, 0, 1, 0, 0, 1, 0, 0, 1, 0, 1, 0] B4) (y := sub [1, 1, 1, 1, 1, 1, 0, 1, 0, 0, 1, 0, 0, 1, 0, 1, 1] B4) rfl rfl ?_
                      refine C.skipQ (y := sub [1, 1, 1, 1, 1, 1, 0, 1, 0, 0, 1, 0, 0, 1, 1] B4) rfl ?_
                      refine C.seq (x := sub [1, 1, 1, 1, 1, 1, 0, 1, 0, 0, 1, 0, 0, 1, 1, 0] B4) (y := sub [1, 1, 1, 1, 1, 1, 0, 1, 0, 0, 1, 0, 0, 1, 1, 1] B4) ?_
                      refine C.seq (x := sub [1, 1, 1, 1, 1, 1, 0, 1, 0, 0, 1, 0, 0, 1, 1, 0, 0] B4) (y := sub [1, 1, 1, 1, 1, 1, 0, 1, 0, 0, 1, 0, 0, 1, 1, 0, 1] B4) ?_
                      refine C.region (id := 15) (m := 10) (ops := opsOf (sub [1, 1, 1, 1, 1, 1, 0, 1, 0, 0, 1, 0, 0, 1, 1, 0, 0] B4)) rfl ?_
                      refine W.pure rfl (wo rfl) rfl rfl (p_move rfl rfl) (nf rfl) ?_
                      refine W.pure rfl (wo rfl) rfl rfl (p_move rfl rfl) (nf rfl) ?_
                      refine W.pure rfl (wo rfl) rfl rfl (p_move rfl rfl) (nf rfl) ?_
                      refine W.pure rfl (wo rfl) rfl rfl (p_move rfl rfl) (nf rfl) ?_
                      refine W.pure rfl (wo rfl) rfl rfl (p_ixR hfv hlf tu32 ts5 rfl rfl rfl) (nf rfl) ?_
                      refine W.imm rfl (wo rfl) rfl rfl (i_ldR hfv hf ta5 rfl rfl) (nf rfl) ?_
                      refine W.c01 rfl (wo rfl) rfl rfl (tFill _) (en16 _) rfl rfl rfl (args_val rfl) ?_
                      intro y2
                      refine W.f1 rfl ?_
                      refine W.c22 rfl (wo rfl) rfl rfl rfl (tWrite x y2 _ (lt_write (by omega) (by omega) (fillL_len _)) (by show ws.length ≤ _; omega)) (en15 _) rfl rfl rfl (args_val rfl) ?_
                      intro x3
                      refine W.f1 rfl ?_
                      refine W.dr rfl ?_
                      refine W.quiet rfl (wo rfl) rfl rfl (f_callR rfl rfl (args_val rfl) (en12 _) (fun w2 hc2 => num_ok w2 _)) (nf rfl) ?_
                      refine W.pure rfl (wo rfl) rfl rfl (pF (by rfl) (p_neq rfl rfl rfl)) (nf rfl) ?_
                      refine W.doneQ (y := sub [1, 1, 1, 1, 1, 1, 0, 1, 0, 0, 1, 0, 0, 1, 1, 0, 1] B4) rfl ?_
                      refine C.cond_false (x := sub [1, 1, 1, 1, 1, 1, 0, 1, 0, 0, 1, 0, 0, 1, 1, 0, 1, 0] B4) (y := sub [1, 1, 1, 1, 1, 1, 0, 1, 0, 0, 1, 0, 0, 1, 1, 0, 1, 1] B4) rfl rfl ?_
                      refine C.skipQ (y := sub [1, 1, 1, 1, 1, 1, 0, 1, 0, 0, 1, 0, 0, 1, 1, 1] B4) rfl ?_
                      refine C.seq (x := sub [1, 1, 1, 1, 1, 1, 0, 1, 0, 0, 1, 0, 0, 1, 1, 1, 0] B4) (y := sub [1, 1, 1, 1, 1, 1, 0, 1, 0, 0, 1, 0, 0, 1, 1, 1, 1] B4) ?_
                      refine C.region (id := 17) (m := 7) (ops := opsOf (sub [1, 1, 1, 1, 1, 1, 0, 1, 0, 0, 1, 0, 0, 1, 1, 1, 0] B4)) rfl ?_
                      refine W.pure rfl (wo rfl) rfl rfl (p_move rfl rfl) (nf rfl) ?_
                      refine W.pure rfl (wo rfl) rfl rfl (p_move rfl rfl) (nf rfl) ?_
                      refine W.pure rfl (wo rfl) rfl rfl (p_move rfl rfl) (nf rfl) ?_
                      refine W.pure rfl (wo rfl) rfl rfl (p_ixR hfv hlf tu32 ts5 rfl rfl rfl) (nf rfl) ?_
                      refine W.imm rfl (wo rfl) rfl rfl (i_ldR hfv hf ta5 rfl rfl) (nf rfl) ?_
                      refine W.pure rfl (wo rfl) rfl rfl (p_ix tu36 ts5 (by omega) (by omega) rfl rfl rfl) (nf rfl) ?_
                      refine W.f1 rfl ?_
                      refine W.put rfl (wo rfl) rfl (f_stN (q := f) (by rw [hJ.len]; omega) rfl rfl rfl rfl) (nf rfl) ?_
                      refine W.doneQ (y := sub [1, 1, 1, 1, 1, 1, 0, 1, 0, 0, 1, 0, 0, 1, 1, 1, 1] B4) rfl ?_
                      refine C.region (id := 18) (m := 4) (ops := opsOf (sub [1, 1, 1, 1, 1, 1, 0, 1, 0, 0, 1, 0, 0, 1, 1, 1, 1] B4)) rfl ?_
                      refine W.pure rfl (wo rfl) rfl rfl (p_move rfl rfl) (nf rfl) ?_
                      refine W.newO (zs := [1]) rfl (wo rfl) rfl rfl (f_buildSl (n := 1) (zs := [1]) (vs := [(0, .int .i64 1)]) elem22 rfl rfl (by kernel_rfl) rfl (args_val2 rfl)) rfl (by decide) (nf rfl) ?_
                      intro y4
                      refine W.f3 rfl ?_
                      refine W.apO (p := e.1) (q := y4) (e := 3) rfl (wo rfl) rfl rfl (by rw [e.2]; exact elem22) rfl (by simp; omega) (by decide) rfl rfl rfl e.2.symm ?_
                      intro e2
                      refine W.f1 rfl ?_
                      refine W.dr rfl ?_
                      refine W.pure rfl (wo rfl) rfl rfl (p_assign rfl rfl) (nf rfl) ?_
                      refine W.doneQ (y := sub [1, 1, 1, 1, 1, 1, 0, 1, 0, 0, 1, 1] B4) rfl ?_
                      refine C.region (id := 10) (m := 3) (ops := opsOf (sub [1, 1, 1, 1, 1, 1, 0, 1, 0, 0, 1, 1] B4)) rfl ?_
                      refine W.pure rfl (wo rfl) rfl rfl (p_move rfl rfl) (nf rfl) ?_
                      refine W.pure rfl (wo rfl) rfl rfl (pI (wk (by omega)) (p_add rfl rfl rfl)) (nf rfl) ?_
                      refine W.pure rfl (wo rfl) rfl rfl (p_assign rfl rfl) (nf rfl) ?_
                      refine W.f1 rfl ?_
                      refine W.f2 rfl ?_
                      refine W.end' fun a1 w1 ha1 hc1 => hN ⟨k + 1, _, _, x3, ⟨castO (rep1 _ _ _) e2.1, e2.2⟩⟩ ⟨(by show k + 1 ≤ _; omega), (by show k + 1 ≤ _; omega), (by show (ws ++ [(z, fillL f)]).length ≤ k + 1; simp; omega), ltJ_write hJ (by omega) (by omega) (by omega) f⟩ (show l.length - (k + 1) < l.length - k by omega) a1 w1 (ha1.sub (Sub.cons rfl (Sub.cons rfl (Sub.cons rfl (Sub.cons rfl (Sub.cons rfl (Sub.cons rfl (Sub.cons rfl (Sub.cons rfl (Sub.nil _)))))))))) hc1
                · refine C.seq (x := sub [1, 1, 1, 1, 1, 1, 0, 1, 0, 0, 0] B4) (y := sub [1, 1, 1, 1, 1, 1, 0, 1, 0, 0, 1] B4) ?_
                  refine C.seq (x := sub [1, 1, 1, 1, 1, 1, 0, 1, 0, 0, 0, 0] B4) (y := sub [1, 1, 1, 1, 1, 1, 0, 1, 0, 0, 0, 1] B4) ?_
                  refine C.region (id := 9) (m := 10) (ops := opsOf (sub [1, 1, 1, 1, 1, 1, 0, 1, 0, 0, 0, 0] B4)) rfl ?_
                  refine W.pure rfl (wo rfl) rfl rfl (p_move rfl rfl) (nf rfl) ?_
                  refine W.pure rfl (wo rfl) rfl rfl (p_move rfl rfl) (nf rfl) ?_
                  refine W.pure rfl (wo rfl) rfl rfl (p_slLen tu22 (row_sl hnv) rfl rfl) (nf rfl) ?_
                  refine W.pure rfl (wo rfl) rfl rfl (pT (decide_eq_true (by omega)) (p_lss rfl rfl rfl)) (nf rfl) ?_
                  refine W.pure rfl (wo rfl) rfl rfl (p_move rfl rfl) (nf rfl) ?_
                  refine W.pure rfl (wo rfl) rfl rfl (p_move rfl rfl) (nf rfl) ?_
                  refine W.pure rfl (wo rfl) rfl rfl (p_move rfl rfl) (nf rfl) ?_
                  refine W.pure rfl (wo rfl) rfl rfl (p_slLen tu32 (row_sl hfv) rfl rfl) (nf rfl) ?_
                  refine W.pure rfl (wo rfl) rfl rfl (pF (decide_eq_false (by omega)) (p_lss rfl rfl rfl)) (nf rfl) ?_
                  refine W.pure rfl (wo rfl) rfl rfl (p_pick_true rfl rfl rfl) (nf rfl) ?_
                  refine W.doneQ (y := sub [1, 1, 1, 1, 1, 1, 0, 1, 0, 0, 0, 1] B4) rfl ?_
                  refine C.cond_false (x := sub [1, 1, 1, 1, 1, 1, 0, 1, 0, 0, 0, 1, 0] B4) (y := sub [1, 1, 1, 1, 1, 1, 0, 1, 0, 0, 0, 1, 1] B4) rfl rfl ?_
                  exact C.exit fun a1 w1 ha1 hc1 => hE trivial a1 w1 (ha1.sub (Sub.cons rfl (Sub.cons rfl (Sub.cons rfl (Sub.cons rfl (Sub.cons rfl (Sub.cons rfl (Sub.cons rfl (Sub.cons rfl (Sub.nil _)))))))))) hc1
              · refine C.seq (x := sub [1, 1, 1, 1, 1, 1, 0, 1, 0, 0, 0] B4) (y := sub [1, 1, 1, 1, 1, 1, 0, 1, 0, 0, 1] B4) ?_
                refine C.seq (x := sub [1, 1, 1, 1, 1, 1, 0, 1, 0, 0, 0, 0] B4) (y := sub [1, 1, 1, 1, 1, 1, 0, 1, 0, 0, 0, 1] B4) ?_
                refine C.region (id := 9) (m := 10) (ops := opsOf (sub [1, 1, 1, 1, 1, 1, 0, 1, 0, 0, 0, 0] B4)) rfl ?_
                refine W.pure rfl (wo rfl) rfl rfl (p_move rfl rfl) (nf rfl) ?_
                refine W.pure rfl (wo rfl) rfl rfl (p_move rfl rfl) (nf rfl) ?_
                refine W.pure rfl (wo rfl) rfl rfl (p_slLen tu22 (row_sl hnv) rfl rfl) (nf rfl) ?_
                refine W.pure rfl (wo rfl) rfl rfl (pF (decide_eq_false (by omega)) (p_lss rfl rfl rfl)) (nf rfl) ?_
                refine W.pure rfl (wo rfl) rfl rfl (p_move rfl rfl) (nf rfl) ?_
                refine W.not rfl (wo rfl) rfl rfl ?_
                refine W.not rfl (wo rfl) rfl rfl ?_
                refine W.not rfl (wo rfl) rfl rfl ?_
                refine W.not rfl (wo rfl) rfl rfl ?_
                refine W.pure rfl (wo rfl) rfl rfl (p_pick_false rfl rfl rfl) (nf rfl) ?_
                refine W.doneQ (y := sub [1, 1, 1, 1, 1, 1, 0, 1, 0, 0, 0, 1] B4) rfl ?_
                refine C.cond_false (x := sub [1, 1, 1, 1, 1, 1, 0, 1, 0, 0, 0, 1, 0] B4) (y := sub [1, 1, 1, 1, 1, 1, 0, 1, 0, 0, 0, 1, 1] B4) rfl rfl ?_
                exact C.exit fun a1 w1 ha1 hc1 => hE trivial a1 w1 (ha1.sub (Sub.cons rfl (Sub.cons rfl (Sub.cons rfl (Sub.cons rfl (Sub.cons rfl (Sub.cons rfl (Sub.cons rfl (Sub.cons rfl (Sub.nil _)))))))))) hc1
            rintro ⟨k, ws, now, x, e⟩ ⟨(hk : k ≤ l.length), (hk2 : k ≤ fs.length), (hw : ws.length ≤ k), (hJ : LtJ nb ws now)⟩ _
            show CW _ _ _ _ _ [(0, .int .i64 nb), (1, nv), (2, fv), (3, pv), (9, ptr p1.1 0), (11, ptr bn 0), (12, e.1.1.1), (13, .int .i64 (k : Int))] (dX p1.1 p1.2 x ++ (nowG bn now ++ (oX e.1 ++ [])))
            refine C.seq (x := sub [1, 1, 1, 1, 1, 1, 1, 0] B4) (y := sub [1, 1, 1, 1, 1, 1, 1, 1] B4) ?_
            refine C.region (id := 19) (m := 6) (ops := opsOf (sub [1, 1, 1, 1, 1, 1, 1, 0] B4)) rfl ?_
            refine W.pure rfl (wo rfl) rfl rfl (p_move rfl rfl) (nf rfl) ?_
            refine W.c12 rfl (wo rfl) rfl rfl rfl (tCopy x (by show ws.length ≤ _; omega)) (en19 _) rfl rfl rfl (args_val rfl) ?_
            intro ⟨p5, x6⟩
            refine W.pure rfl (wo rfl) rfl rfl (p_move rfl rfl) (nf rfl) ?_
            refine W.f1 rfl ?_
            refine W.c12 rfl (wo rfl) rfl rfl rfl (tCopy x (by show ws.length ≤ _; omega)) (en19 _) rfl rfl rfl (args_val rfl) ?_
            intro ⟨p7, x8⟩
            refine W.pure rfl (wo rfl) rfl rfl (p_assign rfl rfl) (nf rfl) ?_
            refine W.pure rfl (wo rfl) rfl rfl (p_assign rfl rfl) (nf rfl) ?_
            refine W.doneQ (y := sub [1, 1, 1, 1, 1, 1, 1, 1] B4) rfl ?_
            refine C.seq (x := sub [1, 1, 1, 1, 1, 1, 1, 1, 0] B4) (y := sub [1, 1, 1, 1, 1, 1, 1, 1, 1] B4) ?_
            refine C.seq (x := sub [1, 1, 1, 1, 1, 1, 1, 1, 0, 0] B4) (y := sub [1, 1, 1, 1, 1, 1, 1, 1, 0, 1] B4) ?_
            refine C.region (id := 20) (m := 26) (ops := opsOf (sub [1, 1, 1, 1, 1, 1, 1, 1, 0, 0] B4)) rfl ?_
            refine W.pure rfl (wo rfl) rfl rfl (p_move rfl rfl) (nf rfl) ?_
            refine W.pure rfl (wo rfl) rfl rfl (p_eqNilP (fun b w => by kernel_rfl) (fun b w => by kernel_rfl) rfl rfl rfl) (nf rfl) ?_
            refine W.pure rfl (wo rfl) rfl rfl (p_move rfl rfl) (nf rfl) ?_
            refine W.pure rfl (wo rfl) rfl rfl (p_move rfl rfl) (nf rfl) ?_
            refine W.pure rfl (wo rfl) rfl rfl (p_eqNilP (fun b w => by kernel_rfl) (fun b w => by kernel_rfl) rfl rfl rfl) (nf rfl) ?_
            refine W.pure rfl (wo rfl) rfl rfl (p_pick_false rfl rfl rfl) (nf rfl) ?_
            refine W.pure rfl (wo rfl) rfl rfl (p_move rfl rfl) (nf rfl) ?_
            refine W.pure rfl (wo rfl) rfl rfl (p_move rfl rfl) (nf rfl) ?_
            refine W.pure rfl (wo rfl) rfl rfl (p_move rfl rfl) (nf rfl) ?_
            refine W.f4 rfl ?_
            refine W.f3 rfl ?_
            refine W.c22 rfl (wo rfl) rfl rfl rfl (tCrashO x6 e.1 (by show ws.length ≤ _; omega)) (en18 _) rfl rfl rfl (args_val rfl) ?_
            intro x9
            refine W.quiet rfl (wo rfl) rfl rfl (f_callR rfl rfl (args_val rfl) (en12 _) (fun w2 hc2 => num_ok w2 _)) (nf rfl) ?_
            refine W.pure rfl (wo rfl) rfl rfl (p_move rfl rfl) (nf rfl) ?_
            refine W.f2 rfl ?_
            refine W.c11 rfl (wo rfl) rfl rfl rfl (tCrash x8 (IntRow.nil _ _) (by show ws.length ≤ _; omega)) (en18 _) rfl rfl rfl (args_val rfl) ?_
            intro x10
            refine W.quiet rfl (wo rfl) rfl rfl (f_callR rfl rfl (args_val rfl) (en12 _) (fun w2 hc2 => num_ok w2 _)) (nf rfl) ?_
            refine W.pure rfl (wo rfl) rfl rfl (p_add rfl rfl rfl) (nf rfl) ?_
            refine W.pure rfl (wo rfl) rfl rfl (p_move rfl rfl) (nf rfl) ?_
            refine W.f3 rfl ?_
            refine W.c11 rfl (wo rfl) rfl rfl rfl (tSync x (lt_sync nb ws) (by show ws.length ≤ _; omega)) (en14 _) rfl rfl rfl (args_val rfl) ?_
            intro x11
            refine W.quiet rfl (wo rfl) rfl rfl (f_callR rfl rfl (args_val rfl) (en12 _) (fun w2 hc2 => num_ok w2 _)) (nf rfl) ?_
            refine W.pure rfl (wo rfl) rfl rfl (p_add rfl rfl rfl) (nf rfl) ?_
            refine W.pure rfl (wo rfl) rfl rfl (p_move rfl rfl) (nf rfl) ?_
            refine W.pure rfl (wo rfl) rfl rfl (p_move rfl rfl) (nf rfl) ?_
            refine W.c11 rfl (wo rfl) rfl rfl rfl (tCrash x11 (hpv) (by simp [ltY])) (en18 _) rfl rfl rfl (args_val rfl) ?_
            intro x12
            refine W.quiet rfl (wo rfl) rfl rfl (f_callR rfl rfl (args_val rfl) (en12 _) (fun w2 hc2 => num_ok w2 _)) (nf rfl) ?_
            refine W.pure rfl (wo rfl) rfl rfl (p_add rfl rfl rfl) (nf rfl) ?_
            refine W.pure rfl (wo rfl) rfl rfl (pF (by rfl) (p_neq rfl rfl rfl)) (nf rfl) ?_
            refine W.pure rfl (wo rfl) rfl rfl (p_pick_false rfl rfl rfl) (nf rfl) ?_
            refine W.doneQ (y := sub [1, 1, 1, 1, 1, 1, 1, 1, 0, 1] B4) rfl ?_
            refine C.cond_false (x := sub [1, 1, 1, 1, 1, 1, 1, 1, 0, 1, 0] B4) (y := sub [1, 1, 1, 1, 1, 1, 1, 1, 0, 1, 1] B4) rfl rfl ?_
            refine C.skipQ (y := sub [1, 1, 1, 1, 1, 1, 1, 1, 1] B4) rfl ?_
            refine C.seq (x := sub [1, 1, 1, 1, 1, 1, 1, 1, 1, 0] B4) (y := sub [1, 1, 1, 1, 1, 1, 1, 1, 1, 1] B4) ?_
            refine C.seq (x := sub [1, 1, 1, 1, 1, 1, 1, 1, 1, 0, 0] B4) (y := sub [1, 1, 1, 1, 1, 1, 1, 1, 1, 0, 1] B4) ?_
            refine C.f4 rfl ?_
            refine C.settleF (E := nowG bn now) rfl ?_
            intro I2 he2 hI
            have hbn := hI bn _ (List.mem_singleton.2 rfl)
            clear hI
            refine C.region (id := 22) (m := 1) (ops := opsOf (sub [1, 1, 1, 1, 1, 1, 1, 1, 1, 0, 0] B4)) rfl ?_
            refine W.pure rfl (wo rfl) rfl rfl (p_assign rfl rfl) (nf rfl) ?_
            refine W.doneQ (y := sub [1, 1, 1, 1, 1, 1, 1, 1, 1, 0, 1] B4) rfl ?_
            refine C.f3 rfl ?_
            refine C.dr rfl ?_
            refine C.f1 rfl ?_
            refine C.f2 rfl ?_
            refine C.f2 rfl ?_
            refine C.loopB (id := 2) (c := sub [1, 1, 1, 1, 1, 1, 1, 1, 1, 0, 1, 0, 0] B4) (y := sub [1, 1, 1, 1, 1, 1, 1, 1, 1, 1] B4) (fun j : Nat => (nb - j).toNat) (fun j => [(0, .int .i64 nb), (9, ptr p1.1 0), (11, ptr bn 0), (15, ptr p5.1 0), (16, ptr p7.1 0), (17, .int .i64 (j : Int))]) (fun j => dX p1.1 p1.2 x12 ++ (dX p5.1 p5.2 x9 ++ (dX p7.1 p7.2 x10 ++ []))) (fun j => (j : Int) ≤ nb) 0 (by omega) (Sub.cons rfl (Sub.cons rfl (Sub.cons rfl (Sub.cons rfl (Sub.cons rfl (Sub.cons rfl (Sub.nil _))))))) rfl rfl (fun j => True) ?_ ?_
            · intro j hj Q2 hN2 hE2 hR2
              by_cases hlt : (j : Int) < nb
              · refine C.seq (x := sub [1, 1, 1, 1, 1, 1, 1, 1, 1, 0, 1, 0, 0, 0] B4) (y := sub [1, 1, 1, 1, 1, 1, 1, 1, 1, 0, 1, 0, 0, 1] B4) ?_
                refine C.seq (x := sub [1, 1, 1, 1, 1, 1, 1, 1, 1, 0, 1, 0, 0, 0, 0] B4) (y := sub [1, 1, 1, 1, 1, 1, 1, 1, 1, 0, 1, 0, 0, 0, 1] B4) ?_
                refine C.region (id := 23) (m := 3) (ops := opsOf (sub [1, 1, 1, 1, 1, 1, 1, 1, 1, 0, 1, 0, 0, 0, 0] B4)) rfl ?_
                refine W.pure rfl (wo rfl) rfl rfl (p_move rfl rfl) (nf rfl) ?_
                refine W.pure rfl (wo rfl) rfl rfl (p_move rfl rfl) (nf rfl) ?_
                refine W.pure rfl (wo rfl) rfl rfl (pT (decide_eq_true (by omega)) (p_lss rfl rfl rfl)) (nf rfl) ?_
                refine W.doneQ (y := sub [1, 1, 1, 1, 1, 1, 1, 1, 1, 0, 1, 0, 0, 0, 1] B4) rfl ?_
                refine C.cond_true (x := sub [1, 1, 1, 1, 1, 1, 1, 1, 1, 0, 1, 0, 0, 0, 1, 0] B4) (y := sub [1, 1, 1, 1, 1, 1, 1, 1, 1, 0, 1, 0, 0, 0, 1, 1] B4) rfl rfl ?_
                refine C.skipQ (y := sub [1, 1, 1, 1, 1, 1, 1, 1, 1, 0, 1, 0, 0, 1] B4) rfl ?_
                refine C.seq (x := sub [1, 1, 1, 1, 1, 1, 1, 1, 1, 0, 1, 0, 0, 1, 0] B4) (y := sub [1, 1, 1, 1, 1, 1, 1, 1, 1, 0, 1, 0, 0, 1, 1] B4) ?_
                refine C.block (id := 3) (c := sub [1, 1, 1, 1, 1, 1, 1, 1, 1, 0, 1, 0, 0, 1, 0, 0] B4) ?_
                refine C.seq (x := sub [1, 1, 1, 1, 1, 1, 1, 1, 1, 0, 1, 0, 0, 1, 0, 0, 0] B4) (y := sub [1, 1, 1, 1, 1, 1, 1, 1, 1, 0, 1, 0, 0, 1, 0, 0, 1] B4) ?_
                refine C.region (id := 25) (m := 8) (ops := opsOf (sub [1, 1, 1, 1, 1, 1, 1, 1, 1, 0, 1, 0, 0, 1, 0, 0, 0] B4)) rfl ?_
                refine W.pure rfl (wo rfl) rfl rfl (p_move rfl rfl) (nf rfl) ?_
                refine W.pure rfl (wo rfl) rfl rfl (p_move rfl rfl) (nf rfl) ?_
                refine W.f1 rfl ?_
                refine W.c12 rfl (wo rfl) rfl rfl rfl (tRead x9 _ (hasD_in (by omega) (by show (j : Int) < nb; omega)) (by simp [crashK])) (en20 _) rfl rfl rfl (args_val rfl) ?_
                intro y13
                refine W.pure rfl (wo rfl) rfl rfl (p_move rfl rfl) (nf rfl) ?_
                refine W.pure rfl (wo rfl) rfl rfl (p_extract rfl rfl rfl) (nf rfl) ?_
                refine W.pure rfl (wo rfl) rfl rfl (p_extract rfl rfl rfl) (nf rfl) ?_
                refine W.pure rfl (wo rfl) rfl rfl (p_assign rfl rfl) (nf rfl) ?_
                refine W.pure rfl (wo rfl) rfl rfl (p_assign rfl rfl) (nf rfl) ?_
                refine W.doneQ (y := sub [1, 1, 1, 1, 1, 1, 1, 1, 1, 0, 1, 0, 0, 1, 0, 0, 1] B4) rfl ?_
                refine C.seq (x := sub [1, 1, 1, 1, 1, 1, 1, 1, 1, 0, 1, 0, 0, 1, 0, 0, 1, 0] B4) (y := sub [1, 1, 1, 1, 1, 1, 1, 1, 1, 0, 1, 0, 0, 1, 0, 0, 1, 1] B4) ?_
                refine C.region (id := 26) (m := 8) (ops := opsOf (sub [1, 1, 1, 1, 1, 1, 1, 1, 1, 0, 1, 0, 0, 1, 0, 0, 1, 0] B4)) rfl ?_
                refine W.pure rfl (wo rfl) rfl rfl (p_move rfl rfl) (nf rfl) ?_
                refine W.pure rfl (wo rfl) rfl rfl (p_move rfl rfl) (nf rfl) ?_
                refine W.f3 rfl ?_
                refine W.c12 rfl (wo rfl) rfl rfl rfl (tRead x10 _ (hasD_in (by omega) (by show (j : Int) < nb; omega)) (by simp [crashK])) (en20 _) rfl rfl rfl (args_val rfl) ?_
                intro y14
                refine W.pure rfl (wo rfl) rfl rfl (p_move rfl rfl) (nf rfl) ?_
                refine W.pure rfl (wo rfl) rfl rfl (p_extract rfl rfl rfl) (nf rfl) ?_
                refine W.pure rfl (wo rfl) rfl rfl (p_extract rfl rfl rfl) (nf rfl) ?_
                refine W.pure rfl (wo rfl) rfl rfl (p_assign rfl rfl) (nf rfl) ?_
                refine W.pure rfl (wo rfl) rfl rfl (p_assign rfl rfl) (nf rfl) ?_
                refine W.doneQ (y := sub [1, 1, 1, 1, 1, 1, 1, 1, 1, 0, 1, 0, 0, 1, 0, 0, 1, 1] B4) rfl ?_
                refine C.seq (x := sub [1, 1, 1, 1, 1, 1, 1, 1, 1, 0, 1, 0, 0, 1, 0, 0, 1, 1, 0] B4) (y := sub [1, 1, 1, 1, 1, 1, 1, 1, 1, 0, 1, 0, 0, 1, 0, 0, 1, 1, 1] B4) ?_
                refine C.region (id := 27) (m := 8) (ops := opsOf (sub [1, 1, 1, 1, 1, 1, 1, 1, 1, 0, 1, 0, 0, 1, 0, 0, 1, 1, 0] B4)) rfl ?_
                refine W.pure rfl (wo rfl) rfl rfl (p_move rfl rfl) (nf rfl) ?_
                refine W.pure rfl (wo rfl) rfl rfl (p_move rfl rfl) (nf rfl) ?_
                refine W.f4 rfl ?_
                refine W.c12 rfl (wo rfl) rfl rfl rfl (tRead x12 _ (hasD_in (by omega) (by show (j : Int) < nb; omega)) (by simp [crashK])) (en20 _) rfl rfl rfl (args_val rfl) ?_
                intro y15
                refine W.pure rfl (wo rfl) rfl rfl (p_move rfl rfl) (nf rfl) ?_
                refine W.pure rfl (wo rfl) rfl rfl (p_extract rfl rfl rfl) (nf rfl) ?_
                refine W.pure rfl (wo rfl) rfl rfl (p_extract rfl rfl rfl) (nf rfl) ?_
                refine W.pure rfl (wo rfl) rfl rfl (p_assign rfl rfl) (nf rfl) ?_
                refine W.pure rfl (wo rfl) rfl rfl (p_assign rfl rfl) (nf rfl) ?_
                refine W.doneQ (y := sub [1, 1, 1, 1, 1, 1, 1, 1, 1, 0, 1, 0, 0, 1, 0, 0, 1, 1, 1] B4) rfl ?_
                refine C.seq (x := sub [1, 1, 1, 1, 1, 1, 1, 1, 1, 0, 1, 0, 0, 1, 0, 0, 1, 1, 1, 0] B4) (y := sub [1, 1, 1, 1, 1, 1, 1, 1, 1, 0, 1, 0, 0, 1, 0, 0, 1, 1, 1, 1] B4) ?_
                refine C.f4 rfl ?_
                refine C.settleF (E := oX y13) rfl ?_
                intro J0 hj0 hI
                have hr0 := row_of_mem y13 hI
                clear hI
                refine C.f2 rfl ?_
                refine C.settleF (E := oX y14) rfl ?_
                intro J1 hj1 hI
                have hr1 := row_of_mem y14 hI
                clear hI
                refine C.settleF (E := oX y15) rfl ?_
                intro J2 hj2 hI
                have hr2 := row_of_mem y15 hI
                clear hI
                have hr0 := hr0.mono (hj1.trans hj2)
                have hr1 := hr1.mono hj2
                have hbn := hj2 _ _ (hj1 _ _ (hj0 _ _ hbn))
                refine C.regionD (id := 28) (ops := opsOf (sub [1, 1, 1, 1, 1, 1, 1, 1, 1, 0, 1, 0, 0, 1, 0, 0, 1, 1, 1, 0] B4)) [0, 1, 2, 3, 4, 5, 6, 7, 8, 9, 10, 11, 12, 13, 14, 15, 16, 17, 18, 19, 20, 21, 22, 23, 24] [0, 1, 0, 4, 12, 28, 60, 127, 255, 511, 1023, 511, 2559, 8191, 16383, 32767, 65535, 131071, 65535, 327679, 851967, 1900543, 3997695, 8388607, 16777215] [(.pure, none), (.pure, none), (.pure, none), (.pure, none), (.pure, none), (.keep, none), (.quiet, none), (.pure, none), (.pure, none), (.pure, none), (.pure, none), (.keep, none), (.quiet, none), (.pure, none), (.pure, none), (.pure, none), (.pure, none), (.pure, none), (.pure, none), (.pure, none), (.pure, none), (.keep, none), (.quiet, none), (.pure, none), (.pure, none)] (by kernel_rfl) ?_
                intro wD28 hl28
                refine DW.pure rfl rfl rfl rfl rfl (p_move rfl rfl) ?_
                refine DW.imm rfl rfl rfl rfl rfl (i_rowStr hr0 rfl rfl) ?_
                refine DW.pure rfl rfl rfl rfl rfl (p_move rfl rfl) ?_
                refine DW.pure rfl rfl rfl rfl rfl (p_ix tu36 ts5 (by omega) (by omega) rfl rfl rfl) ?_
                refine DW.imm rfl rfl rfl rfl rfl (i_loadBoxO (off := j) hbn (enc_at (by rw [hJ.len]; omega)) ta5 rfl rfl) ?_
                refine DW.c01k rfl rfl rfl rfl rfl (tFill _) (en16 _) rfl rfl rfl (args_val rfl) ?_
                intro y16
                refine DW.quiet rfl rfl rfl rfl rfl (q_ownStr y16 rfl rfl rfl) ?_
                refine DW.pure rfl rfl rfl rfl rfl (pF (by rw [rd_all x, hJ.rd j hlt]; simp) (p_strNe rfl rfl rfl)) ?_
                refine DW.pure rfl rfl rfl rfl rfl (p_move rfl rfl) ?_
                refine DV.pure rfl (wo rfl) rfl rfl rfl (p_move rfl rfl) ?_
                refine DV.imm rfl (wo rfl) rfl rfl rfl (i_rowStr hr1 rfl rfl) ?_
                refine DV.c01k rfl (wo rfl) rfl rfl rfl (tFill _) (en16 _) rfl rfl rfl (args_val rfl) ?_
                intro y17
                refine DV.quiet rfl (wo rfl) rfl rfl rfl (q_ownStr y17 rfl rfl rfl) ?_
                refine DV.pure rfl (wo rfl) rfl rfl rfl (pF (by rw [rd_none]; simp) (p_strNe rfl rfl rfl)) ?_
                refine DW.pure rfl rfl rfl rfl rfl (p_pick_false rfl rfl rfl) ?_
                refine DW.pure rfl rfl rfl rfl rfl (p_move rfl rfl) ?_
                refine DV.pure rfl (wo rfl) rfl rfl rfl (p_move rfl rfl) ?_
                refine DV.imm rfl (wo rfl) rfl rfl rfl (i_rowStr hr2 rfl rfl) ?_
                refine DV.pure rfl (wo rfl) rfl rfl rfl (p_move rfl rfl) ?_
                refine DV.pure rfl (wo rfl) rfl rfl rfl (p_ix tu36 ts5 (by omega) (by omega) rfl rfl rfl) ?_
                refine DV.imm rfl (wo rfl) rfl rfl rfl (i_loadBoxO (off := j) hbn (enc_at (by rw [hJ.len]; omega)) ta5 rfl rfl) ?_
                refine DV.c01k rfl (wo rfl) rfl rfl rfl (tFill _) (en16 _) rfl rfl rfl (args_val rfl) ?_
                intro y18
                refine DV.quiet rfl (wo rfl) rfl rfl rfl (q_ownStr y18 rfl rfl rfl) ?_
                refine DV.pure rfl (wo rfl) rfl rfl rfl (pF (by rw [rd_sync, hJ.rd j hlt]; simp) (p_strNe rfl rfl rfl)) ?_
                refine DW.pure rfl rfl rfl rfl rfl (p_pick_false rfl rfl rfl) ?_
                refine DW.doneQ (y := sub [1, 1, 1, 1, 1, 1, 1, 1, 1, 0, 1, 0, 0, 1, 0, 0, 1, 1, 1, 1] B4) hl28 rfl ?_
                refine C.cond_false (x := sub [1, 1, 1, 1, 1, 1, 1, 1, 1, 0, 1, 0, 0, 1, 0, 0, 1, 1, 1, 1, 0] B4) (y := sub [1, 1, 1, 1, 1, 1, 1, 1, 1, 0, 1, 0, 0, 1, 0, 0, 1, 1, 1, 1, 1] B4) rfl rfl ?_
                refine C.skipQ (y := sub [1, 1, 1, 1, 1, 1, 1, 1, 1, 0, 1, 0, 0, 1, 1] B4) rfl ?_
                refine C.region (id := 24) (m := 3) (ops := opsOf (sub [1, 1, 1, 1, 1, 1, 1, 1, 1, 0, 1, 0, 0, 1, 1] B4)) rfl ?_
                refine W.pure rfl (wo rfl) rfl rfl (p_move rfl rfl) (nf rfl) ?_
                refine W.pure rfl (wo rfl) rfl rfl (pI (wk (by omega)) (p_add rfl rfl rfl)) (nf rfl) ?_
                refine W.pure rfl (wo rfl) rfl rfl (p_assign rfl rfl) (nf rfl) ?_
                refine W.dr rfl ?_
                refine W.dr rfl ?_
                refine W.dr rfl ?_
                refine W.f1 rfl ?_
                refine W.f2 rfl ?_
                refine W.f2 rfl ?_
                refine W.end' fun a1 w1 ha1 hc1 => hN2 (j + 1) (by omega) (by omega) a1 w1 (ha1.sub (Sub.cons rfl (Sub.cons rfl (Sub.cons rfl (Sub.cons rfl (Sub.cons rfl (Sub.cons rfl (Sub.nil _)))))))) (cls_less ((hj0.trans hj1).trans hj2) hc1)
              · refine C.seq (x := sub [1, 1, 1, 1, 1, 1, 1, 1, 1, 0, 1, 0, 0, 0] B4) (y := sub [1, 1, 1, 1, 1, 1, 1, 1, 1, 0, 1, 0, 0, 1] B4) ?_
                refine C.seq (x := sub [1, 1, 1, 1, 1, 1, 1, 1, 1, 0, 1, 0, 0, 0, 0] B4) (y := sub [1, 1, 1, 1, 1, 1, 1, 1, 1, 0, 1, 0, 0, 0, 1] B4) ?_
                refine C.region (id := 23) (m := 3) (ops := opsOf (sub [1, 1, 1, 1, 1, 1, 1, 1, 1, 0, 1, 0, 0, 0, 0] B4)) rfl ?_
                refine W.pure rfl (wo rfl) rfl rfl (p_move rfl rfl) (nf rfl) ?_
                refine W.pure rfl (wo rfl) rfl rfl (p_move rfl rfl) (nf rfl) ?_
                refine W.pure rfl (wo rfl) rfl rfl (pF (decide_eq_false (by omega)) (p_lss rfl rfl rfl)) (nf rfl) ?_
                refine W.doneQ (y := sub [1, 1, 1, 1, 1, 1, 1, 1, 1, 0, 1, 0, 0, 0, 1] B4) rfl ?_
                refine C.cond_false (x := sub [1, 1, 1, 1, 1, 1, 1, 1, 1, 0, 1, 0, 0, 0, 1, 0] B4) (y := sub [1, 1, 1, 1, 1, 1, 1, 1, 1, 0, 1, 0, 0, 0, 1, 1] B4) rfl rfl ?_
                exact C.exit fun a1 w1 ha1 hc1 => hE2 trivial a1 w1 (ha1.sub (Sub.cons rfl (Sub.cons rfl (Sub.cons rfl (Sub.cons rfl (Sub.cons rfl (Sub.cons rfl (Sub.nil _)))))))) hc1
            intro j hj _
            refine C.seq (x := sub [1, 1, 1, 1, 1, 1, 1, 1, 1, 1, 0] B4) (y := sub [1, 1, 1, 1, 1, 1, 1, 1, 1, 1, 1] B4) ?_
            refine C.region (id := 30) (m := 2) (ops := opsOf (sub [1, 1, 1, 1, 1, 1, 1, 1, 1, 1, 0] B4)) rfl ?_
            refine W.quiet rfl (wo rfl) rfl rfl (f_callR rfl rfl (args_val (vs := []) rfl) (en10 _) (fun w2 hc2 => known_ok w2)) (nf rfl) ?_
            refine W.pure rfl (wo rfl) rfl rfl (p_assign rfl rfl) (nf rfl) ?_
            refine W.doneQ (y := sub [1, 1, 1, 1, 1, 1, 1, 1, 1, 1, 1] B4) rfl ?_
            exact C.ret (R := fun e w' => e = .returned (.bool true) ∧ Below w.heap.size w w') (rs := [.tmp 8]) (vs := [.bool true]) rfl Try.func4 rfl rfl rfl (res_cons (ResV.tmp rfl) res_nil) fun w1 hc1 => ⟨rfl, (cls_less he2 hc1).toBelow⟩

end Go.Proofs.Ytjomnicfcdkfdaa
