import Derived.Test.YtjomnicfcdkfdaaDkU
namespace Go.Proofs.Ytjomnicfcdkfdaa
open Go Go.HW Go.RowKit
set_option linter.unusedVariables false
set_option linter.unusedSimpArgs false

structure ESt where
  k : Nat
  s : Dk
  x : Dx s
theorem p_ixOI {S : Slots} {o : Oper} {k : IntKind} {xs : List Int} (y : Ox k xs) {i : Int} (h0 : 0 ≤ i) (h1 : i < (xs.length : Int)) {T e : Nat} {x z : Operand} {kk : IntKind} (hu : ∀ w, (underlying T).run Try.prog w = .ok (.slice e) w) (hs : ∀ w, (sizeOf e).run Try.prog w = .ok 1 w) (ho : o.op = .indexAddr T x z) (hx : ev S x = some y.1.1) (hy : ev S z = some (.int kk i)) : FPure Try.prog o S (elp y.1.1 i.toNat) :=
  p_slIx1 (P := Try.prog) hu hs (OwnV.some y.2 h0 h1) h0 h1 ho hx hy
theorem getD_some {xs : List Int} {j : Nat} (h : j < xs.length) : xs[j]? = some (xs.getD j 0) := by
  rw [List.getD_eq_getElem?_getD, List.getElem?_eq_getElem h]; rfl

noncomputable def B8 : Code := bodyOf Try.f8
theorem edits_ok {w : World} {lv : Value} {l : List Stp} (hr : RowS ShStp (heapOf w) lv l) (nb n a z : Int) : Calls Try.prog 8 #[.int .i64 nb, lv, .int .i64 n, .int .i64 a, .int .u8 z] w (fun e w' => e = .returned (.bool true) ∧ Below w.heap.size w w') := by
  refine calls_of_CW (N := 161) Try.func8 (show _ = some B8 by kernel_rfl) (by kernel_rfl) rfl (S := [(0, .int .i64 nb), (1, lv), (2, .int .i64 n), (3, .int .i64 a), (4, .int .u8 z)]) (by simp) (clsStart w) ?_
  show CW _ _ _ (sub [] B8) _ _ _
  refine C.seq (x := sub [0] B8) (y := sub [1] B8) ?_
  refine C.region (id := 0) (m := 1) (ops := opsOf (sub [0] B8)) rfl ?_
  refine W.pure rfl (wo rfl) rfl rfl (p_assign rfl rfl) (nf rfl) ?_
  refine W.doneQ (y := sub [1] B8) rfl ?_
  refine C.seq (x := sub [1, 0] B8) (y := sub [1, 1] B8) ?_
  refine C.seq (x := sub [1, 0, 0] B8) (y := sub [1, 0, 1] B8) ?_
  refine C.region (id := 1) (m := 10) (ops := opsOf (sub [1, 0, 0] B8)) rfl ?_
  refine W.pure rfl (wo rfl) rfl rfl (p_move rfl rfl) (nf rfl) ?_
  by_cases h0 : nb < 1
  · refine W.pure rfl (wo rfl) rfl rfl (pT (decide_eq_true h0) (p_lss rfl rfl rfl)) (nf rfl) ?_
    refine W.pure rfl (wo rfl) rfl rfl (p_move rfl rfl) (nf rfl) ?_
    refine W.not rfl (wo rfl) rfl rfl ?_
    refine W.not rfl (wo rfl) rfl rfl ?_
    refine W.pure rfl (wo rfl) rfl rfl (p_pick_true rfl rfl rfl) (nf rfl) ?_
    refine W.pure rfl (wo rfl) rfl rfl (p_move rfl rfl) (nf rfl) ?_
    refine W.not rfl (wo rfl) rfl rfl ?_
    refine W.not rfl (wo rfl) rfl rfl ?_
    refine W.pure rfl (wo rfl) rfl rfl (p_pick_true rfl rfl rfl) (nf rfl) ?_
    refine W.doneQ (y := sub [1, 0, 1] B8) rfl ?_
    refine C.cond_true (x := sub [1, 0, 1, 0] B8) (y := sub [1, 0, 1, 1] B8) rfl rfl ?_
    refine C.seq (x := sub [1, 0, 1, 0, 0] B8) (y := sub [1, 0, 1, 0, 1] B8) ?_
    refine C.region (id := 2) (m := 2) (ops := opsOf (sub [1, 0, 1, 0, 0] B8)) rfl ?_
    refine W.quiet rfl (wo rfl) rfl rfl (f_callR rfl rfl (args_val (vs := []) rfl) (en10 _) (fun w2 hc2 => known_ok w2)) (nf rfl) ?_
    refine W.pure rfl (wo rfl) rfl rfl (p_assign rfl rfl) (nf rfl) ?_
    refine W.doneQ (y := sub [1, 0, 1, 0, 1] B8) rfl ?_
    exact C.ret (R := fun e w' => e = .returned (.bool true) ∧ Below w.heap.size w w') (rs := [.tmp 10]) (vs := [.bool true]) rfl Try.func8 rfl rfl rfl (res_cons (ResV.tmp rfl) res_nil) fun w1 hc1 => ⟨rfl, hc1.toBelow⟩
  · refine W.pure rfl (wo rfl) rfl rfl (pF (decide_eq_false h0) (p_lss rfl rfl rfl)) (nf rfl) ?_
    refine W.pure rfl (wo rfl) rfl rfl (p_move rfl rfl) (nf rfl) ?_
    refine W.pure rfl (wo rfl) rfl rfl (p_move rfl rfl) (nf rfl) ?_
    by_cases h1 : 40 < nb
    · refine W.pure rfl (wo rfl) rfl rfl (pT (decide_eq_true h1) (p_gtr rfl rfl rfl)) (nf rfl) ?_
      refine W.pure rfl (wo rfl) rfl rfl (p_pick_false rfl rfl rfl) (nf rfl) ?_
      refine W.pure rfl (wo rfl) rfl rfl (p_move rfl rfl) (nf rfl) ?_
      refine W.not rfl (wo rfl) rfl rfl ?_
      refine W.not rfl (wo rfl) rfl rfl ?_
      refine W.pure rfl (wo rfl) rfl rfl (p_pick_true rfl rfl rfl) (nf rfl) ?_
      refine W.doneQ (y := sub [1, 0, 1] B8) rfl ?_
      refine C.cond_true (x := sub [1, 0, 1, 0] B8) (y := sub [1, 0, 1, 1] B8) rfl rfl ?_
      refine C.seq (x := sub [1, 0, 1, 0, 0] B8) (y := sub [1, 0, 1, 0, 1] B8) ?_
      refine C.region (id := 2) (m := 2) (ops := opsOf (sub [1, 0, 1, 0, 0] B8)) rfl ?_
      refine W.quiet rfl (wo rfl) rfl rfl (f_callR rfl rfl (args_val (vs := []) rfl) (en10 _) (fun w2 hc2 => known_ok w2)) (nf rfl) ?_
      refine W.pure rfl (wo rfl) rfl rfl (p_assign rfl rfl) (nf rfl) ?_
      refine W.doneQ (y := sub [1, 0, 1, 0, 1] B8) rfl ?_
      exact C.ret (R := fun e w' => e = .returned (.bool true) ∧ Below w.heap.size w w') (rs := [.tmp 10]) (vs := [.bool true]) rfl Try.func8 rfl rfl rfl (res_cons (ResV.tmp rfl) res_nil) fun w1 hc1 => ⟨rfl, hc1.toBelow⟩
    · refine W.pure rfl (wo rfl) rfl rfl (pF (decide_eq_false h1) (p_gtr rfl rfl rfl)) (nf rfl) ?_
      refine W.pure rfl (wo rfl) rfl rfl (p_pick_false rfl rfl rfl) (nf rfl) ?_
      refine W.pure rfl (wo rfl) rfl rfl (p_move rfl rfl) (nf rfl) ?_
      refine W.pure rfl (wo rfl) rfl rfl (p_move rfl rfl) (nf rfl) ?_
      refine W.cq rfl (wo rfl) rfl rfl (fun w2 hc2 => much_ok (M := heapOf w) (most := 40) hc2.imm (hr) (by decide)) (en21 _) rfl rfl rfl (args_val rfl) ?_
      intro mr
      by_cases hm : mr.1 = true
      · refine W.pure rfl (wo rfl) rfl rfl (pT (hm) (p_pick_false rfl rfl rfl)) (nf rfl) ?_
        refine W.doneQ (y := sub [1, 0, 1] B8) rfl ?_
        refine C.cond_true (x := sub [1, 0, 1, 0] B8) (y := sub [1, 0, 1, 1] B8) rfl rfl ?_
        refine C.seq (x := sub [1, 0, 1, 0, 0] B8) (y := sub [1, 0, 1, 0, 1] B8) ?_
        refine C.region (id := 2) (m := 2) (ops := opsOf (sub [1, 0, 1, 0, 0] B8)) rfl ?_
        refine W.quiet rfl (wo rfl) rfl rfl (f_callR rfl rfl (args_val (vs := []) rfl) (en10 _) (fun w2 hc2 => known_ok w2)) (nf rfl) ?_
        refine W.pure rfl (wo rfl) rfl rfl (p_assign rfl rfl) (nf rfl) ?_
        refine W.doneQ (y := sub [1, 0, 1, 0, 1] B8) rfl ?_
        exact C.ret (R := fun e w' => e = .returned (.bool true) ∧ Below w.heap.size w w') (rs := [.tmp 10]) (vs := [.bool true]) rfl Try.func8 rfl rfl rfl (res_cons (ResV.tmp rfl) res_nil) fun w1 hc1 => ⟨rfl, hc1.toBelow⟩
      · refine W.pure rfl (wo rfl) rfl rfl (pF (by simpa using hm) (p_pick_false rfl rfl rfl)) (nf rfl) ?_
        refine W.doneQ (y := sub [1, 0, 1] B8) rfl ?_
        refine C.cond_false (x := sub [1, 0, 1, 0] B8) (y := sub [1, 0, 1, 1] B8) rfl rfl ?_
        refine C.skipQ (y := sub [1, 1] B8) rfl ?_
        refine C.seq (x := sub [1, 1, 0] B8) (y := sub [1, 1, 1] B8) ?_
        refine C.region (id := 3) (m := 7) (ops := opsOf (sub [1, 1, 0] B8)) rfl ?_
        refine W.pure rfl (wo rfl) rfl rfl (p_move rfl rfl) (nf rfl) ?_
        have hlen := mr.2 (by simpa using hm)
        refine W.c01 rfl (wo rfl) rfl rfl (tNew _ (by omega) (by omega)) (en11 _) rfl rfl rfl (args_val rfl) ?_
        intro p1
        refine W.pure rfl (wo rfl) rfl rfl (p_move rfl rfl) (nf rfl) ?_
        refine W.pure rfl (wo rfl) rfl rfl (p_extract rfl rfl rfl) (nf rfl) ?_
        refine W.pure rfl (wo rfl) rfl rfl (p_extract rfl rfl rfl) (nf rfl) ?_
        refine W.pure rfl (wo rfl) rfl rfl (p_assign rfl rfl) (nf rfl) ?_
        refine W.pure rfl (wo rfl) rfl rfl (p_assign rfl rfl) (nf rfl) ?_
        refine W.doneQ (y := sub [1, 1, 1] B8) rfl ?_
        refine C.seq (x := sub [1, 1, 1, 0] B8) (y := sub [1, 1, 1, 1] B8) ?_
        refine C.seq (x := sub [1, 1, 1, 0, 0] B8) (y := sub [1, 1, 1, 0, 1] B8) ?_
        refine C.region (id := 4) (m := 7) (ops := opsOf (sub [1, 1, 1, 0, 0] B8)) rfl ?_
        refine W.pure rfl (wo rfl) rfl rfl (p_move rfl rfl) (nf rfl) ?_
        refine W.pure rfl (wo rfl) rfl rfl (p_eqNilP (fun b w => by kernel_rfl) (fun b w => by kernel_rfl) rfl rfl rfl) (nf rfl) ?_
        refine W.pure rfl (wo rfl) rfl rfl (p_move rfl rfl) (nf rfl) ?_
        refine W.pure rfl (wo rfl) rfl rfl (p_move rfl rfl) (nf rfl) ?_
        refine W.quiet rfl (wo rfl) rfl rfl (f_callR rfl rfl (args_val rfl) (en12 _) (fun w2 hc2 => num_ok w2 _)) (nf rfl) ?_
        refine W.pure rfl (wo rfl) rfl rfl (pF (by rfl) (p_neq rfl rfl rfl)) (nf rfl) ?_
        refine W.pure rfl (wo rfl) rfl rfl (p_pick_false rfl rfl rfl) (nf rfl) ?_
        refine W.doneQ (y := sub [1, 1, 1, 0, 1] B8) rfl ?_
        refine C.cond_false (x := sub [1, 1, 1, 0, 1, 0] B8) (y := sub [1, 1, 1, 0, 1, 1] B8) rfl rfl ?_
        refine C.skipQ (y := sub [1, 1, 1, 1] B8) rfl ?_
        refine C.seq (x := sub [1, 1, 1, 1, 0] B8) (y := sub [1, 1, 1, 1, 1] B8) ?_
        refine C.seq (x := sub [1, 1, 1, 1, 0, 0] B8) (y := sub [1, 1, 1, 1, 0, 1] B8) ?_
        refine C.region (id := 6) (m := 1) (ops := opsOf (sub [1, 1, 1, 1, 0, 0] B8)) rfl ?_
        refine W.pure rfl (wo rfl) rfl rfl (p_assign rfl rfl) (nf rfl) ?_
        refine W.doneQ (y := sub [1, 1, 1, 1, 0, 1] B8) rfl ?_
        refine C.loopB (id := 0) (c := sub [1, 1, 1, 1, 0, 1, 0, 0] B8) (y := sub [1, 1, 1, 1, 1] B8) (α := ESt) (fun q => l.length - q.k) (fun q => [(0, .int .i64 nb), (1, lv), (2, .int .i64 n), (3, .int .i64 a), (4, .int .u8 z), (11, ptr p1.1 0), (13, .int .i64 (q.k : Int))]) (fun q => dX p1.1 p1.2 q.x ++ []) (fun q => q.k ≤ l.length ∧ q.s.late.length ≤ q.k ∧ q.s.n = nb ∧ BD q.s) ⟨0, _, (x0 _)⟩ ⟨Nat.zero_le _, by simp [newK], rfl, newK_BD _⟩ (Sub.cons rfl (Sub.cons rfl (Sub.cons rfl (Sub.cons rfl (Sub.cons rfl (Sub.cons rfl (Sub.cons rfl (Sub.nil _)))))))) rfl rfl (fun q => q.k = l.length) ?_ ?_
        · rintro ⟨k, s, x⟩ ⟨(hk : k ≤ l.length), (hsl : s.late.length ≤ k), (hn : s.n = nb), (hbd : BD s)⟩ Q' hN hE hR
          show CW _ _ _ _ _ [(0, .int .i64 nb), (1, lv), (2, .int .i64 n), (3, .int .i64 a), (4, .int .u8 z), (11, ptr p1.1 0), (13, .int .i64 (k : Int))] (dX p1.1 p1.2 x ++ [])
          by_cases hlt : k < l.length
          · obtain ⟨zz, hz⟩ : ∃ zz, l[k]? = some zz := ⟨_, List.getElem?_eq_getElem hlt⟩
            obtain ⟨pv, hpv, hcs⟩ := stp_at hr hz
            refine C.seq (x := sub [1, 1, 1, 1, 0, 1, 0, 0, 0] B8) (y := sub [1, 1, 1, 1, 0, 1, 0, 0, 1] B8) ?_
            refine C.seq (x := sub [1, 1, 1, 1, 0, 1, 0, 0, 0, 0] B8) (y := sub [1, 1, 1, 1, 0, 1, 0, 0, 0, 1] B8) ?_
            refine C.region (id := 7) (m := 4) (ops := opsOf (sub [1, 1, 1, 1, 0, 1, 0, 0, 0, 0] B8)) rfl ?_
            refine W.pure rfl (wo rfl) rfl rfl (p_move rfl rfl) (nf rfl) ?_
            refine W.pure rfl (wo rfl) rfl rfl (p_move rfl rfl) (nf rfl) ?_
            refine W.pure rfl (wo rfl) rfl rfl (p_slLen tu41 (RowS.sl hr) rfl rfl) (nf rfl) ?_
            refine W.pure rfl (wo rfl) rfl rfl (pT (decide_eq_true (by omega)) (p_lss rfl rfl rfl)) (nf rfl) ?_
            refine W.doneQ (y := sub [1, 1, 1, 1, 0, 1, 0, 0, 0, 1] B8) rfl ?_
            refine C.cond_true (x := sub [1, 1, 1, 1, 0, 1, 0, 0, 0, 1, 0] B8) (y := sub [1, 1, 1, 1, 0, 1, 0, 0, 0, 1, 1] B8) rfl rfl ?_
            refine C.skipQ (y := sub [1, 1, 1, 1, 0, 1, 0, 0, 1] B8) rfl ?_
            refine C.seq (x := sub [1, 1, 1, 1, 0, 1, 0, 0, 1, 0] B8) (y := sub [1, 1, 1, 1, 0, 1, 0, 0, 1, 1] B8) ?_
            refine C.block (id := 1) (c := sub [1, 1, 1, 1, 0, 1, 0, 0, 1, 0, 0] B8) ?_
            refine C.region (id := 9) (m := 6) (ops := opsOf (sub [1, 1, 1, 1, 0, 1, 0, 0, 1, 0, 0] B8)) rfl ?_
            refine W.pure rfl (wo rfl) rfl rfl (p_move rfl rfl) (nf rfl) ?_
            refine W.pure rfl (wo rfl) rfl rfl (p_move rfl rfl) (nf rfl) ?_
            refine W.pure rfl (wo rfl) rfl rfl (p_move rfl rfl) (nf rfl) ?_
            refine W.pure rfl (wo rfl) rfl rfl (p_ixS hr hlt tu41 ts46 rfl rfl rfl) (nf rfl) ?_
            refine W.imm rfl (wo rfl) rfl rfl (i_ldS hr hz hcs ta46 ts46 rfl rfl) (nf rfl) ?_
            refine W.c11 rfl (wo rfl) rfl rfl rfl (tDo x (hpv) (pairE _) (by omega)) (en23 _) rfl rfl rfl (args_val rfl) ?_
            intro x2
            refine W.doneQ (y := sub [1, 1, 1, 1, 0, 1, 0, 0, 1, 1] B8) rfl ?_
            refine C.region (id := 8) (m := 3) (ops := opsOf (sub [1, 1, 1, 1, 0, 1, 0, 0, 1, 1] B8)) rfl ?_
            refine W.pure rfl (wo rfl) rfl rfl (p_move rfl rfl) (nf rfl) ?_
            refine W.pure rfl (wo rfl) rfl rfl (pI (wk (by omega)) (p_add rfl rfl rfl)) (nf rfl) ?_
            refine W.pure rfl (wo rfl) rfl rfl (p_assign rfl rfl) (nf rfl) ?_
            refine W.end' fun a1 w1 ha1 hc1 => hN ⟨k + 1, _, x2⟩ ⟨(by show k + 1 ≤ _; omega), (by have := doK_late s zz; show (doK s zz).2.late.length ≤ k + 1; omega), (by show (doK s zz).2.n = nb; rw [doK_n]; exact hn), doK_BD hbd zz⟩ (show l.length - (k + 1) < l.length - k by omega) a1 w1 (ha1.sub (Sub.cons rfl (Sub.cons rfl (Sub.cons rfl (Sub.cons rfl (Sub.cons rfl (Sub.cons rfl (Sub.cons rfl (Sub.nil _))))))))) hc1
          · refine C.seq (x := sub [1, 1, 1, 1, 0, 1, 0, 0, 0] B8) (y := sub [1, 1, 1, 1, 0, 1, 0, 0, 1] B8) ?_
            refine C.seq (x := sub [1, 1, 1, 1, 0, 1, 0, 0, 0, 0] B8) (y := sub [1, 1, 1, 1, 0, 1, 0, 0, 0, 1] B8) ?_
            refine C.region (id := 7) (m := 4) (ops := opsOf (sub [1, 1, 1, 1, 0, 1, 0, 0, 0, 0] B8)) rfl ?_
            refine W.pure rfl (wo rfl) rfl rfl (p_move rfl rfl) (nf rfl) ?_
            refine W.pure rfl (wo rfl) rfl rfl (p_move rfl rfl) (nf rfl) ?_
            refine W.pure rfl (wo rfl) rfl rfl (p_slLen tu41 (RowS.sl hr) rfl rfl) (nf rfl) ?_
            refine W.pure rfl (wo rfl) rfl rfl (pF (decide_eq_false (by omega)) (p_lss rfl rfl rfl)) (nf rfl) ?_
            refine W.doneQ (y := sub [1, 1, 1, 1, 0, 1, 0, 0, 0, 1] B8) rfl ?_
            refine C.cond_false (x := sub [1, 1, 1, 1, 0, 1, 0, 0, 0, 1, 0] B8) (y := sub [1, 1, 1, 1, 0, 1, 0, 0, 0, 1, 1] B8) rfl rfl ?_
            exact C.exit fun a1 w1 ha1 hc1 => hE (show k = l.length by omega) a1 w1 (ha1.sub (Sub.cons rfl (Sub.cons rfl (Sub.cons rfl (Sub.cons rfl (Sub.cons rfl (Sub.cons rfl (Sub.cons rfl (Sub.nil _))))))))) hc1
        rintro ⟨k, s, x⟩ ⟨(hk : k ≤ l.length), (hsl : s.late.length ≤ k), (hn : s.n = nb), (hbd : BD s)⟩ (hke : k = l.length)
        show CW _ _ _ _ _ [(0, .int .i64 nb), (1, lv), (2, .int .i64 n), (3, .int .i64 a), (4, .int .u8 z), (11, ptr p1.1 0), (13, .int .i64 (k : Int))] (dX p1.1 p1.2 x ++ [])
        refine C.seq (x := sub [1, 1, 1, 1, 1, 0] B8) (y := sub [1, 1, 1, 1, 1, 1] B8) ?_
        refine C.region (id := 10) (m := 9) (ops := opsOf (sub [1, 1, 1, 1, 1, 0] B8)) rfl ?_
        refine W.pure rfl (wo rfl) rfl rfl (p_move rfl rfl) (nf rfl) ?_
        refine W.c12 rfl (wo rfl) rfl rfl rfl (tCopy x (by omega)) (en19 _) rfl rfl rfl (args_val rfl) ?_
        intro ⟨p3, x4⟩
        refine W.pure rfl (wo rfl) rfl rfl (p_move rfl rfl) (nf rfl) ?_
        refine W.f1 rfl ?_
        refine W.c11 rfl (wo rfl) rfl rfl rfl (tDead x (r := s.dead) (rfl)) (en17 _) rfl rfl rfl (args_val rfl) ?_
        intro _
        refine W.pure rfl (wo rfl) rfl rfl (p_move rfl rfl) (nf rfl) ?_
        refine W.c11 rfl (wo rfl) rfl rfl rfl (tUns x) (en25 _) rfl rfl rfl (args_val rfl) ?_
        intro _
        refine W.pure rfl (wo rfl) rfl rfl (p_assign rfl rfl) (nf rfl) ?_
        refine W.pure rfl (wo rfl) rfl rfl (p_assign rfl rfl) (nf rfl) ?_
        refine W.pure rfl (wo rfl) rfl rfl (p_assign rfl rfl) (nf rfl) ?_
        refine W.doneQ (y := sub [1, 1, 1, 1, 1, 1] B8) rfl ?_
        refine C.seq (x := sub [1, 1, 1, 1, 1, 1, 0] B8) (y := sub [1, 1, 1, 1, 1, 1, 1] B8) ?_
        refine C.region (id := 11) (m := 6) (ops := opsOf (sub [1, 1, 1, 1, 1, 1, 0] B8)) rfl ?_
        refine W.pure rfl (wo rfl) rfl rfl (p_move rfl rfl) (nf rfl) ?_
        refine W.pure rfl (wo rfl) rfl rfl (p_move rfl rfl) (nf rfl) ?_
        refine W.pure rfl (wo rfl) rfl rfl (p_move rfl rfl) (nf rfl) ?_
        refine W.pure rfl (wo rfl) rfl rfl (p_move rfl rfl) (nf rfl) ?_
        refine W.c11 rfl (wo rfl) rfl rfl rfl (tEdit x _ _ _ (pairE _) (by omega)) (en30 _) rfl rfl rfl (args_val rfl) ?_
        intro x5
        refine W.pure rfl (wo rfl) rfl rfl (p_assign rfl rfl) (nf rfl) ?_
        refine W.doneQ (y := sub [1, 1, 1, 1, 1, 1, 1] B8) rfl ?_
        refine C.seq (x := sub [1, 1, 1, 1, 1, 1, 1, 0] B8) (y := sub [1, 1, 1, 1, 1, 1, 1, 1] B8) ?_
        refine C.seq (x := sub [1, 1, 1, 1, 1, 1, 1, 0, 0] B8) (y := sub [1, 1, 1, 1, 1, 1, 1, 0, 1] B8) ?_
        refine C.region (id := 12) (m := 15) (ops := opsOf (sub [1, 1, 1, 1, 1, 1, 1, 0, 0] B8)) rfl ?_
        refine W.pure rfl (wo rfl) rfl rfl (p_move rfl rfl) (nf rfl) ?_
        by_cases g0 : n < 0
        · refine W.pure rfl (wo rfl) rfl rfl (pT (decide_eq_true g0) (p_lss rfl rfl rfl)) (nf rfl) ?_
          refine W.pure rfl (wo rfl) rfl rfl (p_move rfl rfl) (nf rfl) ?_
          refine W.not rfl (wo rfl) rfl rfl ?_
          refine W.not rfl (wo rfl) rfl rfl ?_
          refine W.not rfl (wo rfl) rfl rfl ?_
          refine W.pure rfl (wo rfl) rfl rfl (p_pick_true rfl rfl rfl) (nf rfl) ?_
          refine W.pure rfl (wo rfl) rfl rfl (p_move rfl rfl) (nf rfl) ?_
          refine W.not rfl (wo rfl) rfl rfl ?_
          refine W.not rfl (wo rfl) rfl rfl ?_
          refine W.pure rfl (wo rfl) rfl rfl (p_pick_true rfl rfl rfl) (nf rfl) ?_
          refine W.pure rfl (wo rfl) rfl rfl (p_move rfl rfl) (nf rfl) ?_
          refine W.not rfl (wo rfl) rfl rfl ?_
          refine W.not rfl (wo rfl) rfl rfl ?_
          refine W.pure rfl (wo rfl) rfl rfl (p_pick_true rfl rfl rfl) (nf rfl) ?_
          refine W.doneQ (y := sub [1, 1, 1, 1, 1, 1, 1, 0, 1] B8) rfl ?_
          refine C.cond_true (x := sub [1, 1, 1, 1, 1, 1, 1, 0, 1, 0] B8) (y := sub [1, 1, 1, 1, 1, 1, 1, 0, 1, 1] B8) rfl rfl ?_
          refine C.seq (x := sub [1, 1, 1, 1, 1, 1, 1, 0, 1, 0, 0] B8) (y := sub [1, 1, 1, 1, 1, 1, 1, 0, 1, 0, 1] B8) ?_
          refine C.region (id := 13) (m := 12) (ops := opsOf (sub [1, 1, 1, 1, 1, 1, 1, 0, 1, 0, 0] B8)) rfl ?_
          have hE : editK s n a z = (2, s) := by unfold editK; rw [if_pos (by unfold hasD; exact decide_eq_false (by omega))]
          refine W.pure rfl (wo rfl) rfl rfl (p_move rfl rfl) (nf rfl) ?_
          refine W.quiet rfl (wo rfl) rfl rfl (f_callR rfl rfl (args_val rfl) (en12 _) (fun w2 hc2 => num_ok w2 _)) (nf rfl) ?_
          refine W.pure rfl (wo rfl) rfl rfl (pT (by rw [hE]; rfl) (p_eql rfl rfl rfl)) (nf rfl) ?_
          refine W.pure rfl (wo rfl) rfl rfl (p_move rfl rfl) (nf rfl) ?_
          refine W.pure rfl (wo rfl) rfl rfl (p_move rfl rfl) (nf rfl) ?_
          refine W.pure rfl (wo rfl) rfl rfl (p_move rfl rfl) (nf rfl) ?_
          refine W.f1 rfl ?_
          refine W.f1 rfl ?_
          refine W.c22 rfl (wo rfl) rfl rfl rfl (tSame x5 x4 (by rw [editK_late]; omega) (by omega) (by rw [editK_n]; omega) (r := true) (by rw [hE]; exact sameK_refl _)) (en29 _) rfl rfl rfl (args_val rfl) ?_
          intro _
          refine W.pure rfl (wo rfl) rfl rfl (p_pick_true rfl rfl rfl) (nf rfl) ?_
          refine W.pure rfl (wo rfl) rfl rfl (p_move rfl rfl) (nf rfl) ?_
          refine W.quiet rfl (wo rfl) rfl rfl (f_callR rfl rfl (args_val (vs := []) rfl) (en10 _) (fun w2 hc2 => known_ok w2)) (nf rfl) ?_
          refine W.pure rfl (wo rfl) rfl rfl (p_pick_true rfl rfl rfl) (nf rfl) ?_
          refine W.pure rfl (wo rfl) rfl rfl (p_assign rfl rfl) (nf rfl) ?_
          refine W.doneQ (y := sub [1, 1, 1, 1, 1, 1, 1, 0, 1, 0, 1] B8) rfl ?_
          exact C.ret (R := fun e w' => e = .returned (.bool true) ∧ Below w.heap.size w w') (rs := [.tmp 10]) (vs := [.bool true]) rfl Try.func8 rfl rfl rfl (res_cons (ResV.tmp rfl) res_nil) fun w1 hc1 => ⟨rfl, hc1.toBelow⟩
        · refine W.pure rfl (wo rfl) rfl rfl (pF (decide_eq_false g0) (p_lss rfl rfl rfl)) (nf rfl) ?_
          refine W.pure rfl (wo rfl) rfl rfl (p_move rfl rfl) (nf rfl) ?_
          refine W.pure rfl (wo rfl) rfl rfl (p_move rfl rfl) (nf rfl) ?_
          refine W.pure rfl (wo rfl) rfl rfl (p_move rfl rfl) (nf rfl) ?_
          by_cases g1 : nb ≤ n
          · refine W.pure rfl (wo rfl) rfl rfl (pT (decide_eq_true g1) (p_geq rfl rfl rfl)) (nf rfl) ?_
            refine W.pure rfl (wo rfl) rfl rfl (p_pick_false rfl rfl rfl) (nf rfl) ?_
            refine W.pure rfl (wo rfl) rfl rfl (p_move rfl rfl) (nf rfl) ?_
            refine W.not rfl (wo rfl) rfl rfl ?_
            refine W.not rfl (wo rfl) rfl rfl ?_
            refine W.pure rfl (wo rfl) rfl rfl (p_pick_true rfl rfl rfl) (nf rfl) ?_
            refine W.pure rfl (wo rfl) rfl rfl (p_move rfl rfl) (nf rfl) ?_
            refine W.not rfl (wo rfl) rfl rfl ?_
            refine W.not rfl (wo rfl) rfl rfl ?_
            refine W.pure rfl (wo rfl) rfl rfl (p_pick_true rfl rfl rfl) (nf rfl) ?_
            refine W.doneQ (y := sub [1, 1, 1, 1, 1, 1, 1, 0, 1] B8) rfl ?_
            refine C.cond_true (x := sub [1, 1, 1, 1, 1, 1, 1, 0, 1, 0] B8) (y := sub [1, 1, 1, 1, 1, 1, 1, 0, 1, 1] B8) rfl rfl ?_
            refine C.seq (x := sub [1, 1, 1, 1, 1, 1, 1, 0, 1, 0, 0] B8) (y := sub [1, 1, 1, 1, 1, 1, 1, 0, 1, 0, 1] B8) ?_
            refine C.region (id := 13) (m := 12) (ops := opsOf (sub [1, 1, 1, 1, 1, 1, 1, 0, 1, 0, 0] B8)) rfl ?_
            have hE : editK s n a z = (2, s) := by unfold editK; rw [if_pos (by unfold hasD; exact decide_eq_false (by omega))]
            refine W.pure rfl (wo rfl) rfl rfl (p_move rfl rfl) (nf rfl) ?_
            refine W.quiet rfl (wo rfl) rfl rfl (f_callR rfl rfl (args_val rfl) (en12 _) (fun w2 hc2 => num_ok w2 _)) (nf rfl) ?_
            refine W.pure rfl (wo rfl) rfl rfl (pT (by rw [hE]; rfl) (p_eql rfl rfl rfl)) (nf rfl) ?_
            refine W.pure rfl (wo rfl) rfl rfl (p_move rfl rfl) (nf rfl) ?_
            refine W.pure rfl (wo rfl) rfl rfl (p_move rfl rfl) (nf rfl) ?_
            refine W.pure rfl (wo rfl) rfl rfl (p_move rfl rfl) (nf rfl) ?_
            refine W.f1 rfl ?_
            refine W.f1 rfl ?_
            refine W.c22 rfl (wo rfl) rfl rfl rfl (tSame x5 x4 (by rw [editK_late]; omega) (by omega) (by rw [editK_n]; omega) (r := true) (by rw [hE]; exact sameK_refl _)) (en29 _) rfl rfl rfl (args_val rfl) ?_
            intro _
            refine W.pure rfl (wo rfl) rfl rfl (p_pick_true rfl rfl rfl) (nf rfl) ?_
            refine W.pure rfl (wo rfl) rfl rfl (p_move rfl rfl) (nf rfl) ?_
            refine W.quiet rfl (wo rfl) rfl rfl (f_callR rfl rfl (args_val (vs := []) rfl) (en10 _) (fun w2 hc2 => known_ok w2)) (nf rfl) ?_
            refine W.pure rfl (wo rfl) rfl rfl (p_pick_true rfl rfl rfl) (nf rfl) ?_
            refine W.pure rfl (wo rfl) rfl rfl (p_assign rfl rfl) (nf rfl) ?_
            refine W.doneQ (y := sub [1, 1, 1, 1, 1, 1, 1, 0, 1, 0, 1] B8) rfl ?_
            exact C.ret (R := fun e w' => e = .returned (.bool true) ∧ Below w.heap.size w w') (rs := [.tmp 10]) (vs := [.bool true]) rfl Try.func8 rfl rfl rfl (res_cons (ResV.tmp rfl) res_nil) fun w1 hc1 => ⟨rfl, hc1.toBelow⟩
          · refine W.pure rfl (wo rfl) rfl rfl (pF (decide_eq_false g1) (p_geq rfl rfl rfl)) (nf rfl) ?_
            refine W.pure rfl (wo rfl) rfl rfl (p_pick_false rfl rfl rfl) (nf rfl) ?_
            refine W.pure rfl (wo rfl) rfl rfl (p_move rfl rfl) (nf rfl) ?_
            refine W.pure rfl (wo rfl) rfl rfl (p_move rfl rfl) (nf rfl) ?_
            by_cases g2 : a < 0
            · refine W.pure rfl (wo rfl) rfl rfl (pT (decide_eq_true g2) (p_lss rfl rfl rfl)) (nf rfl) ?_
              refine W.pure rfl (wo rfl) rfl rfl (p_pick_false rfl rfl rfl) (nf rfl) ?_
              refine W.pure rfl (wo rfl) rfl rfl (p_move rfl rfl) (nf rfl) ?_
              refine W.not rfl (wo rfl) rfl rfl ?_
              refine W.not rfl (wo rfl) rfl rfl ?_
              refine W.pure rfl (wo rfl) rfl rfl (p_pick_true rfl rfl rfl) (nf rfl) ?_
              refine W.doneQ (y := sub [1, 1, 1, 1, 1, 1, 1, 0, 1] B8) rfl ?_
              refine C.cond_true (x := sub [1, 1, 1, 1, 1, 1, 1, 0, 1, 0] B8) (y := sub [1, 1, 1, 1, 1, 1, 1, 0, 1, 1] B8) rfl rfl ?_
              refine C.seq (x := sub [1, 1, 1, 1, 1, 1, 1, 0, 1, 0, 0] B8) (y := sub [1, 1, 1, 1, 1, 1, 1, 0, 1, 0, 1] B8) ?_
              refine C.region (id := 13) (m := 12) (ops := opsOf (sub [1, 1, 1, 1, 1, 1, 1, 0, 1, 0, 0] B8)) rfl ?_
              have hE : editK s n a z = (2, s) := by unfold editK; rw [if_neg (by rw [hasD_in (by omega) (by omega)]; simp), if_pos g2]
              refine W.pure rfl (wo rfl) rfl rfl (p_move rfl rfl) (nf rfl) ?_
              refine W.quiet rfl (wo rfl) rfl rfl (f_callR rfl rfl (args_val rfl) (en12 _) (fun w2 hc2 => num_ok w2 _)) (nf rfl) ?_
              refine W.pure rfl (wo rfl) rfl rfl (pT (by rw [hE]; rfl) (p_eql rfl rfl rfl)) (nf rfl) ?_
              refine W.pure rfl (wo rfl) rfl rfl (p_move rfl rfl) (nf rfl) ?_
              refine W.pure rfl (wo rfl) rfl rfl (p_move rfl rfl) (nf rfl) ?_
              refine W.pure rfl (wo rfl) rfl rfl (p_move rfl rfl) (nf rfl) ?_
              refine W.f1 rfl ?_
              refine W.f1 rfl ?_
              refine W.c22 rfl (wo rfl) rfl rfl rfl (tSame x5 x4 (by rw [editK_late]; omega) (by omega) (by rw [editK_n]; omega) (r := true) (by rw [hE]; exact sameK_refl _)) (en29 _) rfl rfl rfl (args_val rfl) ?_
              intro _
              refine W.pure rfl (wo rfl) rfl rfl (p_pick_true rfl rfl rfl) (nf rfl) ?_
              refine W.pure rfl (wo rfl) rfl rfl (p_move rfl rfl) (nf rfl) ?_
              refine W.quiet rfl (wo rfl) rfl rfl (f_callR rfl rfl (args_val (vs := []) rfl) (en10 _) (fun w2 hc2 => known_ok w2)) (nf rfl) ?_
              refine W.pure rfl (wo rfl) rfl rfl (p_pick_true rfl rfl rfl) (nf rfl) ?_
              refine W.pure rfl (wo rfl) rfl rfl (p_assign rfl rfl) (nf rfl) ?_
              refine W.doneQ (y := sub [1, 1, 1, 1, 1, 1, 1, 0, 1, 0, 1] B8) rfl ?_
              exact C.ret (R := fun e w' => e = .returned (.bool true) ∧ Below w.heap.size w w') (rs := [.tmp 10]) (vs := [.bool true]) rfl Try.func8 rfl rfl rfl (res_cons (ResV.tmp rfl) res_nil) fun w1 hc1 => ⟨rfl, hc1.toBelow⟩
            · refine W.pure rfl (wo rfl) rfl rfl (pF (decide_eq_false g2) (p_lss rfl rfl rfl)) (nf rfl) ?_
              refine W.pure rfl (wo rfl) rfl rfl (p_pick_false rfl rfl rfl) (nf rfl) ?_
              refine W.pure rfl (wo rfl) rfl rfl (p_move rfl rfl) (nf rfl) ?_
              refine W.pure rfl (wo rfl) rfl rfl (p_move rfl rfl) (nf rfl) ?_
              by_cases g3 : 512 ≤ a
              · refine W.pure rfl (wo rfl) rfl rfl (pT (decide_eq_true g3) (p_geq rfl rfl rfl)) (nf rfl) ?_
                refine W.pure rfl (wo rfl) rfl rfl (p_pick_false rfl rfl rfl) (nf rfl) ?_
                refine W.doneQ (y := sub [1, 1, 1, 1, 1, 1, 1, 0, 1] B8) rfl ?_
                refine C.cond_true (x := sub [1, 1, 1, 1, 1, 1, 1, 0, 1, 0] B8) (y := sub [1, 1, 1, 1, 1, 1, 1, 0, 1, 1] B8) rfl rfl ?_
                refine C.seq (x := sub [1, 1, 1, 1, 1, 1, 1, 0, 1, 0, 0] B8) (y := sub [1, 1, 1, 1, 1, 1, 1, 0, 1, 0, 1] B8) ?_
                refine C.region (id := 13) (m := 12) (ops := opsOf (sub [1, 1, 1, 1, 1, 1, 1, 0, 1, 0, 0] B8)) rfl ?_
                have hE : editK s n a z = (2, s) := by unfold editK; rw [if_neg (by rw [hasD_in (by omega) (by omega)]; simp), if_neg g2, if_pos g3]
                refine W.pure rfl (wo rfl) rfl rfl (p_move rfl rfl) (nf rfl) ?_
                refine W.quiet rfl (wo rfl) rfl rfl (f_callR rfl rfl (args_val rfl) (en12 _) (fun w2 hc2 => num_ok w2 _)) (nf rfl) ?_
                refine W.pure rfl (wo rfl) rfl rfl (pT (by rw [hE]; rfl) (p_eql rfl rfl rfl)) (nf rfl) ?_
                refine W.pure rfl (wo rfl) rfl rfl (p_move rfl rfl) (nf rfl) ?_
                refine W.pure rfl (wo rfl) rfl rfl (p_move rfl rfl) (nf rfl) ?_
                refine W.pure rfl (wo rfl) rfl rfl (p_move rfl rfl) (nf rfl) ?_
                refine W.f1 rfl ?_
                refine W.f1 rfl ?_
                refine W.c22 rfl (wo rfl) rfl rfl rfl (tSame x5 x4 (by rw [editK_late]; omega) (by omega) (by rw [editK_n]; omega) (r := true) (by rw [hE]; exact sameK_refl _)) (en29 _) rfl rfl rfl (args_val rfl) ?_
                intro _
                refine W.pure rfl (wo rfl) rfl rfl (p_pick_true rfl rfl rfl) (nf rfl) ?_
                refine W.pure rfl (wo rfl) rfl rfl (p_move rfl rfl) (nf rfl) ?_
                refine W.quiet rfl (wo rfl) rfl rfl (f_callR rfl rfl (args_val (vs := []) rfl) (en10 _) (fun w2 hc2 => known_ok w2)) (nf rfl) ?_
                refine W.pure rfl (wo rfl) rfl rfl (p_pick_true rfl rfl rfl) (nf rfl) ?_
                refine W.pure rfl (wo rfl) rfl rfl (p_assign rfl rfl) (nf rfl) ?_
                refine W.doneQ (y := sub [1, 1, 1, 1, 1, 1, 1, 0, 1, 0, 1] B8) rfl ?_
                exact C.ret (R := fun e w' => e = .returned (.bool true) ∧ Below w.heap.size w w') (rs := [.tmp 10]) (vs := [.bool true]) rfl Try.func8 rfl rfl rfl (res_cons (ResV.tmp rfl) res_nil) fun w1 hc1 => ⟨rfl, hc1.toBelow⟩
              · refine W.pure rfl (wo rfl) rfl rfl (pF (decide_eq_false g3) (p_geq rfl rfl rfl)) (nf rfl) ?_
                refine W.pure rfl (wo rfl) rfl rfl (p_pick_false rfl rfl rfl) (nf rfl) ?_
                refine W.doneQ (y := sub [1, 1, 1, 1, 1, 1, 1, 0, 1] B8) rfl ?_
                refine C.cond_false (x := sub [1, 1, 1, 1, 1, 1, 1, 0, 1, 0] B8) (y := sub [1, 1, 1, 1, 1, 1, 1, 0, 1, 1] B8) rfl rfl ?_
                refine C.skipQ (y := sub [1, 1, 1, 1, 1, 1, 1, 1] B8) rfl ?_
                refine C.seq (x := sub [1, 1, 1, 1, 1, 1, 1, 1, 0] B8) (y := sub [1, 1, 1, 1, 1, 1, 1, 1, 1] B8) ?_
                refine C.seq (x := sub [1, 1, 1, 1, 1, 1, 1, 1, 0, 0] B8) (y := sub [1, 1, 1, 1, 1, 1, 1, 1, 0, 1] B8) ?_
                refine C.region (id := 14) (m := 1) (ops := opsOf (sub [1, 1, 1, 1, 1, 1, 1, 1, 0, 0] B8)) rfl ?_
                have hE : editK s n a z = (0, edS s n a z) := editK_ok (hasD_in (by omega) (by omega)) (by omega) (by omega)
                have hE2 : editK (edS s n a z) n a z = (0, edS (edS s n a z) n a z) := editK_ok (hasD_in (by omega) (by show n < s.n; omega)) (by omega) (by omega)
                refine W.pure rfl (wo rfl) rfl rfl (p_assign rfl rfl) (nf rfl) ?_
                refine W.doneQ (y := sub [1, 1, 1, 1, 1, 1, 1, 1, 0, 1] B8) rfl ?_
                refine C.f1 rfl ?_
                refine C.f1 rfl ?_
                refine C.loopB (id := 2) (c := sub [1, 1, 1, 1, 1, 1, 1, 1, 0, 1, 0, 0] B8) (y := sub [1, 1, 1, 1, 1, 1, 1, 1, 1] B8) (fun j : Nat => (nb - j).toNat) (fun j => [(0, .int .i64 nb), (1, lv), (2, .int .i64 n), (3, .int .i64 a), (4, .int .u8 z), (11, ptr p1.1 0), (14, ptr p3.1 0), (15, .bool s.dead), (16, .int .i64 (s.late.length : Int)), (17, .int .i64 (editK s n a z).1), (18, .int .i64 (j : Int))]) (fun j => dX p1.1 p1.2 x5 ++ (dX p3.1 p3.2 x4 ++ [])) (fun j => (j : Int) ≤ nb) 0 (by omega) (Sub.cons rfl (Sub.cons rfl (Sub.cons rfl (Sub.cons rfl (Sub.cons rfl (Sub.cons rfl (Sub.cons rfl (Sub.cons rfl (Sub.cons rfl (Sub.cons rfl (Sub.cons rfl (Sub.nil _)))))))))))) rfl rfl (fun j => (j : Int) = nb) ?_ ?_
                · intro j hj Q2 hN2 hE2 hR2
                  by_cases hlt : (j : Int) < nb
                  · refine C.seq (x := sub [1, 1, 1, 1, 1, 1, 1, 1, 0, 1, 0, 0, 0] B8) (y := sub [1, 1, 1, 1, 1, 1, 1, 1, 0, 1, 0, 0, 1] B8) ?_
                    refine C.seq (x := sub [1, 1, 1, 1, 1, 1, 1, 1, 0, 1, 0, 0, 0, 0] B8) (y := sub [1, 1, 1, 1, 1, 1, 1, 1, 0, 1, 0, 0, 0, 1] B8) ?_
                    refine C.region (id := 15) (m := 3) (ops := opsOf (sub [1, 1, 1, 1, 1, 1, 1, 1, 0, 1, 0, 0, 0, 0] B8)) rfl ?_
                    refine W.pure rfl (wo rfl) rfl rfl (p_move rfl rfl) (nf rfl) ?_
                    refine W.pure rfl (wo rfl) rfl rfl (p_move rfl rfl) (nf rfl) ?_
                    refine W.pure rfl (wo rfl) rfl rfl (pT (decide_eq_true (by omega)) (p_lss rfl rfl rfl)) (nf rfl) ?_
                    refine W.doneQ (y := sub [1, 1, 1, 1, 1, 1, 1, 1, 0, 1, 0, 0, 0, 1] B8) rfl ?_
                    refine C.cond_true (x := sub [1, 1, 1, 1, 1, 1, 1, 1, 0, 1, 0, 0, 0, 1, 0] B8) (y := sub [1, 1, 1, 1, 1, 1, 1, 1, 0, 1, 0, 0, 0, 1, 1] B8) rfl rfl ?_
                    refine C.skipQ (y := sub [1, 1, 1, 1, 1, 1, 1, 1, 0, 1, 0, 0, 1] B8) rfl ?_
                    refine C.seq (x := sub [1, 1, 1, 1, 1, 1, 1, 1, 0, 1, 0, 0, 1, 0] B8) (y := sub [1, 1, 1, 1, 1, 1, 1, 1, 0, 1, 0, 0, 1, 1] B8) ?_
                    refine C.block (id := 3) (c := sub [1, 1, 1, 1, 1, 1, 1, 1, 0, 1, 0, 0, 1, 0, 0] B8) ?_
                    refine C.seq (x := sub [1, 1, 1, 1, 1, 1, 1, 1, 0, 1, 0, 0, 1, 0, 0, 0] B8) (y := sub [1, 1, 1, 1, 1, 1, 1, 1, 0, 1, 0, 0, 1, 0, 0, 1] B8) ?_
                    refine C.region (id := 17) (m := 8) (ops := opsOf (sub [1, 1, 1, 1, 1, 1, 1, 1, 0, 1, 0, 0, 1, 0, 0, 0] B8)) rfl ?_
                    refine W.pure rfl (wo rfl) rfl rfl (p_move rfl rfl) (nf rfl) ?_
                    refine W.pure rfl (wo rfl) rfl rfl (p_move rfl rfl) (nf rfl) ?_
                    refine W.f1 rfl ?_
                    refine W.c12 rfl (wo rfl) rfl rfl rfl (tRead x4 _ (hasD_in (by omega) (by omega)) (by omega)) (en20 _) rfl rfl rfl (args_val rfl) ?_
                    intro y6
                    refine W.pure rfl (wo rfl) rfl rfl (p_move rfl rfl) (nf rfl) ?_
                    refine W.pure rfl (wo rfl) rfl rfl (p_extract rfl rfl rfl) (nf rfl) ?_
                    refine W.pure rfl (wo rfl) rfl rfl (p_extract rfl rfl rfl) (nf rfl) ?_
                    refine W.pure rfl (wo rfl) rfl rfl (p_assign rfl rfl) (nf rfl) ?_
                    refine W.pure rfl (wo rfl) rfl rfl (p_assign rfl rfl) (nf rfl) ?_
                    refine W.doneQ (y := sub [1, 1, 1, 1, 1, 1, 1, 1, 0, 1, 0, 0, 1, 0, 0, 1] B8) rfl ?_
                    refine C.seq (x := sub [1, 1, 1, 1, 1, 1, 1, 1, 0, 1, 0, 0, 1, 0, 0, 1, 0] B8) (y := sub [1, 1, 1, 1, 1, 1, 1, 1, 0, 1, 0, 0, 1, 0, 0, 1, 1] B8) ?_
                    refine C.region (id := 18) (m := 8) (ops := opsOf (sub [1, 1, 1, 1, 1, 1, 1, 1, 0, 1, 0, 0, 1, 0, 0, 1, 0] B8)) rfl ?_
                    refine W.pure rfl (wo rfl) rfl rfl (p_move rfl rfl) (nf rfl) ?_
                    refine W.pure rfl (wo rfl) rfl rfl (p_move rfl rfl) (nf rfl) ?_
                    refine W.f2 rfl ?_
                    refine W.c12 rfl (wo rfl) rfl rfl rfl (tRead x5 _ (hasD_in (by omega) (by rw [editK_n]; omega)) (by rw [editK_late]; omega)) (en20 _) rfl rfl rfl (args_val rfl) ?_
                    intro y7
                    refine W.pure rfl (wo rfl) rfl rfl (p_move rfl rfl) (nf rfl) ?_
                    refine W.pure rfl (wo rfl) rfl rfl (p_extract rfl rfl rfl) (nf rfl) ?_
                    refine W.pure rfl (wo rfl) rfl rfl (p_extract rfl rfl rfl) (nf rfl) ?_
                    refine W.pure rfl (wo rfl) rfl rfl (p_assign rfl rfl) (nf rfl) ?_
                    refine W.pure rfl (wo rfl) rfl rfl (p_assign rfl rfl) (nf rfl) ?_
                    refine W.doneQ (y := sub [1, 1, 1, 1, 1, 1, 1, 1, 0, 1, 0, 0, 1, 0, 0, 1, 1] B8) rfl ?_
                    refine C.seq (x := sub [1, 1, 1, 1, 1, 1, 1, 1, 0, 1, 0, 0, 1, 0, 0, 1, 1, 0] B8) (y := sub [1, 1, 1, 1, 1, 1, 1, 1, 0, 1, 0, 0, 1, 0, 0, 1, 1, 1] B8) ?_
                    refine C.seq (x := sub [1, 1, 1, 1, 1, 1, 1, 1, 0, 1, 0, 0, 1, 0, 0, 1, 1, 0, 0] B8) (y := sub [1, 1, 1, 1, 1, 1, 1, 1, 0, 1, 0, 0, 1, 0, 0, 1, 1, 0, 1] B8) ?_
                    refine C.region (id := 19) (m := 3) (ops := opsOf (sub [1, 1, 1, 1, 1, 1, 1, 1, 0, 1, 0, 0, 1, 0, 0, 1, 1, 0, 0] B8)) rfl ?_
                    refine W.pure rfl (wo rfl) rfl rfl (p_move rfl rfl) (nf rfl) ?_
                    refine W.pure rfl (wo rfl) rfl rfl (p_move rfl rfl) (nf rfl) ?_
                    by_cases hin : (j : Int) = n
                    · refine W.pure rfl (wo rfl) rfl rfl (pT (by simpa using hin) (p_eql rfl rfl rfl)) (nf rfl) ?_
                      refine W.doneQ (y := sub [1, 1, 1, 1, 1, 1, 1, 1, 0, 1, 0, 0, 1, 0, 0, 1, 1, 0, 1] B8) rfl ?_
                      refine C.cond_true (x := sub [1, 1, 1, 1, 1, 1, 1, 1, 0, 1, 0, 0, 1, 0, 0, 1, 1, 0, 1, 0] B8) (y := sub [1, 1, 1, 1, 1, 1, 1, 1, 0, 1, 0, 0, 1, 0, 0, 1, 1, 0, 1, 1] B8) rfl rfl ?_
                      refine C.region (id := 20) (m := 10) (ops := opsOf (sub [1, 1, 1, 1, 1, 1, 1, 1, 0, 1, 0, 0, 1, 0, 0, 1, 1, 0, 1, 0] B8)) rfl ?_
                      refine W.pure rfl (wo rfl) rfl rfl (p_move rfl rfl) (nf rfl) ?_
                      refine W.pure rfl (wo rfl) rfl rfl (p_move rfl rfl) (nf rfl) ?_
                      refine W.pure rfl (wo rfl) rfl rfl (p_move rfl rfl) (nf rfl) ?_
                      refine W.pure rfl (wo rfl) rfl rfl (p_move rfl rfl) (nf rfl) ?_
                      refine W.pure rfl (wo rfl) rfl rfl (p_ixOI y6 (by omega) (by rw [rdX x]; omega) tu32 ts5 rfl rfl rfl) (nf rfl) ?_
                      refine W.f2 rfl ?_
                      refine W.quiet rfl (wo rfl) rfl rfl (f_ldO y6 (getD_some (by rw [rdX x]; omega)) ta5 rfl rfl rfl) (nf rfl) ?_
                      refine W.pure rfl (wo rfl) rfl rfl (p_move rfl rfl) (nf rfl) ?_
                      refine W.pure rfl (wo rfl) rfl rfl (p_xor rfl rfl rfl) (nf rfl) ?_
                      refine W.pure rfl (wo rfl) rfl rfl (p_ixOI y6 (by omega) (by rw [rdX x]; omega) tu32 ts5 rfl rfl rfl) (nf rfl) ?_
                      refine W.put rfl (wo rfl) rfl (f_stO y6 (j := a.toNat) (q := ixor .u8 ((rd s (j : Int)).getD a.toNat 0) z) (by rw [rdX x]; omega) ts5 rfl rfl rfl rfl) (nf rfl) ?_
                      refine W.doneQ (y := sub [1, 1, 1, 1, 1, 1, 1, 1, 0, 1, 0, 0, 1, 0, 0, 1, 1, 1] B8) rfl ?_
                      refine C.seq (x := sub [1, 1, 1, 1, 1, 1, 1, 1, 0, 1, 0, 0, 1, 0, 0, 1, 1, 1, 0] B8) (y := sub [1, 1, 1, 1, 1, 1, 1, 1, 0, 1, 0, 0, 1, 0, 0, 1, 1, 1, 1] B8) ?_
                      refine C.region (id := 21) (m := 5) (ops := opsOf (sub [1, 1, 1, 1, 1, 1, 1, 1, 0, 1, 0, 0, 1, 0, 0, 1, 1, 1, 0] B8)) rfl ?_
                      refine W.pure rfl (wo rfl) rfl rfl (p_move rfl rfl) (nf rfl) ?_
                      refine W.quiet rfl (wo rfl) rfl rfl (q_ownStr (y6.put a.toNat (by rw [rdX x]; omega) (ixor .u8 ((rd s (j : Int)).getD a.toNat 0) z)) rfl rfl rfl) (nf rfl) ?_
                      refine W.pure rfl (wo rfl) rfl rfl (p_move rfl rfl) (nf rfl) ?_
                      refine W.f1 rfl ?_
                      refine W.quiet rfl (wo rfl) rfl rfl (q_ownStr y7 rfl rfl rfl) (nf rfl) ?_
                      refine W.pure rfl (wo rfl) rfl rfl (pF (by rw [hE, rd_edS, if_pos hin, hin]; simp [xorAt]) (p_strNe rfl rfl rfl)) (nf rfl) ?_
                      refine W.doneQ (y := sub [1, 1, 1, 1, 1, 1, 1, 1, 0, 1, 0, 0, 1, 0, 0, 1, 1, 1, 1] B8) rfl ?_
                      refine C.cond_false (x := sub [1, 1, 1, 1, 1, 1, 1, 1, 0, 1, 0, 0, 1, 0, 0, 1, 1, 1, 1, 0] B8) (y := sub [1, 1, 1, 1, 1, 1, 1, 1, 0, 1, 0, 0, 1, 0, 0, 1, 1, 1, 1, 1] B8) rfl rfl ?_
                      refine C.skipQ (y := sub [1, 1, 1, 1, 1, 1, 1, 1, 0, 1, 0, 0, 1, 1] B8) rfl ?_
                      refine C.region (id := 16) (m := 3) (ops := opsOf (sub [1, 1, 1, 1, 1, 1, 1, 1, 0, 1, 0, 0, 1, 1] B8)) rfl ?_
                      refine W.pure rfl (wo rfl) rfl rfl (p_move rfl rfl) (nf rfl) ?_
                      refine W.pure rfl (wo rfl) rfl rfl (pI (wk (by omega)) (p_add rfl rfl rfl)) (nf rfl) ?_
                      refine W.pure rfl (wo rfl) rfl rfl (p_assign rfl rfl) (nf rfl) ?_
                      refine W.dr rfl ?_
                      refine W.dr rfl ?_
                      refine W.f1 rfl ?_
                      refine W.f1 rfl ?_
                      refine W.end' fun a1 w1 ha1 hc1 => hN2 (j + 1) (by omega) (by omega) a1 w1 (ha1.sub (Sub.cons rfl (Sub.cons rfl (Sub.cons rfl (Sub.cons rfl (Sub.cons rfl (Sub.cons rfl (Sub.cons rfl (Sub.cons rfl (Sub.cons rfl (Sub.cons rfl (Sub.cons rfl (Sub.nil _))))))))))))) hc1
                    · refine W.pure rfl (wo rfl) rfl rfl (pF (by simpa using hin) (p_eql rfl rfl rfl)) (nf rfl) ?_
                      refine W.doneQ (y := sub [1, 1, 1, 1, 1, 1, 1, 1, 0, 1, 0, 0, 1, 0, 0, 1, 1, 0, 1] B8) rfl ?_
                      refine C.cond_false (x := sub [1, 1, 1, 1, 1, 1, 1, 1, 0, 1, 0, 0, 1, 0, 0, 1, 1, 0, 1, 0] B8) (y := sub [1, 1, 1, 1, 1, 1, 1, 1, 0, 1, 0, 0, 1, 0, 0, 1, 1, 0, 1, 1] B8) rfl rfl ?_
                      refine C.skipQ (y := sub [1, 1, 1, 1, 1, 1, 1, 1, 0, 1, 0, 0, 1, 0, 0, 1, 1, 1] B8) rfl ?_
                      refine C.seq (x := sub [1, 1, 1, 1, 1, 1, 1, 1, 0, 1, 0, 0, 1, 0, 0, 1, 1, 1, 0] B8) (y := sub [1, 1, 1, 1, 1, 1, 1, 1, 0, 1, 0, 0, 1, 0, 0, 1, 1, 1, 1] B8) ?_
                      refine C.region (id := 21) (m := 5) (ops := opsOf (sub [1, 1, 1, 1, 1, 1, 1, 1, 0, 1, 0, 0, 1, 0, 0, 1, 1, 1, 0] B8)) rfl ?_
                      refine W.pure rfl (wo rfl) rfl rfl (p_move rfl rfl) (nf rfl) ?_
                      refine W.f2 rfl ?_
                      refine W.quiet rfl (wo rfl) rfl rfl (q_ownStr y6 rfl rfl rfl) (nf rfl) ?_
                      refine W.pure rfl (wo rfl) rfl rfl (p_move rfl rfl) (nf rfl) ?_
                      refine W.f1 rfl ?_
                      refine W.quiet rfl (wo rfl) rfl rfl (q_ownStr y7 rfl rfl rfl) (nf rfl) ?_
                      refine W.pure rfl (wo rfl) rfl rfl (pF (by rw [hE, rd_edS, if_neg hin]; simp) (p_strNe rfl rfl rfl)) (nf rfl) ?_
                      refine W.doneQ (y := sub [1, 1, 1, 1, 1, 1, 1, 1, 0, 1, 0, 0, 1, 0, 0, 1, 1, 1, 1] B8) rfl ?_
                      refine C.cond_false (x := sub [1, 1, 1, 1, 1, 1, 1, 1, 0, 1, 0, 0, 1, 0, 0, 1, 1, 1, 1, 0] B8) (y := sub [1, 1, 1, 1, 1, 1, 1, 1, 0, 1, 0, 0, 1, 0, 0, 1, 1, 1, 1, 1] B8) rfl rfl ?_
                      refine C.skipQ (y := sub [1, 1, 1, 1, 1, 1, 1, 1, 0, 1, 0, 0, 1, 1] B8) rfl ?_
                      refine C.region (id := 16) (m := 3) (ops := opsOf (sub [1, 1, 1, 1, 1, 1, 1, 1, 0, 1, 0, 0, 1, 1] B8)) rfl ?_
                      refine W.pure rfl (wo rfl) rfl rfl (p_move rfl rfl) (nf rfl) ?_
                      refine W.pure rfl (wo rfl) rfl rfl (pI (wk (by omega)) (p_add rfl rfl rfl)) (nf rfl) ?_
                      refine W.pure rfl (wo rfl) rfl rfl (p_assign rfl rfl) (nf rfl) ?_
                      refine W.dr rfl ?_
                      refine W.dr rfl ?_
                      refine W.f1 rfl ?_
                      refine W.f1 rfl ?_
                      refine W.end' fun a1 w1 ha1 hc1 => hN2 (j + 1) (by omega) (by omega) a1 w1 (ha1.sub (Sub.cons rfl (Sub.cons rfl (Sub.cons rfl (Sub.cons rfl (Sub.cons rfl (Sub.cons rfl (Sub.cons rfl (Sub.cons rfl (Sub.cons rfl (Sub.cons rfl (Sub.cons rfl (Sub.nil _))))))))))))) hc1
                  · refine C.seq (x := sub [1, 1, 1, 1, 1, 1, 1, 1, 0, 1, 0, 0, 0] B8) (y := sub [1, 1, 1, 1, 1, 1, 1, 1, 0, 1, 0, 0, 1] B8) ?_
                    refine C.seq (x := sub [1, 1, 1, 1, 1, 1, 1, 1, 0, 1, 0, 0, 0, 0] B8) (y := sub [1, 1, 1, 1, 1, 1, 1, 1, 0, 1, 0, 0, 0, 1] B8) ?_
                    refine C.region (id := 15) (m := 3) (ops := opsOf (sub [1, 1, 1, 1, 1, 1, 1, 1, 0, 1, 0, 0, 0, 0] B8)) rfl ?_
                    refine W.pure rfl (wo rfl) rfl rfl (p_move rfl rfl) (nf rfl) ?_
                    refine W.pure rfl (wo rfl) rfl rfl (p_move rfl rfl) (nf rfl) ?_
                    refine W.pure rfl (wo rfl) rfl rfl (pF (decide_eq_false (by omega)) (p_lss rfl rfl rfl)) (nf rfl) ?_
                    refine W.doneQ (y := sub [1, 1, 1, 1, 1, 1, 1, 1, 0, 1, 0, 0, 0, 1] B8) rfl ?_
                    refine C.cond_false (x := sub [1, 1, 1, 1, 1, 1, 1, 1, 0, 1, 0, 0, 0, 1, 0] B8) (y := sub [1, 1, 1, 1, 1, 1, 1, 1, 0, 1, 0, 0, 0, 1, 1] B8) rfl rfl ?_
                    exact C.exit fun a1 w1 ha1 hc1 => hE2 (show (j : Int) = nb by omega) a1 w1 (ha1.sub (Sub.cons rfl (Sub.cons rfl (Sub.cons rfl (Sub.cons rfl (Sub.cons rfl (Sub.cons rfl (Sub.cons rfl (Sub.cons rfl (Sub.cons rfl (Sub.cons rfl (Sub.cons rfl (Sub.nil _))))))))))))) hc1
                intro j hj hje
                refine C.seq (x := sub [1, 1, 1, 1, 1, 1, 1, 1, 1, 0] B8) (y := sub [1, 1, 1, 1, 1, 1, 1, 1, 1, 1] B8) ?_
                refine C.region (id := 23) (m := 33) (ops := opsOf (sub [1, 1, 1, 1, 1, 1, 1, 1, 1, 0] B8)) rfl ?_
                refine W.pure rfl (wo rfl) rfl rfl (p_move rfl rfl) (nf rfl) ?_
                refine W.quiet rfl (wo rfl) rfl rfl (f_callR rfl rfl (args_val rfl) (en12 _) (fun w2 hc2 => num_ok w2 _)) (nf rfl) ?_
                refine W.pure rfl (wo rfl) rfl rfl (pT (by rw [hE]; rfl) (p_eql rfl rfl rfl)) (nf rfl) ?_
                refine W.pure rfl (wo rfl) rfl rfl (p_move rfl rfl) (nf rfl) ?_
                refine W.pure rfl (wo rfl) rfl rfl (p_move rfl rfl) (nf rfl) ?_
                refine W.c11 rfl (wo rfl) rfl rfl rfl (tDead x5 (r := (editK s n a z).2.dead) (rfl)) (en17 _) rfl rfl rfl (args_val rfl) ?_
                intro _
                refine W.pure rfl (wo rfl) rfl rfl (p_move rfl rfl) (nf rfl) ?_
                refine W.pure rfl (wo rfl) rfl rfl (pT (by rw [hE]; simp [edS]) (p_eqb (fun w => by kernel_rfl) rfl rfl rfl)) (nf rfl) ?_
                refine W.pure rfl (wo rfl) rfl rfl (p_pick_true rfl rfl rfl) (nf rfl) ?_
                refine W.pure rfl (wo rfl) rfl rfl (p_move rfl rfl) (nf rfl) ?_
                refine W.pure rfl (wo rfl) rfl rfl (p_move rfl rfl) (nf rfl) ?_
                refine W.c11 rfl (wo rfl) rfl rfl rfl (tUns x5) (en25 _) rfl rfl rfl (args_val rfl) ?_
                intro _
                refine W.pure rfl (wo rfl) rfl rfl (p_move rfl rfl) (nf rfl) ?_
                refine W.pure rfl (wo rfl) rfl rfl (pT (by rw [hE]; simp [edS]) (p_eql rfl rfl rfl)) (nf rfl) ?_
                refine W.pure rfl (wo rfl) rfl rfl (p_pick_true rfl rfl rfl) (nf rfl) ?_
                refine W.pure rfl (wo rfl) rfl rfl (p_move rfl rfl) (nf rfl) ?_
                refine W.pure rfl (wo rfl) rfl rfl (p_move rfl rfl) (nf rfl) ?_
                refine W.pure rfl (wo rfl) rfl rfl (p_move rfl rfl) (nf rfl) ?_
                refine W.pure rfl (wo rfl) rfl rfl (p_move rfl rfl) (nf rfl) ?_
                refine W.pure rfl (wo rfl) rfl rfl (p_move rfl rfl) (nf rfl) ?_
                refine W.c11 rfl (wo rfl) rfl rfl rfl (tEdit x5 _ _ _ (pairE _) (by rw [editK_late]; omega)) (en30 _) rfl rfl rfl (args_val rfl) ?_
                intro x8
                refine W.quiet rfl (wo rfl) rfl rfl (f_callR rfl rfl (args_val rfl) (en12 _) (fun w2 hc2 => num_ok w2 _)) (nf rfl) ?_
                refine W.pure rfl (wo rfl) rfl rfl (pT (by rw [hE, hE2]; rfl) (p_eql rfl rfl rfl)) (nf rfl) ?_
                refine W.pure rfl (wo rfl) rfl rfl (p_pick_true rfl rfl rfl) (nf rfl) ?_
                refine W.pure rfl (wo rfl) rfl rfl (p_move rfl rfl) (nf rfl) ?_
                refine W.pure rfl (wo rfl) rfl rfl (p_move rfl rfl) (nf rfl) ?_
                refine W.pure rfl (wo rfl) rfl rfl (p_move rfl rfl) (nf rfl) ?_
                refine W.f1 rfl ?_
                refine W.f1 rfl ?_
                refine W.c22 rfl (wo rfl) rfl rfl rfl (tSame x8 x4 (by rw [editK_late, editK_late]; omega) (by omega) (by rw [editK_n, editK_n]; omega) (r := true) (by rw [hE, hE2]; exact sameK_of rfl fun i => rd_twice x hbd n a z i (by omega) (by omega))) (en29 _) rfl rfl rfl (args_val rfl) ?_
                intro _
                refine W.pure rfl (wo rfl) rfl rfl (p_pick_true rfl rfl rfl) (nf rfl) ?_
                refine W.pure rfl (wo rfl) rfl rfl (p_move rfl rfl) (nf rfl) ?_
                refine W.quiet rfl (wo rfl) rfl rfl (f_callR rfl rfl (args_val (vs := []) rfl) (en10 _) (fun w2 hc2 => known_ok w2)) (nf rfl) ?_
                refine W.pure rfl (wo rfl) rfl rfl (p_pick_true rfl rfl rfl) (nf rfl) ?_
                refine W.pure rfl (wo rfl) rfl rfl (p_assign rfl rfl) (nf rfl) ?_
                refine W.doneQ (y := sub [1, 1, 1, 1, 1, 1, 1, 1, 1, 1] B8) rfl ?_
                exact C.ret (R := fun e w' => e = .returned (.bool true) ∧ Below w.heap.size w w') (rs := [.tmp 10]) (vs := [.bool true]) rfl Try.func8 rfl rfl rfl (res_cons (ResV.tmp rfl) res_nil) fun w1 hc1 => ⟨rfl, hc1.toBelow⟩

end Go.Proofs.Ytjomnicfcdkfdaa
