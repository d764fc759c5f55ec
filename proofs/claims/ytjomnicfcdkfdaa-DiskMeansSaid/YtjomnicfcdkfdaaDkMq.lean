import Derived.Test.YtjomnicfcdkfdaaDkMp
namespace Go.Proofs.Ytjomnicfcdkfdaa
open Go Go.HW Go.RowKit
set_option linter.unusedVariables false
set_option linter.unusedSimpArgs false

structure MSt where
  k : Nat
  s : Dk
  r : Rk
  x : Dx s
  y : Rx r
structure ZTorn (s : Dk) (torn j : Nat) : Prop where
  le : torn ≤ 1
  at1 : torn = 1 → ∃ last, s.late[s.late.length - 1]? = some last ∧ last.1 < (j : Int)
theorem ZTorn.up {s : Dk} {torn j : Nat} (h : ZTorn s torn j) : ZTorn s torn (j + 1) := ⟨h.le, fun e => by
  obtain ⟨last, h1, h2⟩ := h.at1 e
  exact ⟨last, h1, by omega⟩⟩
theorem ZTorn.more {s : Dk} {torn j : Nat} (h : ZTorn s torn j) {b : List Int} {last : Wr} {t : Nat} {prev : List Int} (hT : TornAt s (j : Int) b last t prev) : ZTorn s (torn + 1) (j + 1) := by
  have h0 : torn = 0 := by
    have := h.le
    rcases Nat.eq_zero_or_pos torn with h0 | h0
    · exact h0
    · exfalso
      obtain ⟨l2, h1, h2⟩ := h.at1 (by omega)
      rw [hT.hl] at h1; cases h1
      have := hT.hn; omega
  subst h0
  exact ⟨by omega, fun _ => ⟨last, hT.hl, by have := hT.hn; omega⟩⟩
theorem torn_of {s : Dk} (x : Dx s) (picks : List Int) {j : Int} (h : (¬ bytesL (mget s.set j) = bytesL (rd (crashK s picks) j)) ∧ ∀ w ∈ s.late, w.1 = j → ¬ bytesL w.2 = bytesL (rd (crashK s picks) j)) : ∃ last t prev, TornAt s j (rd (crashK s picks) j) last t prev := by
  rcases cr_end x.2.hs (late_full x) picks j with h1 | h1
  · exfalso
    rcases h1 with e | ⟨w, hw, e1, e2⟩
    · exact h.1 (by rw [show rd (crashK s picks) j = mget (crK s picks s.late.length) j from rfl, e])
    · exact h.2 w (List.mem_of_mem_take hw) e1 (by rw [show rd (crashK s picks) j = mget (crK s picks s.late.length) j from rfl, e2])
  · exact h1
theorem i_ldK {S : Slots} {I : Mem} {o : Oper} {v : Value} {xs : List Stp} {j : Nat} {z : Stp} (hj : xs[j]? = some z) {pv : Value} (hpv : ∃ cs, RowV I v 5 xs.length cs ∧ chunk cs 5 j = stc z pv) {x : Operand} (ho : o.op = .load 3 x) (hx : ev S x = some (elp v (j * 5 + 0))) : FImm Try.prog o I S (.int .i64 z.kind) := by
  obtain ⟨cs, h1, h2⟩ := hpv
  exact i_loadEl h1 (by have : (chunk cs 5 j)[0]? = some (.int .i64 z.kind) := by rw [h2]; rfl
                        exact chunk_get this) ta3 ho hx

noncomputable def B5 : Code := bodyOf Try.f5
theorem means_ok {w : World} {lv pv : Value} {l : List Stp} {ps : List Int} (hr : RowS ShStp (heapOf w) lv l) (hln : ∀ z ∈ l, z.n ≤ 9223372036854775807) (hpv : IntRow (heapOf w) .i64 pv ps) (n : Int) : Calls Try.prog 5 #[.int .i64 n, lv, pv] w (fun e w' => e = .returned (.bool true) ∧ Below w.heap.size w w') := by
  refine calls_of_CW (N := 114) Try.func5 (show _ = some B5 by kernel_rfl) (by kernel_rfl) rfl (S := [(0, .int .i64 n), (1, lv), (2, pv)]) (by simp) (clsStart w) ?_
  show CW _ _ _ (sub [] B5) _ _ _
  refine C.seq (x := sub [0] B5) (y := sub [1] B5) ?_
  refine C.region (id := 0) (m := 1) (ops := opsOf (sub [0] B5)) rfl ?_
  refine W.pure rfl (wo rfl) rfl rfl (p_assign rfl rfl) (nf rfl) ?_
  refine W.doneQ (y := sub [1] B5) rfl ?_
  refine C.seq (x := sub [1, 0] B5) (y := sub [1, 1] B5) ?_
  refine C.seq (x := sub [1, 0, 0] B5) (y := sub [1, 0, 1] B5) ?_
  refine C.region (id := 1) (m := 2) (ops := opsOf (sub [1, 0, 0] B5)) rfl ?_
  refine W.quiet rfl (wo rfl) rfl rfl (f_callR rfl rfl (args_val (vs := []) rfl) (en10 _) (fun w2 hc2 => known_ok w2)) (nf rfl) ?_
  refine W.pure rfl (wo rfl) rfl rfl (p_not rfl rfl) (nf rfl) ?_
  refine W.doneQ (y := sub [1, 0, 1] B5) rfl ?_
  refine C.cond_false (x := sub [1, 0, 1, 0] B5) (y := sub [1, 0, 1, 1] B5) rfl rfl ?_
  refine C.skipQ (y := sub [1, 1] B5) rfl ?_
  refine C.seq (x := sub [1, 1, 0] B5) (y := sub [1, 1, 1] B5) ?_
  refine C.seq (x := sub [1, 1, 0, 0] B5) (y := sub [1, 1, 0, 1] B5) ?_
  refine C.region (id := 3) (m := 15) (ops := opsOf (sub [1, 1, 0, 0] B5)) rfl ?_
  refine W.pure rfl (wo rfl) rfl rfl (p_move rfl rfl) (nf rfl) ?_
  refine W.cq rfl (wo rfl) rfl rfl (fun w2 hc2 => much_ok (M := heapOf w) (most := 80) hc2.imm (hr) (by decide)) (en21 _) rfl rfl rfl (args_val rfl) ?_
  intro mr
  by_cases hm : mr.1 = true
  · refine W.pure rfl (wo rfl) rfl rfl (pT (hm) (p_move rfl rfl)) (nf rfl) ?_
    refine W.not rfl (wo rfl) rfl rfl ?_
    refine W.not rfl (wo rfl) rfl rfl ?_
    refine W.pure rfl (wo rfl) rfl rfl (p_pick_true rfl rfl rfl) (nf rfl) ?_
    refine W.pure rfl (wo rfl) rfl rfl (p_move rfl rfl) (nf rfl) ?_
    refine W.not rfl (wo rfl) rfl rfl ?_
    refine W.not rfl (wo rfl) rfl rfl ?_
    refine W.pure rfl (wo rfl) rfl rfl (p_pick_true rfl rfl rfl) (nf rfl) ?_
    refine W.pure rfl (wo rfl) rfl rfl (p_move rfl rfl) (nf rfl) ?_
    refine W.not rfl (wo rfl) rfl rfl ?_
    refine W.not rfl (wo rfl) rfl rfl ?_
    refine W.not rfl (wo rfl) rfl rfl ?_
    refine W.pure rfl (wo rfl) rfl rfl (p_pick_true rfl rfl rfl) (nf rfl) ?_
    refine W.doneQ (y := sub [1, 1, 0, 1] B5) rfl ?_
    refine C.cond_true (x := sub [1, 1, 0, 1, 0] B5) (y := sub [1, 1, 0, 1, 1] B5) rfl rfl ?_
    refine C.seq (x := sub [1, 1, 0, 1, 0, 0] B5) (y := sub [1, 1, 0, 1, 0, 1] B5) ?_
    refine C.region (id := 4) (m := 1) (ops := opsOf (sub [1, 1, 0, 1, 0, 0] B5)) rfl ?_
    refine W.pure rfl (wo rfl) rfl rfl (p_assign rfl rfl) (nf rfl) ?_
    refine W.doneQ (y := sub [1, 1, 0, 1, 0, 1] B5) rfl ?_
    exact C.ret (R := fun e w' => e = .returned (.bool true) ∧ Below w.heap.size w w') (rs := [.tmp 6]) (vs := [.bool true]) rfl Try.func5 rfl rfl rfl (res_cons (ResV.tmp rfl) res_nil) fun w1 hc1 => ⟨rfl, hc1.toBelow⟩
  · refine W.pure rfl (wo rfl) rfl rfl (pF (by simpa using hm) (p_move rfl rfl)) (nf rfl) ?_
    refine W.pure rfl (wo rfl) rfl rfl (p_move rfl rfl) (nf rfl) ?_
    by_cases h0 : n < 1
    · refine W.pure rfl (wo rfl) rfl rfl (pT (decide_eq_true h0) (p_lss rfl rfl rfl)) (nf rfl) ?_
      refine W.pure rfl (wo rfl) rfl rfl (p_pick_false rfl rfl rfl) (nf rfl) ?_
      refine W.pure rfl (wo rfl) rfl rfl (p_move rfl rfl) (nf rfl) ?_
      refine W.not rfl (wo rfl) rfl rfl ?_
      refine W.not rfl (wo rfl) rfl rfl ?_
      refine W.pure rfl (wo rfl) rfl rfl (p_pick_true rfl rfl rfl) (nf rfl) ?_
      refine W.pure rfl (wo rfl) rfl rfl (p_move rfl rfl) (nf rfl) ?_
      refine W.not rfl (wo rfl) rfl rfl ?_
      refine W.not rfl (wo rfl) rfl rfl ?_
      refine W.not rfl (wo rfl) rfl rfl ?_
      refine W.pure rfl (wo rfl) rfl rfl (p_pick_true rfl rfl rfl) (nf rfl) ?_
      refine W.doneQ (y := sub [1, 1, 0, 1] B5) rfl ?_
      refine C.cond_true (x := sub [1, 1, 0, 1, 0] B5) (y := sub [1, 1, 0, 1, 1] B5) rfl rfl ?_
      refine C.seq (x := sub [1, 1, 0, 1, 0, 0] B5) (y := sub [1, 1, 0, 1, 0, 1] B5) ?_
      refine C.region (id := 4) (m := 1) (ops := opsOf (sub [1, 1, 0, 1, 0, 0] B5)) rfl ?_
      refine W.pure rfl (wo rfl) rfl rfl (p_assign rfl rfl) (nf rfl) ?_
      refine W.doneQ (y := sub [1, 1, 0, 1, 0, 1] B5) rfl ?_
      exact C.ret (R := fun e w' => e = .returned (.bool true) ∧ Below w.heap.size w w') (rs := [.tmp 6]) (vs := [.bool true]) rfl Try.func5 rfl rfl rfl (res_cons (ResV.tmp rfl) res_nil) fun w1 hc1 => ⟨rfl, hc1.toBelow⟩
    · refine W.pure rfl (wo rfl) rfl rfl (pF (decide_eq_false h0) (p_lss rfl rfl rfl)) (nf rfl) ?_
      refine W.pure rfl (wo rfl) rfl rfl (p_pick_false rfl rfl rfl) (nf rfl) ?_
      refine W.pure rfl (wo rfl) rfl rfl (p_move rfl rfl) (nf rfl) ?_
      refine W.pure rfl (wo rfl) rfl rfl (p_move rfl rfl) (nf rfl) ?_
      by_cases h1 : 40 < n
      · refine W.pure rfl (wo rfl) rfl rfl (pT (decide_eq_true h1) (p_gtr rfl rfl rfl)) (nf rfl) ?_
        refine W.pure rfl (wo rfl) rfl rfl (p_pick_false rfl rfl rfl) (nf rfl) ?_
        refine W.pure rfl (wo rfl) rfl rfl (p_move rfl rfl) (nf rfl) ?_
        refine W.not rfl (wo rfl) rfl rfl ?_
        refine W.not rfl (wo rfl) rfl rfl ?_
        refine W.not rfl (wo rfl) rfl rfl ?_
        refine W.pure rfl (wo rfl) rfl rfl (p_pick_true rfl rfl rfl) (nf rfl) ?_
        refine W.doneQ (y := sub [1, 1, 0, 1] B5) rfl ?_
        refine C.cond_true (x := sub [1, 1, 0, 1, 0] B5) (y := sub [1, 1, 0, 1, 1] B5) rfl rfl ?_
        refine C.seq (x := sub [1, 1, 0, 1, 0, 0] B5) (y := sub [1, 1, 0, 1, 0, 1] B5) ?_
        refine C.region (id := 4) (m := 1) (ops := opsOf (sub [1, 1, 0, 1, 0, 0] B5)) rfl ?_
        refine W.pure rfl (wo rfl) rfl rfl (p_assign rfl rfl) (nf rfl) ?_
        refine W.doneQ (y := sub [1, 1, 0, 1, 0, 1] B5) rfl ?_
        exact C.ret (R := fun e w' => e = .returned (.bool true) ∧ Below w.heap.size w w') (rs := [.tmp 6]) (vs := [.bool true]) rfl Try.func5 rfl rfl rfl (res_cons (ResV.tmp rfl) res_nil) fun w1 hc1 => ⟨rfl, hc1.toBelow⟩
      · refine W.pure rfl (wo rfl) rfl rfl (pF (decide_eq_false h1) (p_gtr rfl rfl rfl)) (nf rfl) ?_
        refine W.pure rfl (wo rfl) rfl rfl (p_pick_false rfl rfl rfl) (nf rfl) ?_
        refine W.pure rfl (wo rfl) rfl rfl (p_move rfl rfl) (nf rfl) ?_
        refine W.pure rfl (wo rfl) rfl rfl (p_move rfl rfl) (nf rfl) ?_
        refine W.pure rfl (wo rfl) rfl rfl (p_slLen tu22 (row_sl hpv) rfl rfl) (nf rfl) ?_
        by_cases h2 : 1000 < (ps.length : Int)
        · refine W.pure rfl (wo rfl) rfl rfl (pT (decide_eq_true h2) (p_gtr rfl rfl rfl)) (nf rfl) ?_
          refine W.pure rfl (wo rfl) rfl rfl (p_pick_false rfl rfl rfl) (nf rfl) ?_
          refine W.doneQ (y := sub [1, 1, 0, 1] B5) rfl ?_
          refine C.cond_true (x := sub [1, 1, 0, 1, 0] B5) (y := sub [1, 1, 0, 1, 1] B5) rfl rfl ?_
          refine C.seq (x := sub [1, 1, 0, 1, 0, 0] B5) (y := sub [1, 1, 0, 1, 0, 1] B5) ?_
          refine C.region (id := 4) (m := 1) (ops := opsOf (sub [1, 1, 0, 1, 0, 0] B5)) rfl ?_
          refine W.pure rfl (wo rfl) rfl rfl (p_assign rfl rfl) (nf rfl) ?_
          refine W.doneQ (y := sub [1, 1, 0, 1, 0, 1] B5) rfl ?_
          exact C.ret (R := fun e w' => e = .returned (.bool true) ∧ Below w.heap.size w w') (rs := [.tmp 6]) (vs := [.bool true]) rfl Try.func5 rfl rfl rfl (res_cons (ResV.tmp rfl) res_nil) fun w1 hc1 => ⟨rfl, hc1.toBelow⟩
        · refine W.pure rfl (wo rfl) rfl rfl (pF (decide_eq_false h2) (p_gtr rfl rfl rfl)) (nf rfl) ?_
          refine W.pure rfl (wo rfl) rfl rfl (p_pick_false rfl rfl rfl) (nf rfl) ?_
          refine W.doneQ (y := sub [1, 1, 0, 1] B5) rfl ?_
          refine C.cond_false (x := sub [1, 1, 0, 1, 0] B5) (y := sub [1, 1, 0, 1, 1] B5) rfl rfl ?_
          refine C.skipQ (y := sub [1, 1, 1] B5) rfl ?_
          refine C.seq (x := sub [1, 1, 1, 0] B5) (y := sub [1, 1, 1, 1] B5) ?_
          obtain ⟨m, rfl⟩ : ∃ m : Nat, n = (m : Int) := ⟨n.toNat, by omega⟩
          refine C.region (id := 5) (m := 7) (ops := opsOf (sub [1, 1, 1, 0] B5)) rfl ?_
          refine W.pure rfl (wo rfl) rfl rfl (p_move rfl rfl) (nf rfl) ?_
          have hlen := mr.2 (by simpa using hm)
          refine W.c01 rfl (wo rfl) rfl rfl (tNew _ (by omega) (by omega)) (en11 _) rfl rfl rfl (args_val rfl) ?_
          intro p1
          refine W.pure rfl (wo rfl) rfl rfl (p_move rfl rfl) (nf rfl) ?_
          refine W.pure rfl (wo rfl) rfl rfl (p_extract rfl rfl rfl) (nf rfl) ?_
          refine W.pure rfl (wo rfl) rfl rfl (p_extract rfl rfl rfl) (nf rfl) ?_
          refine W.pure rfl (wo rfl) rfl rfl (p_assign rfl rfl) (nf rfl) ?_
          refine W.pure rfl (wo rfl) rfl rfl (p_assign rfl rfl) (nf rfl) ?_
          refine W.doneQ (y := sub [1, 1, 1, 1] B5) rfl ?_
          refine C.seq (x := sub [1, 1, 1, 1, 0] B5) (y := sub [1, 1, 1, 1, 1] B5) ?_
          refine C.region (id := 6) (m := 3) (ops := opsOf (sub [1, 1, 1, 1, 0] B5)) rfl ?_
          refine W.pure rfl (wo rfl) rfl rfl (p_move rfl rfl) (nf rfl) ?_
          refine W.c01 rfl (wo rfl) rfl rfl (rNew _ (by omega)) (en22 _) rfl rfl rfl (args_val rfl) ?_
          intro ⟨p2, x3⟩
          refine W.pure rfl (wo rfl) rfl rfl (p_assign rfl rfl) (nf rfl) ?_
          refine W.doneQ (y := sub [1, 1, 1, 1, 1] B5) rfl ?_
          refine C.seq (x := sub [1, 1, 1, 1, 1, 0] B5) (y := sub [1, 1, 1, 1, 1, 1] B5) ?_
          refine C.seq (x := sub [1, 1, 1, 1, 1, 0, 0] B5) (y := sub [1, 1, 1, 1, 1, 0, 1] B5) ?_
          refine C.region (id := 7) (m := 2) (ops := opsOf (sub [1, 1, 1, 1, 1, 0, 0] B5)) rfl ?_
          refine W.pure rfl (wo rfl) rfl rfl (p_move rfl rfl) (nf rfl) ?_
          refine W.pure rfl (wo rfl) rfl rfl (p_eqNilP (fun b w => by kernel_rfl) (fun b w => by kernel_rfl) rfl rfl rfl) (nf rfl) ?_
          refine W.doneQ (y := sub [1, 1, 1, 1, 1, 0, 1] B5) rfl ?_
          refine C.cond_false (x := sub [1, 1, 1, 1, 1, 0, 1, 0] B5) (y := sub [1, 1, 1, 1, 1, 0, 1, 1] B5) rfl rfl ?_
          refine C.skipQ (y := sub [1, 1, 1, 1, 1, 1] B5) rfl ?_
          refine C.seq (x := sub [1, 1, 1, 1, 1, 1, 0] B5) (y := sub [1, 1, 1, 1, 1, 1, 1] B5) ?_
          refine C.seq (x := sub [1, 1, 1, 1, 1, 1, 0, 0] B5) (y := sub [1, 1, 1, 1, 1, 1, 0, 1] B5) ?_
          refine C.region (id := 9) (m := 1) (ops := opsOf (sub [1, 1, 1, 1, 1, 1, 0, 0] B5)) rfl ?_
          refine W.pure rfl (wo rfl) rfl rfl (p_assign rfl rfl) (nf rfl) ?_
          refine W.doneQ (y := sub [1, 1, 1, 1, 1, 1, 0, 1] B5) rfl ?_
          refine C.f1 rfl ?_
          refine C.loopB (id := 0) (c := sub [1, 1, 1, 1, 1, 1, 0, 1, 0, 0] B5) (y := sub [1, 1, 1, 1, 1, 1, 1] B5) (α := MSt) (fun q => l.length - q.k) (fun q => [(0, .int .i64 (m : Int)), (1, lv), (2, pv), (7, ptr p1.1 0), (9, ptr p2 0), (10, .int .i64 (q.k : Int))]) (fun q => dX p1.1 p1.2 q.x ++ (rX p2 q.y ++ [])) (fun q => q.k ≤ l.length ∧ q.s.late.length ≤ q.k ∧ q.s.n = m ∧ Sim q.s q.r) ⟨0, _, _, (x0 _), x3⟩ ⟨Nat.zero_le _, by simp [newK], rfl, sim_new m⟩ (Sub.cons rfl (Sub.cons rfl (Sub.cons rfl (Sub.cons rfl (Sub.cons rfl (Sub.cons rfl (Sub.nil _))))))) rfl rfl (fun q => True) ?_ ?_
          · rintro ⟨k, s, r, x, y⟩ ⟨(hk : k ≤ l.length), (hsl : s.late.length ≤ k), (hn : s.n = m), (hs : Sim s r)⟩ Q' hN hE hR
            show CW _ _ _ _ _ [(0, .int .i64 (m : Int)), (1, lv), (2, pv), (7, ptr p1.1 0), (9, ptr p2 0), (10, .int .i64 (k : Int))] (dX p1.1 p1.2 x ++ (rX p2 y ++ []))
            by_cases hlt : k < l.length
            · obtain ⟨z, hz⟩ : ∃ z, l[k]? = some z := ⟨_, List.getElem?_eq_getElem hlt⟩
              have hzn := hln z (List.mem_of_getElem? hz)
              obtain ⟨pz, hpz, hcs⟩ := stp_at hr hz
              refine C.seq (x := sub [1, 1, 1, 1, 1, 1, 0, 1, 0, 0, 0] B5) (y := sub [1, 1, 1, 1, 1, 1, 0, 1, 0, 0, 1] B5) ?_
              refine C.seq (x := sub [1, 1, 1, 1, 1, 1, 0, 1, 0, 0, 0, 0] B5) (y := sub [1, 1, 1, 1, 1, 1, 0, 1, 0, 0, 0, 1] B5) ?_
              refine C.region (id := 10) (m := 4) (ops := opsOf (sub [1, 1, 1, 1, 1, 1, 0, 1, 0, 0, 0, 0] B5)) rfl ?_
              refine W.pure rfl (wo rfl) rfl rfl (p_move rfl rfl) (nf rfl) ?_
              refine W.pure rfl (wo rfl) rfl rfl (p_move rfl rfl) (nf rfl) ?_
              refine W.pure rfl (wo rfl) rfl rfl (p_slLen tu41 (RowS.sl hr) rfl rfl) (nf rfl) ?_
              refine W.pure rfl (wo rfl) rfl rfl (pT (decide_eq_true (by omega)) (p_lss rfl rfl rfl)) (nf rfl) ?_
              refine W.doneQ (y := sub [1, 1, 1, 1, 1, 1, 0, 1, 0, 0, 0, 1] B5) rfl ?_
              refine C.cond_true (x := sub [1, 1, 1, 1, 1, 1, 0, 1, 0, 0, 0, 1, 0] B5) (y := sub [1, 1, 1, 1, 1, 1, 0, 1, 0, 0, 0, 1, 1] B5) rfl rfl ?_
              refine C.skipQ (y := sub [1, 1, 1, 1, 1, 1, 0, 1, 0, 0, 1] B5) rfl ?_
              refine C.seq (x := sub [1, 1, 1, 1, 1, 1, 0, 1, 0, 0, 1, 0] B5) (y := sub [1, 1, 1, 1, 1, 1, 0, 1, 0, 0, 1, 1] B5) ?_
              refine C.block (id := 1) (c := sub [1, 1, 1, 1, 1, 1, 0, 1, 0, 0, 1, 0, 0] B5) ?_
              refine C.seq (x := sub [1, 1, 1, 1, 1, 1, 0, 1, 0, 0, 1, 0, 0, 0] B5) (y := sub [1, 1, 1, 1, 1, 1, 0, 1, 0, 0, 1, 0, 0, 1] B5) ?_
              refine C.seq (x := sub [1, 1, 1, 1, 1, 1, 0, 1, 0, 0, 1, 0, 0, 0, 0] B5) (y := sub [1, 1, 1, 1, 1, 1, 0, 1, 0, 0, 1, 0, 0, 0, 1] B5) ?_
              refine C.region (id := 12) (m := 14) (ops := opsOf (sub [1, 1, 1, 1, 1, 1, 0, 1, 0, 0, 1, 0, 0, 0, 0] B5)) rfl ?_
              refine W.pure rfl (wo rfl) rfl rfl (p_move rfl rfl) (nf rfl) ?_
              refine W.pure rfl (wo rfl) rfl rfl (p_move rfl rfl) (nf rfl) ?_
              refine W.pure rfl (wo rfl) rfl rfl (p_ixS hr hlt tu41 ts46 rfl rfl rfl) (nf rfl) ?_
              refine W.pure rfl (wo rfl) rfl rfl (p_fieldEl (row_plain hr hlt) tf46_0 rfl rfl) (nf rfl) ?_
              refine W.imm rfl (wo rfl) rfl rfl (i_ldK hz hcs rfl rfl) (nf rfl) ?_
              by_cases k4 : z.kind = 4
              · refine W.pure rfl (wo rfl) rfl rfl (pT (by simpa using k4) (p_eql rfl rfl rfl)) (nf rfl) ?_
                refine W.pure rfl (wo rfl) rfl rfl (p_move rfl rfl) (nf rfl) ?_
                refine W.not rfl (wo rfl) rfl rfl ?_
                refine W.not rfl (wo rfl) rfl rfl ?_
                refine W.not rfl (wo rfl) rfl rfl ?_
                refine W.not rfl (wo rfl) rfl rfl ?_
                refine W.not rfl (wo rfl) rfl rfl ?_
                refine W.not rfl (wo rfl) rfl rfl ?_
                refine W.pure rfl (wo rfl) rfl rfl (p_pick_true rfl rfl rfl) (nf rfl) ?_
                refine W.doneQ (y := sub [1, 1, 1, 1, 1, 1, 0, 1, 0, 0, 1, 0, 0, 0, 1] B5) rfl ?_
                refine C.cond_true (x := sub [1, 1, 1, 1, 1, 1, 0, 1, 0, 0, 1, 0, 0, 0, 1, 0] B5) (y := sub [1, 1, 1, 1, 1, 1, 0, 1, 0, 0, 1, 0, 0, 0, 1, 1] B5) rfl rfl ?_
                refine C.seq (x := sub [1, 1, 1, 1, 1, 1, 0, 1, 0, 0, 1, 0, 0, 0, 1, 0, 0] B5) (y := sub [1, 1, 1, 1, 1, 1, 0, 1, 0, 0, 1, 0, 0, 0, 1, 0, 1] B5) ?_
                refine C.region (id := 13) (m := 1) (ops := opsOf (sub [1, 1, 1, 1, 1, 1, 0, 1, 0, 0, 1, 0, 0, 0, 1, 0, 0] B5)) rfl ?_
                refine W.pure rfl (wo rfl) rfl rfl (p_assign rfl rfl) (nf rfl) ?_
                refine W.doneQ (y := sub [1, 1, 1, 1, 1, 1, 0, 1, 0, 0, 1, 0, 0, 0, 1, 0, 1] B5) rfl ?_
                exact C.retL (R := fun e w' => e = .returned (.bool true) ∧ Below w.heap.size w w') (rs := [.tmp 6]) (vs := [.bool true]) (fun a w h => hR a w h) Try.func5 rfl rfl rfl (res_cons (ResV.tmp rfl) res_nil) fun w1 hc1 => ⟨rfl, hc1.toBelow⟩
              · refine W.pure rfl (wo rfl) rfl rfl (pF (by simpa using k4) (p_eql rfl rfl rfl)) (nf rfl) ?_
                refine W.pure rfl (wo rfl) rfl rfl (p_move rfl rfl) (nf rfl) ?_
                refine W.pure rfl (wo rfl) rfl rfl (p_move rfl rfl) (nf rfl) ?_
                refine W.pure rfl (wo rfl) rfl rfl (p_move rfl rfl) (nf rfl) ?_
                refine W.pure rfl (wo rfl) rfl rfl (p_ixS hr hlt tu41 ts46 rfl rfl rfl) (nf rfl) ?_
                refine W.pure rfl (wo rfl) rfl rfl (p_fieldEl (row_plain hr hlt) tf46_0 rfl rfl) (nf rfl) ?_
                refine W.imm rfl (wo rfl) rfl rfl (i_ldK hz hcs rfl rfl) (nf rfl) ?_
                by_cases k5 : z.kind = 5
                · refine W.pure rfl (wo rfl) rfl rfl (pT (by simpa using k5) (p_eql rfl rfl rfl)) (nf rfl) ?_
                  refine W.pure rfl (wo rfl) rfl rfl (p_pick_false rfl rfl rfl) (nf rfl) ?_
                  refine W.doneQ (y := sub [1, 1, 1, 1, 1, 1, 0, 1, 0, 0, 1, 0, 0, 0, 1] B5) rfl ?_
                  refine C.cond_true (x := sub [1, 1, 1, 1, 1, 1, 0, 1, 0, 0, 1, 0, 0, 0, 1, 0] B5) (y := sub [1, 1, 1, 1, 1, 1, 0, 1, 0, 0, 1, 0, 0, 0, 1, 1] B5) rfl rfl ?_
                  refine C.seq (x := sub [1, 1, 1, 1, 1, 1, 0, 1, 0, 0, 1, 0, 0, 0, 1, 0, 0] B5) (y := sub [1, 1, 1, 1, 1, 1, 0, 1, 0, 0, 1, 0, 0, 0, 1, 0, 1] B5) ?_
                  refine C.region (id := 13) (m := 1) (ops := opsOf (sub [1, 1, 1, 1, 1, 1, 0, 1, 0, 0, 1, 0, 0, 0, 1, 0, 0] B5)) rfl ?_
                  refine W.pure rfl (wo rfl) rfl rfl (p_assign rfl rfl) (nf rfl) ?_
                  refine W.doneQ (y := sub [1, 1, 1, 1, 1, 1, 0, 1, 0, 0, 1, 0, 0, 0, 1, 0, 1] B5) rfl ?_
                  exact C.retL (R := fun e w' => e = .returned (.bool true) ∧ Below w.heap.size w w') (rs := [.tmp 6]) (vs := [.bool true]) (fun a w h => hR a w h) Try.func5 rfl rfl rfl (res_cons (ResV.tmp rfl) res_nil) fun w1 hc1 => ⟨rfl, hc1.toBelow⟩
                · refine W.pure rfl (wo rfl) rfl rfl (pF (by simpa using k5) (p_eql rfl rfl rfl)) (nf rfl) ?_
                  refine W.pure rfl (wo rfl) rfl rfl (p_pick_false rfl rfl rfl) (nf rfl) ?_
                  refine W.doneQ (y := sub [1, 1, 1, 1, 1, 1, 0, 1, 0, 0, 1, 0, 0, 0, 1] B5) rfl ?_
                  refine C.cond_false (x := sub [1, 1, 1, 1, 1, 1, 0, 1, 0, 0, 1, 0, 0, 0, 1, 0] B5) (y := sub [1, 1, 1, 1, 1, 1, 0, 1, 0, 0, 1, 0, 0, 0, 1, 1] B5) rfl rfl ?_
                  refine C.skipQ (y := sub [1, 1, 1, 1, 1, 1, 0, 1, 0, 0, 1, 0, 0, 1] B5) rfl ?_
                  refine C.seq (x := sub [1, 1, 1, 1, 1, 1, 0, 1, 0, 0, 1, 0, 0, 1, 0] B5) (y := sub [1, 1, 1, 1, 1, 1, 0, 1, 0, 0, 1, 0, 0, 1, 1] B5) ?_
                  refine C.region (id := 14) (m := 6) (ops := opsOf (sub [1, 1, 1, 1, 1, 1, 0, 1, 0, 0, 1, 0, 0, 1, 0] B5)) rfl ?_
                  refine W.pure rfl (wo rfl) rfl rfl (p_move rfl rfl) (nf rfl) ?_
                  refine W.pure rfl (wo rfl) rfl rfl (p_move rfl rfl) (nf rfl) ?_
                  refine W.pure rfl (wo rfl) rfl rfl (p_move rfl rfl) (nf rfl) ?_
                  refine W.pure rfl (wo rfl) rfl rfl (p_ixS hr hlt tu41 ts46 rfl rfl rfl) (nf rfl) ?_
                  refine W.imm rfl (wo rfl) rfl rfl (i_ldS hr hz hcs ta46 ts46 rfl rfl) (nf rfl) ?_
                  refine W.c11 rfl (wo rfl) rfl rfl rfl (tDo x (hpz) (pairE _) (by omega)) (en23 _) rfl rfl rfl (args_val rfl) ?_
                  intro x4
                  refine W.doneQ (y := sub [1, 1, 1, 1, 1, 1, 0, 1, 0, 0, 1, 0, 0, 1, 1] B5) rfl ?_
                  refine C.region (id := 15) (m := 6) (ops := opsOf (sub [1, 1, 1, 1, 1, 1, 0, 1, 0, 0, 1, 0, 0, 1, 1] B5)) rfl ?_
                  refine W.pure rfl (wo rfl) rfl rfl (p_move rfl rfl) (nf rfl) ?_
                  refine W.pure rfl (wo rfl) rfl rfl (p_move rfl rfl) (nf rfl) ?_
                  refine W.pure rfl (wo rfl) rfl rfl (p_move rfl rfl) (nf rfl) ?_
                  refine W.pure rfl (wo rfl) rfl rfl (p_ixS hr hlt tu41 ts46 rfl rfl rfl) (nf rfl) ?_
                  refine W.imm rfl (wo rfl) rfl rfl (i_ldS hr hz hcs ta46 ts46 rfl rfl) (nf rfl) ?_
                  refine W.f1 rfl ?_
                  refine W.c11 rfl (wo rfl) rfl rfl rfl (rDo y (hpz) (pairE _) (by rw [hs.L]; omega)) (en24 _) rfl rfl rfl (args_val rfl) ?_
                  intro x5
                  refine W.doneQ (y := sub [1, 1, 1, 1, 1, 1, 0, 1, 0, 0, 1, 1] B5) rfl ?_
                  refine C.region (id := 11) (m := 3) (ops := opsOf (sub [1, 1, 1, 1, 1, 1, 0, 1, 0, 0, 1, 1] B5)) rfl ?_
                  refine W.pure rfl (wo rfl) rfl rfl (p_move rfl rfl) (nf rfl) ?_
                  refine W.pure rfl (wo rfl) rfl rfl (pI (wk (by omega)) (p_add rfl rfl rfl)) (nf rfl) ?_
                  refine W.pure rfl (wo rfl) rfl rfl (p_assign rfl rfl) (nf rfl) ?_
                  refine W.f1 rfl ?_
                  refine W.end' fun a1 w1 ha1 hc1 => hN ⟨k + 1, _, _, x4, x5⟩ ⟨(by show k + 1 ≤ _; omega), (by have := doK_late s z; show (doK s z).2.late.length ≤ k + 1; omega), (by show (doK s z).2.n = m; rw [doK_n]; exact hn), (sim_do hs z hzn).2⟩ (show l.length - (k + 1) < l.length - k by omega) a1 w1 (ha1.sub (Sub.cons rfl (Sub.cons rfl (Sub.cons rfl (Sub.cons rfl (Sub.cons rfl (Sub.cons rfl (Sub.nil _)))))))) hc1
            · refine C.seq (x := sub [1, 1, 1, 1, 1, 1, 0, 1, 0, 0, 0] B5) (y := sub [1, 1, 1, 1, 1, 1, 0, 1, 0, 0, 1] B5) ?_
              refine C.seq (x := sub [1, 1, 1, 1, 1, 1, 0, 1, 0, 0, 0, 0] B5) (y := sub [1, 1, 1, 1, 1, 1, 0, 1, 0, 0, 0, 1] B5) ?_
              refine C.region (id := 10) (m := 4) (ops := opsOf (sub [1, 1, 1, 1, 1, 1, 0, 1, 0, 0, 0, 0] B5)) rfl ?_
              refine W.pure rfl (wo rfl) rfl rfl (p_move rfl rfl) (nf rfl) ?_
              refine W.pure rfl (wo rfl) rfl rfl (p_move rfl rfl) (nf rfl) ?_
              refine W.pure rfl (wo rfl) rfl rfl (p_slLen tu41 (RowS.sl hr) rfl rfl) (nf rfl) ?_
              refine W.pure rfl (wo rfl) rfl rfl (pF (decide_eq_false (by omega)) (p_lss rfl rfl rfl)) (nf rfl) ?_
              refine W.doneQ (y := sub [1, 1, 1, 1, 1, 1, 0, 1, 0, 0, 0, 1] B5) rfl ?_
              refine C.cond_false (x := sub [1, 1, 1, 1, 1, 1, 0, 1, 0, 0, 0, 1, 0] B5) (y := sub [1, 1, 1, 1, 1, 1, 0, 1, 0, 0, 0, 1, 1] B5) rfl rfl ?_
              exact C.exit fun a1 w1 ha1 hc1 => hE trivial a1 w1 (ha1.sub (Sub.cons rfl (Sub.cons rfl (Sub.cons rfl (Sub.cons rfl (Sub.cons rfl (Sub.cons rfl (Sub.nil _)))))))) hc1
          rintro ⟨k, s, r, x, y⟩ ⟨(hk : k ≤ l.length), (hsl : s.late.length ≤ k), (hn : s.n = m), (hs : Sim s r)⟩ _
          show CW _ _ _ _ _ [(0, .int .i64 (m : Int)), (1, lv), (2, pv), (7, ptr p1.1 0), (9, ptr p2 0), (10, .int .i64 (k : Int))] (dX p1.1 p1.2 x ++ (rX p2 y ++ []))
          refine C.seq (x := sub [1, 1, 1, 1, 1, 1, 1, 0] B5) (y := sub [1, 1, 1, 1, 1, 1, 1, 1] B5) ?_
          refine C.seq (x := sub [1, 1, 1, 1, 1, 1, 1, 0, 0] B5) (y := sub [1, 1, 1, 1, 1, 1, 1, 0, 1] B5) ?_
          refine C.region (id := 16) (m := 14) (ops := opsOf (sub [1, 1, 1, 1, 1, 1, 1, 0, 0] B5)) rfl ?_
          refine W.pure rfl (wo rfl) rfl rfl (p_move rfl rfl) (nf rfl) ?_
          refine W.pure rfl (wo rfl) rfl rfl (p_move rfl rfl) (nf rfl) ?_
          refine W.c11 rfl (wo rfl) rfl rfl rfl (tCrash x (hpv) (by omega)) (en18 _) rfl rfl rfl (args_val rfl) ?_
          intro x6
          refine W.quiet rfl (wo rfl) rfl rfl (f_callR rfl rfl (args_val rfl) (en12 _) (fun w2 hc2 => num_ok w2 _)) (nf rfl) ?_
          refine W.pure rfl (wo rfl) rfl rfl (pF (by rfl) (p_neq rfl rfl rfl)) (nf rfl) ?_
          refine W.pure rfl (wo rfl) rfl rfl (p_move rfl rfl) (nf rfl) ?_
          refine W.pure rfl (wo rfl) rfl rfl (p_move rfl rfl) (nf rfl) ?_
          refine W.c11 rfl (wo rfl) rfl rfl rfl (tDead x6 (r := false) (rfl)) (en17 _) rfl rfl rfl (args_val rfl) ?_
          intro _
          refine W.pure rfl (wo rfl) rfl rfl (p_pick_false rfl rfl rfl) (nf rfl) ?_
          refine W.pure rfl (wo rfl) rfl rfl (p_move rfl rfl) (nf rfl) ?_
          refine W.pure rfl (wo rfl) rfl rfl (p_move rfl rfl) (nf rfl) ?_
          refine W.c11 rfl (wo rfl) rfl rfl rfl (tUns x6) (en25 _) rfl rfl rfl (args_val rfl) ?_
          intro _
          refine W.pure rfl (wo rfl) rfl rfl (pF (by rfl) (p_neq rfl rfl rfl)) (nf rfl) ?_
          refine W.pure rfl (wo rfl) rfl rfl (p_pick_false rfl rfl rfl) (nf rfl) ?_
          refine W.doneQ (y := sub [1, 1, 1, 1, 1, 1, 1, 0, 1] B5) rfl ?_
          refine C.cond_false (x := sub [1, 1, 1, 1, 1, 1, 1, 0, 1, 0] B5) (y := sub [1, 1, 1, 1, 1, 1, 1, 0, 1, 1] B5) rfl rfl ?_
          refine C.skipQ (y := sub [1, 1, 1, 1, 1, 1, 1, 1] B5) rfl ?_
          refine C.seq (x := sub [1, 1, 1, 1, 1, 1, 1, 1, 0] B5) (y := sub [1, 1, 1, 1, 1, 1, 1, 1, 1] B5) ?_
          refine C.region (id := 18) (m := 1) (ops := opsOf (sub [1, 1, 1, 1, 1, 1, 1, 1, 0] B5)) rfl ?_
          refine W.pure rfl (wo rfl) rfl rfl (p_assign rfl rfl) (nf rfl) ?_
          refine W.doneQ (y := sub [1, 1, 1, 1, 1, 1, 1, 1, 1] B5) rfl ?_
          refine C.seq (x := sub [1, 1, 1, 1, 1, 1, 1, 1, 1, 0] B5) (y := sub [1, 1, 1, 1, 1, 1, 1, 1, 1, 1] B5) ?_
          refine C.seq (x := sub [1, 1, 1, 1, 1, 1, 1, 1, 1, 0, 0] B5) (y := sub [1, 1, 1, 1, 1, 1, 1, 1, 1, 0, 1] B5) ?_
          refine C.region (id := 19) (m := 1) (ops := opsOf (sub [1, 1, 1, 1, 1, 1, 1, 1, 1, 0, 0] B5)) rfl ?_
          refine W.pure rfl (wo rfl) rfl rfl (p_assign rfl rfl) (nf rfl) ?_
          refine W.doneQ (y := sub [1, 1, 1, 1, 1, 1, 1, 1, 1, 0, 1] B5) rfl ?_
          refine C.f1 rfl ?_
          refine C.f1 rfl ?_
          refine C.loopB (id := 2) (c := sub [1, 1, 1, 1, 1, 1, 1, 1, 1, 0, 1, 0, 0] B5) (y := sub [1, 1, 1, 1, 1, 1, 1, 1, 1, 1] B5) (α := Nat × Nat) (fun q => m - q.2) (fun q => [(0, .int .i64 (m : Int)), (1, lv), (2, pv), (7, ptr p1.1 0), (9, ptr p2 0), (11, .int .i64 (q.1 : Int)), (12, .int .i64 (q.2 : Int))]) (fun q => dX p1.1 p1.2 x6 ++ (rX p2 y ++ [])) (fun q => (q.2 : Int) ≤ m ∧ ZTorn s q.1 q.2) (0, 0) ⟨by show (0 : Int) ≤ _; omega, ⟨by omega, fun h => by cases h⟩⟩ (Sub.cons rfl (Sub.cons rfl (Sub.cons rfl (Sub.cons rfl (Sub.cons rfl (Sub.cons rfl (Sub.cons rfl (Sub.nil _)))))))) rfl rfl (fun q => True) ?_ ?_
          · rintro ⟨torn, j⟩ ⟨(hj : (j : Int) ≤ m), (hZ : ZTorn s torn j)⟩ Q2 hN2 hE2 hR2
            show CW _ _ _ _ _ [(0, .int .i64 (m : Int)), (1, lv), (2, pv), (7, ptr p1.1 0), (9, ptr p2 0), (11, .int .i64 (torn : Int)), (12, .int .i64 (j : Int))] (dX p1.1 p1.2 x6 ++ (rX p2 y ++ []))
            by_cases hlt : (j : Int) < m
            · refine C.seq (x := sub [1, 1, 1, 1, 1, 1, 1, 1, 1, 0, 1, 0, 0, 0] B5) (y := sub [1, 1, 1, 1, 1, 1, 1, 1, 1, 0, 1, 0, 0, 1] B5) ?_
              refine C.seq (x := sub [1, 1, 1, 1, 1, 1, 1, 1, 1, 0, 1, 0, 0, 0, 0] B5) (y := sub [1, 1, 1, 1, 1, 1, 1, 1, 1, 0, 1, 0, 0, 0, 1] B5) ?_
              refine C.region (id := 20) (m := 3) (ops := opsOf (sub [1, 1, 1, 1, 1, 1, 1, 1, 1, 0, 1, 0, 0, 0, 0] B5)) rfl ?_
              refine W.pure rfl (wo rfl) rfl rfl (p_move rfl rfl) (nf rfl) ?_
              refine W.pure rfl (wo rfl) rfl rfl (p_move rfl rfl) (nf rfl) ?_
              refine W.pure rfl (wo rfl) rfl rfl (pT (decide_eq_true (by omega)) (p_lss rfl rfl rfl)) (nf rfl) ?_
              refine W.doneQ (y := sub [1, 1, 1, 1, 1, 1, 1, 1, 1, 0, 1, 0, 0, 0, 1] B5) rfl ?_
              refine C.cond_true (x := sub [1, 1, 1, 1, 1, 1, 1, 1, 1, 0, 1, 0, 0, 0, 1, 0] B5) (y := sub [1, 1, 1, 1, 1, 1, 1, 1, 1, 0, 1, 0, 0, 0, 1, 1] B5) rfl rfl ?_
              refine C.skipQ (y := sub [1, 1, 1, 1, 1, 1, 1, 1, 1, 0, 1, 0, 0, 1] B5) rfl ?_
              refine C.seq (x := sub [1, 1, 1, 1, 1, 1, 1, 1, 1, 0, 1, 0, 0, 1, 0] B5) (y := sub [1, 1, 1, 1, 1, 1, 1, 1, 1, 0, 1, 0, 0, 1, 1] B5) ?_
              refine C.block (id := 3) (c := sub [1, 1, 1, 1, 1, 1, 1, 1, 1, 0, 1, 0, 0, 1, 0, 0] B5) ?_
              refine C.seq (x := sub [1, 1, 1, 1, 1, 1, 1, 1, 1, 0, 1, 0, 0, 1, 0, 0, 0] B5) (y := sub [1, 1, 1, 1, 1, 1, 1, 1, 1, 0, 1, 0, 0, 1, 0, 0, 1] B5) ?_
              refine C.region (id := 22) (m := 8) (ops := opsOf (sub [1, 1, 1, 1, 1, 1, 1, 1, 1, 0, 1, 0, 0, 1, 0, 0, 0] B5)) rfl ?_
              refine W.pure rfl (wo rfl) rfl rfl (p_move rfl rfl) (nf rfl) ?_
              refine W.pure rfl (wo rfl) rfl rfl (p_move rfl rfl) (nf rfl) ?_
              refine W.c12 rfl (wo rfl) rfl rfl rfl (tRead x6 _ (hasD_in (by omega) (by show (j : Int) < s.n; omega)) (by simp [crashK])) (en20 _) rfl rfl rfl (args_val rfl) ?_
              intro y7
              refine W.pure rfl (wo rfl) rfl rfl (p_move rfl rfl) (nf rfl) ?_
              refine W.pure rfl (wo rfl) rfl rfl (p_extract rfl rfl rfl) (nf rfl) ?_
              refine W.pure rfl (wo rfl) rfl rfl (p_extract rfl rfl rfl) (nf rfl) ?_
              refine W.pure rfl (wo rfl) rfl rfl (p_assign rfl rfl) (nf rfl) ?_
              refine W.pure rfl (wo rfl) rfl rfl (p_assign rfl rfl) (nf rfl) ?_
              refine W.doneQ (y := sub [1, 1, 1, 1, 1, 1, 1, 1, 1, 0, 1, 0, 0, 1, 0, 0, 1] B5) rfl ?_
              refine C.seq (x := sub [1, 1, 1, 1, 1, 1, 1, 1, 1, 0, 1, 0, 0, 1, 0, 0, 1, 0] B5) (y := sub [1, 1, 1, 1, 1, 1, 1, 1, 1, 0, 1, 0, 0, 1, 0, 0, 1, 1] B5) ?_
              refine C.seq (x := sub [1, 1, 1, 1, 1, 1, 1, 1, 1, 0, 1, 0, 0, 1, 0, 0, 1, 0, 0] B5) (y := sub [1, 1, 1, 1, 1, 1, 1, 1, 1, 0, 1, 0, 0, 1, 0, 0, 1, 0, 1] B5) ?_
              refine C.region (id := 23) (m := 3) (ops := opsOf (sub [1, 1, 1, 1, 1, 1, 1, 1, 1, 0, 1, 0, 0, 1, 0, 0, 1, 0, 0] B5)) rfl ?_
              refine W.pure rfl (wo rfl) rfl rfl (p_move rfl rfl) (nf rfl) ?_
              refine W.quiet rfl (wo rfl) rfl rfl (f_callR rfl rfl (args_val rfl) (en12 _) (fun w2 hc2 => num_ok w2 _)) (nf rfl) ?_
              refine W.pure rfl (wo rfl) rfl rfl (pF (by rfl) (p_neq rfl rfl rfl)) (nf rfl) ?_
              refine W.doneQ (y := sub [1, 1, 1, 1, 1, 1, 1, 1, 1, 0, 1, 0, 0, 1, 0, 0, 1, 0, 1] B5) rfl ?_
              refine C.cond_false (x := sub [1, 1, 1, 1, 1, 1, 1, 1, 1, 0, 1, 0, 0, 1, 0, 0, 1, 0, 1, 0] B5) (y := sub [1, 1, 1, 1, 1, 1, 1, 1, 1, 0, 1, 0, 0, 1, 0, 0, 1, 0, 1, 1] B5) rfl rfl ?_
              refine C.skipQ (y := sub [1, 1, 1, 1, 1, 1, 1, 1, 1, 0, 1, 0, 0, 1, 0, 0, 1, 1] B5) rfl ?_
              refine C.seq (x := sub [1, 1, 1, 1, 1, 1, 1, 1, 1, 0, 1, 0, 0, 1, 0, 0, 1, 1, 0] B5) (y := sub [1, 1, 1, 1, 1, 1, 1, 1, 1, 0, 1, 0, 0, 1, 0, 0, 1, 1, 1] B5) ?_
              refine C.seq (x := sub [1, 1, 1, 1, 1, 1, 1, 1, 1, 0, 1, 0, 0, 1, 0, 0, 1, 1, 0, 0] B5) (y := sub [1, 1, 1, 1, 1, 1, 1, 1, 1, 0, 1, 0, 0, 1, 0, 0, 1, 1, 0, 1] B5) ?_
              refine C.region (id := 25) (m := 4) (ops := opsOf (sub [1, 1, 1, 1, 1, 1, 1, 1, 1, 0, 1, 0, 0, 1, 0, 0, 1, 1, 0, 0] B5)) rfl ?_
              refine W.pure rfl (wo rfl) rfl rfl (p_move rfl rfl) (nf rfl) ?_
              refine W.pure rfl (wo rfl) rfl rfl (p_move rfl rfl) (nf rfl) ?_
              refine W.pure rfl (wo rfl) rfl rfl (p_move rfl rfl) (nf rfl) ?_
              refine W.f2 rfl ?_
              refine W.c22 rfl (wo rfl) rfl rfl rfl (tOne y y7 (hs) (hasD_in (by omega) (by omega)) (by omega)) (en26 _) rfl rfl rfl (args_val rfl) ?_
              intro ro
              refine W.doneQ (y := sub [1, 1, 1, 1, 1, 1, 1, 1, 1, 0, 1, 0, 0, 1, 0, 0, 1, 1, 0, 1] B5) rfl ?_
              by_cases ho : ro.1 = true
              · refine C.cond_true (x := sub [1, 1, 1, 1, 1, 1, 1, 1, 1, 0, 1, 0, 0, 1, 0, 0, 1, 1, 0, 1, 0] B5) (y := sub [1, 1, 1, 1, 1, 1, 1, 1, 1, 0, 1, 0, 0, 1, 0, 0, 1, 1, 0, 1, 1] B5) rfl ho ?_
                refine C.exitQ (y := sub [1, 1, 1, 1, 1, 1, 1, 1, 1, 0, 1, 0, 0, 1, 1] B5) rfl ?_
                refine C.region (id := 21) (m := 3) (ops := opsOf (sub [1, 1, 1, 1, 1, 1, 1, 1, 1, 0, 1, 0, 0, 1, 1] B5)) rfl ?_
                refine W.pure rfl (wo rfl) rfl rfl (p_move rfl rfl) (nf rfl) ?_
                refine W.pure rfl (wo rfl) rfl rfl (pI (wk (by omega)) (p_add rfl rfl rfl)) (nf rfl) ?_
                refine W.pure rfl (wo rfl) rfl rfl (p_assign rfl rfl) (nf rfl) ?_
                refine W.f1 rfl ?_
                refine W.dr rfl ?_
                refine W.f1 rfl ?_
                refine W.end' fun a1 w1 ha1 hc1 => hN2 (torn, j + 1) ⟨(by show ((j + 1 : Nat) : Int) ≤ m; omega), hZ.up⟩ (by show (m - (j + 1)) < m - j; omega) a1 w1 (ha1.sub (Sub.cons rfl (Sub.cons rfl (Sub.cons rfl (Sub.cons rfl (Sub.cons rfl (Sub.cons rfl (Sub.cons rfl (Sub.nil _))))))))) hc1
              · refine C.cond_false (x := sub [1, 1, 1, 1, 1, 1, 1, 1, 1, 0, 1, 0, 0, 1, 0, 0, 1, 1, 0, 1, 0] B5) (y := sub [1, 1, 1, 1, 1, 1, 1, 1, 1, 0, 1, 0, 0, 1, 0, 0, 1, 1, 0, 1, 1] B5) rfl (by simpa using ho) ?_
                refine C.skipQ (y := sub [1, 1, 1, 1, 1, 1, 1, 1, 1, 0, 1, 0, 0, 1, 0, 0, 1, 1, 1] B5) rfl ?_
                refine C.seq (x := sub [1, 1, 1, 1, 1, 1, 1, 1, 1, 0, 1, 0, 0, 1, 0, 0, 1, 1, 1, 0] B5) (y := sub [1, 1, 1, 1, 1, 1, 1, 1, 1, 0, 1, 0, 0, 1, 0, 0, 1, 1, 1, 1] B5) ?_
                refine C.region (id := 26) (m := 3) (ops := opsOf (sub [1, 1, 1, 1, 1, 1, 1, 1, 1, 0, 1, 0, 0, 1, 0, 0, 1, 1, 1, 0] B5)) rfl ?_
                refine W.pure rfl (wo rfl) rfl rfl (p_move rfl rfl) (nf rfl) ?_
                refine W.pure rfl (wo rfl) rfl rfl (pI (wk (by have := hZ.le; omega)) (p_add rfl rfl rfl)) (nf rfl) ?_
                refine W.pure rfl (wo rfl) rfl rfl (p_assign rfl rfl) (nf rfl) ?_
                refine W.doneQ (y := sub [1, 1, 1, 1, 1, 1, 1, 1, 1, 0, 1, 0, 0, 1, 0, 0, 1, 1, 1, 1] B5) rfl ?_
                refine C.seq (x := sub [1, 1, 1, 1, 1, 1, 1, 1, 1, 0, 1, 0, 0, 1, 0, 0, 1, 1, 1, 1, 0] B5) (y := sub [1, 1, 1, 1, 1, 1, 1, 1, 1, 0, 1, 0, 0, 1, 0, 0, 1, 1, 1, 1, 1] B5) ?_
                refine C.region (id := 27) (m := 5) (ops := opsOf (sub [1, 1, 1, 1, 1, 1, 1, 1, 1, 0, 1, 0, 0, 1, 0, 0, 1, 1, 1, 1, 0] B5)) rfl ?_
                refine W.pure rfl (wo rfl) rfl rfl (p_move rfl rfl) (nf rfl) ?_
                refine W.pure rfl (wo rfl) rfl rfl (p_move rfl rfl) (nf rfl) ?_
                refine W.pure rfl (wo rfl) rfl rfl (p_move rfl rfl) (nf rfl) ?_
                obtain ⟨last, tt, prev, hT⟩ := torn_of x ps (ro.2 (by simpa using ho))
                refine W.f1 rfl ?_
                refine W.f1 rfl ?_
                refine W.c22 rfl (wo rfl) rfl rfl rfl (tTears y y7 (hs) (hasD_in (by omega) (by omega)) (by omega) (hT)) (en27 _) rfl rfl rfl (args_val rfl) ?_
                intro _
                refine W.pure rfl (wo rfl) rfl rfl (p_not rfl rfl) (nf rfl) ?_
                refine W.doneQ (y := sub [1, 1, 1, 1, 1, 1, 1, 1, 1, 0, 1, 0, 0, 1, 0, 0, 1, 1, 1, 1, 1] B5) rfl ?_
                refine C.cond_false (x := sub [1, 1, 1, 1, 1, 1, 1, 1, 1, 0, 1, 0, 0, 1, 0, 0, 1, 1, 1, 1, 1, 0] B5) (y := sub [1, 1, 1, 1, 1, 1, 1, 1, 1, 0, 1, 0, 0, 1, 0, 0, 1, 1, 1, 1, 1, 1] B5) rfl rfl ?_
                refine C.skipQ (y := sub [1, 1, 1, 1, 1, 1, 1, 1, 1, 0, 1, 0, 0, 1, 1] B5) rfl ?_
                refine C.region (id := 21) (m := 3) (ops := opsOf (sub [1, 1, 1, 1, 1, 1, 1, 1, 1, 0, 1, 0, 0, 1, 1] B5)) rfl ?_
                refine W.pure rfl (wo rfl) rfl rfl (p_move rfl rfl) (nf rfl) ?_
                refine W.pure rfl (wo rfl) rfl rfl (pI (wk (by omega)) (p_add rfl rfl rfl)) (nf rfl) ?_
                refine W.pure rfl (wo rfl) rfl rfl (p_assign rfl rfl) (nf rfl) ?_
                refine W.f1 rfl ?_
                refine W.dr rfl ?_
                refine W.f1 rfl ?_
                refine W.end' fun a1 w1 ha1 hc1 => hN2 (torn + 1, j + 1) ⟨(by show ((j + 1 : Nat) : Int) ≤ m; omega), hZ.more hT⟩ (by show (m - (j + 1)) < m - j; omega) a1 w1 (ha1.sub (Sub.cons rfl (Sub.cons rfl (Sub.cons rfl (Sub.cons rfl (Sub.cons rfl (Sub.cons rfl (Sub.cons rfl (Sub.nil _))))))))) hc1
            · refine C.seq (x := sub [1, 1, 1, 1, 1, 1, 1, 1, 1, 0, 1, 0, 0, 0] B5) (y := sub [1, 1, 1, 1, 1, 1, 1, 1, 1, 0, 1, 0, 0, 1] B5) ?_
              refine C.seq (x := sub [1, 1, 1, 1, 1, 1, 1, 1, 1, 0, 1, 0, 0, 0, 0] B5) (y := sub [1, 1, 1, 1, 1, 1, 1, 1, 1, 0, 1, 0, 0, 0, 1] B5) ?_
              refine C.region (id := 20) (m := 3) (ops := opsOf (sub [1, 1, 1, 1, 1, 1, 1, 1, 1, 0, 1, 0, 0, 0, 0] B5)) rfl ?_
              refine W.pure rfl (wo rfl) rfl rfl (p_move rfl rfl) (nf rfl) ?_
              refine W.pure rfl (wo rfl) rfl rfl (p_move rfl rfl) (nf rfl) ?_
              refine W.pure rfl (wo rfl) rfl rfl (pF (decide_eq_false (by omega)) (p_lss rfl rfl rfl)) (nf rfl) ?_
              refine W.doneQ (y := sub [1, 1, 1, 1, 1, 1, 1, 1, 1, 0, 1, 0, 0, 0, 1] B5) rfl ?_
              refine C.cond_false (x := sub [1, 1, 1, 1, 1, 1, 1, 1, 1, 0, 1, 0, 0, 0, 1, 0] B5) (y := sub [1, 1, 1, 1, 1, 1, 1, 1, 1, 0, 1, 0, 0, 0, 1, 1] B5) rfl rfl ?_
              exact C.exit fun a1 w1 ha1 hc1 => hE2 trivial a1 w1 (ha1.sub (Sub.cons rfl (Sub.cons rfl (Sub.cons rfl (Sub.cons rfl (Sub.cons rfl (Sub.cons rfl (Sub.cons rfl (Sub.nil _))))))))) hc1
          rintro ⟨torn, j⟩ ⟨(hj : (j : Int) ≤ m), (hZ : ZTorn s torn j)⟩ _
          show CW _ _ _ _ _ [(0, .int .i64 (m : Int)), (1, lv), (2, pv), (7, ptr p1.1 0), (9, ptr p2 0), (11, .int .i64 (torn : Int)), (12, .int .i64 (j : Int))] (dX p1.1 p1.2 x6 ++ (rX p2 y ++ []))
          refine C.seq (x := sub [1, 1, 1, 1, 1, 1, 1, 1, 1, 1, 0] B5) (y := sub [1, 1, 1, 1, 1, 1, 1, 1, 1, 1, 1] B5) ?_
          refine C.region (id := 29) (m := 3) (ops := opsOf (sub [1, 1, 1, 1, 1, 1, 1, 1, 1, 1, 0] B5)) rfl ?_
          refine W.pure rfl (wo rfl) rfl rfl (p_move rfl rfl) (nf rfl) ?_
          refine W.pure rfl (wo rfl) rfl rfl (pT (decide_eq_true (by have := hZ.le; omega)) (p_leq rfl rfl rfl)) (nf rfl) ?_
          refine W.pure rfl (wo rfl) rfl rfl (p_assign rfl rfl) (nf rfl) ?_
          refine W.doneQ (y := sub [1, 1, 1, 1, 1, 1, 1, 1, 1, 1, 1] B5) rfl ?_
          exact C.ret (R := fun e w' => e = .returned (.bool true) ∧ Below w.heap.size w w') (rs := [.tmp 6]) (vs := [.bool true]) rfl Try.func5 rfl rfl rfl (res_cons (ResV.tmp rfl) res_nil) fun w1 hc1 => ⟨rfl, hc1.toBelow⟩

end Go.Proofs.Ytjomnicfcdkfdaa
