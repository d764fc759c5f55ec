import Derived.Test.YtjomnicfcdkfdaaDkR2
section
namespace Go.Proofs.Ytjomnicfcdkfdaa
open Go Go.HW Go.RowKit
set_option linter.unusedVariables false
set_option linter.unusedSimpArgs false

noncomputable def B48 : Code := bodyOf Try.f48
theorem en48 (args : Array Value) (w : World) : (callFunc 48 args).run Try.prog w = .ok (.enter 48 args) w := by kernel_rfl
theorem rhas_ok {w : World} {M : Mem} (hM : Imm M w) {b nB : Nat} {vB vL f d : Value} (hb : M b = some (.cells #[vB, vL, f, d] 73 (0, 0))) (hsl : ∃ a c, vB = .slice a nB c) (n : Int) : Calls Try.prog 48 #[ptr b 0, .int .i64 n] w (fun e w' => e = .returned (.bool (hasL nB n)) ∧ Below w.heap.size w w') := by
  refine calls_of_CW (N := 16) Try.func48 (show _ = some B48 by kernel_rfl) (by kernel_rfl) rfl (S := [(0, ptr b 0), (1, .int .i64 n)]) (by simp) (clsStart w) ?_
  show CW _ _ _ (sub [] B48) _ _ _
  refine C.seq (x := sub [0] B48) (y := sub [1] B48) ?_
  refine C.region (id := 0) (m := 1) (ops := opsOf (sub [0] B48)) rfl ?_
  refine W.pure rfl (wo rfl) rfl rfl (p_assign rfl rfl) (nf rfl) ?_
  refine W.doneQ (y := sub [1] B48) rfl ?_
  refine C.seq (x := sub [1, 0] B48) (y := sub [1, 1] B48) ?_
  refine C.region (id := 1) (m := 12) (ops := opsOf (sub [1, 0] B48)) rfl ?_
  refine W.pure rfl (wo rfl) rfl rfl (p_move rfl rfl) (nf rfl) ?_
  by_cases h : 0 ≤ n
  · refine W.pure rfl (wo rfl) rfl rfl (pT (decide_eq_true h) (p_geq rfl rfl rfl)) (nf rfl) ?_
    refine W.pure rfl (wo rfl) rfl rfl (p_move rfl rfl) (nf rfl) ?_
    refine W.pure rfl (wo rfl) rfl rfl (p_move rfl rfl) (nf rfl) ?_
    refine W.pure rfl (wo rfl) rfl rfl (p_move rfl rfl) (nf rfl) ?_
    refine W.pure rfl (wo rfl) rfl rfl (p_nilCheck rfl rfl) (nf rfl) ?_
    refine W.pure rfl (wo rfl) rfl rfl (p_fieldAddr tf73_0 rfl rfl) (nf rfl) ?_
    refine W.imm rfl (wo rfl) rfl rfl (i_loadBoxO (off := 0) (hM _ _ hb) rfl ta70 rfl rfl) (nf rfl) ?_
    refine W.pure rfl (wo rfl) rfl rfl (p_slLen tu70 hsl rfl rfl) (nf rfl) ?_
    by_cases h2 : n < (nB : Int)
    · refine W.pure rfl (wo rfl) rfl rfl (pT (decide_eq_true h2) (p_lss rfl rfl rfl)) (nf rfl) ?_
      refine W.pure rfl (wo rfl) rfl rfl (p_pick_true rfl rfl rfl) (nf rfl) ?_
      refine W.pure rfl (wo rfl) rfl rfl (p_assign rfl rfl) (nf rfl) ?_
      refine W.doneQ (y := sub [1, 1] B48) rfl ?_
      exact C.ret (R := fun e w' => e = .returned (.bool (hasL nB n)) ∧ Below w.heap.size w w') (rs := [.tmp 4]) (vs := [.bool true]) rfl Try.func48 rfl rfl rfl (res_cons (ResV.tmp rfl) res_nil) fun w1 hc1 => ⟨by rw [show hasL nB n = true from decide_eq_true ⟨h, h2⟩]; rfl, hc1.toBelow⟩
    · refine W.pure rfl (wo rfl) rfl rfl (pF (decide_eq_false h2) (p_lss rfl rfl rfl)) (nf rfl) ?_
      refine W.pure rfl (wo rfl) rfl rfl (p_pick_true rfl rfl rfl) (nf rfl) ?_
      refine W.pure rfl (wo rfl) rfl rfl (p_assign rfl rfl) (nf rfl) ?_
      refine W.doneQ (y := sub [1, 1] B48) rfl ?_
      exact C.ret (R := fun e w' => e = .returned (.bool (hasL nB n)) ∧ Below w.heap.size w w') (rs := [.tmp 4]) (vs := [.bool false]) rfl Try.func48 rfl rfl rfl (res_cons (ResV.tmp rfl) res_nil) fun w1 hc1 => ⟨by rw [show hasL nB n = false from decide_eq_false fun z => h2 z.2]; rfl, hc1.toBelow⟩
  · refine W.pure rfl (wo rfl) rfl rfl (pF (decide_eq_false h) (p_geq rfl rfl rfl)) (nf rfl) ?_
    refine W.pure rfl (wo rfl) rfl rfl (p_move rfl rfl) (nf rfl) ?_
    refine W.not rfl (wo rfl) rfl rfl ?_
    refine W.not rfl (wo rfl) rfl rfl ?_
    refine W.not rfl (wo rfl) rfl rfl ?_
    refine W.not rfl (wo rfl) rfl rfl ?_
    refine W.not rfl (wo rfl) rfl rfl ?_
    refine W.not rfl (wo rfl) rfl rfl ?_
    refine W.not rfl (wo rfl) rfl rfl ?_
    refine W.pure rfl (wo rfl) rfl rfl (p_pick_false rfl rfl rfl) (nf rfl) ?_
    refine W.pure rfl (wo rfl) rfl rfl (p_assign rfl rfl) (nf rfl) ?_
    refine W.doneQ (y := sub [1, 1] B48) rfl ?_
    exact C.ret (R := fun e w' => e = .returned (.bool (hasL nB n)) ∧ Below w.heap.size w w') (rs := [.tmp 4]) (vs := [.bool false]) rfl Try.func48 rfl rfl rfl (res_cons (ResV.tmp rfl) res_nil) fun w1 hc1 => ⟨by rw [show hasL nB n = false from decide_eq_false fun z => h z.1]; rfl, hc1.toBelow⟩

theorem rhas_x {w0 w : World} {I : Mem} {H : Heap} {b : Nat} {s : Rk} (x : Rx s) {g : Rg} {s2 : Rk} (hm : rk0 b x.1 s ∈ H) (hc : Cls w0 I H w) (n : Int) : Calls Try.prog 48 #[ptr b 0, .int .i64 n] w fun e w' => e = .returned (.bool (hasL s.B.length n)) ∧ Below w.heap.size w w' := by
  have hl : s.B.length = x.1.Bs.length := by rw [x.2.sB, List.length_map]
  rw [hl]
  exact rhas_ok (M := heapOf w) (fun _ _ e => e) (hc.own b _ hm) (own_len x.2.hB) n
theorem rk_same {g : Rg} {s s' : Rk} (h : RkO g s) (hB : s'.B = s.B) (hL : s'.L = s.L) : RkO g s' := ⟨h.hB, h.hL, h.rB, h.rL, by rw [hB]; exact h.sB, by rw [hL]; exact h.sL, h.ok⟩

noncomputable def B49 : Code := bodyOf Try.f49
theorem en49 (args : Array Value) (w : World) : (callFunc 49 args).run Try.prog w = .ok (.enter 49 args) w := by kernel_rfl
theorem rStep {I : Mem} {b : Nat} {s s2 : Rk} {e : Int} (x : Rx s) (hK : rstepK s = (e, s2)) : Turn I 49 #[ptr b 0] (rX b x) (fun _ : Rx s2 => .int .i64 e) (fun x' => rX b x') := fun I' he w0 w hc => by
  refine calls_of_CW (N := 27) Try.func49 (show _ = some B49 by kernel_rfl) (by kernel_rfl) rfl (S := [(0, ptr b 0)]) (by simp) hc ?_
  show CW _ _ _ (sub [] B49) _ _ _
  refine C.seq (x := sub [0] B49) (y := sub [1] B49) ?_
  refine C.region (id := 0) (m := 1) (ops := opsOf (sub [0] B49)) rfl ?_
  refine W.pure rfl (wo rfl) rfl rfl (p_assign rfl rfl) (nf rfl) ?_
  refine W.doneQ (y := sub [1] B49) rfl ?_
  refine C.seq (x := sub [1, 0] B49) (y := sub [1, 1] B49) ?_
  refine C.seq (x := sub [1, 0, 0] B49) (y := sub [1, 0, 1] B49) ?_
  refine C.region (id := 1) (m := 4) (ops := opsOf (sub [1, 0, 0] B49)) rfl ?_
  refine W.pure rfl (wo rfl) rfl rfl (p_move rfl rfl) (nf rfl) ?_
  refine W.pure rfl (wo rfl) rfl rfl (p_nilCheck rfl rfl) (nf rfl) ?_
  refine W.pure rfl (wo rfl) rfl rfl (p_fieldAddr tf73_3 rfl rfl) (nf rfl) ?_
  by_cases h1 : s.dead = true
  · refine W.quiet rfl (wo rfl) rfl rfl (qT (h1) (f_load (j := 0) ta4 rfl (off := 3) rfl rfl rfl)) (nf rfl) ?_
    refine W.doneQ (y := sub [1, 0, 1] B49) rfl ?_
    refine C.cond_true (x := sub [1, 0, 1, 0] B49) (y := sub [1, 0, 1, 1] B49) rfl rfl ?_
    refine C.seq (x := sub [1, 0, 1, 0, 0] B49) (y := sub [1, 0, 1, 0, 1] B49) ?_
    refine C.region (id := 2) (m := 1) (ops := opsOf (sub [1, 0, 1, 0, 0] B49)) rfl ?_
    refine W.pure rfl (wo rfl) rfl rfl (p_assign rfl rfl) (nf rfl) ?_
    refine W.doneQ (y := sub [1, 0, 1, 0, 1] B49) rfl ?_
    obtain ⟨rfl, rfl⟩ : 14 = e ∧ s = s2 := Prod.mk.inj (((show rstepK s = (14, s) from if_pos h1).symm.trans hK))
    exact C.ret (R := fun e w' => ∃ x' : Rx s, e = .returned (.int .i64 14) ∧ Cls w0 I' (rX b x') w') (rs := [.tmp 2]) (vs := [.int .i64 14]) rfl Try.func49 rfl rfl rfl (res_cons (ResV.tmp rfl) res_nil) fun w1 hc1 => ⟨⟨x.1, rk_same x.2 rfl rfl⟩, rfl, hc1⟩
  · refine W.quiet rfl (wo rfl) rfl rfl (qF (by simpa using h1) (f_load (j := 0) ta4 rfl (off := 3) rfl rfl rfl)) (nf rfl) ?_
    refine W.doneQ (y := sub [1, 0, 1] B49) rfl ?_
    refine C.cond_false (x := sub [1, 0, 1, 0] B49) (y := sub [1, 0, 1, 1] B49) rfl rfl ?_
    refine C.skipQ (y := sub [1, 1] B49) rfl ?_
    refine C.seq (x := sub [1, 1, 0] B49) (y := sub [1, 1, 1] B49) ?_
    refine C.seq (x := sub [1, 1, 0, 0] B49) (y := sub [1, 1, 0, 1] B49) ?_
    refine C.region (id := 3) (m := 5) (ops := opsOf (sub [1, 1, 0, 0] B49)) rfl ?_
    refine W.pure rfl (wo rfl) rfl rfl (p_move rfl rfl) (nf rfl) ?_
    refine W.pure rfl (wo rfl) rfl rfl (p_nilCheck rfl rfl) (nf rfl) ?_
    refine W.pure rfl (wo rfl) rfl rfl (p_fieldAddr tf73_2 rfl rfl) (nf rfl) ?_
    refine W.quiet rfl (wo rfl) rfl rfl (f_load (j := 0) ta3 rfl (off := 2) rfl rfl rfl) (nf rfl) ?_
    by_cases h2 : s.fuse = 0
    · refine W.pure rfl (wo rfl) rfl rfl (pT (by rw [h2]; rfl) (p_eql rfl rfl rfl)) (nf rfl) ?_
      refine W.doneQ (y := sub [1, 1, 0, 1] B49) rfl ?_
      refine C.cond_true (x := sub [1, 1, 0, 1, 0] B49) (y := sub [1, 1, 0, 1, 1] B49) rfl rfl ?_
      refine C.seq (x := sub [1, 1, 0, 1, 0, 0] B49) (y := sub [1, 1, 0, 1, 0, 1] B49) ?_
      refine C.region (id := 4) (m := 4) (ops := opsOf (sub [1, 1, 0, 1, 0, 0] B49)) rfl ?_
      refine W.pure rfl (wo rfl) rfl rfl (p_move rfl rfl) (nf rfl) ?_
      refine W.pure rfl (wo rfl) rfl rfl (p_nilCheck rfl rfl) (nf rfl) ?_
      refine W.pure rfl (wo rfl) rfl rfl (p_fieldAddr tf73_3 rfl rfl) (nf rfl) ?_
      refine W.put rfl (wo rfl) rfl (f_st0 (k := 3) (u := .bool true) ts4 rfl trivial (show 3 < 4 by decide) rfl rfl rfl) (nf rfl) ?_
      refine W.doneQ (y := sub [1, 1, 0, 1, 0, 1] B49) rfl ?_
      refine C.seq (x := sub [1, 1, 0, 1, 0, 1, 0] B49) (y := sub [1, 1, 0, 1, 0, 1, 1] B49) ?_
      refine C.region (id := 5) (m := 1) (ops := opsOf (sub [1, 1, 0, 1, 0, 1, 0] B49)) rfl ?_
      refine W.pure rfl (wo rfl) rfl rfl (p_assign rfl rfl) (nf rfl) ?_
      refine W.doneQ (y := sub [1, 1, 0, 1, 0, 1, 1] B49) rfl ?_
      obtain ⟨rfl, rfl⟩ : 17 = e ∧ { s with dead := true } = s2 := Prod.mk.inj (((show rstepK s = (17, { s with dead := true }) from (if_neg h1).trans (if_pos h2)).symm.trans hK))
      exact C.ret (R := fun e w' => ∃ x' : Rx ({ s with dead := true }), e = .returned (.int .i64 17) ∧ Cls w0 I' (rX b x') w') (rs := [.tmp 2]) (vs := [.int .i64 17]) rfl Try.func49 rfl rfl rfl (res_cons (ResV.tmp rfl) res_nil) fun w1 hc1 => ⟨⟨x.1, rk_same x.2 rfl rfl⟩, rfl, hc1⟩
    · refine W.pure rfl (wo rfl) rfl rfl (pF (by simpa using h2) (p_eql rfl rfl rfl)) (nf rfl) ?_
      refine W.doneQ (y := sub [1, 1, 0, 1] B49) rfl ?_
      refine C.cond_false (x := sub [1, 1, 0, 1, 0] B49) (y := sub [1, 1, 0, 1, 1] B49) rfl rfl ?_
      refine C.skipQ (y := sub [1, 1, 1] B49) rfl ?_
      refine C.seq (x := sub [1, 1, 1, 0] B49) (y := sub [1, 1, 1, 1] B49) ?_
      refine C.seq (x := sub [1, 1, 1, 0, 0] B49) (y := sub [1, 1, 1, 0, 1] B49) ?_
      refine C.region (id := 6) (m := 5) (ops := opsOf (sub [1, 1, 1, 0, 0] B49)) rfl ?_
      refine W.pure rfl (wo rfl) rfl rfl (p_move rfl rfl) (nf rfl) ?_
      refine W.pure rfl (wo rfl) rfl rfl (p_nilCheck rfl rfl) (nf rfl) ?_
      refine W.pure rfl (wo rfl) rfl rfl (p_fieldAddr tf73_2 rfl rfl) (nf rfl) ?_
      refine W.quiet rfl (wo rfl) rfl rfl (f_load (j := 0) ta3 rfl (off := 2) rfl rfl rfl) (nf rfl) ?_
      by_cases h3 : 0 < s.fuse
      · refine W.pure rfl (wo rfl) rfl rfl (pT (decide_eq_true h3) (p_gtr rfl rfl rfl)) (nf rfl) ?_
        refine W.doneQ (y := sub [1, 1, 1, 0, 1] B49) rfl ?_
        refine C.cond_true (x := sub [1, 1, 1, 0, 1, 0] B49) (y := sub [1, 1, 1, 0, 1, 1] B49) rfl rfl ?_
        refine C.region (id := 7) (m := 8) (ops := opsOf (sub [1, 1, 1, 0, 1, 0] B49)) rfl ?_
        refine W.pure rfl (wo rfl) rfl rfl (p_move rfl rfl) (nf rfl) ?_
        refine W.pure rfl (wo rfl) rfl rfl (p_nilCheck rfl rfl) (nf rfl) ?_
        refine W.pure rfl (wo rfl) rfl rfl (p_fieldAddr tf73_2 rfl rfl) (nf rfl) ?_
        refine W.quiet rfl (wo rfl) rfl rfl (f_load (j := 0) ta3 rfl (off := 2) rfl rfl rfl) (nf rfl) ?_
        refine W.pure rfl (wo rfl) rfl rfl (p_sub rfl rfl rfl) (nf rfl) ?_
        refine W.pure rfl (wo rfl) rfl rfl (p_nilCheck rfl rfl) (nf rfl) ?_
        refine W.pure rfl (wo rfl) rfl rfl (p_fieldAddr tf73_2 rfl rfl) (nf rfl) ?_
        refine W.put rfl (wo rfl) rfl (f_st0 (k := 2) (u := .int .i64 _) ts3 rfl trivial (show 2 < 4 by decide) rfl rfl rfl) (nf rfl) ?_
        refine W.doneQ (y := sub [1, 1, 1, 1] B49) rfl ?_
        refine C.seq (x := sub [1, 1, 1, 1, 0] B49) (y := sub [1, 1, 1, 1, 1] B49) ?_
        refine C.region (id := 8) (m := 1) (ops := opsOf (sub [1, 1, 1, 1, 0] B49)) rfl ?_
        refine W.pure rfl (wo rfl) rfl rfl (p_assign rfl rfl) (nf rfl) ?_
        refine W.doneQ (y := sub [1, 1, 1, 1, 1] B49) rfl ?_
        obtain ⟨rfl, rfl⟩ : 0 = e ∧ { s with fuse := IntKind.i64.wrap (s.fuse - 1) } = s2 := Prod.mk.inj (((show rstepK s = (0, { s with fuse := IntKind.i64.wrap (s.fuse - 1) }) from ((if_neg h1).trans (if_neg h2)).trans (if_pos h3)).symm.trans hK))
        exact C.ret (R := fun e w' => ∃ x' : Rx ({ s with fuse := IntKind.i64.wrap (s.fuse - 1) }), e = .returned (.int .i64 0) ∧ Cls w0 I' (rX b x') w') (rs := [.tmp 2]) (vs := [.int .i64 0]) rfl Try.func49 rfl rfl rfl (res_cons (ResV.tmp rfl) res_nil) fun w1 hc1 => ⟨⟨x.1, rk_same x.2 rfl rfl⟩, rfl, hc1⟩
      · refine W.pure rfl (wo rfl) rfl rfl (pF (decide_eq_false h3) (p_gtr rfl rfl rfl)) (nf rfl) ?_
        refine W.doneQ (y := sub [1, 1, 1, 0, 1] B49) rfl ?_
        refine C.cond_false (x := sub [1, 1, 1, 0, 1, 0] B49) (y := sub [1, 1, 1, 0, 1, 1] B49) rfl rfl ?_
        refine C.skipQ (y := sub [1, 1, 1, 1] B49) rfl ?_
        refine C.seq (x := sub [1, 1, 1, 1, 0] B49) (y := sub [1, 1, 1, 1, 1] B49) ?_
        refine C.region (id := 8) (m := 1) (ops := opsOf (sub [1, 1, 1, 1, 0] B49)) rfl ?_
        refine W.pure rfl (wo rfl) rfl rfl (p_assign rfl rfl) (nf rfl) ?_
        refine W.doneQ (y := sub [1, 1, 1, 1, 1] B49) rfl ?_
        obtain ⟨rfl, rfl⟩ : 0 = e ∧ s = s2 := Prod.mk.inj (((show rstepK s = (0, s) from ((if_neg h1).trans (if_neg h2)).trans (if_neg h3)).symm.trans hK))
        exact C.ret (R := fun e w' => ∃ x' : Rx s, e = .returned (.int .i64 0) ∧ Cls w0 I' (rX b x') w') (rs := [.tmp 2]) (vs := [.int .i64 0]) rfl Try.func49 rfl rfl rfl (res_cons (ResV.tmp rfl) res_nil) fun w1 hc1 => ⟨⟨x.1, rk_same x.2 rfl rfl⟩, rfl, hc1⟩

noncomputable def B42 : Code := bodyOf Try.f42
theorem en42 (args : Array Value) (w : World) : (callFunc 42 args).run Try.prog w = .ok (.enter 42 args) w := by kernel_rfl
theorem rFuse {I : Mem} {b : Nat} {s s2 : Rk} {e : Int} (x : Rx s) (n : Int) (hK : rfuseK s n = (e, s2)) : Turn I 42 #[ptr b 0, .int .i64 n] (rX b x) (fun _ : Rx s2 => .int .i64 e) (fun x' => rX b x') := fun I' he w0 w hc => by
  refine calls_of_CW (N := 11) Try.func42 (show _ = some B42 by kernel_rfl) (by kernel_rfl) rfl (S := [(0, ptr b 0), (1, .int .i64 n)]) (by simp) hc ?_
  show CW _ _ _ (sub [] B42) _ _ _
  refine C.seq (x := sub [0] B42) (y := sub [1] B42) ?_
  refine C.region (id := 0) (m := 1) (ops := opsOf (sub [0] B42)) rfl ?_
  refine W.pure rfl (wo rfl) rfl rfl (p_assign rfl rfl) (nf rfl) ?_
  refine W.doneQ (y := sub [1] B42) rfl ?_
  refine C.seq (x := sub [1, 0] B42) (y := sub [1, 1] B42) ?_
  refine C.seq (x := sub [1, 0, 0] B42) (y := sub [1, 0, 1] B42) ?_
  refine C.region (id := 1) (m := 2) (ops := opsOf (sub [1, 0, 0] B42)) rfl ?_
  refine W.pure rfl (wo rfl) rfl rfl (p_move rfl rfl) (nf rfl) ?_
  by_cases h1 : n < 0
  · refine W.pure rfl (wo rfl) rfl rfl (pT (decide_eq_true h1) (p_lss rfl rfl rfl)) (nf rfl) ?_
    refine W.doneQ (y := sub [1, 0, 1] B42) rfl ?_
    refine C.cond_true (x := sub [1, 0, 1, 0] B42) (y := sub [1, 0, 1, 1] B42) rfl rfl ?_
    refine C.seq (x := sub [1, 0, 1, 0, 0] B42) (y := sub [1, 0, 1, 0, 1] B42) ?_
    refine C.region (id := 2) (m := 1) (ops := opsOf (sub [1, 0, 1, 0, 0] B42)) rfl ?_
    refine W.pure rfl (wo rfl) rfl rfl (p_assign rfl rfl) (nf rfl) ?_
    refine W.doneQ (y := sub [1, 0, 1, 0, 1] B42) rfl ?_
    obtain ⟨rfl, rfl⟩ : 2 = e ∧ s = s2 := Prod.mk.inj (((show rfuseK s n = (2, s) from if_pos h1).symm.trans hK))
    exact C.ret (R := fun e w' => ∃ x' : Rx s, e = .returned (.int .i64 2) ∧ Cls w0 I' (rX b x') w') (rs := [.tmp 4]) (vs := [.int .i64 2]) rfl Try.func42 rfl rfl rfl (res_cons (ResV.tmp rfl) res_nil) fun w1 hc1 => ⟨⟨x.1, rk_same x.2 rfl rfl⟩, rfl, hc1⟩
  · refine W.pure rfl (wo rfl) rfl rfl (pF (decide_eq_false h1) (p_lss rfl rfl rfl)) (nf rfl) ?_
    refine W.doneQ (y := sub [1, 0, 1] B42) rfl ?_
    refine C.cond_false (x := sub [1, 0, 1, 0] B42) (y := sub [1, 0, 1, 1] B42) rfl rfl ?_
    refine C.skipQ (y := sub [1, 1] B42) rfl ?_
    refine C.seq (x := sub [1, 1, 0] B42) (y := sub [1, 1, 1] B42) ?_
    refine C.region (id := 3) (m := 5) (ops := opsOf (sub [1, 1, 0] B42)) rfl ?_
    refine W.pure rfl (wo rfl) rfl rfl (p_move rfl rfl) (nf rfl) ?_
    refine W.pure rfl (wo rfl) rfl rfl (p_move rfl rfl) (nf rfl) ?_
    refine W.pure rfl (wo rfl) rfl rfl (p_nilCheck rfl rfl) (nf rfl) ?_
    refine W.pure rfl (wo rfl) rfl rfl (p_fieldAddr tf73_2 rfl rfl) (nf rfl) ?_
    refine W.put rfl (wo rfl) rfl (f_st0 (k := 2) (u := .int .i64 _) ts3 rfl trivial (show 2 < 4 by decide) rfl rfl rfl) (nf rfl) ?_
    refine W.doneQ (y := sub [1, 1, 1] B42) rfl ?_
    refine C.seq (x := sub [1, 1, 1, 0] B42) (y := sub [1, 1, 1, 1] B42) ?_
    refine C.region (id := 4) (m := 1) (ops := opsOf (sub [1, 1, 1, 0] B42)) rfl ?_
    refine W.pure rfl (wo rfl) rfl rfl (p_assign rfl rfl) (nf rfl) ?_
    refine W.doneQ (y := sub [1, 1, 1, 1] B42) rfl ?_
    obtain ⟨rfl, rfl⟩ : 0 = e ∧ { s with fuse := n } = s2 := Prod.mk.inj (((show rfuseK s n = (0, { s with fuse := n }) from if_neg h1).symm.trans hK))
    exact C.ret (R := fun e w' => ∃ x' : Rx ({ s with fuse := n }), e = .returned (.int .i64 0) ∧ Cls w0 I' (rX b x') w') (rs := [.tmp 4]) (vs := [.int .i64 0]) rfl Try.func42 rfl rfl rfl (res_cons (ResV.tmp rfl) res_nil) fun w1 hc1 => ⟨⟨x.1, rk_same x.2 rfl rfl⟩, rfl, hc1⟩

noncomputable def B50 : Code := bodyOf Try.f50
theorem en50 (args : Array Value) (w : World) : (callFunc 50 args).run Try.prog w = .ok (.enter 50 args) w := by kernel_rfl
theorem rdiv_ok (w : World) (n k : Int) (hk : k ≠ 0) : Calls Try.prog 50 #[.int .i64 n, .int .i64 k] w (fun e w' => e = .returned (.tuple #[.int .i64 (divQ n k), .int .i64 (divR n k)]) ∧ Below w.heap.size w w') := by
  refine calls_of_CW (N := 31) Try.func50 (show _ = some B50 by kernel_rfl) (by kernel_rfl) rfl (S := [(0, .int .i64 n), (1, .int .i64 k)]) (by simp) (clsStart w) ?_
  show CW _ _ _ (sub [] B50) _ _ _
  refine C.seq (x := sub [0] B50) (y := sub [1] B50) ?_
  refine C.region (id := 0) (m := 2) (ops := opsOf (sub [0] B50)) rfl ?_
  refine W.pure rfl (wo rfl) rfl rfl (p_assign rfl rfl) (nf rfl) ?_
  refine W.pure rfl (wo rfl) rfl rfl (p_assign rfl rfl) (nf rfl) ?_
  refine W.doneQ (y := sub [1] B50) rfl ?_
  refine C.seq (x := sub [1, 0] B50) (y := sub [1, 1] B50) ?_
  refine C.region (id := 1) (m := 4) (ops := opsOf (sub [1, 0] B50)) rfl ?_
  refine W.pure rfl (wo rfl) rfl rfl (p_move rfl rfl) (nf rfl) ?_
  refine W.pure rfl (wo rfl) rfl rfl (p_move rfl rfl) (nf rfl) ?_
  refine W.pure rfl (wo rfl) rfl rfl (p_rem hk rfl rfl rfl) (nf rfl) ?_
  refine W.pure rfl (wo rfl) rfl rfl (p_assign rfl rfl) (nf rfl) ?_
  refine W.doneQ (y := sub [1, 1] B50) rfl ?_
  refine C.seq (x := sub [1, 1, 0] B50) (y := sub [1, 1, 1] B50) ?_
  refine C.seq (x := sub [1, 1, 0, 0] B50) (y := sub [1, 1, 0, 1] B50) ?_
  refine C.region (id := 2) (m := 2) (ops := opsOf (sub [1, 1, 0, 0] B50)) rfl ?_
  refine W.pure rfl (wo rfl) rfl rfl (p_move rfl rfl) (nf rfl) ?_
  by_cases h1 : n.tmod k < 0
  · refine W.pure rfl (wo rfl) rfl rfl (pT (decide_eq_true h1) (p_lss rfl rfl rfl)) (nf rfl) ?_
    refine W.doneQ (y := sub [1, 1, 0, 1] B50) rfl ?_
    refine C.cond_true (x := sub [1, 1, 0, 1, 0] B50) (y := sub [1, 1, 0, 1, 1] B50) rfl rfl ?_
    refine C.region (id := 3) (m := 4) (ops := opsOf (sub [1, 1, 0, 1, 0] B50)) rfl ?_
    refine W.pure rfl (wo rfl) rfl rfl (p_move rfl rfl) (nf rfl) ?_
    refine W.pure rfl (wo rfl) rfl rfl (p_move rfl rfl) (nf rfl) ?_
    refine W.pure rfl (wo rfl) rfl rfl (p_add rfl rfl rfl) (nf rfl) ?_
    refine W.pure rfl (wo rfl) rfl rfl (p_assign rfl rfl) (nf rfl) ?_
    refine W.doneQ (y := sub [1, 1, 1] B50) rfl ?_
    refine C.seq (x := sub [1, 1, 1, 0] B50) (y := sub [1, 1, 1, 1] B50) ?_
    refine C.region (id := 4) (m := 4) (ops := opsOf (sub [1, 1, 1, 0] B50)) rfl ?_
    refine W.pure rfl (wo rfl) rfl rfl (p_move rfl rfl) (nf rfl) ?_
    refine W.pure rfl (wo rfl) rfl rfl (p_move rfl rfl) (nf rfl) ?_
    refine W.pure rfl (wo rfl) rfl rfl (p_quo hk rfl rfl rfl) (nf rfl) ?_
    refine W.pure rfl (wo rfl) rfl rfl (p_assign rfl rfl) (nf rfl) ?_
    refine W.doneQ (y := sub [1, 1, 1, 1] B50) rfl ?_
    refine C.seq (x := sub [1, 1, 1, 1, 0] B50) (y := sub [1, 1, 1, 1, 1] B50) ?_
    refine C.seq (x := sub [1, 1, 1, 1, 0, 0] B50) (y := sub [1, 1, 1, 1, 0, 1] B50) ?_
    refine C.region (id := 5) (m := 8) (ops := opsOf (sub [1, 1, 1, 1, 0, 0] B50)) rfl ?_
    refine W.pure rfl (wo rfl) rfl rfl (p_move rfl rfl) (nf rfl) ?_
    by_cases h2 : n < 0
    · refine W.pure rfl (wo rfl) rfl rfl (pT (decide_eq_true h2) (p_lss rfl rfl rfl)) (nf rfl) ?_
      refine W.pure rfl (wo rfl) rfl rfl (p_move rfl rfl) (nf rfl) ?_
      refine W.pure rfl (wo rfl) rfl rfl (p_move rfl rfl) (nf rfl) ?_
      refine W.pure rfl (wo rfl) rfl rfl (p_move rfl rfl) (nf rfl) ?_
      refine W.pure rfl (wo rfl) rfl rfl (p_rem hk rfl rfl rfl) (nf rfl) ?_
      by_cases h3 : ¬ n.tmod k = 0
      · refine W.pure rfl (wo rfl) rfl rfl (pT (by simpa using h3) (p_neq rfl rfl rfl)) (nf rfl) ?_
        refine W.pure rfl (wo rfl) rfl rfl (p_pick_true rfl rfl rfl) (nf rfl) ?_
        refine W.doneQ (y := sub [1, 1, 1, 1, 0, 1] B50) rfl ?_
        refine C.cond_true (x := sub [1, 1, 1, 1, 0, 1, 0] B50) (y := sub [1, 1, 1, 1, 0, 1, 1] B50) rfl rfl ?_
        refine C.region (id := 6) (m := 3) (ops := opsOf (sub [1, 1, 1, 1, 0, 1, 0] B50)) rfl ?_
        refine W.pure rfl (wo rfl) rfl rfl (p_move rfl rfl) (nf rfl) ?_
        refine W.pure rfl (wo rfl) rfl rfl (p_sub rfl rfl rfl) (nf rfl) ?_
        refine W.pure rfl (wo rfl) rfl rfl (p_assign rfl rfl) (nf rfl) ?_
        refine W.doneQ (y := sub [1, 1, 1, 1, 1] B50) rfl ?_
        refine C.seq (x := sub [1, 1, 1, 1, 1, 0] B50) (y := sub [1, 1, 1, 1, 1, 1] B50) ?_
        refine C.region (id := 7) (m := 4) (ops := opsOf (sub [1, 1, 1, 1, 1, 0] B50)) rfl ?_
        refine W.pure rfl (wo rfl) rfl rfl (p_move rfl rfl) (nf rfl) ?_
        refine W.pure rfl (wo rfl) rfl rfl (p_move rfl rfl) (nf rfl) ?_
        refine W.pure rfl (wo rfl) rfl rfl (p_assign rfl rfl) (nf rfl) ?_
        refine W.pure rfl (wo rfl) rfl rfl (p_assign rfl rfl) (nf rfl) ?_
        refine W.doneQ (y := sub [1, 1, 1, 1, 1, 1] B50) rfl ?_
        exact C.ret (R := fun e w' => e = .returned (.tuple #[.int .i64 (divQ n k), .int .i64 (divR n k)]) ∧ Below w.heap.size w w') (rs := [.tmp 4, .tmp 5]) (vs := [.int .i64 (IntKind.i64.wrap (IntKind.i64.wrap (n.tdiv k) - 1)), .int .i64 (IntKind.i64.wrap (n.tmod k + k))]) rfl Try.func50 rfl rfl rfl (res_cons (ResV.tmp rfl) (res_cons (ResV.tmp rfl) res_nil)) fun w1 hc1 => ⟨by rw [show divQ n k = IntKind.i64.wrap (IntKind.i64.wrap (n.tdiv k) - 1) from if_pos ⟨h2, h3⟩, show divR n k = IntKind.i64.wrap (n.tmod k + k) from if_pos h1]; rfl, hc1.toBelow⟩
      · refine W.pure rfl (wo rfl) rfl rfl (pF (by simpa using h3) (p_neq rfl rfl rfl)) (nf rfl) ?_
        refine W.pure rfl (wo rfl) rfl rfl (p_pick_true rfl rfl rfl) (nf rfl) ?_
        refine W.doneQ (y := sub [1, 1, 1, 1, 0, 1] B50) rfl ?_
        refine C.cond_false (x := sub [1, 1, 1, 1, 0, 1, 0] B50) (y := sub [1, 1, 1, 1, 0, 1, 1] B50) rfl rfl ?_
        refine C.skipQ (y := sub [1, 1, 1, 1, 1] B50) rfl ?_
        refine C.seq (x := sub [1, 1, 1, 1, 1, 0] B50) (y := sub [1, 1, 1, 1, 1, 1] B50) ?_
        refine C.region (id := 7) (m := 4) (ops := opsOf (sub [1, 1, 1, 1, 1, 0] B50)) rfl ?_
        refine W.pure rfl (wo rfl) rfl rfl (p_move rfl rfl) (nf rfl) ?_
        refine W.pure rfl (wo rfl) rfl rfl (p_move rfl rfl) (nf rfl) ?_
        refine W.pure rfl (wo rfl) rfl rfl (p_assign rfl rfl) (nf rfl) ?_
        refine W.pure rfl (wo rfl) rfl rfl (p_assign rfl rfl) (nf rfl) ?_
        refine W.doneQ (y := sub [1, 1, 1, 1, 1, 1] B50) rfl ?_
        exact C.ret (R := fun e w' => e = .returned (.tuple #[.int .i64 (divQ n k), .int .i64 (divR n k)]) ∧ Below w.heap.size w w') (rs := [.tmp 4, .tmp 5]) (vs := [.int .i64 (IntKind.i64.wrap (n.tdiv k)), .int .i64 (IntKind.i64.wrap (n.tmod k + k))]) rfl Try.func50 rfl rfl rfl (res_cons (ResV.tmp rfl) (res_cons (ResV.tmp rfl) res_nil)) fun w1 hc1 => ⟨by rw [show divQ n k = IntKind.i64.wrap (n.tdiv k) from if_neg fun z => z.2 (by simpa using h3), show divR n k = IntKind.i64.wrap (n.tmod k + k) from if_pos h1]; rfl, hc1.toBelow⟩
    · refine W.pure rfl (wo rfl) rfl rfl (pF (decide_eq_false h2) (p_lss rfl rfl rfl)) (nf rfl) ?_
      refine W.pure rfl (wo rfl) rfl rfl (p_move rfl rfl) (nf rfl) ?_
      refine W.not rfl (wo rfl) rfl rfl ?_
      refine W.not rfl (wo rfl) rfl rfl ?_
      refine W.not rfl (wo rfl) rfl rfl ?_
      refine W.not rfl (wo rfl) rfl rfl ?_
      refine W.pure rfl (wo rfl) rfl rfl (p_pick_false rfl rfl rfl) (nf rfl) ?_
      refine W.doneQ (y := sub [1, 1, 1, 1, 0, 1] B50) rfl ?_
      refine C.cond_false (x := sub [1, 1, 1, 1, 0, 1, 0] B50) (y := sub [1, 1, 1, 1, 0, 1, 1] B50) rfl rfl ?_
      refine C.skipQ (y := sub [1, 1, 1, 1, 1] B50) rfl ?_
      refine C.seq (x := sub [1, 1, 1, 1, 1, 0] B50) (y := sub [1, 1, 1, 1, 1, 1] B50) ?_
      refine C.region (id := 7) (m := 4) (ops := opsOf (sub [1, 1, 1, 1, 1, 0] B50)) rfl ?_
      refine W.pure rfl (wo rfl) rfl rfl (p_move rfl rfl) (nf rfl) ?_
      refine W.pure rfl (wo rfl) rfl rfl (p_move rfl rfl) (nf rfl) ?_
      refine W.pure rfl (wo rfl) rfl rfl (p_assign rfl rfl) (nf rfl) ?_
      refine W.pure rfl (wo rfl) rfl rfl (p_assign rfl rfl) (nf rfl) ?_
      refine W.doneQ (y := sub [1, 1, 1, 1, 1, 1] B50) rfl ?_
      exact C.ret (R := fun e w' => e = .returned (.tuple #[.int .i64 (divQ n k), .int .i64 (divR n k)]) ∧ Below w.heap.size w w') (rs := [.tmp 4, .tmp 5]) (vs := [.int .i64 (IntKind.i64.wrap (n.tdiv k)), .int .i64 (IntKind.i64.wrap (n.tmod k + k))]) rfl Try.func50 rfl rfl rfl (res_cons (ResV.tmp rfl) (res_cons (ResV.tmp rfl) res_nil)) fun w1 hc1 => ⟨by rw [show divQ n k = IntKind.i64.wrap (n.tdiv k) from if_neg fun z => h2 z.1, show divR n k = IntKind.i64.wrap (n.tmod k + k) from if_pos h1]; rfl, hc1.toBelow⟩
  · refine W.pure rfl (wo rfl) rfl rfl (pF (decide_eq_false h1) (p_lss rfl rfl rfl)) (nf rfl) ?_
    refine W.doneQ (y := sub [1, 1, 0, 1] B50) rfl ?_
    refine C.cond_false (x := sub [1, 1, 0, 1, 0] B50) (y := sub [1, 1, 0, 1, 1] B50) rfl rfl ?_
    refine C.skipQ (y := sub [1, 1, 1] B50) rfl ?_
    refine C.seq (x := sub [1, 1, 1, 0] B50) (y := sub [1, 1, 1, 1] B50) ?_
    refine C.region (id := 4) (m := 4) (ops := opsOf (sub [1, 1, 1, 0] B50)) rfl ?_
    refine W.pure rfl (wo rfl) rfl rfl (p_move rfl rfl) (nf rfl) ?_
    refine W.pure rfl (wo rfl) rfl rfl (p_move rfl rfl) (nf rfl) ?_
    refine W.pure rfl (wo rfl) rfl rfl (p_quo hk rfl rfl rfl) (nf rfl) ?_
    refine W.pure rfl (wo rfl) rfl rfl (p_assign rfl rfl) (nf rfl) ?_
    refine W.doneQ (y := sub [1, 1, 1, 1] B50) rfl ?_
    refine C.seq (x := sub [1, 1, 1, 1, 0] B50) (y := sub [1, 1, 1, 1, 1] B50) ?_
    refine C.seq (x := sub [1, 1, 1, 1, 0, 0] B50) (y := sub [1, 1, 1, 1, 0, 1] B50) ?_
    refine C.region (id := 5) (m := 8) (ops := opsOf (sub [1, 1, 1, 1, 0, 0] B50)) rfl ?_
    refine W.pure rfl (wo rfl) rfl rfl (p_move rfl rfl) (nf rfl) ?_
    by_cases h2 : n < 0
    · refine W.pure rfl (wo rfl) rfl rfl (pT (decide_eq_true h2) (p_lss rfl rfl rfl)) (nf rfl) ?_
      refine W.pure rfl (wo rfl) rfl rfl (p_move rfl rfl) (nf rfl) ?_
      refine W.pure rfl (wo rfl) rfl rfl (p_move rfl rfl) (nf rfl) ?_
      refine W.pure rfl (wo rfl) rfl rfl (p_move rfl rfl) (nf rfl) ?_
      refine W.pure rfl (wo rfl) rfl rfl (p_rem hk rfl rfl rfl) (nf rfl) ?_
      by_cases h3 : ¬ n.tmod k = 0
      · refine W.pure rfl (wo rfl) rfl rfl (pT (by simpa using h3) (p_neq rfl rfl rfl)) (nf rfl) ?_
        refine W.pure rfl (wo rfl) rfl rfl (p_pick_true rfl rfl rfl) (nf rfl) ?_
        refine W.doneQ (y := sub [1, 1, 1, 1, 0, 1] B50) rfl ?_
        refine C.cond_true (x := sub [1, 1, 1, 1, 0, 1, 0] B50) (y := sub [1, 1, 1, 1, 0, 1, 1] B50) rfl rfl ?_
        refine C.region (id := 6) (m := 3) (ops := opsOf (sub [1, 1, 1, 1, 0, 1, 0] B50)) rfl ?_
        refine W.pure rfl (wo rfl) rfl rfl (p_move rfl rfl) (nf rfl) ?_
        refine W.pure rfl (wo rfl) rfl rfl (p_sub rfl rfl rfl) (nf rfl) ?_
        refine W.pure rfl (wo rfl) rfl rfl (p_assign rfl rfl) (nf rfl) ?_
        refine W.doneQ (y := sub [1, 1, 1, 1, 1] B50) rfl ?_
        refine C.seq (x := sub [1, 1, 1, 1, 1, 0] B50) (y := sub [1, 1, 1, 1, 1, 1] B50) ?_
        refine C.region (id := 7) (m := 4) (ops := opsOf (sub [1, 1, 1, 1, 1, 0] B50)) rfl ?_
        refine W.pure rfl (wo rfl) rfl rfl (p_move rfl rfl) (nf rfl) ?_
        refine W.pure rfl (wo rfl) rfl rfl (p_move rfl rfl) (nf rfl) ?_
        refine W.pure rfl (wo rfl) rfl rfl (p_assign rfl rfl) (nf rfl) ?_
        refine W.pure rfl (wo rfl) rfl rfl (p_assign rfl rfl) (nf rfl) ?_
        refine W.doneQ (y := sub [1, 1, 1, 1, 1, 1] B50) rfl ?_
        exact C.ret (R := fun e w' => e = .returned (.tuple #[.int .i64 (divQ n k), .int .i64 (divR n k)]) ∧ Below w.heap.size w w') (rs := [.tmp 4, .tmp 5]) (vs := [.int .i64 (IntKind.i64.wrap (IntKind.i64.wrap (n.tdiv k) - 1)), .int .i64 (n.tmod k)]) rfl Try.func50 rfl rfl rfl (res_cons (ResV.tmp rfl) (res_cons (ResV.tmp rfl) res_nil)) fun w1 hc1 => ⟨by rw [show divQ n k = IntKind.i64.wrap (IntKind.i64.wrap (n.tdiv k) - 1) from if_pos ⟨h2, h3⟩, show divR n k = n.tmod k from if_neg h1]; rfl, hc1.toBelow⟩
      · refine W.pure rfl (wo rfl) rfl rfl (pF (by simpa using h3) (p_neq rfl rfl rfl)) (nf rfl) ?_
        refine W.pure rfl (wo rfl) rfl rfl (p_pick_true rfl rfl rfl) (nf rfl) ?_
        refine W.doneQ (y := sub [1, 1, 1, 1, 0, 1] B50) rfl ?_
        refine C.cond_false (x := sub [1, 1, 1, 1, 0, 1, 0] B50) (y := sub [1, 1, 1, 1, 0, 1, 1] B50) rfl rfl ?_
        refine C.skipQ (y := sub [1, 1, 1, 1, 1] B50) rfl ?_
        refine C.seq (x := sub [1, 1, 1, 1, 1, 0] B50) (y := sub [1, 1, 1, 1, 1, 1] B50) ?_
        refine C.region (id := 7) (m := 4) (ops := opsOf (sub [1, 1, 1, 1, 1, 0] B50)) rfl ?_
        refine W.pure rfl (wo rfl) rfl rfl (p_move rfl rfl) (nf rfl) ?_
        refine W.pure rfl (wo rfl) rfl rfl (p_move rfl rfl) (nf rfl) ?_
        refine W.pure rfl (wo rfl) rfl rfl (p_assign rfl rfl) (nf rfl) ?_
        refine W.pure rfl (wo rfl) rfl rfl (p_assign rfl rfl) (nf rfl) ?_
        refine W.doneQ (y := sub [1, 1, 1, 1, 1, 1] B50) rfl ?_
        exact C.ret (R := fun e w' => e = .returned (.tuple #[.int .i64 (divQ n k), .int .i64 (divR n k)]) ∧ Below w.heap.size w w') (rs := [.tmp 4, .tmp 5]) (vs := [.int .i64 (IntKind.i64.wrap (n.tdiv k)), .int .i64 (n.tmod k)]) rfl Try.func50 rfl rfl rfl (res_cons (ResV.tmp rfl) (res_cons (ResV.tmp rfl) res_nil)) fun w1 hc1 => ⟨by rw [show divQ n k = IntKind.i64.wrap (n.tdiv k) from if_neg fun z => z.2 (by simpa using h3), show divR n k = n.tmod k from if_neg h1]; rfl, hc1.toBelow⟩
    · refine W.pure rfl (wo rfl) rfl rfl (pF (decide_eq_false h2) (p_lss rfl rfl rfl)) (nf rfl) ?_
      refine W.pure rfl (wo rfl) rfl rfl (p_move rfl rfl) (nf rfl) ?_
      refine W.not rfl (wo rfl) rfl rfl ?_
      refine W.not rfl (wo rfl) rfl rfl ?_
      refine W.not rfl (wo rfl) rfl rfl ?_
      refine W.not rfl (wo rfl) rfl rfl ?_
      refine W.pure rfl (wo rfl) rfl rfl (p_pick_false rfl rfl rfl) (nf rfl) ?_
      refine W.doneQ (y := sub [1, 1, 1, 1, 0, 1] B50) rfl ?_
      refine C.cond_false (x := sub [1, 1, 1, 1, 0, 1, 0] B50) (y := sub [1, 1, 1, 1, 0, 1, 1] B50) rfl rfl ?_
      refine C.skipQ (y := sub [1, 1, 1, 1, 1] B50) rfl ?_
      refine C.seq (x := sub [1, 1, 1, 1, 1, 0] B50) (y := sub [1, 1, 1, 1, 1, 1] B50) ?_
      refine C.region (id := 7) (m := 4) (ops := opsOf (sub [1, 1, 1, 1, 1, 0] B50)) rfl ?_
      refine W.pure rfl (wo rfl) rfl rfl (p_move rfl rfl) (nf rfl) ?_
      refine W.pure rfl (wo rfl) rfl rfl (p_move rfl rfl) (nf rfl) ?_
      refine W.pure rfl (wo rfl) rfl rfl (p_assign rfl rfl) (nf rfl) ?_
      refine W.pure rfl (wo rfl) rfl rfl (p_assign rfl rfl) (nf rfl) ?_
      refine W.doneQ (y := sub [1, 1, 1, 1, 1, 1] B50) rfl ?_
      exact C.ret (R := fun e w' => e = .returned (.tuple #[.int .i64 (divQ n k), .int .i64 (divR n k)]) ∧ Below w.heap.size w w') (rs := [.tmp 4, .tmp 5]) (vs := [.int .i64 (IntKind.i64.wrap (n.tdiv k)), .int .i64 (n.tmod k)]) rfl Try.func50 rfl rfl rfl (res_cons (ResV.tmp rfl) (res_cons (ResV.tmp rfl) res_nil)) fun w1 hc1 => ⟨by rw [show divQ n k = IntKind.i64.wrap (n.tdiv k) from if_neg fun z => h2 z.1, show divR n k = n.tmod k from if_neg h1]; rfl, hc1.toBelow⟩

end Go.Proofs.Ytjomnicfcdkfdaa
end

section
namespace Go.Proofs.Ytjomnicfcdkfdaa
open Go Go.HW Go.RowKit
set_option linter.unusedVariables false
set_option linter.unusedSimpArgs false

theorem hasL_iff {n : Nat} {i : Int} (h : hasL n i = true) : 0 ≤ i ∧ i < (n : Int) := of_decide_eq_true h
theorem B_len {g : Rg} {s : Rk} (h : RkO g s) : s.B.length = g.Bs.length := by rw [h.sB, List.length_map]
theorem L_len {g : Rg} {s : Rk} (h : RkO g s) : s.L.length = g.Ls.length := by rw [h.sL, List.length_map]
theorem has_row {g : Rg} {s : Rk} (h : RkO g s) {n : Int} (hn : hasL s.B.length n = true) : ∃ r, g.Bs[n.toNat]? = some r ∧ r ∈ g.Bs := by
  obtain ⟨h0, h1⟩ := hasL_iff hn
  rw [B_len h] at h1
  have : n.toNat < g.Bs.length := by omega
  exact ⟨_, List.getElem?_eq_getElem this, List.getElem_mem this⟩
theorem rk_setB {g : Rg} {s : Rk} (h : RkO g s) {r' : Rw} (hr : rwOk r') {n : Nat} (hn : n < g.Bs.length) : RkO { g with cB := g.cB.setIfInBounds n r'.1, Bs := g.Bs.set n r' } { s with B := s.B.set n r'.2.2 } := by
  refine ⟨?_, h.hL, fun r hm => ?_, h.rL, ?_, h.sL, ?_⟩
  · have := h.hB.set (j := n) (q := r'.1) (by omega)
    show OwnV g.vB _ 1 (g.Bs.set n r').length ((g.Bs.set n r').map (·.1))
    rw [List.length_set, List.map_set]; exact this
  · rcases List.mem_or_eq_of_mem_set hm with hm | rfl
    · exact h.rB r hm
    · exact hr
  · show s.B.set n r'.2.2 = (g.Bs.set n r').map (·.2.2)
    rw [List.map_set, h.sB]
  · intro p hp
    show 0 ≤ p.1 ∧ p.1 < ((g.Bs.set n r').length : Int)
    rw [List.length_set]; exact h.ok p hp
theorem rk_pushL {g : Rg} {s : Rk} (h : RkO g s) {r' : Rw} (hr : rwOk r') {n : Int} (hn : 0 ≤ n ∧ n < (g.Bs.length : Int)) {v : Value} {c : Array Value} (hz : OwnV v c 2 (g.Ls.length + 1) (lcells g.Ls ++ [.int .i64 n, r'.1])) :
    RkO { g with vL := v, cL := c, Ls := g.Ls ++ [(n, r')] } { s with L := s.L ++ [(n, r'.2.2)] } := by
  refine ⟨h.hB, ?_, h.rB, fun p hp => ?_, h.sB, ?_, fun p hp => ?_⟩
  · show OwnV v c 2 (g.Ls ++ [(n, r')]).length (lcells (g.Ls ++ [(n, r')]))
    rw [List.length_append, lcells_app]; exact hz
  · rcases List.mem_append.1 hp with hp | hp
    · exact h.rL p hp
    · rw [List.mem_singleton.1 hp]; exact hr
  · show s.L ++ [(n, r'.2.2)] = (g.Ls ++ [(n, r')]).map _
    rw [List.map_append, h.sL]; rfl
  · rcases List.mem_append.1 hp with hp | hp
    · exact h.ok p hp
    · rw [List.mem_singleton.1 hp]; exact hn
theorem rk_nilL {g : Rg} {s : Rk} (h : RkO g s) : RkO { g with vL := .slice none 0 0, cL := #[], Ls := [] } { s with L := [] } := ⟨h.hB, OwnV.nil 2, h.rB, fun p hp => (by cases hp), h.sB, rfl, fun p hp => (by cases hp)⟩
section
variable {w0 : World} {I : Mem} {R : Heap} {w : World}
theorem cls_nilL {b : Nat} {g : Rg} {s s' : Rk} (h : Cls w0 I (rk0 b { g with vL := .slice none 0 0, cL := #[], Ls := [] } s' :: (g.vB.ownBlock, .cells g.cB 32 (0, 0)) :: (g.vL.ownBlock, .cells g.cL 80 (0, 0)) :: (rkT g ++ R)) w) : Cls w0 I (rkH b { g with vL := .slice none 0 0, cL := #[], Ls := [] } s' ++ R) w := by
  have h1 : Cls w0 I (rk0 b { g with vL := .slice none 0 0, cL := #[], Ls := [] } s' :: (g.vB.ownBlock, .cells g.cB 32 (0, 0)) :: (g.Bs.map rwE ++ R)) w := by
    refine h.fewer (List.Sublist.cons_cons _ (List.Sublist.cons_cons _ (List.Sublist.cons _ ?_)))
    unfold rkT
    rw [List.append_assoc]
    exact List.Sublist.append (List.Sublist.refl _) (List.sublist_append_right _ _)
  have h2 := cls_addNil (o := .cells #[] 80 (0, 0)) h1
  refine h2.perm ?_
  show ((none, Obj.cells #[] 80 (0, 0)) :: _ :: _ :: (g.Bs.map rwE ++ R)).Perm (_ :: _ :: (none, Obj.cells #[] 80 (0, 0)) :: (rkT _ ++ R))
  have e : rkT { g with vL := .slice none 0 0, cL := #[], Ls := [] } = g.Bs.map rwE := by unfold rkT; simp
  rw [e]
  refine (List.Perm.swap _ _ _).trans (List.Perm.cons _ ?_)
  exact List.Perm.swap _ _ _
/-- a write's row comes behind the others -/
theorem cls_pushL {b : Nat} {g : Rg} {s' : Rk} {x : Option Nat × Obj} {r' : Rw} {n : Int} {v : Value} {c : Array Value} (h : Cls w0 I (x :: rwE r' :: rk0 b { g with vL := v, cL := c, Ls := g.Ls ++ [(n, r')] } s' :: (g.vB.ownBlock, .cells g.cB 32 (0, 0)) :: (v.ownBlock, .cells c 80 (0, 0)) :: (rkT g ++ R)) w) : Cls w0 I (rkH b { g with vL := v, cL := c, Ls := g.Ls ++ [(n, r')] } s' ++ R) w := by
  refine (h.tail).perm ?_
  show (rwE r' :: _ :: _ :: _ :: (rkT g ++ R)).Perm (_ :: _ :: _ :: (rkT _ ++ R))
  have e : rkT { g with vL := v, cL := c, Ls := g.Ls ++ [(n, r')] } = rkT g ++ [rwE r'] := by unfold rkT; simp
  rw [e]
  refine (List.Perm.swap _ _ _).trans (List.Perm.cons _ ?_)
  refine (List.Perm.swap _ _ _).trans (List.Perm.cons _ ?_)
  refine (List.Perm.swap _ _ _).trans (List.Perm.cons _ ?_)
  rw [List.append_assoc]
  exact (List.perm_middle (l₁ := rkT g) (a := rwE r') (l₂ := R)).symm
/-- a new row in an old one's place -/
theorem cls_setB {b n : Nat} {g : Rg} {s s' : Rk} {r r' : Rw} (hr : g.Bs[n]? = some r) (hs : s'.fuse = s.fuse ∧ s'.dead = s.dead) {cB : Array Value} (h : Cls w0 I (rwE r' :: rk0 b g s :: (g.vB.ownBlock, .cells cB 32 (0, 0)) :: (g.vL.ownBlock, .cells g.cL 80 (0, 0)) :: (rkT g ++ R)) w) : Cls w0 I (rkH b { g with cB := cB, Bs := g.Bs.set n r' } s' ++ R) w := by
  have p := set_rows (b := b) (r' := r') hr cB s' hs
  have h2 : Cls w0 I ((rwE r' :: (rkH b g s).set 1 (g.vB.ownBlock, .cells cB 32 (0, 0))) ++ R) w := h
  exact (h2.perm (p.append_right R)).tail
end
theorem rkH_setB {b n : Nat} {g : Rg} {s : Rk} {r' : Rw} (hn : n < g.Bs.length) : (rkH b g s).set (n + 3) (rwE r') = rkH b { g with Bs := g.Bs.set n r' } s := by
  show _ :: _ :: _ :: (rkT g).set n (rwE r') = _ :: _ :: _ :: rkT _
  unfold rkT
  rw [List.set_append, if_pos (by rw [List.length_map]; exact hn), List.map_set]; rfl
theorem rkH_setL {b i : Nat} {g : Rg} {s : Rk} {p : Int × Rw} {r' : Rw} (hp : g.Ls[i]? = some p) : (rkH b g s).set (g.Bs.length + i + 3) (rwE r') = rkH b { g with Ls := g.Ls.set i (p.1, r') } s := by
  show _ :: _ :: _ :: (rkT g).set (g.Bs.length + i) (rwE r') = _ :: _ :: _ :: rkT _
  unfold rkT
  rw [List.set_append, if_neg (by rw [List.length_map]; omega), List.length_map, Nat.add_sub_cancel_left]
  have e : (g.Ls.map fun p => rwE p.2).set i (rwE r') = (g.Ls.set i (p.1, r')).map fun p => rwE p.2 := by rw [List.map_set]
  rw [e]; rfl
theorem rk_edB {g : Rg} {s : Rk} (h : RkO g s) {r : Rw} {n : Nat} (hn : g.Bs[n]? = some r) {j : Nat} (hj : j < 512) (z : Int) : RkO { g with Bs := g.Bs.set n (r.1, r.2.1.setIfInBounds j (.int .u8 z), r.2.2.set j z) } { s with B := s.B.set n (r.2.2.set j z) } := by
  have hl := (List.getElem?_eq_some_iff.1 hn).1
  have hr := h.rB r (List.mem_of_getElem? hn)
  refine ⟨?_, h.hL, fun q hm => ?_, h.rL, ?_, h.sL, ?_⟩
  · show OwnV g.vB g.cB 1 (g.Bs.set n _).length ((g.Bs.set n _).map (·.1))
    rw [List.length_set, List.map_set]
    have e : (g.Bs.map (·.1)).set n r.1 = g.Bs.map (·.1) := by
      apply List.ext_getElem?
      intro i
      rw [List.getElem?_set]
      by_cases c : n = i
      · subst c; rw [if_pos rfl, if_pos (by rw [List.length_map]; exact hl), List.getElem?_map, hn]; rfl
      · rw [if_neg c]
    show OwnV g.vB g.cB 1 g.Bs.length ((g.Bs.map (·.1)).set n r.1)
    rw [e]; exact h.hB
  · rcases List.mem_or_eq_of_mem_set hm with hm | rfl
    · exact h.rB q hm
    · exact ⟨hr.1.set (by rw [hr.2]; exact hj) z, by simp [hr.2]⟩
  · show s.B.set n (r.2.2.set j z) = (g.Bs.set n _).map (·.2.2)
    rw [List.map_set, h.sB]
  · intro p hp
    show 0 ≤ p.1 ∧ p.1 < ((g.Bs.set n _).length : Int)
    rw [List.length_set]; exact h.ok p hp
theorem rk_edL {g : Rg} {s : Rk} (h : RkO g s) {p : Int × Rw} {i : Nat} (hp : g.Ls[i]? = some p) {j : Nat} (hj : j < 512) (z : Int) : RkO { g with Ls := g.Ls.set i (p.1, (p.2.1, p.2.2.1.setIfInBounds j (.int .u8 z), p.2.2.2.set j z)) } { s with L := s.L.set i (p.1, p.2.2.2.set j z) } := by
  have hr := h.rL p (List.mem_of_getElem? hp)
  refine ⟨h.hB, ?_, h.rB, fun q hm => ?_, h.sB, ?_, fun q hm => ?_⟩
  · show OwnV g.vL g.cL 2 (g.Ls.set i _).length (lcells (g.Ls.set i _))
    rw [List.length_set, lcells_set (r := (p.2.1, p.2.2.1.setIfInBounds j (.int .u8 z), p.2.2.2.set j z)) hp rfl]; exact h.hL
  · rcases List.mem_or_eq_of_mem_set hm with hm | rfl
    · exact h.rL q hm
    · exact ⟨hr.1.set (by rw [hr.2]; exact hj) z, by simp [hr.2]⟩
  · show s.L.set i _ = (g.Ls.set i _).map _
    rw [List.map_set, h.sL]
  · rcases List.mem_or_eq_of_mem_set hm with hm | rfl
    · exact h.ok q hm
    · exact h.ok p (List.mem_of_getElem? hp)
end Go.Proofs.Ytjomnicfcdkfdaa
end

section
namespace Go.Proofs.Ytjomnicfcdkfdaa
open Go Go.HW Go.RowKit
set_option linter.unusedVariables false
set_option linter.unusedSimpArgs false

theorem rstep_B {s s2 : Rk} {e : Int} (h : rstepK s = (e, s2)) : s2.B = s.B := by
  have : (rstepK s).2.B = s.B := by
    unfold rstepK
    by_cases a : s.dead = true
    · rw [if_pos a]
    · rw [if_neg a]
      by_cases b : s.fuse = 0
      · rw [if_pos b]
      · rw [if_neg b]
        by_cases c : 0 < s.fuse
        · rw [if_pos c]
        · rw [if_neg c]
  rw [h] at this; exact this
theorem rstep_L {s s2 : Rk} {e : Int} (h : rstepK s = (e, s2)) : s2.L = s.L := by
  have : (rstepK s).2.L = s.L := by
    unfold rstepK
    by_cases a : s.dead = true
    · rw [if_pos a]
    · rw [if_neg a]
      by_cases b : s.fuse = 0
      · rw [if_pos b]
      · rw [if_neg b]
        by_cases c : 0 < s.fuse
        · rw [if_pos c]
        · rw [if_neg c]
  rw [h] at this; exact this
theorem build80 (n : Int) (a : Option Addr) (m c : Nat) (w : World) : (Instr.build 80 #[(0, .int .i64 n), (1, .slice a m c)]).run Try.prog w = .ok (.agg #[.int .i64 n, .slice a m c]) w := by kernel_rfl
theorem fill80 (n : Int) (v : Value) : Instr.fill (fun i => some (i * 2, 2)) ((Array.range (1 * 2)).map (fun x => (Value.agg #[.int .i64 0, .slice none 0 0]).cells[x % (Value.agg #[.int .i64 0, .slice none 0 0]).cells.size]!)) [(0, .agg #[.int .i64 n, v])] = some #[.int .i64 n, v] := by kernel_rfl
theorem two_one (n : Int) (a : Option Addr) (m c : Nat) : ∀ v ∈ [Value.int .i64 n, .slice a m c], v.oneCell' = true := by
  intro v hv
  simp only [List.mem_cons, List.not_mem_nil, or_false] at hv
  rcases hv with rfl | rfl <;> rfl

noncomputable def B40 : Code := bodyOf Try.f40
theorem en40 (args : Array Value) (w : World) : (callFunc 40 args).run Try.prog w = .ok (.enter 40 args) w := by kernel_rfl
theorem rWrite {I : Mem} {b : Nat} {s s2 : Rk} {e : Int} {xs : List Int} (x : Rx s) (y : Ox .u8 xs) (n : Int) (hK : rwriteK s n xs = (e, s2)) (hl : s.L.length ≤ 1099511627775) : Turn I 40 #[ptr b 0, .int .i64 n, y.1.1] (rX b x ++ oX y) (fun _ : Rx s2 => .int .i64 e) (fun x' => rX b x' ++ oX y) := fun I' he w0 w hc => by
  refine calls_of_CW (N := 35) Try.func40 (show _ = some B40 by kernel_rfl) (by kernel_rfl) rfl (S := [(0, ptr b 0), (1, .int .i64 n), (2, y.1.1)]) (by simp) hc ?_
  show CW _ _ _ (sub [] B40) _ _ _
  refine C.seq (x := sub [0] B40) (y := sub [1] B40) ?_
  refine C.region (id := 0) (m := 1) (ops := opsOf (sub [0] B40)) rfl ?_
  refine W.pure rfl (wo rfl) rfl rfl (p_assign rfl rfl) (nf rfl) ?_
  refine W.doneQ (y := sub [1] B40) rfl ?_
  refine C.seq (x := sub [1, 0] B40) (y := sub [1, 1] B40) ?_
  refine C.seq (x := sub [1, 0, 0] B40) (y := sub [1, 0, 1] B40) ?_
  refine C.region (id := 1) (m := 9) (ops := opsOf (sub [1, 0, 0] B40)) rfl ?_
  refine W.pure rfl (wo rfl) rfl rfl (p_move rfl rfl) (nf rfl) ?_
  refine W.pure rfl (wo rfl) rfl rfl (p_move rfl rfl) (nf rfl) ?_
  refine W.quiet rfl (wo rfl) rfl rfl (f_callR (v := .bool (hasL s.B.length n)) rfl rfl (args_val rfl) (en48 _) (fun w1 hc1 => rhas_x (g := x.1) (s2 := s) x (List.mem_append_left _ List.mem_cons_self) hc1 n)) (nf rfl) ?_
  refine W.pure rfl (wo rfl) rfl rfl (p_not rfl rfl) (nf rfl) ?_
  by_cases h1 : hasL s.B.length n = false
  · refine W.pure rfl (wo rfl) rfl rfl (pT (by rw [h1]; rfl) (p_move rfl rfl)) (nf rfl) ?_
    refine W.not rfl (wo rfl) rfl rfl ?_
    refine W.not rfl (wo rfl) rfl rfl ?_
    refine W.not rfl (wo rfl) rfl rfl ?_
    refine W.pure rfl (wo rfl) rfl rfl (p_pick_true rfl rfl rfl) (nf rfl) ?_
    refine W.doneQ (y := sub [1, 0, 1] B40) rfl ?_
    refine C.cond_true (x := sub [1, 0, 1, 0] B40) (y := sub [1, 0, 1, 1] B40) rfl rfl ?_
    refine C.seq (x := sub [1, 0, 1, 0, 0] B40) (y := sub [1, 0, 1, 0, 1] B40) ?_
    refine C.region (id := 2) (m := 1) (ops := opsOf (sub [1, 0, 1, 0, 0] B40)) rfl ?_
    refine W.pure rfl (wo rfl) rfl rfl (p_assign rfl rfl) (nf rfl) ?_
    refine W.doneQ (y := sub [1, 0, 1, 0, 1] B40) rfl ?_
    obtain ⟨rfl, rfl⟩ : 2 = e ∧ s = s2 := Prod.mk.inj ((show rwriteK s n xs = (2, s) from by unfold rwriteK; rw [if_pos (by simpa using h1)]).symm.trans hK)
    exact C.ret (R := fun e' w' => ∃ x' : Rx s, e' = .returned (.int .i64 2) ∧ Cls w0 I' (rX b x' ++ oX y) w') (rs := [.tmp 6]) (vs := [.int .i64 2]) rfl Try.func40 rfl rfl rfl (res_cons (ResV.tmp rfl) res_nil) fun w1 hc1 => ⟨x, rfl, hc1⟩
  · refine W.pure rfl (wo rfl) rfl rfl (pF (by simpa using h1) (p_move rfl rfl)) (nf rfl) ?_
    refine W.pure rfl (wo rfl) rfl rfl (p_move rfl rfl) (nf rfl) ?_
    refine W.pure rfl (wo rfl) rfl rfl (p_slLen tu32 (ox_sl y) rfl rfl) (nf rfl) ?_
    by_cases h2 : ¬ xs.length = 512
    · refine W.pure rfl (wo rfl) rfl rfl (pT (by simpa using (show ¬ (xs.length : Int) = 512 by omega)) (p_neq rfl rfl rfl)) (nf rfl) ?_
      refine W.pure rfl (wo rfl) rfl rfl (p_pick_false rfl rfl rfl) (nf rfl) ?_
      refine W.doneQ (y := sub [1, 0, 1] B40) rfl ?_
      refine C.cond_true (x := sub [1, 0, 1, 0] B40) (y := sub [1, 0, 1, 1] B40) rfl rfl ?_
      refine C.seq (x := sub [1, 0, 1, 0, 0] B40) (y := sub [1, 0, 1, 0, 1] B40) ?_
      refine C.region (id := 2) (m := 1) (ops := opsOf (sub [1, 0, 1, 0, 0] B40)) rfl ?_
      refine W.pure rfl (wo rfl) rfl rfl (p_assign rfl rfl) (nf rfl) ?_
      refine W.doneQ (y := sub [1, 0, 1, 0, 1] B40) rfl ?_
      obtain ⟨rfl, rfl⟩ : 2 = e ∧ s = s2 := Prod.mk.inj ((show rwriteK s n xs = (2, s) from by unfold rwriteK; rw [if_neg h1, if_pos h2]).symm.trans hK)
      exact C.ret (R := fun e' w' => ∃ x' : Rx s, e' = .returned (.int .i64 2) ∧ Cls w0 I' (rX b x' ++ oX y) w') (rs := [.tmp 6]) (vs := [.int .i64 2]) rfl Try.func40 rfl rfl rfl (res_cons (ResV.tmp rfl) res_nil) fun w1 hc1 => ⟨x, rfl, hc1⟩
    · refine W.pure rfl (wo rfl) rfl rfl (pF (by simpa using (show (xs.length : Int) = 512 by omega)) (p_neq rfl rfl rfl)) (nf rfl) ?_
      refine W.pure rfl (wo rfl) rfl rfl (p_pick_false rfl rfl rfl) (nf rfl) ?_
      refine W.doneQ (y := sub [1, 0, 1] B40) rfl ?_
      refine C.cond_false (x := sub [1, 0, 1, 0] B40) (y := sub [1, 0, 1, 1] B40) rfl rfl ?_
      refine C.skipQ (y := sub [1, 1] B40) rfl ?_
      refine C.seq (x := sub [1, 1, 0] B40) (y := sub [1, 1, 1] B40) ?_
      refine C.region (id := 3) (m := 3) (ops := opsOf (sub [1, 1, 0] B40)) rfl ?_
      refine W.pure rfl (wo rfl) rfl rfl (p_move rfl rfl) (nf rfl) ?_
      obtain ⟨e1, s1, hS⟩ : ∃ e1 s1, rstepK s = (e1, s1) := ⟨_, _, rfl⟩
      refine W.c11 rfl (wo rfl) rfl rfl rfl (rStep x hS) (en49 _) rfl rfl rfl (args_val rfl) ?_
      intro x1
      have hlen : x.1.Bs.length = x1.1.Bs.length := by rw [← B_len x.2, ← B_len x1.2, show s1.B = s.B from rstep_B hS]
      have hn1 : 0 ≤ n ∧ n < (x1.1.Bs.length : Int) := by rw [← hlen, ← B_len x.2]; exact hasL_iff (by simpa using h1)
      refine W.pure rfl (wo rfl) rfl rfl (p_assign rfl rfl) (nf rfl) ?_
      refine W.doneQ (y := sub [1, 1, 1] B40) rfl ?_
      refine C.seq (x := sub [1, 1, 1, 0] B40) (y := sub [1, 1, 1, 1] B40) ?_
      refine C.seq (x := sub [1, 1, 1, 0, 0] B40) (y := sub [1, 1, 1, 0, 1] B40) ?_
      refine C.region (id := 4) (m := 2) (ops := opsOf (sub [1, 1, 1, 0, 0] B40)) rfl ?_
      refine W.pure rfl (wo rfl) rfl rfl (p_move rfl rfl) (nf rfl) ?_
      by_cases h3 : ¬ e1 = 14
      · refine W.pure rfl (wo rfl) rfl rfl (pT (by simpa using h3) (p_neq rfl rfl rfl)) (nf rfl) ?_
        refine W.doneQ (y := sub [1, 1, 1, 0, 1] B40) rfl ?_
        refine C.cond_true (x := sub [1, 1, 1, 0, 1, 0] B40) (y := sub [1, 1, 1, 0, 1, 1] B40) rfl rfl ?_
        refine C.regionD (id := 5) (ops := opsOf (sub [1, 1, 1, 0, 1, 0] B40)) [0, 1, 2, 3, 4, 5, 6, 7, 8, 9, 10, 11, 12, 13] [0, 0, 2, 6, 14, 0, 0, 64, 224, 480, 1022, 2047, 4095, 8191] [(.pure, none), (.pure, none), (.pure, none), (.pure, none), (.quiet, none), (.pure, none), (.pure, none), (.keep, none), (.pure, none), (.alloc, none), (.actx, none), (.pure, none), (.pure, none), (.store, none)] (by kernel_rfl) ?_
        intro wD5 hl5
        refine DW.pure rfl rfl rfl rfl rfl (p_move rfl rfl) ?_
        refine DW.pure rfl rfl rfl rfl rfl (p_move rfl rfl) ?_
        refine DW.pure rfl rfl rfl rfl rfl (p_nilCheck rfl rfl) ?_
        refine DW.pure rfl rfl rfl rfl rfl (p_fieldAddr tf73_1 rfl rfl) ?_
        refine DW.quiet rfl rfl rfl rfl rfl (f_load (j := 0) ta71 rfl (off := 1) rfl rfl rfl) ?_
        refine DW.pure rfl rfl rfl rfl rfl (p_move rfl rfl) ?_
        refine DW.pure rfl rfl rfl rfl rfl (p_move rfl rfl) ?_
        refine DW.keep (fun z p hp => List.mem_cons_of_mem _ hp) rfl rfl rfl rfl rfl (f_app0 (xs := xs) (by omega) (fun w hc => OwnV.src y.2 hc (List.mem_append_right _ (List.mem_append_left _ (List.mem_singleton.2 rfl))) (encl_one .u8 xs)) rfl rfl rfl) ?_
        rintro ⟨⟨zv, zc⟩, hz⟩
        obtain ⟨za, zk, rfl⟩ := own_len hz
        refine DW.pure rfl rfl rfl rfl rfl (p_build (vs := [(0, .int .i64 n), (1, .slice za xs.length zk)]) (fun w => build80 _ _ _ _ w) rfl rfl) ?_
        refine DW.new rfl rfl rfl rfl rfl (f_buildS (n := 1) (vs := [(0, .agg #[.int .i64 n, .slice za xs.length zk])]) elem71 (by decide) (by decide) (fill80 _ _) rfl (args_val2 rfl)) ?_
        intro bw hbw
        refine DW.actx rfl rfl rfl rfl rfl (f_append (j := 4) (m := 1) (news := [.int .i64 n, .slice za xs.length zk]) elem71 rfl x1.2.hL (by rw [← L_len x1.2, show s1.L = s.L from rstep_L hS]; omega) (by decide) (fun w hc => OwnV.src (e := 80) (cur := #[.int .i64 n, .slice za xs.length zk]) (v := .slice (some ⟨bw, 0, none⟩) 1 1) (OwnV.fresh (Nat.le_refl _) (by decide) rfl rfl rfl) hc List.mem_cons_self (two_one _ _ _ _)) rfl rfl rfl) ?_
        rintro ⟨⟨v2, c2⟩, hz2⟩
        obtain ⟨va, vk, rfl⟩ := own_len hz2
        refine DW.pure rfl rfl rfl rfl rfl (p_nilCheck rfl rfl) ?_
        refine DW.pure rfl rfl rfl rfl rfl (p_fieldAddr tf73_1 rfl rfl) ?_
        refine DW.put rfl rfl rfl rfl rfl (f_store (j := 2) (off := 1) (v := .slice va (x1.1.Ls.length + 1) vk) ts71 rfl rfl (show 1 < 4 by decide) trivial rfl rfl rfl) ?_
        refine DW.doneQ (y := sub [1, 1, 1, 1] B40) hl5 rfl ?_
        refine C.seq (x := sub [1, 1, 1, 1, 0] B40) (y := sub [1, 1, 1, 1, 1] B40) ?_
        refine C.region (id := 6) (m := 2) (ops := opsOf (sub [1, 1, 1, 1, 0] B40)) rfl ?_
        refine W.pure rfl (wo rfl) rfl rfl (p_move rfl rfl) (nf rfl) ?_
        refine W.pure rfl (wo rfl) rfl rfl (p_assign rfl rfl) (nf rfl) ?_
        refine W.doneQ (y := sub [1, 1, 1, 1, 1] B40) rfl ?_
        obtain ⟨rfl, rfl⟩ : e1 = e ∧ { s1 with L := s1.L ++ [(n, xs)] } = s2 := Prod.mk.inj ((show rwriteK s n xs = (e1, { s1 with L := s1.L ++ [(n, xs)] }) from by unfold rwriteK; rw [if_neg h1, if_neg h2, if_neg (by rw [hS]; exact h3), hS]).symm.trans hK)
        exact C.ret (R := fun e' w' => ∃ x' : Rx { s1 with L := s1.L ++ [(n, xs)] }, e' = .returned (.int .i64 e1) ∧ Cls w0 I' (rX b x' ++ oX y) w') (rs := [.tmp 6]) (vs := [.int .i64 e1]) rfl Try.func40 rfl rfl rfl (res_cons (ResV.tmp rfl) res_nil) fun w1 hc1 => ⟨⟨_, rk_pushL (r' := (.slice za xs.length zk, zc, xs)) x1.2 ⟨hz, by show xs.length = 512; omega⟩ hn1 hz2⟩, rfl, cls_pushL hc1⟩
      · refine W.pure rfl (wo rfl) rfl rfl (pF (by simpa using h3) (p_neq rfl rfl rfl)) (nf rfl) ?_
        refine W.doneQ (y := sub [1, 1, 1, 0, 1] B40) rfl ?_
        refine C.cond_false (x := sub [1, 1, 1, 0, 1, 0] B40) (y := sub [1, 1, 1, 0, 1, 1] B40) rfl rfl ?_
        refine C.skipQ (y := sub [1, 1, 1, 1] B40) rfl ?_
        refine C.seq (x := sub [1, 1, 1, 1, 0] B40) (y := sub [1, 1, 1, 1, 1] B40) ?_
        refine C.region (id := 6) (m := 2) (ops := opsOf (sub [1, 1, 1, 1, 0] B40)) rfl ?_
        refine W.pure rfl (wo rfl) rfl rfl (p_move rfl rfl) (nf rfl) ?_
        refine W.pure rfl (wo rfl) rfl rfl (p_assign rfl rfl) (nf rfl) ?_
        refine W.doneQ (y := sub [1, 1, 1, 1, 1] B40) rfl ?_
        have h3 : e1 = 14 := Decidable.not_not.1 h3
        obtain ⟨rfl, rfl⟩ : 14 = e ∧ s1 = s2 := Prod.mk.inj ((show rwriteK s n xs = (14, s1) from by unfold rwriteK; rw [if_neg h1, if_neg h2, if_pos (by rw [hS]; exact h3), hS, h3]).symm.trans hK)
        exact C.ret (R := fun e' w' => ∃ x' : Rx s1, e' = .returned (.int .i64 14) ∧ Cls w0 I' (rX b x' ++ oX y) w') (rs := [.tmp 6]) (vs := [.int .i64 e1]) rfl Try.func40 rfl rfl rfl (res_cons (ResV.tmp rfl) res_nil) fun w1 hc1 => ⟨x1, by rw [h3]; rfl, hc1⟩

end Go.Proofs.Ytjomnicfcdkfdaa
end

section
namespace Go.Proofs.Ytjomnicfcdkfdaa
open Go Go.HW Go.RowKit
set_option linter.unusedVariables false
set_option linter.unusedSimpArgs false

def stB (s : Rk) (i : Nat) : Rk := { s with B := rsetB s i }
theorem rsetB_succ {s : Rk} {i : Nat} {w : Wr} (h : s.L[i]? = some w) : rsetB s (i + 1) = (rsetB s i).set w.1.toNat w.2 := by
  unfold rsetB
  rw [List.take_add_one, h, List.foldl_append]; rfl
def casR {s s' : Rk} (h : s = s') (g : Rg) (hg : RkO g s) : Rx s' := ⟨g, h ▸ hg⟩
theorem L_at {g : Rg} {s : Rk} (h : RkO g s) {i : Nat} {p : Int × Rw} (hp : g.Ls[i]? = some p) : s.L[i]? = some (p.1, p.2.2.2) := by rw [h.sL, List.getElem?_map, hp]; rfl
theorem B_at {g : Rg} {s : Rk} (h : RkO g s) {n : Nat} {r : Rw} (hr : g.Bs[n]? = some r) : s.B.getD n [] = r.2.2 := by rw [h.sB, List.getD_eq_getElem?_getD, List.getElem?_map, hr]; rfl
theorem B_row {g : Rg} {s : Rk} (h : RkO g s) {p : Int × Rw} (hp : p ∈ g.Ls) : ∃ r, g.Bs[p.1.toNat]? = some r ∧ r ∈ g.Bs := by
  obtain ⟨h0, h1⟩ := h.ok p hp
  have : p.1.toNat < g.Bs.length := by omega
  exact ⟨_, List.getElem?_eq_getElem this, List.getElem_mem this⟩
theorem rw_row {r : Rw} (h : rwOk r) : IntRow (fun _ => some (.cells r.2.1 5 (0, 0))) .u8 r.1 r.2.2 := by
  have := row_of_mem (M := fun _ => some (.cells r.2.1 5 (0, 0))) (⟨(r.1, r.2.1, 5), h.1⟩ : Ox .u8 r.2.2) (fun b o hm => by
    simp only [oX, List.mem_singleton, Prod.mk.injEq] at hm
    rw [hm.2])
  exact this
theorem getDi {xs : List Int} {j : Nat} (h : j < xs.length) : xs[j]? = some (xs.getD j 0) := by
  rw [List.getD_eq_getElem?_getD, List.getElem?_eq_getElem h]; rfl
theorem rw_cell {r : Rw} (h : rwOk r) {j : Nat} (hj : j < 512) : (encl .u8 r.2.2)[j * 1]? = some (.int .u8 (r.2.2.getD j 0)) := by
  have := getDi (xs := r.2.2) (j := j) (by rw [h.2]; exact hj)
  rw [Nat.mul_one, encl, List.getElem?_map, this]; rfl
section
variable {N : Nat} {S : Slots} {w0 w1 : World} {I I' : Mem} {H : Heap} {Q : Exit → Act → World → Prop} {Qn : Act → Heap → Prop} {ops : Array Oper} {lab : Lab} {ids : Nat → Option Nat} {l : List Nat} {i d : Nat} {o : Oper} {v : Value}
theorem C.heapIs {c : Code} {H2 : Heap} (hH : H = H2) (h : CW N w0 I c Q S H2) : CW N w0 I c Q S H := by subst hH; exact h
theorem C.cls {c : Code} {H2 : Heap} (hH : ∀ w, Cls w0 I H w → Cls w0 I H2 w) (h : CW N w0 I c Q S H2) : CW N w0 I c Q S H := fun a w ha hc => h a w ha (hH w hc)
/-- what stays for a while -/
structure Thaw (I I' : Mem) (E : Heap) : Prop where
  ext : Ext I I'
  mem : ∀ b o, (some b, o) ∈ E → I' b = some o
  disj : ∀ b o, (some b, o) ∈ E → I b = none
  nodup : (E.filterMap Prod.fst).Nodup
theorem Thaw.cls {E : Heap} (h : Thaw I I' E) {w : World} (hc : Cls w0 I' H w) : Cls w0 I (E ++ H) w := by
  have hc2 := cls_less h.ext hc
  refine ⟨hc.os, hc.tape, hc.output, hc.size, hc2.imm, fun b o hm => ?_, fun b o hm => ?_, ?_⟩
  · rcases List.mem_append.1 hm with hm | hm
    · exact hc.imm b o (h.mem b o hm)
    · exact hc.own b o hm
  · rcases List.mem_append.1 hm with hm | hm
    · exact h.disj b o hm
    · exact hc2.disj b o hm
  · rw [List.filterMap_append, List.nodup_append]
    refine ⟨h.nodup, hc.nodup, fun a ha b hb e => ?_⟩
    subst e
    obtain ⟨z, hz⟩ := mem_ids.1 ha
    obtain ⟨y, hy⟩ := mem_ids.1 hb
    have h1 := hc.disj a y hy
    rw [h.mem a z hz] at h1; cases h1
theorem C.settleZ {c : Code} {E R : Heap} (hH : H = E ++ R) (h : ∀ I', Thaw I I' E → CW N w0 I' c Q S R) : CW N w0 I c Q S H := fun a w ha hc => by
  subst hH
  have hnE : (E.filterMap Prod.fst).Nodup := hc.nodup.sublist ((List.sublist_append_left E R).filterMap _)
  refine h (addJ I E) ⟨Ext.addJ _ _, fun b o hm => ?_, fun b o hm => hc.disj b o (List.mem_append_left _ hm), hnE⟩ a w ha ((hc.perm (List.perm_append_comm)).settle)
  unfold addJ
  rw [hc.disj b o (List.mem_append_left _ hm)]
  exact inJ_of_mem hnE hm
theorem DW.doneZ {y : Code} {Q2 : Exit → Act → World → Prop} {E : Heap} (hl : Later w0 w1) (hz : Thaw I I' E) (hQ : Q .normal = y.wpIn Fence.wide 3 Try.prog Q2) (h : CW N w0 I y Q2 S (E ++ H)) : DD N w1 I' ops lab ids (fun a H2 => ∀ w', Cls w1 I' H2 w' → Q .normal a w') [] S H := fun a ha w' hc => by rw [hQ]; exact h a w' ha (hz.cls (hc.later hl))
end
theorem cls_to {w0 w : World} {I : Mem} {H H2 : Heap} (h : Cls w0 I H w) (e : H = H2) : Cls w0 I H2 w := by subst e; exact h
theorem cls_nilL0 {w0 w : World} {I : Mem} {b : Nat} {g : Rg} {s' : Rk} (h : Cls w0 I (rk0 b { g with vL := .slice none 0 0, cL := #[], Ls := [] } s' :: (g.vB.ownBlock, .cells g.cB 32 (0, 0)) :: (g.vL.ownBlock, .cells g.cL 80 (0, 0)) :: (rkT g ++ [])) w) : Cls w0 I (rkH b { g with vL := .slice none 0 0, cL := #[], Ls := [] } s') w := by
  have h2 := cls_nilL (s := s') (R := []) h
  rw [List.append_nil] at h2; exact h2
theorem tz80 (w : World) : (zeroValue 80).run Try.prog w = .ok (.agg #[.int .i64 0, .slice none 0 0]) w := by kernel_rfl
theorem edL_0 (l : List Wr) (n a x : Int) : edL l n a x 0 = l := by simp [edL]
theorem edL_full (l : List Wr) (n a x : Int) : edL l n a x l.length = l.map (edW n a x) := by simp [edL]
def edSt (s : Rk) (n a x : Int) (i : Nat) : Rk := { s with B := s.B.set n.toNat (xorAt (s.B.getD n.toNat []) a x), L := edL s.L n a x i }
def crSt (s : Rk) (picks : List Int) (i : Nat) : Rk := { s with B := rcrB s picks i }
theorem rcrB_skip {s : Rk} {picks : List Int} {k : Nat} {w : Wr} (h : s.L[k]? = some w) (h0 : divR (picks.getD k 0) 3 = 0) : rcrB s picks (k + 1) = rcrB s picks k := by simp only [rcrB, h]; rw [if_pos h0]
theorem rcrB_put {s : Rk} {picks : List Int} {k : Nat} {w : Wr} (h : s.L[k]? = some w) (h0 : ¬ divR (picks.getD k 0) 3 = 0) : rcrB s picks (k + 1) = (rcrB s picks k).set w.1.toNat (w.2.take (rtear (picks.getD k 0) (decide (k + 1 = s.L.length))).toNat ++ ((rcrB s picks k).getD w.1.toNat []).drop (rtear (picks.getD k 0) (decide (k + 1 = s.L.length))).toNat) := by simp only [rcrB, h]; rw [if_neg h0]
theorem divR_rng {n b : Int} (hb : 0 < b) (hb2 : b ≤ 1000) : 0 ≤ divR n b ∧ divR n b < b := by
  have h1 := Int.tmod_lt_of_pos n hb
  have h2 := Int.lt_tmod_of_pos n hb
  unfold divR
  split
  · rw [w64 (by omega) (by omega)]; omega
  · omega
theorem rtear_rng (p : Int) (l : Bool) : 0 ≤ rtear p l ∧ rtear p l ≤ 512 := by
  unfold rtear
  split
  · have := divR_rng (n := divQ p 3) (b := 513) (by decide) (by decide); omega
  · omega
end Go.Proofs.Ytjomnicfcdkfdaa
end
