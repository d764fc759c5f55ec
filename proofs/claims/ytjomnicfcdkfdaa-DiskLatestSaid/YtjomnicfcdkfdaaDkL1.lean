import Derived.Test.YtjomnicfcdkfdaaDkN
namespace Go.Proofs.Ytjomnicfcdkfdaa
open Go Go.HW Go.RowKit
set_option linter.unusedVariables false
set_option linter.unusedSimpArgs false

def castO {k : IntKind} {xs ys : List Int} (h : xs = ys) (y : Ox k xs) : Ox k ys := ⟨y.1, h ▸ y.2⟩
def knA : Dk := { newK 2 with late := [(0, fillL 7)] }
def knB : Dk := { newK 2 with set := [(0, fillL 7)] }
def knC : Dk := { newK 2 with set := [(0, fillL 7)], late := [(0, fillL 9)] }
theorem knA_eq : writeK (newK 2) 0 (fillL 7) = (0, knA) := by simp [writeK, hasD, newK, fillL_len, stepK, knA]
theorem knB_eq : syncK knA = (0, knB) := by simp [syncK, stepK, knA, knB, newK, setK, mput]
theorem knC_eq : writeK knB 0 (fillL 9) = (0, knC) := by simp [writeK, hasD, newK, fillL_len, stepK, knB, knC]
def wantL (j : Nat) : List Int := List.replicate j 9 ++ List.replicate (512 - j) 7
theorem wantL_len {j : Nat} (h : j ≤ 512) : (wantL j).length = 512 := by simp [wantL]; omega
theorem wantL_set {j : Nat} (h : j < 512) : (wantL j).set j 9 = wantL (j + 1) := by
  unfold wantL
  rw [List.set_append, if_neg (by simp)]
  have e : 512 - j = (512 - (j + 1)) + 1 := by omega
  rw [e, List.replicate_succ, List.length_replicate, Nat.sub_self, List.set_cons_zero, List.replicate_succ']
  simp
theorem fillL_rep (x : Int) : fillL x = List.replicate 512 x := by unfold fillL; rw [List.map_const']; simp
theorem wantL_0 : fillL 7 = wantL 0 := by rw [fillL_rep]; unfold wantL; rw [List.replicate_zero, List.nil_append]
theorem kn_abs0 (A B : List Int) : rd (crashK { newK 2 with set := [(0, A)], late := [(0, B)] } [IntKind.i64.wrap 0]) 0 = A := by
  show mget (crK { newK 2 with set := [(0, A)], late := [(0, B)] } [IntKind.i64.wrap 0] 1) 0 = _
  rw [crK_skip (y := (0, B)) rfl (by decide)]; rfl
theorem kn_abs1 (A B : List Int) : rd (crashK { newK 2 with set := [(0, A)], late := [(0, B)] } [IntKind.i64.wrap 8]) 0 = B.take 2 ++ A.drop 2 := by
  show mget (crK { newK 2 with set := [(0, A)], late := [(0, B)] } [IntKind.i64.wrap 8] 1) 0 = _
  rw [crK_put (y := (0, B)) rfl (by decide)]; rfl
theorem kn_rd {k : Nat} (hk : k < 2) : rd (crashK knC [IntKind.i64.wrap (8 * (k : Int))]) 0 = wantL (2 * k) := by
  have h : k = 0 ∨ k = 1 := by omega
  rcases h with rfl | rfl
  · exact (kn_abs0 (fillL 7) (fillL 9)).trans wantL_0
  · refine (kn_abs1 (fillL 7) (fillL 9)).trans ?_
    rw [fillL_rep, fillL_rep]
    unfold wantL
    rw [List.take_replicate, List.drop_replicate, show min 2 512 = 2 * 1 from rfl]

noncomputable def B10 : Code := bodyOf Try.f10
theorem en10 (args : Array Value) (w : World) : (callFunc 10 args).run Try.prog w = .ok (.enter 10 args) w := by kernel_rfl
theorem known_ok (w : World) : Calls Try.prog 10 #[] w (fun e w' => e = .returned (.bool true) ∧ Below w.heap.size w w') := by
  refine calls_of_CW (N := 71) Try.func10 (show _ = some B10 by kernel_rfl) (by kernel_rfl) rfl (S := []) (by simp) (clsStart w) ?_
  show CW _ _ _ (sub [] B10) _ _ _
  refine C.seq (x := sub [0] B10) (y := sub [1] B10) ?_
  refine C.region (id := 0) (m := 1) (ops := opsOf (sub [0] B10)) rfl ?_
  refine W.pure rfl (wo rfl) rfl rfl (p_assign rfl rfl) (nf rfl) ?_
  refine W.doneQ (y := sub [1] B10) rfl ?_
  refine C.seq (x := sub [1, 0] B10) (y := sub [1, 1] B10) ?_
  refine C.seq (x := sub [1, 0, 0] B10) (y := sub [1, 0, 1] B10) ?_
  refine C.region (id := 1) (m := 1) (ops := opsOf (sub [1, 0, 0] B10)) rfl ?_
  refine W.pure rfl (wo rfl) rfl rfl (p_assign rfl rfl) (nf rfl) ?_
  refine W.doneQ (y := sub [1, 0, 1] B10) rfl ?_
  refine C.loopB (id := 0) (c := sub [1, 0, 1, 0, 0] B10) (y := sub [1, 1] B10) (fun k : Nat => 2 - k) (fun k => [(0, .bool false), (1, .int .i64 (k : Int))]) (fun k => []) (fun k => k ≤ 2) 0 (Nat.zero_le _) (Sub.cons rfl (Sub.cons rfl (Sub.nil _))) rfl rfl (fun k => k = 2) ?_ ?_
  · intro k hk Q' hN hE hR
    by_cases hlt : k < 2
    · refine C.seq (x := sub [1, 0, 1, 0, 0, 0] B10) (y := sub [1, 0, 1, 0, 0, 1] B10) ?_
      refine C.seq (x := sub [1, 0, 1, 0, 0, 0, 0] B10) (y := sub [1, 0, 1, 0, 0, 0, 1] B10) ?_
      refine C.region (id := 2) (m := 2) (ops := opsOf (sub [1, 0, 1, 0, 0, 0, 0] B10)) rfl ?_
      refine W.pure rfl (wo rfl) rfl rfl (p_move rfl rfl) (nf rfl) ?_
      refine W.pure rfl (wo rfl) rfl rfl (pT (decide_eq_true (by omega)) (p_lss rfl rfl rfl)) (nf rfl) ?_
      refine W.doneQ (y := sub [1, 0, 1, 0, 0, 0, 1] B10) rfl ?_
      refine C.cond_true (x := sub [1, 0, 1, 0, 0, 0, 1, 0] B10) (y := sub [1, 0, 1, 0, 0, 0, 1, 1] B10) rfl rfl ?_
      refine C.skipQ (y := sub [1, 0, 1, 0, 0, 1] B10) rfl ?_
      refine C.seq (x := sub [1, 0, 1, 0, 0, 1, 0] B10) (y := sub [1, 0, 1, 0, 0, 1, 1] B10) ?_
      refine C.block (id := 1) (c := sub [1, 0, 1, 0, 0, 1, 0, 0] B10) ?_
      refine C.seq (x := sub [1, 0, 1, 0, 0, 1, 0, 0, 0] B10) (y := sub [1, 0, 1, 0, 0, 1, 0, 0, 1] B10) ?_
      refine C.region (id := 4) (m := 6) (ops := opsOf (sub [1, 0, 1, 0, 0, 1, 0, 0, 0] B10)) rfl ?_
      refine W.c01 rfl (wo rfl) rfl rfl (tNew _ (by decide) (by decide)) (en11 _) rfl rfl rfl (args_val rfl) ?_
      intro p1
      refine W.pure rfl (wo rfl) rfl rfl (p_move rfl rfl) (nf rfl) ?_
      refine W.pure rfl (wo rfl) rfl rfl (p_extract rfl rfl rfl) (nf rfl) ?_
      refine W.pure rfl (wo rfl) rfl rfl (p_extract rfl rfl rfl) (nf rfl) ?_
      refine W.pure rfl (wo rfl) rfl rfl (p_assign rfl rfl) (nf rfl) ?_
      refine W.pure rfl (wo rfl) rfl rfl (p_assign rfl rfl) (nf rfl) ?_
      refine W.doneQ (y := sub [1, 0, 1, 0, 0, 1, 0, 0, 1] B10) rfl ?_
      refine C.seq (x := sub [1, 0, 1, 0, 0, 1, 0, 0, 1, 0] B10) (y := sub [1, 0, 1, 0, 0, 1, 0, 0, 1, 1] B10) ?_
      refine C.seq (x := sub [1, 0, 1, 0, 0, 1, 0, 0, 1, 0, 0] B10) (y := sub [1, 0, 1, 0, 0, 1, 0, 0, 1, 0, 1] B10) ?_
      refine C.region (id := 5) (m := 30) (ops := opsOf (sub [1, 0, 1, 0, 0, 1, 0, 0, 1, 0, 0] B10)) rfl ?_
      refine W.pure rfl (wo rfl) rfl rfl (p_move rfl rfl) (nf rfl) ?_
      refine W.pure rfl (wo rfl) rfl rfl (p_eqNilP (fun b w => by kernel_rfl) (fun b w => by kernel_rfl) rfl rfl rfl) (nf rfl) ?_
      refine W.pure rfl (wo rfl) rfl rfl (p_move rfl rfl) (nf rfl) ?_
      refine W.pure rfl (wo rfl) rfl rfl (p_move rfl rfl) (nf rfl) ?_
      refine W.quiet rfl (wo rfl) rfl rfl (f_callR rfl rfl (args_val rfl) (en12 _) (fun w2 hc2 => num_ok w2 _)) (nf rfl) ?_
      refine W.pure rfl (wo rfl) rfl rfl (pF (by decide) (p_neq rfl rfl rfl)) (nf rfl) ?_
      refine W.pure rfl (wo rfl) rfl rfl (p_pick_false rfl rfl rfl) (nf rfl) ?_
      refine W.pure rfl (wo rfl) rfl rfl (p_move rfl rfl) (nf rfl) ?_
      refine W.pure rfl (wo rfl) rfl rfl (p_move rfl rfl) (nf rfl) ?_
      refine W.c01 rfl (wo rfl) rfl rfl (tFill _) (en16 _) rfl rfl rfl (args_val rfl) ?_
      intro y3
      refine W.f1 rfl ?_
      refine W.c22 rfl (wo rfl) rfl rfl rfl (tWrite (x0 _) y3 _ (knA_eq) (by simp [newK])) (en15 _) rfl rfl rfl (args_val rfl) ?_
      intro x4
      refine W.f1 rfl ?_
      refine W.dr rfl ?_
      refine W.quiet rfl (wo rfl) rfl rfl (f_callR rfl rfl (args_val rfl) (en12 _) (fun w2 hc2 => num_ok w2 _)) (nf rfl) ?_
      refine W.pure rfl (wo rfl) rfl rfl (p_move rfl rfl) (nf rfl) ?_
      refine W.c11 rfl (wo rfl) rfl rfl rfl (tSync x4 (knB_eq) (by simp [knA])) (en14 _) rfl rfl rfl (args_val rfl) ?_
      intro x5
      refine W.quiet rfl (wo rfl) rfl rfl (f_callR rfl rfl (args_val rfl) (en12 _) (fun w2 hc2 => num_ok w2 _)) (nf rfl) ?_
      refine W.pure rfl (wo rfl) rfl rfl (p_add rfl rfl rfl) (nf rfl) ?_
      refine W.pure rfl (wo rfl) rfl rfl (p_move rfl rfl) (nf rfl) ?_
      refine W.c01 rfl (wo rfl) rfl rfl (tFill _) (en16 _) rfl rfl rfl (args_val rfl) ?_
      intro y6
      refine W.f1 rfl ?_
      refine W.c22 rfl (wo rfl) rfl rfl rfl (tWrite x5 y6 _ (knC_eq) (by simp [knB, newK])) (en15 _) rfl rfl rfl (args_val rfl) ?_
      intro x7
      refine W.f1 rfl ?_
      refine W.dr rfl ?_
      refine W.quiet rfl (wo rfl) rfl rfl (f_callR rfl rfl (args_val rfl) (en12 _) (fun w2 hc2 => num_ok w2 _)) (nf rfl) ?_
      refine W.pure rfl (wo rfl) rfl rfl (p_add rfl rfl rfl) (nf rfl) ?_
      refine W.pure rfl (wo rfl) rfl rfl (p_move rfl rfl) (nf rfl) ?_
      refine W.pure rfl (wo rfl) rfl rfl (p_move rfl rfl) (nf rfl) ?_
      refine W.pure rfl (wo rfl) rfl rfl (p_mul rfl rfl rfl) (nf rfl) ?_
      refine W.newO (zs := [IntKind.i64.wrap (8 * (k : Int))]) rfl (wo rfl) rfl rfl (f_buildSl (n := 1) (zs := [IntKind.i64.wrap (8 * (k : Int))]) (vs := [(0, .int .i64 (IntKind.i64.wrap (8 * (k : Int))))]) elem22 rfl rfl (by kernel_rfl) rfl (args_val2 rfl)) rfl (by decide) (nf rfl) ?_
      intro y8
      refine W.f1 rfl ?_
      refine W.c22 rfl (wo rfl) rfl rfl rfl (tCrashO x7 y8 (by simp [knC])) (en18 _) rfl rfl rfl (args_val rfl) ?_
      intro x9
      refine W.quiet rfl (wo rfl) rfl rfl (f_callR rfl rfl (args_val rfl) (en12 _) (fun w2 hc2 => num_ok w2 _)) (nf rfl) ?_
      refine W.pure rfl (wo rfl) rfl rfl (p_add rfl rfl rfl) (nf rfl) ?_
      refine W.pure rfl (wo rfl) rfl rfl (pF (by decide) (p_neq rfl rfl rfl)) (nf rfl) ?_
      refine W.pure rfl (wo rfl) rfl rfl (p_pick_false rfl rfl rfl) (nf rfl) ?_
      refine W.doneQ (y := sub [1, 0, 1, 0, 0, 1, 0, 0, 1, 0, 1] B10) rfl ?_
      refine C.cond_false (x := sub [1, 0, 1, 0, 0, 1, 0, 0, 1, 0, 1, 0] B10) (y := sub [1, 0, 1, 0, 0, 1, 0, 0, 1, 0, 1, 1] B10) rfl rfl ?_
      refine C.skipQ (y := sub [1, 0, 1, 0, 0, 1, 0, 0, 1, 1] B10) rfl ?_
      refine C.seq (x := sub [1, 0, 1, 0, 0, 1, 0, 0, 1, 1, 0] B10) (y := sub [1, 0, 1, 0, 0, 1, 0, 0, 1, 1, 1] B10) ?_
      refine C.region (id := 7) (m := 7) (ops := opsOf (sub [1, 0, 1, 0, 0, 1, 0, 0, 1, 1, 0] B10)) rfl ?_
      refine W.pure rfl (wo rfl) rfl rfl (p_move rfl rfl) (nf rfl) ?_
      refine W.c12 rfl (wo rfl) rfl rfl rfl (tRead x9 _ (rfl) (by simp [crashK])) (en20 _) rfl rfl rfl (args_val rfl) ?_
      intro y10
      refine W.pure rfl (wo rfl) rfl rfl (p_move rfl rfl) (nf rfl) ?_
      refine W.pure rfl (wo rfl) rfl rfl (p_extract rfl rfl rfl) (nf rfl) ?_
      refine W.pure rfl (wo rfl) rfl rfl (p_extract rfl rfl rfl) (nf rfl) ?_
      refine W.pure rfl (wo rfl) rfl rfl (p_assign rfl rfl) (nf rfl) ?_
      refine W.pure rfl (wo rfl) rfl rfl (p_assign rfl rfl) (nf rfl) ?_
      refine W.doneQ (y := sub [1, 0, 1, 0, 0, 1, 0, 0, 1, 1, 1] B10) rfl ?_
      refine C.seq (x := sub [1, 0, 1, 0, 0, 1, 0, 0, 1, 1, 1, 0] B10) (y := sub [1, 0, 1, 0, 0, 1, 0, 0, 1, 1, 1, 1] B10) ?_
      refine C.region (id := 8) (m := 2) (ops := opsOf (sub [1, 0, 1, 0, 0, 1, 0, 0, 1, 1, 1, 0] B10)) rfl ?_
      refine W.c01 rfl (wo rfl) rfl rfl (tFill _) (en16 _) rfl rfl rfl (args_val rfl) ?_
      intro y11
      refine W.pure rfl (wo rfl) rfl rfl (p_assign rfl rfl) (nf rfl) ?_
      refine W.doneQ (y := sub [1, 0, 1, 0, 0, 1, 0, 0, 1, 1, 1, 1] B10) rfl ?_
      refine C.seq (x := sub [1, 0, 1, 0, 0, 1, 0, 0, 1, 1, 1, 1, 0] B10) (y := sub [1, 0, 1, 0, 0, 1, 0, 0, 1, 1, 1, 1, 1] B10) ?_
      refine C.seq (x := sub [1, 0, 1, 0, 0, 1, 0, 0, 1, 1, 1, 1, 0, 0] B10) (y := sub [1, 0, 1, 0, 0, 1, 0, 0, 1, 1, 1, 1, 0, 1] B10) ?_
      refine C.region (id := 9) (m := 1) (ops := opsOf (sub [1, 0, 1, 0, 0, 1, 0, 0, 1, 1, 1, 1, 0, 0] B10)) rfl ?_
      refine W.pure rfl (wo rfl) rfl rfl (p_assign rfl rfl) (nf rfl) ?_
      refine W.doneQ (y := sub [1, 0, 1, 0, 0, 1, 0, 0, 1, 1, 1, 1, 0, 1] B10) rfl ?_
      refine C.f2 rfl ?_
      refine C.dr rfl ?_
      refine C.f2 rfl ?_
      refine C.dr rfl ?_
      refine C.f1 rfl ?_
      refine C.f1 rfl ?_
      refine C.loopB (id := 2) (c := sub [1, 0, 1, 0, 0, 1, 0, 0, 1, 1, 1, 1, 0, 1, 0, 0] B10) (y := sub [1, 0, 1, 0, 0, 1, 0, 0, 1, 1, 1, 1, 1] B10) (α := (j : Nat) × Ox .u8 (wantL j)) (fun x => 2 * k - x.1) (fun x => [(0, .bool false), (1, .int .i64 (k : Int)), (4, y10.1.1), (5, .int .i64 0), (6, x.2.1.1), (7, .int .i64 (x.1 : Int))]) (fun x => oX x.2 ++ (oX y10 ++ [])) (fun x => x.1 ≤ 2 * k) ⟨0, castO wantL_0 y11⟩ (Nat.zero_le _) (Sub.cons rfl (Sub.cons rfl (Sub.cons rfl (Sub.cons rfl (Sub.cons rfl (Sub.cons rfl (Sub.nil _))))))) rfl rfl (fun x => x.1 = 2 * k) ?_ ?_
      · rintro ⟨j, y⟩ (hj : j ≤ 2 * k) Q2 hN2 hE2 hR2
        show CW _ _ _ _ _ [(0, .bool false), (1, .int .i64 (k : Int)), (4, y10.1.1), (5, .int .i64 0), (6, y.1.1), (7, .int .i64 (j : Int))] (oX y ++ (oX y10 ++ []))
        by_cases hj2 : j < 2 * k
        · refine C.seq (x := sub [1, 0, 1, 0, 0, 1, 0, 0, 1, 1, 1, 1, 0, 1, 0, 0, 0] B10) (y := sub [1, 0, 1, 0, 0, 1, 0, 0, 1, 1, 1, 1, 0, 1, 0, 0, 1] B10) ?_
          refine C.seq (x := sub [1, 0, 1, 0, 0, 1, 0, 0, 1, 1, 1, 1, 0, 1, 0, 0, 0, 0] B10) (y := sub [1, 0, 1, 0, 0, 1, 0, 0, 1, 1, 1, 1, 0, 1, 0, 0, 0, 1] B10) ?_
          refine C.region (id := 10) (m := 4) (ops := opsOf (sub [1, 0, 1, 0, 0, 1, 0, 0, 1, 1, 1, 1, 0, 1, 0, 0, 0, 0] B10)) rfl ?_
          refine W.pure rfl (wo rfl) rfl rfl (p_move rfl rfl) (nf rfl) ?_
          refine W.pure rfl (wo rfl) rfl rfl (p_move rfl rfl) (nf rfl) ?_
          refine W.pure rfl (wo rfl) rfl rfl (p_mul rfl rfl rfl) (nf rfl) ?_
          refine W.pure rfl (wo rfl) rfl rfl (pT (decide_eq_true (by rw [w64 (by omega) (by omega)]; omega)) (p_lss rfl rfl rfl)) (nf rfl) ?_
          refine W.doneQ (y := sub [1, 0, 1, 0, 0, 1, 0, 0, 1, 1, 1, 1, 0, 1, 0, 0, 0, 1] B10) rfl ?_
          refine C.cond_true (x := sub [1, 0, 1, 0, 0, 1, 0, 0, 1, 1, 1, 1, 0, 1, 0, 0, 0, 1, 0] B10) (y := sub [1, 0, 1, 0, 0, 1, 0, 0, 1, 1, 1, 1, 0, 1, 0, 0, 0, 1, 1] B10) rfl rfl ?_
          refine C.skipQ (y := sub [1, 0, 1, 0, 0, 1, 0, 0, 1, 1, 1, 1, 0, 1, 0, 0, 1] B10) rfl ?_
          refine C.seq (x := sub [1, 0, 1, 0, 0, 1, 0, 0, 1, 1, 1, 1, 0, 1, 0, 0, 1, 0] B10) (y := sub [1, 0, 1, 0, 0, 1, 0, 0, 1, 1, 1, 1, 0, 1, 0, 0, 1, 1] B10) ?_
          refine C.block (id := 3) (c := sub [1, 0, 1, 0, 0, 1, 0, 0, 1, 1, 1, 1, 0, 1, 0, 0, 1, 0, 0] B10) ?_
          refine C.region (id := 12) (m := 4) (ops := opsOf (sub [1, 0, 1, 0, 0, 1, 0, 0, 1, 1, 1, 1, 0, 1, 0, 0, 1, 0, 0] B10)) rfl ?_
          refine W.pure rfl (wo rfl) rfl rfl (p_move rfl rfl) (nf rfl) ?_
          refine W.pure rfl (wo rfl) rfl rfl (p_move rfl rfl) (nf rfl) ?_
          refine W.pure rfl (wo rfl) rfl rfl (p_ixO2 y (j := j) (by rw [wantL_len (by omega)]; omega) tu32 ts5 rfl rfl rfl) (nf rfl) ?_
          refine W.put rfl (wo rfl) rfl (f_stO y (j := j) (q := 9) (by rw [wantL_len (by omega)]; omega) ts5 rfl rfl rfl rfl) (nf rfl) ?_
          refine W.doneQ (y := sub [1, 0, 1, 0, 0, 1, 0, 0, 1, 1, 1, 1, 0, 1, 0, 0, 1, 1] B10) rfl ?_
          refine C.region (id := 11) (m := 3) (ops := opsOf (sub [1, 0, 1, 0, 0, 1, 0, 0, 1, 1, 1, 1, 0, 1, 0, 0, 1, 1] B10)) rfl ?_
          refine W.pure rfl (wo rfl) rfl rfl (p_move rfl rfl) (nf rfl) ?_
          refine W.pure rfl (wo rfl) rfl rfl (pI (wk (by omega)) (p_add rfl rfl rfl)) (nf rfl) ?_
          refine W.pure rfl (wo rfl) rfl rfl (p_assign rfl rfl) (nf rfl) ?_
          refine W.end' fun a1 w1 ha1 hc1 => hN2 ⟨j + 1, castO (wantL_set (by omega)) (y.put j (by rw [wantL_len (by omega)]; omega) 9)⟩ (show j + 1 ≤ 2 * k by omega) (show 2 * k - (j + 1) < 2 * k - j by omega) a1 w1 (ha1.sub (Sub.cons rfl (Sub.cons rfl (Sub.cons rfl (Sub.cons rfl (Sub.cons rfl (Sub.cons rfl (Sub.nil _)))))))) hc1
        · refine C.seq (x := sub [1, 0, 1, 0, 0, 1, 0, 0, 1, 1, 1, 1, 0, 1, 0, 0, 0] B10) (y := sub [1, 0, 1, 0, 0, 1, 0, 0, 1, 1, 1, 1, 0, 1, 0, 0, 1] B10) ?_
          refine C.seq (x := sub [1, 0, 1, 0, 0, 1, 0, 0, 1, 1, 1, 1, 0, 1, 0, 0, 0, 0] B10) (y := sub [1, 0, 1, 0, 0, 1, 0, 0, 1, 1, 1, 1, 0, 1, 0, 0, 0, 1] B10) ?_
          refine C.region (id := 10) (m := 4) (ops := opsOf (sub [1, 0, 1, 0, 0, 1, 0, 0, 1, 1, 1, 1, 0, 1, 0, 0, 0, 0] B10)) rfl ?_
          refine W.pure rfl (wo rfl) rfl rfl (p_move rfl rfl) (nf rfl) ?_
          refine W.pure rfl (wo rfl) rfl rfl (p_move rfl rfl) (nf rfl) ?_
          refine W.pure rfl (wo rfl) rfl rfl (p_mul rfl rfl rfl) (nf rfl) ?_
          refine W.pure rfl (wo rfl) rfl rfl (pF (decide_eq_false (by rw [w64 (by omega) (by omega)]; omega)) (p_lss rfl rfl rfl)) (nf rfl) ?_
          refine W.doneQ (y := sub [1, 0, 1, 0, 0, 1, 0, 0, 1, 1, 1, 1, 0, 1, 0, 0, 0, 1] B10) rfl ?_
          refine C.cond_false (x := sub [1, 0, 1, 0, 0, 1, 0, 0, 1, 1, 1, 1, 0, 1, 0, 0, 0, 1, 0] B10) (y := sub [1, 0, 1, 0, 0, 1, 0, 0, 1, 1, 1, 1, 0, 1, 0, 0, 0, 1, 1] B10) rfl rfl ?_
          exact C.exit fun a1 w1 ha1 hc1 => hE2 (show j = 2 * k by omega) a1 w1 (ha1.sub (Sub.cons rfl (Sub.cons rfl (Sub.cons rfl (Sub.cons rfl (Sub.cons rfl (Sub.cons rfl (Sub.nil _)))))))) hc1
      rintro ⟨j, y⟩ (hj : j ≤ 2 * k) (hje : j = 2 * k)
      subst hje
      show CW _ _ _ _ _ [(0, .bool false), (1, .int .i64 (k : Int)), (4, y10.1.1), (5, .int .i64 0), (6, y.1.1), (7, .int .i64 ((2 * k : Nat) : Int))] (oX y ++ (oX y10 ++ []))
      refine C.seq (x := sub [1, 0, 1, 0, 0, 1, 0, 0, 1, 1, 1, 1, 1, 0] B10) (y := sub [1, 0, 1, 0, 0, 1, 0, 0, 1, 1, 1, 1, 1, 1] B10) ?_
      refine C.region (id := 13) (m := 10) (ops := opsOf (sub [1, 0, 1, 0, 0, 1, 0, 0, 1, 1, 1, 1, 1, 0] B10)) rfl ?_
      refine W.pure rfl (wo rfl) rfl rfl (p_move rfl rfl) (nf rfl) ?_
      refine W.quiet rfl (wo rfl) rfl rfl (f_callR rfl rfl (args_val rfl) (en12 _) (fun w2 hc2 => num_ok w2 _)) (nf rfl) ?_
      refine W.pure rfl (wo rfl) rfl rfl (pF (by decide) (p_neq rfl rfl rfl)) (nf rfl) ?_
      refine W.pure rfl (wo rfl) rfl rfl (p_move rfl rfl) (nf rfl) ?_
      refine W.pure rfl (wo rfl) rfl rfl (p_move rfl rfl) (nf rfl) ?_
      refine W.f1 rfl ?_
      refine W.quiet rfl (wo rfl) rfl rfl (q_ownStr y10 rfl rfl rfl) (nf rfl) ?_
      refine W.pure rfl (wo rfl) rfl rfl (p_move rfl rfl) (nf rfl) ?_
      refine W.f1 rfl ?_
      refine W.quiet rfl (wo rfl) rfl rfl (q_ownStr y rfl rfl rfl) (nf rfl) ?_
      refine W.pure rfl (wo rfl) rfl rfl (pF (by rw [kn_rd hlt]; simp) (p_strNe rfl rfl rfl)) (nf rfl) ?_
      refine W.pure rfl (wo rfl) rfl rfl (p_pick_false rfl rfl rfl) (nf rfl) ?_
      refine W.doneQ (y := sub [1, 0, 1, 0, 0, 1, 0, 0, 1, 1, 1, 1, 1, 1] B10) rfl ?_
      refine C.cond_false (x := sub [1, 0, 1, 0, 0, 1, 0, 0, 1, 1, 1, 1, 1, 1, 0] B10) (y := sub [1, 0, 1, 0, 0, 1, 0, 0, 1, 1, 1, 1, 1, 1, 1] B10) rfl rfl ?_
      refine C.skipQ (y := sub [1, 0, 1, 0, 0, 1, 1] B10) rfl ?_
      refine C.region (id := 3) (m := 3) (ops := opsOf (sub [1, 0, 1, 0, 0, 1, 1] B10)) rfl ?_
      refine W.pure rfl (wo rfl) rfl rfl (p_move rfl rfl) (nf rfl) ?_
      refine W.pure rfl (wo rfl) rfl rfl (pI (wk (by omega)) (p_add rfl rfl rfl)) (nf rfl) ?_
      refine W.pure rfl (wo rfl) rfl rfl (p_assign rfl rfl) (nf rfl) ?_
      refine W.end' fun a1 w1 ha1 hc1 => hN (k + 1) (by omega) (by omega) a1 w1 (ha1.sub (Sub.cons rfl (Sub.cons rfl (Sub.nil _)))) (hc1.fewer (List.nil_sublist _))
    · refine C.seq (x := sub [1, 0, 1, 0, 0, 0] B10) (y := sub [1, 0, 1, 0, 0, 1] B10) ?_
      refine C.seq (x := sub [1, 0, 1, 0, 0, 0, 0] B10) (y := sub [1, 0, 1, 0, 0, 0, 1] B10) ?_
      refine C.region (id := 2) (m := 2) (ops := opsOf (sub [1, 0, 1, 0, 0, 0, 0] B10)) rfl ?_
      refine W.pure rfl (wo rfl) rfl rfl (p_move rfl rfl) (nf rfl) ?_
      refine W.pure rfl (wo rfl) rfl rfl (pF (decide_eq_false (by omega)) (p_lss rfl rfl rfl)) (nf rfl) ?_
      refine W.doneQ (y := sub [1, 0, 1, 0, 0, 0, 1] B10) rfl ?_
      refine C.cond_false (x := sub [1, 0, 1, 0, 0, 0, 1, 0] B10) (y := sub [1, 0, 1, 0, 0, 0, 1, 1] B10) rfl rfl ?_
      exact C.exit fun a1 w1 ha1 hc1 => hE (by omega) a1 w1 (ha1.sub (Sub.cons rfl (Sub.cons rfl (Sub.nil _)))) hc1
  intro k hk hke
  subst hke
  refine C.seq (x := sub [1, 1, 0] B10) (y := sub [1, 1, 1] B10) ?_
  refine C.region (id := 15) (m := 1) (ops := opsOf (sub [1, 1, 0] B10)) rfl ?_
  refine W.pure rfl (wo rfl) rfl rfl (p_assign rfl rfl) (nf rfl) ?_
  refine W.doneQ (y := sub [1, 1, 1] B10) rfl ?_
  exact C.ret (rs := [.tmp 0]) (vs := [.bool true]) rfl Try.func10 rfl rfl rfl (res_cons (ResV.tmp rfl) res_nil) fun w1 hc1 => ⟨rfl, hc1.toBelow⟩

end Go.Proofs.Ytjomnicfcdkfdaa
