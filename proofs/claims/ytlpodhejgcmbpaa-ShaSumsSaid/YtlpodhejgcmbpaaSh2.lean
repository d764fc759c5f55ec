import Derived.Test.YtlpodhejgcmbpaaSh1
namespace Go.Proofs.Ytlpodhejgcmbpaa
open Go Go.HW Go.RowKit
set_option linter.unusedVariables false
set_option linter.unusedSimpArgs false

/-! ### escutcheon/sha.press: function 13 -/
noncomputable def B13 : Code := bodyOf Try.f13
def sha_press.L1 (x21_4 : Int) (t169 : List Int) : Nat → Int → (List Int) → Option (List Int)
  | 0, _, _ => none
  | k + 1, x32_172, y_173 => if (decide (x32_172 < (t169.length : Int))) = true then (req (0 ≤ x32_172) (req (x32_172 < (t169.length : Int)) (req (0 ≤ x21_4) (req (x21_4 < 80) (nm (ior .u64 (ishl .u64 (y_173.getD x21_4.toNat 0) 8) (IntKind.u64.wrap (t169.getD x32_172.toNat 0))) fun t249 => sha_press.L1 x21_4 t169 k (IntKind.i64.wrap (x32_172 + 1)) (y_173.set x21_4.toNat t249)))))) else (some y_173)
set_option maxRecDepth 20000 in
theorem sha_press.L1_ok (a0 : List Int) (a1_v : Value) (a2_b : Nat) (b1 : Nat) (b2 : Nat) (b3 : Nat) (x21_4 : Int) (t169 : List Int) (v162 : Value) {R : Ending → World → Prop} {w0 : World} {M0 M I : Mem} {K : List Item} (hE : Env w0 M0 M I) (hr_v162 : IntRow M .u8 v162 t169) :
    ∀ (k : Nat) (x32_172 : Int) (y_173 : List Int) (r0_ : List Int) (l_y_173 : y_173.length = 80) (h : sha_press.L1 x21_4 t169 k x32_172 y_173 = some r0_) (hk : r0_.length = 80 → TT Try.prog 13 R 186 w0 I K [(1, a1_v), (2, ptr a2_b 8), (3, ptr b1 0), (6, ptr b2 0), (7, ptr b3 0), (21, .int .i64 x21_4)] [(some b3, .cells (enc .u64 r0_) 43 (0, 0)), (some b2, .cells (enc .u64 (List.replicate 8 0)) 42 (0, 0)), (some b1, .cells (enc .u64 a0) 42 (0, 0))]),
      TT Try.prog 13 R 186 w0 I (.code (sub [1, 1, 0, 1, 0, 0, 1, 1, 0, 0, 1, 1, 0, 0] B13) :: .inLoop (sub [1, 1, 0, 1, 0, 0, 1, 1, 0, 0, 1, 1, 0, 0] B13) :: .inBlock 2 :: K) [(1, a1_v), (2, ptr a2_b 8), (3, ptr b1 0), (6, ptr b2 0), (7, ptr b3 0), (8, .int .i64 x21_4), (21, .int .i64 x21_4), (30, v162), (31, .int .i64 (t169.length : Int)), (32, .int .i64 x32_172)] [(some b3, .cells (enc .u64 y_173) 43 (0, 0)), (some b2, .cells (enc .u64 (List.replicate 8 0)) 42 (0, 0)), (some b1, .cells (enc .u64 a0) 42 (0, 0))] := by
  intro k
  induction k with
  | zero => intro x32_172 y_173 r0_ l_y_173 h; simp [sha_press.L1] at h
  | succ k ih =>
    intro x32_172 y_173 r0_ l_y_173 h hk
    unfold sha_press.L1 at h
    refine TT.seq (x := sub [1, 1, 0, 1, 0, 0, 1, 1, 0, 0, 1, 1, 0, 0, 0] B13) (y := sub [1, 1, 0, 1, 0, 0, 1, 1, 0, 0, 1, 1, 0, 0, 1] B13) ?_
    refine TT.region (id := 6) (n := 1) (ops := (opsOf (sub [1, 1, 0, 1, 0, 0, 1, 1, 0, 0, 1, 1, 0, 0, 0] B13))) [(.pure, none)] rfl ?_
    show DL _ _ _ _ _ _ _ _ _ _ [0] _ _
    refine DL.pu 33 (.bool (decide (x32_172 < (t169.length : Int)))) rfl (p_lss rfl rfl rfl) ?_
    refine DL.nil ?_
    refine TT.seq (x := sub [1, 1, 0, 1, 0, 0, 1, 1, 0, 0, 1, 1, 0, 0, 1, 0] B13) (y := sub [1, 1, 0, 1, 0, 0, 1, 1, 0, 0, 1, 1, 0, 0, 1, 1] B13) ?_
    by_cases c239 : (decide (x32_172 < (t169.length : Int))) = true
    · have h240 := ite_true c239 h
      refine TT.cond_true (x := sub [1, 1, 0, 1, 0, 0, 1, 1, 0, 0, 1, 1, 0, 0, 1, 0, 0] B13) (y := sub [1, 1, 0, 1, 0, 0, 1, 1, 0, 0, 1, 1, 0, 0, 1, 0, 1] B13) rfl c239 ?_
      refine TT.skip ?_
      refine TT.seq (x := sub [1, 1, 0, 1, 0, 0, 1, 1, 0, 0, 1, 1, 0, 0, 1, 1, 0] B13) (y := sub [1, 1, 0, 1, 0, 0, 1, 1, 0, 0, 1, 1, 0, 0, 1, 1, 1] B13) ?_
      refine TT.block (c := sub [1, 1, 0, 1, 0, 0, 1, 1, 0, 0, 1, 1, 0, 0, 1, 1, 0, 0] B13) ?_
      refine TT.seq (x := sub [1, 1, 0, 1, 0, 0, 1, 1, 0, 0, 1, 1, 0, 0, 1, 1, 0, 0, 0] B13) (y := sub [1, 1, 0, 1, 0, 0, 1, 1, 0, 0, 1, 1, 0, 0, 1, 1, 0, 0, 1] B13) ?_
      refine TT.region (id := 7) (n := 3) (ops := (opsOf (sub [1, 1, 0, 1, 0, 0, 1, 1, 0, 0, 1, 1, 0, 0, 1, 1, 0, 0, 0] B13))) [(.pure, none), (.pure, none), (.pure, none)] rfl ?_
      show DL _ _ _ _ _ _ _ _ _ _ [0, 1, 2] _ _
      obtain ⟨g241, h242⟩ := req_some h240
      obtain ⟨g243, h244⟩ := req_some h242
      refine DL.pu 34 (elp v162 x32_172.toNat) rfl (p_slIx1 ty_u22 ty_s5 (RowV.some hr_v162 g241 g243) g241 g243 rfl rfl rfl) ?_
      refine DL.imm (v := .int .u8 (t169.getD x32_172.toNat 0)) rfl (Wn.none rfl) rfl rfl rfl (i_loadEl (RowV.mono hr_v162 hE.mi) (encl_get .u8 (lt_len g241 g243)) ty_a5 rfl rfl) ?_
      refine DL.pu 10 (.int .u8 (t169.getD x32_172.toNat 0)) rfl (p_assign rfl rfl) ?_
      refine DL.nil ?_
      refine TT.region (id := 8) (n := 10) (ops := (opsOf (sub [1, 1, 0, 1, 0, 0, 1, 1, 0, 0, 1, 1, 0, 0, 1, 1, 0, 0, 1] B13))) [(.pure, none), (.pure, none), (.pure, none), (.quiet, none), (.pure, none), (.pure, none), (.pure, none), (.pure, none), (.pure, none), (.store, none)] rfl ?_
      show DL _ _ _ _ _ _ _ _ _ _ [0, 1, 2, 3, 4, 5, 6, 7, 8, 9] _ _
      refine DL.pu 36 (.int .i64 x21_4) rfl (p_move rfl rfl) ?_
      refine DL.pu 37 (.int .i64 x21_4) rfl (p_move rfl rfl) ?_
      obtain ⟨g245, h246⟩ := req_some h244
      obtain ⟨g247, h248⟩ := req_some h246
      refine DL.pu 38 (ptr b3 x21_4.toNat) rfl (p_ix ty_u43 ty_s35 g245 g247 rfl rfl rfl) ?_
      refine DL.qu 39 (.int .u64 (y_173.getD x21_4.toNat 0)) rfl (f_load (j := 0) ty_a35 rfl (enc_at l_y_173 g245 g247) rfl rfl) ?_
      refine DL.pu 40 (.int .u64 (ishl .u64 (y_173.getD x21_4.toNat 0) 8)) rfl (p_shl (by decide) rfl rfl rfl) ?_
      refine DL.pu 41 (.int .u8 (t169.getD x32_172.toNat 0)) rfl (p_move rfl rfl) ?_
      refine DL.pu 42 (.int .u64 (IntKind.u64.wrap (t169.getD x32_172.toNat 0))) rfl (p_conv ty_u5 ty_u35 ⟨_, rfl⟩ rfl rfl) ?_
      obtain ⟨t249, e250, h251⟩ := nm_some h248
      refine DL.pu 43 (.int .u64 t249) rfl (by rw [e250]; exact p_or rfl rfl rfl) ?_
      refine DL.pu 44 (ptr b3 x21_4.toNat) rfl (p_ix ty_u43 ty_s35 g245 g247 rfl rfl rfl) ?_
      refine DL.put (H' := [(some b3, .cells (enc .u64 (y_173.set x21_4.toNat t249)) 43 (0, 0)), (some b2, .cells (enc .u64 (List.replicate 8 0)) 42 (0, 0)), (some b1, .cells (enc .u64 a0) 42 (0, 0))]) (i := 9) rfl (Wn.none rfl) rfl rfl (f_storeE (j := 0) ty_s35 rfl (lt_nat l_y_173 g245 g247) rfl rfl rfl) (keep_none rfl) ?_
      refine DL.nil ?_
      refine TT.inBlock ?_
      refine TT.region (id := 9) (n := 2) (ops := (opsOf (sub [1, 1, 0, 1, 0, 0, 1, 1, 0, 0, 1, 1, 0, 0, 1, 1, 1] B13))) [(.pure, none), (.pure, none)] rfl ?_
      show DL _ _ _ _ _ _ _ _ _ _ [0, 1] _ _
      refine DL.pu 45 (.int .i64 (IntKind.i64.wrap (x32_172 + 1))) rfl (p_add rfl rfl rfl) ?_
      refine DL.pu 32 (.int .i64 (IntKind.i64.wrap (x32_172 + 1))) rfl (p_move rfl rfl) ?_
      refine DL.nil ?_
      refine TT.inLoop ?_
      exact TT.weak (ih (IntKind.i64.wrap (x32_172 + 1)) (y_173.set x21_4.toNat t249) r0_ (len_set l_y_173) h251 hk) (Sub.cons rfl (Sub.cons rfl (Sub.cons rfl (Sub.cons rfl (Sub.cons rfl (Sub.cons rfl (Sub.cons rfl (Sub.cons rfl (Sub.cons rfl (Sub.cons rfl (Sub.nil _)))))))))))
    · replace c239 := Bool.eq_false_iff.mpr c239
      have h252 := ite_false c239 h
      refine TT.cond_false (x := sub [1, 1, 0, 1, 0, 0, 1, 1, 0, 0, 1, 1, 0, 0, 1, 0, 0] B13) (y := sub [1, 1, 0, 1, 0, 0, 1, 1, 0, 0, 1, 1, 0, 0, 1, 0, 1] B13) rfl c239 ?_
      refine TT.exit rfl ?_
      obtain rfl := Option.some.inj h252
      exact TT.weak (hk l_y_173) (Sub.cons rfl (Sub.cons rfl (Sub.cons rfl (Sub.cons rfl (Sub.cons rfl (Sub.cons rfl (Sub.nil _)))))))

def sha_press.L0 (a1 : List Int) : Nat → Int → (List Int) → Option (List Int)
  | 0, _, _ => none
  | k + 1, x21_4, y_5 => if (decide (x21_4 < 16)) = true then (nm (IntKind.i64.wrap ((IntKind.i64.wrap (8 * x21_4)) + 8)) fun t159 => req (0 ≤ (IntKind.i64.wrap (8 * x21_4))) (req ((IntKind.i64.wrap (8 * x21_4)) ≤ t159) (req (t159 ≤ (a1.length : Int)) (nm ((a1.drop (IntKind.i64.wrap (8 * x21_4)).toNat).take (t159.toNat - (IntKind.i64.wrap (8 * x21_4)).toNat)) fun t169 => (sha_press.L1 x21_4 t169 ((t169.length : Int).toNat + 1) 0 y_5).bind fun z_b3_238 => sha_press.L0 a1 k (IntKind.i64.wrap (x21_4 + 1)) z_b3_238)))) else (some y_5)
set_option maxRecDepth 20000 in
theorem sha_press.L0_ok (a0 : List Int) (a1 : List Int) (a1_v : Value) (a2_b : Nat) (b1 : Nat) (b2 : Nat) (b3 : Nat) {R : Ending → World → Prop} {w0 : World} {M0 M I : Mem} {K : List Item} (hE : Env w0 M0 M I) (hr_a1 : IntRow M .u8 a1_v a1) :
    ∀ (k : Nat) (x21_4 : Int) (y_5 : List Int) (r0_ : List Int) (l_y_5 : y_5.length = 80) (h : sha_press.L0 a1 k x21_4 y_5 = some r0_) (hk : r0_.length = 80 → TT Try.prog 13 R 186 w0 I K [(2, ptr a2_b 8), (3, ptr b1 0), (6, ptr b2 0), (7, ptr b3 0)] [(some b3, .cells (enc .u64 r0_) 43 (0, 0)), (some b2, .cells (enc .u64 (List.replicate 8 0)) 42 (0, 0)), (some b1, .cells (enc .u64 a0) 42 (0, 0))]),
      TT Try.prog 13 R 186 w0 I (.code (sub [1, 1, 0, 1, 0, 0] B13) :: .inLoop (sub [1, 1, 0, 1, 0, 0] B13) :: .inBlock 0 :: K) [(1, a1_v), (2, ptr a2_b 8), (3, ptr b1 0), (6, ptr b2 0), (7, ptr b3 0), (21, .int .i64 x21_4)] [(some b3, .cells (enc .u64 y_5) 43 (0, 0)), (some b2, .cells (enc .u64 (List.replicate 8 0)) 42 (0, 0)), (some b1, .cells (enc .u64 a0) 42 (0, 0))] := by
  intro k
  induction k with
  | zero => intro x21_4 y_5 r0_ l_y_5 h; simp [sha_press.L0] at h
  | succ k ih =>
    intro x21_4 y_5 r0_ l_y_5 h hk
    unfold sha_press.L0 at h
    refine TT.seq (x := sub [1, 1, 0, 1, 0, 0, 0] B13) (y := sub [1, 1, 0, 1, 0, 0, 1] B13) ?_
    refine TT.region (id := 3) (n := 1) (ops := (opsOf (sub [1, 1, 0, 1, 0, 0, 0] B13))) [(.pure, none)] rfl ?_
    show DL _ _ _ _ _ _ _ _ _ _ [0] _ _
    refine DL.pu 22 (.bool (decide (x21_4 < 16))) rfl (p_lss rfl rfl rfl) ?_
    refine DL.nil ?_
    refine TT.seq (x := sub [1, 1, 0, 1, 0, 0, 1, 0] B13) (y := sub [1, 1, 0, 1, 0, 0, 1, 1] B13) ?_
    by_cases c157 : (decide (x21_4 < 16)) = true
    · have h158 := ite_true c157 h
      refine TT.cond_true (x := sub [1, 1, 0, 1, 0, 0, 1, 0, 0] B13) (y := sub [1, 1, 0, 1, 0, 0, 1, 0, 1] B13) rfl c157 ?_
      refine TT.skip ?_
      refine TT.seq (x := sub [1, 1, 0, 1, 0, 0, 1, 1, 0] B13) (y := sub [1, 1, 0, 1, 0, 0, 1, 1, 1] B13) ?_
      refine TT.block (c := sub [1, 1, 0, 1, 0, 0, 1, 1, 0, 0] B13) ?_
      refine TT.seq (x := sub [1, 1, 0, 1, 0, 0, 1, 1, 0, 0, 0] B13) (y := sub [1, 1, 0, 1, 0, 0, 1, 1, 0, 0, 1] B13) ?_
      refine TT.region (id := 4) (n := 2) (ops := (opsOf (sub [1, 1, 0, 1, 0, 0, 1, 1, 0, 0, 0] B13))) [(.pure, none), (.pure, none)] rfl ?_
      show DL _ _ _ _ _ _ _ _ _ _ [0, 1] _ _
      refine DL.pu 23 (.int .i64 x21_4) rfl (p_move rfl rfl) ?_
      refine DL.pu 8 (.int .i64 x21_4) rfl (p_assign rfl rfl) ?_
      refine DL.nil ?_
      refine TT.seq (x := sub [1, 1, 0, 1, 0, 0, 1, 1, 0, 0, 1, 0] B13) (y := sub [1, 1, 0, 1, 0, 0, 1, 1, 0, 0, 1, 1] B13) ?_
      refine TT.region (id := 5) (n := 9) (ops := (opsOf (sub [1, 1, 0, 1, 0, 0, 1, 1, 0, 0, 1, 0] B13))) [(.pure, none), (.pure, none), (.pure, none), (.pure, none), (.pure, none), (.pure, none), (.pure, none), (.pure, none), (.pure, none)] rfl ?_
      show DL _ _ _ _ _ _ _ _ _ _ [0, 1, 2, 3, 4, 5, 6, 7, 8] _ _
      refine DL.pu 24 (a1_v) rfl (p_move rfl rfl) ?_
      refine DL.pu 25 (.int .i64 x21_4) rfl (p_move rfl rfl) ?_
      refine DL.pu 26 (.int .i64 (IntKind.i64.wrap (8 * x21_4))) rfl (p_mul rfl rfl rfl) ?_
      refine DL.pu 27 (.int .i64 x21_4) rfl (p_move rfl rfl) ?_
      refine DL.pu 28 (.int .i64 (IntKind.i64.wrap (8 * x21_4))) rfl (p_mul rfl rfl rfl) ?_
      obtain ⟨t159, e160, h161⟩ := nm_some h158
      refine DL.pu 29 (.int .i64 t159) rfl (by rw [e160]; exact p_add rfl rfl rfl) ?_
      obtain ⟨g163, h164⟩ := req_some h161
      obtain ⟨g165, h166⟩ := req_some h164
      obtain ⟨g167, h168⟩ := req_some h166
      obtain ⟨t169, e170, h171⟩ := nm_some h168
      obtain ⟨v162, v162_e⟩ : ∃ u, u = subsl a1_v 1 (IntKind.i64.wrap (8 * x21_4)).toNat t159.toNat := ⟨_, rfl⟩
      have hr_v162 : IntRow M .u8 v162 t169 := by rw [v162_e]; exact (by rw [e170]; exact IntRow.sub hr_a1 (toNat_le g167) (toNat_le2 g165))
      refine DL.pu 30 (v162) rfl (by rw [v162_e]; exact p_subLH ty_u22 ty_s5 hr_a1 g163 g165 g167 rfl rfl rfl rfl) ?_
      refine DL.pu 31 (.int .i64 (t169.length : Int)) rfl (p_slLen ty_u22 (RowV.sl hr_v162) rfl rfl) ?_
      refine DL.pu 32 (.int .i64 0) rfl (p_move rfl rfl) ?_
      refine DL.nil ?_
      refine TT.block (c := sub [1, 1, 0, 1, 0, 0, 1, 1, 0, 0, 1, 1, 0] B13) ?_
      refine TT.loop (c := sub [1, 1, 0, 1, 0, 0, 1, 1, 0, 0, 1, 1, 0, 0] B13) ?_
      obtain ⟨z_b3_238, h253, h254⟩ := bind_some h171
      refine TT.weak (sha_press.L1_ok a0 a1_v a2_b b1 b2 b3 x21_4 t169 v162 hE hr_v162 ((t169.length : Int).toNat + 1) 0 y_5 z_b3_238 l_y_5 h253 (fun l_z_b3_238 => ?_)) (Sub.cons rfl (Sub.cons rfl (Sub.cons rfl (Sub.cons rfl (Sub.cons rfl (Sub.cons rfl (Sub.cons rfl (Sub.cons rfl (Sub.cons rfl (Sub.cons rfl (Sub.nil _)))))))))))
      refine TT.inBlock ?_
      refine TT.region (id := 10) (n := 2) (ops := (opsOf (sub [1, 1, 0, 1, 0, 0, 1, 1, 1] B13))) [(.pure, none), (.pure, none)] rfl ?_
      show DL _ _ _ _ _ _ _ _ _ _ [0, 1] _ _
      refine DL.pu 46 (.int .i64 (IntKind.i64.wrap (x21_4 + 1))) rfl (p_add rfl rfl rfl) ?_
      refine DL.pu 21 (.int .i64 (IntKind.i64.wrap (x21_4 + 1))) rfl (p_move rfl rfl) ?_
      refine DL.nil ?_
      refine TT.inLoop ?_
      exact TT.weak (ih (IntKind.i64.wrap (x21_4 + 1)) z_b3_238 r0_ l_z_b3_238 h254 hk) (Sub.cons rfl (Sub.cons rfl (Sub.cons rfl (Sub.cons rfl (Sub.cons rfl (Sub.cons rfl (Sub.nil _)))))))
    · replace c157 := Bool.eq_false_iff.mpr c157
      have h256 := ite_false c157 h
      refine TT.cond_false (x := sub [1, 1, 0, 1, 0, 0, 1, 0, 0] B13) (y := sub [1, 1, 0, 1, 0, 0, 1, 0, 1] B13) rfl c157 ?_
      refine TT.exit rfl ?_
      obtain rfl := Option.some.inj h256
      exact TT.weak (hk l_y_5) (Sub.cons rfl (Sub.cons rfl (Sub.cons rfl (Sub.cons rfl (Sub.nil _)))))

def sha_press.L2 : Nat → Int → (List Int) → Option (List Int)
  | 0, _, _ => none
  | k + 1, x11_260, y_261 => if (decide (x11_260 < 80)) = true then (req (0 ≤ (IntKind.i64.wrap (x11_260 - 15))) (req ((IntKind.i64.wrap (x11_260 - 15)) < 80) (req (0 ≤ (IntKind.i64.wrap (x11_260 - 2))) (req ((IntKind.i64.wrap (x11_260 - 2)) < 80) (req (0 ≤ (IntKind.i64.wrap (x11_260 - 16))) (req ((IntKind.i64.wrap (x11_260 - 16)) < 80) ((sha_turn.f (y_261.getD ((IntKind.i64.wrap (x11_260 - 15)).toNat) 0) 1).bind fun t381 => (sha_turn.f (y_261.getD ((IntKind.i64.wrap (x11_260 - 15)).toNat) 0) 8).bind fun t384 => nm (ishr .u64 (y_261.getD ((IntKind.i64.wrap (x11_260 - 15)).toNat) 0) 7) fun t387 => nm (IntKind.u64.wrap ((y_261.getD ((IntKind.i64.wrap (x11_260 - 16)).toNat) 0) + (ixor .u64 (ixor .u64 t381 t384) t387))) fun t390 => req (0 ≤ (IntKind.i64.wrap (x11_260 - 7))) (req ((IntKind.i64.wrap (x11_260 - 7)) < 80) (nm (IntKind.u64.wrap (t390 + (y_261.getD ((IntKind.i64.wrap (x11_260 - 7)).toNat) 0))) fun t397 => (sha_turn.f (y_261.getD ((IntKind.i64.wrap (x11_260 - 2)).toNat) 0) 19).bind fun t400 => (sha_turn.f (y_261.getD ((IntKind.i64.wrap (x11_260 - 2)).toNat) 0) 61).bind fun t403 => nm (ishr .u64 (y_261.getD ((IntKind.i64.wrap (x11_260 - 2)).toNat) 0) 6) fun t406 => nm (IntKind.u64.wrap (t397 + (ixor .u64 (ixor .u64 t400 t403) t406))) fun t409 => req (0 ≤ x11_260) (req (x11_260 < 80) (sha_press.L2 k (IntKind.i64.wrap (x11_260 + 1)) (y_261.set x11_260.toNat t409)))))))))))) else (some y_261)
set_option maxRecDepth 20000 in
theorem sha_press.L2_ok (a0 : List Int) (a2_b : Nat) (b1 : Nat) (b2 : Nat) (b3 : Nat) {R : Ending → World → Prop} {w0 : World} {M0 M I : Mem} {K : List Item} (hE : Env w0 M0 M I) :
    ∀ (k : Nat) (x11_260 : Int) (y_261 : List Int) (r0_ : List Int) (l_y_261 : y_261.length = 80) (h : sha_press.L2 k x11_260 y_261 = some r0_) (hk : r0_.length = 80 → TT Try.prog 13 R 186 w0 I K [(2, ptr a2_b 8), (3, ptr b1 0), (6, ptr b2 0), (7, ptr b3 0)] [(some b3, .cells (enc .u64 r0_) 43 (0, 0)), (some b2, .cells (enc .u64 (List.replicate 8 0)) 42 (0, 0)), (some b1, .cells (enc .u64 a0) 42 (0, 0))]),
      TT Try.prog 13 R 186 w0 I (.code (sub [1, 1, 1, 0, 1, 0, 0] B13) :: .inLoop (sub [1, 1, 1, 0, 1, 0, 0] B13) :: .inBlock 4 :: K) [(2, ptr a2_b 8), (3, ptr b1 0), (6, ptr b2 0), (7, ptr b3 0), (11, .int .i64 x11_260)] [(some b3, .cells (enc .u64 y_261) 43 (0, 0)), (some b2, .cells (enc .u64 (List.replicate 8 0)) 42 (0, 0)), (some b1, .cells (enc .u64 a0) 42 (0, 0))] := by
  intro k
  induction k with
  | zero => intro x11_260 y_261 r0_ l_y_261 h; simp [sha_press.L2] at h
  | succ k ih =>
    intro x11_260 y_261 r0_ l_y_261 h hk
    unfold sha_press.L2 at h
    refine TT.seq (x := sub [1, 1, 1, 0, 1, 0, 0, 0] B13) (y := sub [1, 1, 1, 0, 1, 0, 0, 1] B13) ?_
    refine TT.seq (x := sub [1, 1, 1, 0, 1, 0, 0, 0, 0] B13) (y := sub [1, 1, 1, 0, 1, 0, 0, 0, 1] B13) ?_
    refine TT.region (id := 12) (n := 2) (ops := (opsOf (sub [1, 1, 1, 0, 1, 0, 0, 0, 0] B13))) [(.pure, none), (.pure, none)] rfl ?_
    show DL _ _ _ _ _ _ _ _ _ _ [0, 1] _ _
    refine DL.pu 47 (.int .i64 x11_260) rfl (p_move rfl rfl) ?_
    refine DL.pu 48 (.bool (decide (x11_260 < 80))) rfl (p_lss rfl rfl rfl) ?_
    refine DL.nil ?_
    by_cases c365 : (decide (x11_260 < 80)) = true
    · have h366 := ite_true c365 h
      refine TT.cond_true (x := sub [1, 1, 1, 0, 1, 0, 0, 0, 1, 0] B13) (y := sub [1, 1, 1, 0, 1, 0, 0, 0, 1, 1] B13) rfl c365 ?_
      refine TT.skip ?_
      refine TT.seq (x := sub [1, 1, 1, 0, 1, 0, 0, 1, 0] B13) (y := sub [1, 1, 1, 0, 1, 0, 0, 1, 1] B13) ?_
      refine TT.block (c := sub [1, 1, 1, 0, 1, 0, 0, 1, 0, 0] B13) ?_
      refine TT.seq (x := sub [1, 1, 1, 0, 1, 0, 0, 1, 0, 0, 0] B13) (y := sub [1, 1, 1, 0, 1, 0, 0, 1, 0, 0, 1] B13) ?_
      refine TT.regionD (id := 14) (ops := (opsOf (sub [1, 1, 1, 0, 1, 0, 0, 1, 0, 0, 0] B13))) [0, 1, 2, 3, 4, 5, 6, 7, 8, 9] [0, 1, 3, 7, 0, 16, 48, 112, 15, 511] [(.pure, none), (.pure, none), (.pure, none), (.look, some 0), (.pure, none), (.pure, none), (.pure, none), (.look, some 0), (.pure, none), (.pure, none)] mixed (by kernel_rfl) ?_
      intro w367 hl367 hj367 hz367
      refine DL.pu 51 (.int .i64 x11_260) rfl (p_move rfl rfl) ?_
      refine DL.pu 52 (.int .i64 (IntKind.i64.wrap (x11_260 - 15))) rfl (p_sub rfl rfl rfl) ?_
      obtain ⟨g368, h369⟩ := req_some h366
      obtain ⟨g370, h371⟩ := req_some h369
      refine DL.pu 53 (ptr b3 ((IntKind.i64.wrap (x11_260 - 15)).toNat)) rfl (p_ix ty_u43 ty_s35 g368 g370 rfl rfl rfl) ?_
      refine DL.look (v := .int .u64 (y_261.getD ((IntKind.i64.wrap (x11_260 - 15)).toNat) 0)) (x := 0) (b := b3) (i := 3) rfl (Wn.none rfl) rfl rfl rfl rfl rfl (List.mem_of_getElem? (i := 0) rfl) (b_load ty_a35 (enc_at l_y_261 g368 g370) rfl rfl) ?_
      refine DL.pu 55 (.int .i64 x11_260) rfl (p_move rfl rfl) ?_
      refine DL.pu 56 (.int .i64 (IntKind.i64.wrap (x11_260 - 2))) rfl (p_sub rfl rfl rfl) ?_
      obtain ⟨g372, h373⟩ := req_some h371
      obtain ⟨g374, h375⟩ := req_some h373
      refine DL.pu 57 (ptr b3 ((IntKind.i64.wrap (x11_260 - 2)).toNat)) rfl (p_ix ty_u43 ty_s35 g372 g374 rfl rfl rfl) ?_
      refine DL.look (v := .int .u64 (y_261.getD ((IntKind.i64.wrap (x11_260 - 2)).toNat) 0)) (x := 0) (b := b3) (i := 7) rfl (Wn.none rfl) rfl rfl rfl rfl rfl (List.mem_of_getElem? (i := 0) rfl) (b_load ty_a35 (enc_at l_y_261 g372 g374) rfl rfl) ?_
      refine DL.pu 12 (.int .u64 (y_261.getD ((IntKind.i64.wrap (x11_260 - 15)).toNat) 0)) rfl (p_assign rfl rfl) ?_
      refine DL.pu 13 (.int .u64 (y_261.getD ((IntKind.i64.wrap (x11_260 - 2)).toNat) 0)) rfl (p_assign rfl rfl) ?_
      refine DL.nil' hl367 ?_
      refine TT.regionD (id := 15) (ops := (opsOf (sub [1, 1, 1, 0, 1, 0, 0, 1, 0, 0, 1] B13))) [0, 1, 2, 3, 4, 5, 6, 7, 8, 9, 10, 11, 12, 13, 14, 15, 16, 17, 18, 19, 20, 21, 22, 23, 24, 25, 26, 27, 28, 29] [0, 0, 2, 6, 14, 0, 32, 0, 224, 480, 0, 1024, 4064, 8190, 0, 16384, 49152, 114688, 262142, 0, 524768, 0, 3670496, 7864800, 0, 16777216, 66585056, 134217726, 268435455, 536870911] [(.pure, none), (.pure, none), (.pure, none), (.pure, none), (.look, some 0), (.pure, none), (.quiet, none), (.pure, none), (.quiet, none), (.pure, none), (.pure, none), (.pure, none), (.pure, none), (.pure, none), (.pure, none), (.pure, none), (.pure, none), (.look, some 0), (.pure, none), (.pure, none), (.quiet, none), (.pure, none), (.quiet, none), (.pure, none), (.pure, none), (.pure, none), (.pure, none), (.pure, none), (.pure, none), (.store, some 0)] mixed (by kernel_rfl) ?_
      intro w376 hl376 hj376 hz376
      refine DL.pu 59 (.int .i64 x11_260) rfl (p_move rfl rfl) ?_
      refine DL.pu 60 (.int .i64 x11_260) rfl (p_move rfl rfl) ?_
      refine DL.pu 61 (.int .i64 (IntKind.i64.wrap (x11_260 - 16))) rfl (p_sub rfl rfl rfl) ?_
      obtain ⟨g377, h378⟩ := req_some h375
      obtain ⟨g379, h380⟩ := req_some h378
      refine DL.pu 62 (ptr b3 ((IntKind.i64.wrap (x11_260 - 16)).toNat)) rfl (p_ix ty_u43 ty_s35 g377 g379 rfl rfl rfl) ?_
      refine DL.look (v := .int .u64 (y_261.getD ((IntKind.i64.wrap (x11_260 - 16)).toNat) 0)) (x := 0) (b := b3) (i := 4) rfl (Wn.none rfl) rfl rfl rfl rfl rfl (List.mem_of_getElem? (i := 0) rfl) (b_load ty_a35 (enc_at l_y_261 g377 g379) rfl rfl) ?_
      refine DL.pu 64 (.int .u64 (y_261.getD ((IntKind.i64.wrap (x11_260 - 15)).toNat) 0)) rfl (p_move rfl rfl) ?_
      obtain ⟨t381, h382, h383⟩ := bind_some h380
      refine DL.qu 65 (.int .u64 t381) rfl (f_callR rfl rfl (args_val (vs := [.int .u64 (y_261.getD ((IntKind.i64.wrap (x11_260 - 15)).toNat) 0), .int .i64 1]) rfl) (fun w => enter17 _ w) (fun w hc => sha_turn.val h382 (M := M) w (hE.ext hc) )) ?_
      refine DL.pu 66 (.int .u64 (y_261.getD ((IntKind.i64.wrap (x11_260 - 15)).toNat) 0)) rfl (p_move rfl rfl) ?_
      obtain ⟨t384, h385, h386⟩ := bind_some h383
      refine DL.qu 67 (.int .u64 t384) rfl (f_callR rfl rfl (args_val (vs := [.int .u64 (y_261.getD ((IntKind.i64.wrap (x11_260 - 15)).toNat) 0), .int .i64 8]) rfl) (fun w => enter17 _ w) (fun w hc => sha_turn.val h385 (M := M) w (hE.ext hc) )) ?_
      refine DL.pu 68 (.int .u64 (ixor .u64 t381 t384)) rfl (p_xor rfl rfl rfl) ?_
      refine DL.pu 69 (.int .u64 (y_261.getD ((IntKind.i64.wrap (x11_260 - 15)).toNat) 0)) rfl (p_move rfl rfl) ?_
      obtain ⟨t387, e388, h389⟩ := nm_some h386
      refine DL.pu 70 (.int .u64 t387) rfl (by rw [e388]; exact p_shr (by decide) rfl rfl rfl) ?_
      refine DL.pu 71 (.int .u64 (ixor .u64 (ixor .u64 t381 t384) t387)) rfl (p_xor rfl rfl rfl) ?_
      obtain ⟨t390, e391, h392⟩ := nm_some h389
      refine DL.pu 72 (.int .u64 t390) rfl (by rw [e391]; exact p_add rfl rfl rfl) ?_
      refine DL.pu 73 (.int .i64 x11_260) rfl (p_move rfl rfl) ?_
      refine DL.pu 74 (.int .i64 (IntKind.i64.wrap (x11_260 - 7))) rfl (p_sub rfl rfl rfl) ?_
      obtain ⟨g393, h394⟩ := req_some h392
      obtain ⟨g395, h396⟩ := req_some h394
      refine DL.pu 75 (ptr b3 ((IntKind.i64.wrap (x11_260 - 7)).toNat)) rfl (p_ix ty_u43 ty_s35 g393 g395 rfl rfl rfl) ?_
      refine DL.look (v := .int .u64 (y_261.getD ((IntKind.i64.wrap (x11_260 - 7)).toNat) 0)) (x := 0) (b := b3) (i := 17) rfl (Wn.none rfl) rfl rfl rfl rfl rfl (List.mem_of_getElem? (i := 0) rfl) (b_load ty_a35 (enc_at l_y_261 g393 g395) rfl rfl) ?_
      obtain ⟨t397, e398, h399⟩ := nm_some h396
      refine DL.pu 77 (.int .u64 t397) rfl (by rw [e398]; exact p_add rfl rfl rfl) ?_
      refine DL.pu 78 (.int .u64 (y_261.getD ((IntKind.i64.wrap (x11_260 - 2)).toNat) 0)) rfl (p_move rfl rfl) ?_
      obtain ⟨t400, h401, h402⟩ := bind_some h399
      refine DL.qu 79 (.int .u64 t400) rfl (f_callR rfl rfl (args_val (vs := [.int .u64 (y_261.getD ((IntKind.i64.wrap (x11_260 - 2)).toNat) 0), .int .i64 19]) rfl) (fun w => enter17 _ w) (fun w hc => sha_turn.val h401 (M := M) w (hE.ext hc) )) ?_
      refine DL.pu 80 (.int .u64 (y_261.getD ((IntKind.i64.wrap (x11_260 - 2)).toNat) 0)) rfl (p_move rfl rfl) ?_
      obtain ⟨t403, h404, h405⟩ := bind_some h402
      refine DL.qu 81 (.int .u64 t403) rfl (f_callR rfl rfl (args_val (vs := [.int .u64 (y_261.getD ((IntKind.i64.wrap (x11_260 - 2)).toNat) 0), .int .i64 61]) rfl) (fun w => enter17 _ w) (fun w hc => sha_turn.val h404 (M := M) w (hE.ext hc) )) ?_
      refine DL.pu 82 (.int .u64 (ixor .u64 t400 t403)) rfl (p_xor rfl rfl rfl) ?_
      refine DL.pu 83 (.int .u64 (y_261.getD ((IntKind.i64.wrap (x11_260 - 2)).toNat) 0)) rfl (p_move rfl rfl) ?_
      obtain ⟨t406, e407, h408⟩ := nm_some h405
      refine DL.pu 84 (.int .u64 t406) rfl (by rw [e407]; exact p_shr (by decide) rfl rfl rfl) ?_
      refine DL.pu 85 (.int .u64 (ixor .u64 (ixor .u64 t400 t403) t406)) rfl (p_xor rfl rfl rfl) ?_
      obtain ⟨t409, e410, h411⟩ := nm_some h408
      refine DL.pu 86 (.int .u64 t409) rfl (by rw [e410]; exact p_add rfl rfl rfl) ?_
      obtain ⟨g412, h413⟩ := req_some h411
      obtain ⟨g414, h415⟩ := req_some h413
      refine DL.pu 87 (ptr b3 x11_260.toNat) rfl (p_ix ty_u43 ty_s35 g412 g414 rfl rfl rfl) ?_
      refine DL.put (H' := [(some b3, .cells (enc .u64 (y_261.set x11_260.toNat t409)) 43 (0, 0)), (some b2, .cells (enc .u64 (List.replicate 8 0)) 42 (0, 0)), (some b1, .cells (enc .u64 a0) 42 (0, 0))]) (i := 29) rfl (Wn.none rfl) rfl rfl (f_storeE (j := 0) ty_s35 rfl (lt_nat l_y_261 g412 g414) rfl rfl rfl) (keep_set (j := 0) hj376 rfl rfl rfl) ?_
      refine DL.nil' hl376 ?_
      refine TT.inBlock ?_
      refine TT.region (id := 13) (n := 3) (ops := (opsOf (sub [1, 1, 1, 0, 1, 0, 0, 1, 1] B13))) [(.pure, none), (.pure, none), (.pure, none)] rfl ?_
      show DL _ _ _ _ _ _ _ _ _ _ [0, 1, 2] _ _
      refine DL.pu 49 (.int .i64 x11_260) rfl (p_move rfl rfl) ?_
      refine DL.pu 50 (.int .i64 (IntKind.i64.wrap (x11_260 + 1))) rfl (p_add rfl rfl rfl) ?_
      refine DL.pu 11 (.int .i64 (IntKind.i64.wrap (x11_260 + 1))) rfl (p_assign rfl rfl) ?_
      refine DL.nil ?_
      refine TT.inLoop ?_
      exact TT.weak (ih (IntKind.i64.wrap (x11_260 + 1)) (y_261.set x11_260.toNat t409) r0_ (len_set l_y_261) h415 hk) (Sub.cons rfl (Sub.cons rfl (Sub.cons rfl (Sub.cons rfl (Sub.cons rfl (Sub.nil _))))))
    · replace c365 := Bool.eq_false_iff.mpr c365
      have h416 := ite_false c365 h
      refine TT.cond_false (x := sub [1, 1, 1, 0, 1, 0, 0, 0, 1, 0] B13) (y := sub [1, 1, 1, 0, 1, 0, 0, 0, 1, 1] B13) rfl c365 ?_
      refine TT.exit rfl ?_
      obtain rfl := Option.some.inj h416
      exact TT.weak (hk l_y_261) (Sub.cons rfl (Sub.cons rfl (Sub.cons rfl (Sub.cons rfl (Sub.nil _)))))

def sha_press.L3 (a2 : List Int) (z_b3_364 : List Int) : Nat → Int → (List Int) → Option (List Int)
  | 0, _, _ => none
  | k + 1, x89_421, y_422 => if (decide (x89_421 < 80)) = true then ((sha_turn.f (y_422.getD ((4 : Int).toNat) 0) 14).bind fun t539 => (sha_turn.f (y_422.getD ((4 : Int).toNat) 0) 18).bind fun t542 => (sha_turn.f (y_422.getD ((4 : Int).toNat) 0) 41).bind fun t545 => nm (IntKind.u64.wrap ((y_422.getD ((7 : Int).toNat) 0) + (ixor .u64 (ixor .u64 t539 t542) t545))) fun t548 => nm (iand .u64 (y_422.getD ((4 : Int).toNat) 0) (y_422.getD ((5 : Int).toNat) 0)) fun t551 => nm (iand .u64 (inot .u64 (y_422.getD ((4 : Int).toNat) 0)) (y_422.getD ((6 : Int).toNat) 0)) fun t554 => nm (IntKind.u64.wrap (t548 + (ixor .u64 t551 t554))) fun t557 => req (0 ≤ x89_421) (req (x89_421 < 80) (nm (IntKind.u64.wrap (t557 + (a2.getD (8 + x89_421.toNat) 0))) fun t564 => nm (IntKind.u64.wrap (t564 + (z_b3_364.getD x89_421.toNat 0))) fun t567 => (sha_turn.f (y_422.getD ((0 : Int).toNat) 0) 28).bind fun t571 => (sha_turn.f (y_422.getD ((0 : Int).toNat) 0) 34).bind fun t574 => (sha_turn.f (y_422.getD ((0 : Int).toNat) 0) 39).bind fun t577 => nm (iand .u64 (y_422.getD ((0 : Int).toNat) 0) (y_422.getD ((1 : Int).toNat) 0)) fun t580 => nm (iand .u64 (y_422.getD ((0 : Int).toNat) 0) (y_422.getD ((2 : Int).toNat) 0)) fun t583 => nm (iand .u64 (y_422.getD ((1 : Int).toNat) 0) (y_422.getD ((2 : Int).toNat) 0)) fun t586 => nm (IntKind.u64.wrap ((ixor .u64 (ixor .u64 t571 t574) t577) + (ixor .u64 (ixor .u64 t580 t583) t586))) fun t589 => nm (IntKind.u64.wrap ((y_422.getD ((3 : Int).toNat) 0) + t567)) fun t592 => sha_press.L3 a2 z_b3_364 k (IntKind.i64.wrap (x89_421 + 1)) [IntKind.u64.wrap (t567 + t589), y_422.getD ((0 : Int).toNat) 0, y_422.getD ((1 : Int).toNat) 0, y_422.getD ((2 : Int).toNat) 0, t592, y_422.getD ((4 : Int).toNat) 0, y_422.getD ((5 : Int).toNat) 0, y_422.getD ((6 : Int).toNat) 0]))) else (some y_422)
set_option maxRecDepth 20000 in
theorem sha_press.L3_ok (a0 : List Int) (a2 : List Int) (a2_b : Nat) (b1 : Nat) (b2 : Nat) (b3 : Nat) (z_b3_364 : List Int) (b420 : Nat) {R : Ending → World → Prop} {w0 : World} {M0 M I : Mem} {K : List Item} (hE : Env w0 M0 M I) (l_a2 : a2.length = 88) (hb_a2 : M a2_b = some (.cells (enc .u64 a2) 45 (0, 0))) (l_z_b3_364 : z_b3_364.length = 80) :
    ∀ (k : Nat) (x89_421 : Int) (y_422 : List Int) (r0_ : List Int) (l_y_422 : y_422.length = 8) (h : sha_press.L3 a2 z_b3_364 k x89_421 y_422 = some r0_) (hk : r0_.length = 8 → TT Try.prog 13 R 186 w0 I K [(3, ptr b1 0), (6, ptr b2 0), (14, ptr b420 0)] [(some b420, .cells (enc .u64 r0_) 42 (0, 0)), (some b3, .cells (enc .u64 z_b3_364) 43 (0, 0)), (some b2, .cells (enc .u64 (List.replicate 8 0)) 42 (0, 0)), (some b1, .cells (enc .u64 a0) 42 (0, 0))]),
      TT Try.prog 13 R 186 w0 I (.code (sub [1, 1, 1, 1, 1, 0, 1, 0, 0] B13) :: .inLoop (sub [1, 1, 1, 1, 1, 0, 1, 0, 0] B13) :: .inBlock 6 :: K) [(2, ptr a2_b 8), (3, ptr b1 0), (6, ptr b2 0), (7, ptr b3 0), (14, ptr b420 0), (89, .int .i64 x89_421)] [(some b420, .cells (enc .u64 y_422) 42 (0, 0)), (some b3, .cells (enc .u64 z_b3_364) 43 (0, 0)), (some b2, .cells (enc .u64 (List.replicate 8 0)) 42 (0, 0)), (some b1, .cells (enc .u64 a0) 42 (0, 0))] := by
  intro k
  induction k with
  | zero => intro x89_421 y_422 r0_ l_y_422 h; simp [sha_press.L3] at h
  | succ k ih =>
    intro x89_421 y_422 r0_ l_y_422 h hk
    unfold sha_press.L3 at h
    refine TT.seq (x := sub [1, 1, 1, 1, 1, 0, 1, 0, 0, 0] B13) (y := sub [1, 1, 1, 1, 1, 0, 1, 0, 0, 1] B13) ?_
    refine TT.region (id := 18) (n := 1) (ops := (opsOf (sub [1, 1, 1, 1, 1, 0, 1, 0, 0, 0] B13))) [(.pure, none)] rfl ?_
    show DL _ _ _ _ _ _ _ _ _ _ [0] _ _
    refine DL.pu 90 (.bool (decide (x89_421 < 80))) rfl (p_lss rfl rfl rfl) ?_
    refine DL.nil ?_
    refine TT.seq (x := sub [1, 1, 1, 1, 1, 0, 1, 0, 0, 1, 0] B13) (y := sub [1, 1, 1, 1, 1, 0, 1, 0, 0, 1, 1] B13) ?_
    by_cases c535 : (decide (x89_421 < 80)) = true
    · have h536 := ite_true c535 h
      refine TT.cond_true (x := sub [1, 1, 1, 1, 1, 0, 1, 0, 0, 1, 0, 0] B13) (y := sub [1, 1, 1, 1, 1, 0, 1, 0, 0, 1, 0, 1] B13) rfl c535 ?_
      refine TT.skip ?_
      refine TT.seq (x := sub [1, 1, 1, 1, 1, 0, 1, 0, 0, 1, 1, 0] B13) (y := sub [1, 1, 1, 1, 1, 0, 1, 0, 0, 1, 1, 1] B13) ?_
      refine TT.block (c := sub [1, 1, 1, 1, 1, 0, 1, 0, 0, 1, 1, 0, 0] B13) ?_
      refine TT.seq (x := sub [1, 1, 1, 1, 1, 0, 1, 0, 0, 1, 1, 0, 0, 0] B13) (y := sub [1, 1, 1, 1, 1, 0, 1, 0, 0, 1, 1, 0, 0, 1] B13) ?_
      refine TT.region (id := 19) (n := 2) (ops := (opsOf (sub [1, 1, 1, 1, 1, 0, 1, 0, 0, 1, 1, 0, 0, 0] B13))) [(.pure, none), (.pure, none)] rfl ?_
      show DL _ _ _ _ _ _ _ _ _ _ [0, 1] _ _
      refine DL.pu 91 (.int .i64 x89_421) rfl (p_move rfl rfl) ?_
      refine DL.pu 15 (.int .i64 x89_421) rfl (p_assign rfl rfl) ?_
      refine DL.nil ?_
      refine TT.seq (x := sub [1, 1, 1, 1, 1, 0, 1, 0, 0, 1, 1, 0, 0, 1, 0] B13) (y := sub [1, 1, 1, 1, 1, 0, 1, 0, 0, 1, 1, 0, 0, 1, 1] B13) ?_
      refine TT.regionD (id := 20) (ops := (opsOf (sub [1, 1, 1, 1, 1, 0, 1, 0, 0, 1, 1, 0, 0, 1, 0] B13))) [0, 1, 2, 3, 4, 5] [0, 1, 0, 4, 3, 31] [(.pure, none), (.look, some 0), (.pure, none), (.look, some 0), (.pure, none), (.pure, none)] mixed (by kernel_rfl) ?_
      intro w537 hl537 hj537 hz537
      refine DL.pu 92 (ptr b420 ((0 : Int).toNat)) rfl (p_ix ty_u42 ty_s35 (by decide) (by decide) rfl rfl rfl) ?_
      refine DL.look (v := .int .u64 (y_422.getD ((0 : Int).toNat) 0)) (x := 0) (b := b420) (i := 1) rfl (Wn.none rfl) rfl rfl rfl rfl rfl (List.mem_of_getElem? (i := 0) rfl) (b_load ty_a35 (enc_at l_y_422 (by decide) (by decide)) rfl rfl) ?_
      refine DL.pu 94 (ptr b420 ((4 : Int).toNat)) rfl (p_ix ty_u42 ty_s35 (by decide) (by decide) rfl rfl rfl) ?_
      refine DL.look (v := .int .u64 (y_422.getD ((4 : Int).toNat) 0)) (x := 0) (b := b420) (i := 3) rfl (Wn.none rfl) rfl rfl rfl rfl rfl (List.mem_of_getElem? (i := 0) rfl) (b_load ty_a35 (enc_at l_y_422 (by decide) (by decide)) rfl rfl) ?_
      refine DL.pu 16 (.int .u64 (y_422.getD ((0 : Int).toNat) 0)) rfl (p_assign rfl rfl) ?_
      refine DL.pu 17 (.int .u64 (y_422.getD ((4 : Int).toNat) 0)) rfl (p_assign rfl rfl) ?_
      refine DL.nil' hl537 ?_
      refine TT.seq (x := sub [1, 1, 1, 1, 1, 0, 1, 0, 0, 1, 1, 0, 0, 1, 1, 0] B13) (y := sub [1, 1, 1, 1, 1, 0, 1, 0, 0, 1, 1, 0, 0, 1, 1, 1] B13) ?_
      refine TT.regionD (id := 21) (ops := (opsOf (sub [1, 1, 1, 1, 1, 0, 1, 0, 0, 1, 1, 0, 0, 1, 1, 0] B13))) [0, 1, 2, 3, 4, 5, 6, 7, 8, 9, 10, 11, 12, 13, 14, 15, 16, 17, 18, 19, 20, 21, 22, 23, 24, 25, 26, 27, 28, 29, 30, 31, 32] [0, 1, 0, 4, 0, 28, 60, 0, 188, 508, 1023, 0, 0, 4096, 14336, 0, 32768, 0, 131072, 491520, 1046528, 2097151, 0, 0, 4194304, 29360128, 62914560, 134217727, 0, 268435456, 805306368, 2147483647, 4294967295] [(.pure, none), (.look, some 0), (.pure, none), (.quiet, none), (.pure, none), (.quiet, none), (.pure, none), (.pure, none), (.quiet, none), (.pure, none), (.pure, none), (.pure, none), (.pure, none), (.look, some 0), (.pure, none), (.pure, none), (.pure, none), (.pure, none), (.look, some 0), (.pure, none), (.pure, none), (.pure, none), (.pure, none), (.pure, none), (.pure, none), (.pure, none), (.pure, none), (.pure, none), (.pure, none), (.pure, none), (.look, some 1), (.pure, none), (.pure, none)] mixed (by kernel_rfl) ?_
      intro w538 hl538 hj538 hz538
      refine DL.pu 96 (ptr b420 ((7 : Int).toNat)) rfl (p_ix ty_u42 ty_s35 (by decide) (by decide) rfl rfl rfl) ?_
      refine DL.look (v := .int .u64 (y_422.getD ((7 : Int).toNat) 0)) (x := 0) (b := b420) (i := 1) rfl (Wn.none rfl) rfl rfl rfl rfl rfl (List.mem_of_getElem? (i := 0) rfl) (b_load ty_a35 (enc_at l_y_422 (by decide) (by decide)) rfl rfl) ?_
      refine DL.pu 98 (.int .u64 (y_422.getD ((4 : Int).toNat) 0)) rfl (p_move rfl rfl) ?_
      obtain ⟨t539, h540, h541⟩ := bind_some h536
      refine DL.qu 99 (.int .u64 t539) rfl (f_callR rfl rfl (args_val (vs := [.int .u64 (y_422.getD ((4 : Int).toNat) 0), .int .i64 14]) rfl) (fun w => enter17 _ w) (fun w hc => sha_turn.val h540 (M := M) w (hE.ext hc) )) ?_
      refine DL.pu 100 (.int .u64 (y_422.getD ((4 : Int).toNat) 0)) rfl (p_move rfl rfl) ?_
      obtain ⟨t542, h543, h544⟩ := bind_some h541
      refine DL.qu 101 (.int .u64 t542) rfl (f_callR rfl rfl (args_val (vs := [.int .u64 (y_422.getD ((4 : Int).toNat) 0), .int .i64 18]) rfl) (fun w => enter17 _ w) (fun w hc => sha_turn.val h543 (M := M) w (hE.ext hc) )) ?_
      refine DL.pu 102 (.int .u64 (ixor .u64 t539 t542)) rfl (p_xor rfl rfl rfl) ?_
      refine DL.pu 103 (.int .u64 (y_422.getD ((4 : Int).toNat) 0)) rfl (p_move rfl rfl) ?_
      obtain ⟨t545, h546, h547⟩ := bind_some h544
      refine DL.qu 104 (.int .u64 t545) rfl (f_callR rfl rfl (args_val (vs := [.int .u64 (y_422.getD ((4 : Int).toNat) 0), .int .i64 41]) rfl) (fun w => enter17 _ w) (fun w hc => sha_turn.val h546 (M := M) w (hE.ext hc) )) ?_
      refine DL.pu 105 (.int .u64 (ixor .u64 (ixor .u64 t539 t542) t545)) rfl (p_xor rfl rfl rfl) ?_
      obtain ⟨t548, e549, h550⟩ := nm_some h547
      refine DL.pu 106 (.int .u64 t548) rfl (by rw [e549]; exact p_add rfl rfl rfl) ?_
      refine DL.pu 107 (.int .u64 (y_422.getD ((4 : Int).toNat) 0)) rfl (p_move rfl rfl) ?_
      refine DL.pu 108 (ptr b420 ((5 : Int).toNat)) rfl (p_ix ty_u42 ty_s35 (by decide) (by decide) rfl rfl rfl) ?_
      refine DL.look (v := .int .u64 (y_422.getD ((5 : Int).toNat) 0)) (x := 0) (b := b420) (i := 13) rfl (Wn.none rfl) rfl rfl rfl rfl rfl (List.mem_of_getElem? (i := 0) rfl) (b_load ty_a35 (enc_at l_y_422 (by decide) (by decide)) rfl rfl) ?_
      obtain ⟨t551, e552, h553⟩ := nm_some h550
      refine DL.pu 110 (.int .u64 t551) rfl (by rw [e552]; exact p_and rfl rfl rfl) ?_
      refine DL.pu 111 (.int .u64 (y_422.getD ((4 : Int).toNat) 0)) rfl (p_move rfl rfl) ?_
      refine DL.pu 112 (.int .u64 (inot .u64 (y_422.getD ((4 : Int).toNat) 0))) rfl (p_com rfl rfl) ?_
      refine DL.pu 113 (ptr b420 ((6 : Int).toNat)) rfl (p_ix ty_u42 ty_s35 (by decide) (by decide) rfl rfl rfl) ?_
      refine DL.look (v := .int .u64 (y_422.getD ((6 : Int).toNat) 0)) (x := 0) (b := b420) (i := 18) rfl (Wn.none rfl) rfl rfl rfl rfl rfl (List.mem_of_getElem? (i := 0) rfl) (b_load ty_a35 (enc_at l_y_422 (by decide) (by decide)) rfl rfl) ?_
      obtain ⟨t554, e555, h556⟩ := nm_some h553
      refine DL.pu 115 (.int .u64 t554) rfl (by rw [e555]; exact p_and rfl rfl rfl) ?_
      refine DL.pu 116 (.int .u64 (ixor .u64 t551 t554)) rfl (p_xor rfl rfl rfl) ?_
      obtain ⟨t557, e558, h559⟩ := nm_some h556
      refine DL.pu 117 (.int .u64 t557) rfl (by rw [e558]; exact p_add rfl rfl rfl) ?_
      refine DL.pu 118 (ptr a2_b 8) rfl (p_move rfl rfl) ?_
      refine DL.pu 119 (.int .i64 x89_421) rfl (p_move rfl rfl) ?_
      refine DL.pu 120 (ptr a2_b 8) rfl (p_nilCheck rfl rfl) ?_
      obtain ⟨g560, h561⟩ := req_some h559
      obtain ⟨g562, h563⟩ := req_some h561
      refine DL.pu 121 (ptr a2_b (8 + x89_421.toNat)) rfl (p_ixO ty_u43 ty_s35 g560 g562 rfl rfl rfl) ?_
      refine DL.imm (v := .int .u64 (a2.getD (8 + x89_421.toNat) 0)) rfl (Wn.none rfl) rfl rfl rfl (i_loadBoxO (hE.mi _ _ hb_a2) (enc_atO (off := 8) l_a2 g560 g562 (by decide)) ty_a35 rfl rfl) ?_
      obtain ⟨t564, e565, h566⟩ := nm_some h563
      refine DL.pu 123 (.int .u64 t564) rfl (by rw [e565]; exact p_add rfl rfl rfl) ?_
      refine DL.pu 124 (.int .i64 x89_421) rfl (p_move rfl rfl) ?_
      refine DL.pu 125 (ptr b3 x89_421.toNat) rfl (p_ix ty_u43 ty_s35 g560 g562 rfl rfl rfl) ?_
      refine DL.look (v := .int .u64 (z_b3_364.getD x89_421.toNat 0)) (x := 1) (b := b3) (i := 30) rfl (Wn.none rfl) rfl rfl rfl rfl rfl (List.mem_of_getElem? (i := 1) rfl) (b_load ty_a35 (enc_at l_z_b3_364 g560 g562) rfl rfl) ?_
      obtain ⟨t567, e568, h569⟩ := nm_some h566
      refine DL.pu 127 (.int .u64 t567) rfl (by rw [e568]; exact p_add rfl rfl rfl) ?_
      refine DL.pu 18 (.int .u64 t567) rfl (p_assign rfl rfl) ?_
      refine DL.nil' hl538 ?_
      refine TT.seq (x := sub [1, 1, 1, 1, 1, 0, 1, 0, 0, 1, 1, 0, 0, 1, 1, 1, 0] B13) (y := sub [1, 1, 1, 1, 1, 0, 1, 0, 0, 1, 1, 0, 0, 1, 1, 1, 1] B13) ?_
      refine TT.regionD (id := 22) (ops := (opsOf (sub [1, 1, 1, 1, 1, 0, 1, 0, 0, 1, 1, 0, 0, 1, 1, 1, 0] B13))) [0, 1, 2, 3, 4, 5, 6, 7, 8, 9, 10, 11, 12, 13, 14, 15, 16, 17, 18, 19, 20, 21, 22, 23, 24] [0, 1, 0, 7, 15, 0, 47, 127, 0, 0, 512, 1792, 0, 0, 8192, 28672, 65280, 0, 131072, 0, 524288, 1966080, 4194048, 8388607, 16777215] [(.pure, none), (.quiet, none), (.pure, none), (.quiet, none), (.pure, none), (.pure, none), (.quiet, none), (.pure, none), (.pure, none), (.pure, none), (.look, some 0), (.pure, none), (.pure, none), (.pure, none), (.look, some 0), (.pure, none), (.pure, none), (.pure, none), (.look, some 0), (.pure, none), (.look, some 0), (.pure, none), (.pure, none), (.pure, none), (.pure, none)] mixed (by kernel_rfl) ?_
      intro w570 hl570 hj570 hz570
      refine DL.pu 128 (.int .u64 (y_422.getD ((0 : Int).toNat) 0)) rfl (p_move rfl rfl) ?_
      obtain ⟨t571, h572, h573⟩ := bind_some h569
      refine DL.qu 129 (.int .u64 t571) rfl (f_callR rfl rfl (args_val (vs := [.int .u64 (y_422.getD ((0 : Int).toNat) 0), .int .i64 28]) rfl) (fun w => enter17 _ w) (fun w hc => sha_turn.val h572 (M := M) w (hE.ext hc) )) ?_
      refine DL.pu 130 (.int .u64 (y_422.getD ((0 : Int).toNat) 0)) rfl (p_move rfl rfl) ?_
      obtain ⟨t574, h575, h576⟩ := bind_some h573
      refine DL.qu 131 (.int .u64 t574) rfl (f_callR rfl rfl (args_val (vs := [.int .u64 (y_422.getD ((0 : Int).toNat) 0), .int .i64 34]) rfl) (fun w => enter17 _ w) (fun w hc => sha_turn.val h575 (M := M) w (hE.ext hc) )) ?_
      refine DL.pu 132 (.int .u64 (ixor .u64 t571 t574)) rfl (p_xor rfl rfl rfl) ?_
      refine DL.pu 133 (.int .u64 (y_422.getD ((0 : Int).toNat) 0)) rfl (p_move rfl rfl) ?_
      obtain ⟨t577, h578, h579⟩ := bind_some h576
      refine DL.qu 134 (.int .u64 t577) rfl (f_callR rfl rfl (args_val (vs := [.int .u64 (y_422.getD ((0 : Int).toNat) 0), .int .i64 39]) rfl) (fun w => enter17 _ w) (fun w hc => sha_turn.val h578 (M := M) w (hE.ext hc) )) ?_
      refine DL.pu 135 (.int .u64 (ixor .u64 (ixor .u64 t571 t574) t577)) rfl (p_xor rfl rfl rfl) ?_
      refine DL.pu 136 (.int .u64 (y_422.getD ((0 : Int).toNat) 0)) rfl (p_move rfl rfl) ?_
      refine DL.pu 137 (ptr b420 ((1 : Int).toNat)) rfl (p_ix ty_u42 ty_s35 (by decide) (by decide) rfl rfl rfl) ?_
      refine DL.look (v := .int .u64 (y_422.getD ((1 : Int).toNat) 0)) (x := 0) (b := b420) (i := 10) rfl (Wn.none rfl) rfl rfl rfl rfl rfl (List.mem_of_getElem? (i := 0) rfl) (b_load ty_a35 (enc_at l_y_422 (by decide) (by decide)) rfl rfl) ?_
      obtain ⟨t580, e581, h582⟩ := nm_some h579
      refine DL.pu 139 (.int .u64 t580) rfl (by rw [e581]; exact p_and rfl rfl rfl) ?_
      refine DL.pu 140 (.int .u64 (y_422.getD ((0 : Int).toNat) 0)) rfl (p_move rfl rfl) ?_
      refine DL.pu 141 (ptr b420 ((2 : Int).toNat)) rfl (p_ix ty_u42 ty_s35 (by decide) (by decide) rfl rfl rfl) ?_
      refine DL.look (v := .int .u64 (y_422.getD ((2 : Int).toNat) 0)) (x := 0) (b := b420) (i := 14) rfl (Wn.none rfl) rfl rfl rfl rfl rfl (List.mem_of_getElem? (i := 0) rfl) (b_load ty_a35 (enc_at l_y_422 (by decide) (by decide)) rfl rfl) ?_
      obtain ⟨t583, e584, h585⟩ := nm_some h582
      refine DL.pu 143 (.int .u64 t583) rfl (by rw [e584]; exact p_and rfl rfl rfl) ?_
      refine DL.pu 144 (.int .u64 (ixor .u64 t580 t583)) rfl (p_xor rfl rfl rfl) ?_
      refine DL.pu 145 (ptr b420 ((1 : Int).toNat)) rfl (p_ix ty_u42 ty_s35 (by decide) (by decide) rfl rfl rfl) ?_
      refine DL.look (v := .int .u64 (y_422.getD ((1 : Int).toNat) 0)) (x := 0) (b := b420) (i := 18) rfl (Wn.none rfl) rfl rfl rfl rfl rfl (List.mem_of_getElem? (i := 0) rfl) (b_load ty_a35 (enc_at l_y_422 (by decide) (by decide)) rfl rfl) ?_
      refine DL.pu 147 (ptr b420 ((2 : Int).toNat)) rfl (p_ix ty_u42 ty_s35 (by decide) (by decide) rfl rfl rfl) ?_
      refine DL.look (v := .int .u64 (y_422.getD ((2 : Int).toNat) 0)) (x := 0) (b := b420) (i := 20) rfl (Wn.none rfl) rfl rfl rfl rfl rfl (List.mem_of_getElem? (i := 0) rfl) (b_load ty_a35 (enc_at l_y_422 (by decide) (by decide)) rfl rfl) ?_
      obtain ⟨t586, e587, h588⟩ := nm_some h585
      refine DL.pu 149 (.int .u64 t586) rfl (by rw [e587]; exact p_and rfl rfl rfl) ?_
      refine DL.pu 150 (.int .u64 (ixor .u64 (ixor .u64 t580 t583) t586)) rfl (p_xor rfl rfl rfl) ?_
      obtain ⟨t589, e590, h591⟩ := nm_some h588
      refine DL.pu 151 (.int .u64 t589) rfl (by rw [e590]; exact p_add rfl rfl rfl) ?_
      refine DL.pu 19 (.int .u64 t589) rfl (p_assign rfl rfl) ?_
      refine DL.nil' hl570 ?_
      refine TT.region (id := 23) (n := 21) (ops := (opsOf (sub [1, 1, 1, 1, 1, 0, 1, 0, 0, 1, 1, 0, 0, 1, 1, 1, 1] B13))) [(.pure, none), (.pure, none), (.pure, none), (.pure, none), (.quiet, none), (.pure, none), (.quiet, none), (.pure, none), (.quiet, none), (.pure, none), (.quiet, none), (.pure, none), (.pure, none), (.pure, none), (.quiet, none), (.pure, none), (.quiet, none), (.pure, none), (.quiet, none), (.pure, none), (.store, none)] rfl ?_
      show DL _ _ _ _ _ _ _ _ _ _ [0, 1, 2, 3, 4, 5, 6, 7, 8, 9, 10, 11, 12, 13, 14, 15, 16, 17, 18, 19, 20] _ _
      refine DL.pu 152 (.int .u64 t567) rfl (p_move rfl rfl) ?_
      refine DL.pu 153 (.int .u64 t589) rfl (p_move rfl rfl) ?_
      refine DL.pu 154 (.int .u64 (IntKind.u64.wrap (t567 + t589))) rfl (p_add rfl rfl rfl) ?_
      refine DL.pu 155 (ptr b420 ((0 : Int).toNat)) rfl (p_ix ty_u42 ty_s35 (by decide) (by decide) rfl rfl rfl) ?_
      refine DL.qu 156 (.int .u64 (y_422.getD ((0 : Int).toNat) 0)) rfl (f_load (j := 0) ty_a35 rfl (enc_at l_y_422 (by decide) (by decide)) rfl rfl) ?_
      refine DL.pu 157 (ptr b420 ((1 : Int).toNat)) rfl (p_ix ty_u42 ty_s35 (by decide) (by decide) rfl rfl rfl) ?_
      refine DL.qu 158 (.int .u64 (y_422.getD ((1 : Int).toNat) 0)) rfl (f_load (j := 0) ty_a35 rfl (enc_at l_y_422 (by decide) (by decide)) rfl rfl) ?_
      refine DL.pu 159 (ptr b420 ((2 : Int).toNat)) rfl (p_ix ty_u42 ty_s35 (by decide) (by decide) rfl rfl rfl) ?_
      refine DL.qu 160 (.int .u64 (y_422.getD ((2 : Int).toNat) 0)) rfl (f_load (j := 0) ty_a35 rfl (enc_at l_y_422 (by decide) (by decide)) rfl rfl) ?_
      refine DL.pu 161 (ptr b420 ((3 : Int).toNat)) rfl (p_ix ty_u42 ty_s35 (by decide) (by decide) rfl rfl rfl) ?_
      refine DL.qu 162 (.int .u64 (y_422.getD ((3 : Int).toNat) 0)) rfl (f_load (j := 0) ty_a35 rfl (enc_at l_y_422 (by decide) (by decide)) rfl rfl) ?_
      refine DL.pu 163 (.int .u64 t567) rfl (p_move rfl rfl) ?_
      obtain ⟨t592, e593, h594⟩ := nm_some h591
      refine DL.pu 164 (.int .u64 t592) rfl (by rw [e593]; exact p_add rfl rfl rfl) ?_
      refine DL.pu 165 (ptr b420 ((4 : Int).toNat)) rfl (p_ix ty_u42 ty_s35 (by decide) (by decide) rfl rfl rfl) ?_
      refine DL.qu 166 (.int .u64 (y_422.getD ((4 : Int).toNat) 0)) rfl (f_load (j := 0) ty_a35 rfl (enc_at l_y_422 (by decide) (by decide)) rfl rfl) ?_
      refine DL.pu 167 (ptr b420 ((5 : Int).toNat)) rfl (p_ix ty_u42 ty_s35 (by decide) (by decide) rfl rfl rfl) ?_
      refine DL.qu 168 (.int .u64 (y_422.getD ((5 : Int).toNat) 0)) rfl (f_load (j := 0) ty_a35 rfl (enc_at l_y_422 (by decide) (by decide)) rfl rfl) ?_
      refine DL.pu 169 (ptr b420 ((6 : Int).toNat)) rfl (p_ix ty_u42 ty_s35 (by decide) (by decide) rfl rfl rfl) ?_
      refine DL.qu 170 (.int .u64 (y_422.getD ((6 : Int).toNat) 0)) rfl (f_load (j := 0) ty_a35 rfl (enc_at l_y_422 (by decide) (by decide)) rfl rfl) ?_
      refine DL.pu 171 (.agg (enc .u64 [IntKind.u64.wrap (t567 + t589), y_422.getD ((0 : Int).toNat) 0, y_422.getD ((1 : Int).toNat) 0, y_422.getD ((2 : Int).toNat) 0, t592, y_422.getD ((4 : Int).toNat) 0, y_422.getD ((5 : Int).toNat) 0, y_422.getD ((6 : Int).toNat) 0])) rfl (p_build (vs := [(0, .int .u64 (IntKind.u64.wrap (t567 + t589))), (1, .int .u64 (y_422.getD ((0 : Int).toNat) 0)), (2, .int .u64 (y_422.getD ((1 : Int).toNat) 0)), (3, .int .u64 (y_422.getD ((2 : Int).toNat) 0)), (4, .int .u64 t592), (5, .int .u64 (y_422.getD ((4 : Int).toNat) 0)), (6, .int .u64 (y_422.getD ((5 : Int).toNat) 0)), (7, .int .u64 (y_422.getD ((6 : Int).toNat) 0))]) (fun w => by kernel_rfl) rfl rfl) ?_
      refine DL.put (H' := [(some b420, .cells (enc .u64 [IntKind.u64.wrap (t567 + t589), y_422.getD ((0 : Int).toNat) 0, y_422.getD ((1 : Int).toNat) 0, y_422.getD ((2 : Int).toNat) 0, t592, y_422.getD ((4 : Int).toNat) 0, y_422.getD ((5 : Int).toNat) 0, y_422.getD ((6 : Int).toNat) 0]) 42 (0, 0)), (some b3, .cells (enc .u64 z_b3_364) 43 (0, 0)), (some b2, .cells (enc .u64 (List.replicate 8 0)) 42 (0, 0)), (some b1, .cells (enc .u64 a0) 42 (0, 0))]) (i := 20) rfl (Wn.none rfl) rfl rfl (f_storeA (j := 0) ty_s42 rfl (enc_sz rfl) (enc_sz l_y_422) (enc_oneCell _ _) rfl rfl rfl) (keep_none rfl) ?_
      refine DL.nil ?_
      refine TT.inBlock ?_
      refine TT.region (id := 24) (n := 2) (ops := (opsOf (sub [1, 1, 1, 1, 1, 0, 1, 0, 0, 1, 1, 1] B13))) [(.pure, none), (.pure, none)] rfl ?_
      show DL _ _ _ _ _ _ _ _ _ _ [0, 1] _ _
      refine DL.pu 172 (.int .i64 (IntKind.i64.wrap (x89_421 + 1))) rfl (p_add rfl rfl rfl) ?_
      refine DL.pu 89 (.int .i64 (IntKind.i64.wrap (x89_421 + 1))) rfl (p_move rfl rfl) ?_
      refine DL.nil ?_
      refine TT.inLoop ?_
      exact TT.weak (ih (IntKind.i64.wrap (x89_421 + 1)) [IntKind.u64.wrap (t567 + t589), y_422.getD ((0 : Int).toNat) 0, y_422.getD ((1 : Int).toNat) 0, y_422.getD ((2 : Int).toNat) 0, t592, y_422.getD ((4 : Int).toNat) 0, y_422.getD ((5 : Int).toNat) 0, y_422.getD ((6 : Int).toNat) 0] r0_ rfl h594 hk) (Sub.cons rfl (Sub.cons rfl (Sub.cons rfl (Sub.cons rfl (Sub.cons rfl (Sub.cons rfl (Sub.nil _)))))))
    · replace c535 := Bool.eq_false_iff.mpr c535
      have h595 := ite_false c535 h
      refine TT.cond_false (x := sub [1, 1, 1, 1, 1, 0, 1, 0, 0, 1, 0, 0] B13) (y := sub [1, 1, 1, 1, 1, 0, 1, 0, 0, 1, 0, 1] B13) rfl c535 ?_
      refine TT.exit rfl ?_
      obtain rfl := Option.some.inj h595
      exact TT.weak (hk l_y_422) (Sub.cons rfl (Sub.cons rfl (Sub.cons rfl (Sub.nil _))))

def sha_press.L4 (z_b420_534 : List Int) : Nat → Int → (List Int) → Option (List Int)
  | 0, _, _ => none
  | k + 1, x173_599, y_600 => if (decide (x173_599 < 8)) = true then (req (0 ≤ x173_599) (req (x173_599 < 8) (nm (IntKind.u64.wrap ((y_600.getD x173_599.toNat 0) + (z_b420_534.getD x173_599.toNat 0))) fun t670 => sha_press.L4 z_b420_534 k (IntKind.i64.wrap (x173_599 + 1)) (y_600.set x173_599.toNat t670)))) else (some y_600)
set_option maxRecDepth 20000 in
theorem sha_press.L4_ok (b1 : Nat) (b2 : Nat) (b3 : Nat) (z_b3_364 : List Int) (b420 : Nat) (z_b420_534 : List Int) {R : Ending → World → Prop} {w0 : World} {M0 M I : Mem} {K : List Item} (hE : Env w0 M0 M I) (l_z_b420_534 : z_b420_534.length = 8) :
    ∀ (k : Nat) (x173_599 : Int) (y_600 : List Int) (r0_ : List Int) (l_y_600 : y_600.length = 8) (h : sha_press.L4 z_b420_534 k x173_599 y_600 = some r0_) (hk : r0_.length = 8 → TT Try.prog 13 R 186 w0 I K [(3, ptr b1 0), (6, ptr b2 0)] [(some b420, .cells (enc .u64 z_b420_534) 42 (0, 0)), (some b3, .cells (enc .u64 z_b3_364) 43 (0, 0)), (some b2, .cells (enc .u64 (List.replicate 8 0)) 42 (0, 0)), (some b1, .cells (enc .u64 r0_) 42 (0, 0))]),
      TT Try.prog 13 R 186 w0 I (.code (sub [1, 1, 1, 1, 1, 1, 0, 1, 0, 0] B13) :: .inLoop (sub [1, 1, 1, 1, 1, 1, 0, 1, 0, 0] B13) :: .inBlock 8 :: K) [(3, ptr b1 0), (6, ptr b2 0), (14, ptr b420 0), (173, .int .i64 x173_599)] [(some b420, .cells (enc .u64 z_b420_534) 42 (0, 0)), (some b3, .cells (enc .u64 z_b3_364) 43 (0, 0)), (some b2, .cells (enc .u64 (List.replicate 8 0)) 42 (0, 0)), (some b1, .cells (enc .u64 y_600) 42 (0, 0))] := by
  intro k
  induction k with
  | zero => intro x173_599 y_600 r0_ l_y_600 h; simp [sha_press.L4] at h
  | succ k ih =>
    intro x173_599 y_600 r0_ l_y_600 h hk
    unfold sha_press.L4 at h
    refine TT.seq (x := sub [1, 1, 1, 1, 1, 1, 0, 1, 0, 0, 0] B13) (y := sub [1, 1, 1, 1, 1, 1, 0, 1, 0, 0, 1] B13) ?_
    refine TT.region (id := 26) (n := 1) (ops := (opsOf (sub [1, 1, 1, 1, 1, 1, 0, 1, 0, 0, 0] B13))) [(.pure, none)] rfl ?_
    show DL _ _ _ _ _ _ _ _ _ _ [0] _ _
    refine DL.pu 174 (.bool (decide (x173_599 < 8))) rfl (p_lss rfl rfl rfl) ?_
    refine DL.nil ?_
    refine TT.seq (x := sub [1, 1, 1, 1, 1, 1, 0, 1, 0, 0, 1, 0] B13) (y := sub [1, 1, 1, 1, 1, 1, 0, 1, 0, 0, 1, 1] B13) ?_
    by_cases c663 : (decide (x173_599 < 8)) = true
    · have h664 := ite_true c663 h
      refine TT.cond_true (x := sub [1, 1, 1, 1, 1, 1, 0, 1, 0, 0, 1, 0, 0] B13) (y := sub [1, 1, 1, 1, 1, 1, 0, 1, 0, 0, 1, 0, 1] B13) rfl c663 ?_
      refine TT.skip ?_
      refine TT.seq (x := sub [1, 1, 1, 1, 1, 1, 0, 1, 0, 0, 1, 1, 0] B13) (y := sub [1, 1, 1, 1, 1, 1, 0, 1, 0, 0, 1, 1, 1] B13) ?_
      refine TT.block (c := sub [1, 1, 1, 1, 1, 1, 0, 1, 0, 0, 1, 1, 0, 0] B13) ?_
      refine TT.seq (x := sub [1, 1, 1, 1, 1, 1, 0, 1, 0, 0, 1, 1, 0, 0, 0] B13) (y := sub [1, 1, 1, 1, 1, 1, 0, 1, 0, 0, 1, 1, 0, 0, 1] B13) ?_
      refine TT.region (id := 27) (n := 2) (ops := (opsOf (sub [1, 1, 1, 1, 1, 1, 0, 1, 0, 0, 1, 1, 0, 0, 0] B13))) [(.pure, none), (.pure, none)] rfl ?_
      show DL _ _ _ _ _ _ _ _ _ _ [0, 1] _ _
      refine DL.pu 175 (.int .i64 x173_599) rfl (p_move rfl rfl) ?_
      refine DL.pu 20 (.int .i64 x173_599) rfl (p_assign rfl rfl) ?_
      refine DL.nil ?_
      refine TT.regionD (id := 28) (ops := (opsOf (sub [1, 1, 1, 1, 1, 1, 0, 1, 0, 0, 1, 1, 0, 0, 1] B13))) [0, 1, 2, 3, 4, 5, 6, 7, 8] [0, 1, 3, 0, 8, 24, 63, 127, 255] [(.pure, none), (.pure, none), (.look, some 3), (.pure, none), (.pure, none), (.look, some 0), (.pure, none), (.pure, none), (.store, some 3)] mixed (by kernel_rfl) ?_
      intro w665 hl665 hj665 hz665
      refine DL.pu 176 (.int .i64 x173_599) rfl (p_move rfl rfl) ?_
      obtain ⟨g666, h667⟩ := req_some h664
      obtain ⟨g668, h669⟩ := req_some h667
      refine DL.pu 177 (ptr b1 x173_599.toNat) rfl (p_ix ty_u42 ty_s35 g666 g668 rfl rfl rfl) ?_
      refine DL.look (v := .int .u64 (y_600.getD x173_599.toNat 0)) (x := 3) (b := b1) (i := 2) rfl (Wn.none rfl) rfl rfl rfl rfl rfl (List.mem_of_getElem? (i := 3) rfl) (b_load ty_a35 (enc_at l_y_600 g666 g668) rfl rfl) ?_
      refine DL.pu 179 (.int .i64 x173_599) rfl (p_move rfl rfl) ?_
      refine DL.pu 180 (ptr b420 x173_599.toNat) rfl (p_ix ty_u42 ty_s35 g666 g668 rfl rfl rfl) ?_
      refine DL.look (v := .int .u64 (z_b420_534.getD x173_599.toNat 0)) (x := 0) (b := b420) (i := 5) rfl (Wn.none rfl) rfl rfl rfl rfl rfl (List.mem_of_getElem? (i := 0) rfl) (b_load ty_a35 (enc_at l_z_b420_534 g666 g668) rfl rfl) ?_
      obtain ⟨t670, e671, h672⟩ := nm_some h669
      refine DL.pu 182 (.int .u64 t670) rfl (by rw [e671]; exact p_add rfl rfl rfl) ?_
      refine DL.pu 183 (ptr b1 x173_599.toNat) rfl (p_ix ty_u42 ty_s35 g666 g668 rfl rfl rfl) ?_
      refine DL.put (H' := [(some b420, .cells (enc .u64 z_b420_534) 42 (0, 0)), (some b3, .cells (enc .u64 z_b3_364) 43 (0, 0)), (some b2, .cells (enc .u64 (List.replicate 8 0)) 42 (0, 0)), (some b1, .cells (enc .u64 (y_600.set x173_599.toNat t670)) 42 (0, 0))]) (i := 8) rfl (Wn.none rfl) rfl rfl (f_storeE (j := 3) ty_s35 rfl (lt_nat l_y_600 g666 g668) rfl rfl rfl) (keep_set (j := 3) hj665 rfl rfl rfl) ?_
      refine DL.nil' hl665 ?_
      refine TT.inBlock ?_
      refine TT.region (id := 29) (n := 2) (ops := (opsOf (sub [1, 1, 1, 1, 1, 1, 0, 1, 0, 0, 1, 1, 1] B13))) [(.pure, none), (.pure, none)] rfl ?_
      show DL _ _ _ _ _ _ _ _ _ _ [0, 1] _ _
      refine DL.pu 184 (.int .i64 (IntKind.i64.wrap (x173_599 + 1))) rfl (p_add rfl rfl rfl) ?_
      refine DL.pu 173 (.int .i64 (IntKind.i64.wrap (x173_599 + 1))) rfl (p_move rfl rfl) ?_
      refine DL.nil ?_
      refine TT.inLoop ?_
      exact TT.weak (ih (IntKind.i64.wrap (x173_599 + 1)) (y_600.set x173_599.toNat t670) r0_ (len_set l_y_600) h672 hk) (Sub.cons rfl (Sub.cons rfl (Sub.cons rfl (Sub.cons rfl (Sub.nil _)))))
    · replace c663 := Bool.eq_false_iff.mpr c663
      have h673 := ite_false c663 h
      refine TT.cond_false (x := sub [1, 1, 1, 1, 1, 1, 0, 1, 0, 0, 1, 0, 0] B13) (y := sub [1, 1, 1, 1, 1, 1, 0, 1, 0, 0, 1, 0, 1] B13) rfl c663 ?_
      refine TT.exit rfl ?_
      obtain rfl := Option.some.inj h673
      exact TT.weak (hk l_y_600) (Sub.cons rfl (Sub.cons rfl (Sub.nil _)))

def sha_press.f (a0 : List Int) (a1 : List Int) (a2 : List Int) : Option ((List Int)) := (sha_press.L0 a1 17 0 (List.replicate 80 0)).bind fun z_b3_156 => (sha_press.L2 65 16 z_b3_156).bind fun z_b3_364 => (sha_press.L3 a2 z_b3_364 81 0 a0).bind fun z_b420_534 => (sha_press.L4 z_b420_534 9 0 a0).bind fun z_b1_662 => some z_b1_662
set_option maxHeartbeats 1000000 in
set_option maxRecDepth 20000 in
theorem sha_press.ok {a0 : List Int} {a1 : List Int} {a2 : List Int} {a1_v : Value} {a2_b : Nat} {r : List Int} (l_a0 : a0.length = 8) (l_a2 : a2.length = 88) (h : sha_press.f a0 a1 a2 = some r) {M : Mem} (w : World) (hM : Ext M (heapOf w)) (hr_a1 : IntRow M .u8 a1_v a1) (hb_a2 : M a2_b = some (.cells (enc .u64 a2) 45 (0, 0))) : Calls Try.prog 13 #[.agg (enc .u64 a0), a1_v, ptr a2_b 8] w (Post (fun u => u = .agg (enc .u64 r)) w) := by
  unfold sha_press.f at h
  have hE := Env.start hM
  refine calls_of_TT (N := 186) (S := [(0, .agg (enc .u64 a0)), (1, a1_v), (2, ptr a2_b 8)]) (c := B13) Try.func13 rfl rfl rfl (by simp) ?_
  show TT _ _ _ _ _ _ [.code (sub [] B13)] _ _
  refine TT.seq (x := sub [0] B13) (y := sub [1] B13) ?_
  refine TT.region (id := 0) (n := 2) (ops := (opsOf (sub [0] B13))) [(.alloc, none), (.alloc, none)] rfl ?_
  show DL _ _ _ _ _ _ _ _ _ _ [0, 1] _ _
  refine DL.new (ob := .cells (enc .u64 a0) 42) (mk := fun b => ptr b 0) (i := 0) rfl (Wn.none rfl) rfl rfl rfl (f_box (v := .agg (enc .u64 a0)) rfl rfl) ?_
  intro b1 hb1
  refine DL.new (ob := .cells (enc .u64 (List.replicate 8 0)) 42) (mk := fun b => ptr b 0) (i := 1) rfl (Wn.none rfl) rfl rfl rfl (f_alloc ty_z42 rfl) ?_
  intro b2 hb2
  refine DL.nil ?_
  refine TT.seq (x := sub [1, 0] B13) (y := sub [1, 1] B13) ?_
  refine TT.region (id := 1) (n := 1) (ops := (opsOf (sub [1, 0] B13))) [(.alloc, none)] rfl ?_
  show DL _ _ _ _ _ _ _ _ _ _ [0] _ _
  refine DL.new (ob := .cells (enc .u64 (List.replicate 80 0)) 43) (mk := fun b => ptr b 0) (i := 0) rfl (Wn.none rfl) rfl rfl rfl (f_alloc ty_z43 rfl) ?_
  intro b3 hb3
  refine DL.nil ?_
  refine TT.seq (x := sub [1, 1, 0] B13) (y := sub [1, 1, 1] B13) ?_
  refine TT.seq (x := sub [1, 1, 0, 0] B13) (y := sub [1, 1, 0, 1] B13) ?_
  refine TT.region (id := 2) (n := 1) (ops := (opsOf (sub [1, 1, 0, 0] B13))) [(.pure, none)] rfl ?_
  show DL _ _ _ _ _ _ _ _ _ _ [0] _ _
  refine DL.pu 21 (.int .i64 0) rfl (p_move rfl rfl) ?_
  refine DL.nil ?_
  refine TT.block (c := sub [1, 1, 0, 1, 0] B13) ?_
  refine TT.loop (c := sub [1, 1, 0, 1, 0, 0] B13) ?_
  obtain ⟨z_b3_156, h257, h258⟩ := bind_some h
  refine TT.weak (sha_press.L0_ok a0 a1 a1_v a2_b b1 b2 b3 hE hr_a1 17 0 (List.replicate 80 0) z_b3_156 (List.length_replicate) h257 (fun l_z_b3_156 => ?_)) (Sub.cons rfl (Sub.cons rfl (Sub.cons rfl (Sub.cons rfl (Sub.cons rfl (Sub.cons rfl (Sub.nil _)))))))
  refine TT.seq (x := sub [1, 1, 1, 0] B13) (y := sub [1, 1, 1, 1] B13) ?_
  refine TT.seq (x := sub [1, 1, 1, 0, 0] B13) (y := sub [1, 1, 1, 0, 1] B13) ?_
  refine TT.region (id := 11) (n := 1) (ops := (opsOf (sub [1, 1, 1, 0, 0] B13))) [(.pure, none)] rfl ?_
  show DL _ _ _ _ _ _ _ _ _ _ [0] _ _
  refine DL.pu 11 (.int .i64 16) rfl (p_assign rfl rfl) ?_
  refine DL.nil ?_
  refine TT.block (c := sub [1, 1, 1, 0, 1, 0] B13) ?_
  refine TT.loop (c := sub [1, 1, 1, 0, 1, 0, 0] B13) ?_
  obtain ⟨z_b3_364, h417, h418⟩ := bind_some h258
  refine TT.weak (sha_press.L2_ok a0 a2_b b1 b2 b3 hE 65 16 z_b3_156 z_b3_364 l_z_b3_156 h417 (fun l_z_b3_364 => ?_)) (Sub.cons rfl (Sub.cons rfl (Sub.cons rfl (Sub.cons rfl (Sub.cons rfl (Sub.nil _))))))
  refine TT.seq (x := sub [1, 1, 1, 1, 0] B13) (y := sub [1, 1, 1, 1, 1] B13) ?_
  refine TT.region (id := 16) (n := 3) (ops := (opsOf (sub [1, 1, 1, 1, 0] B13))) [(.quiet, none), (.alloc, none), (.store, none)] rfl ?_
  show DL _ _ _ _ _ _ _ _ _ _ [0, 1, 2] _ _
  refine DL.qu 88 (.agg (enc .u64 a0)) rfl (f_loadA (j := 2) ty_a42 ty_s42 rfl (enc_sz l_a0) rfl rfl) ?_
  refine DL.new (ob := .cells (enc .u64 (List.replicate 8 0)) 42) (mk := fun b => ptr b 0) (i := 1) rfl (Wn.none rfl) rfl rfl rfl (f_alloc ty_z42 rfl) ?_
  intro b420 hb420
  refine DL.put (H' := [(some b420, .cells (enc .u64 a0) 42 (0, 0)), (some b3, .cells (enc .u64 z_b3_364) 43 (0, 0)), (some b2, .cells (enc .u64 (List.replicate 8 0)) 42 (0, 0)), (some b1, .cells (enc .u64 a0) 42 (0, 0))]) (i := 2) rfl (Wn.none rfl) rfl rfl (f_storeA (j := 0) ty_s42 rfl (enc_sz l_a0) (enc_sz (List.length_replicate)) (enc_oneCell _ _) rfl rfl rfl) (keep_none rfl) ?_
  refine DL.nil ?_
  refine TT.seq (x := sub [1, 1, 1, 1, 1, 0] B13) (y := sub [1, 1, 1, 1, 1, 1] B13) ?_
  refine TT.seq (x := sub [1, 1, 1, 1, 1, 0, 0] B13) (y := sub [1, 1, 1, 1, 1, 0, 1] B13) ?_
  refine TT.region (id := 17) (n := 1) (ops := (opsOf (sub [1, 1, 1, 1, 1, 0, 0] B13))) [(.pure, none)] rfl ?_
  show DL _ _ _ _ _ _ _ _ _ _ [0] _ _
  refine DL.pu 89 (.int .i64 0) rfl (p_move rfl rfl) ?_
  refine DL.nil ?_
  refine TT.block (c := sub [1, 1, 1, 1, 1, 0, 1, 0] B13) ?_
  refine TT.loop (c := sub [1, 1, 1, 1, 1, 0, 1, 0, 0] B13) ?_
  obtain ⟨z_b420_534, h596, h597⟩ := bind_some h418
  refine TT.weak (sha_press.L3_ok a0 a2 a2_b b1 b2 b3 z_b3_364 b420 hE l_a2 hb_a2 l_z_b3_364 81 0 a0 z_b420_534 l_a0 h596 (fun l_z_b420_534 => ?_)) (Sub.cons rfl (Sub.cons rfl (Sub.cons rfl (Sub.cons rfl (Sub.cons rfl (Sub.cons rfl (Sub.nil _)))))))
  refine TT.seq (x := sub [1, 1, 1, 1, 1, 1, 0] B13) (y := sub [1, 1, 1, 1, 1, 1, 1] B13) ?_
  refine TT.seq (x := sub [1, 1, 1, 1, 1, 1, 0, 0] B13) (y := sub [1, 1, 1, 1, 1, 1, 0, 1] B13) ?_
  refine TT.region (id := 25) (n := 1) (ops := (opsOf (sub [1, 1, 1, 1, 1, 1, 0, 0] B13))) [(.pure, none)] rfl ?_
  show DL _ _ _ _ _ _ _ _ _ _ [0] _ _
  refine DL.pu 173 (.int .i64 0) rfl (p_move rfl rfl) ?_
  refine DL.nil ?_
  refine TT.block (c := sub [1, 1, 1, 1, 1, 1, 0, 1, 0] B13) ?_
  refine TT.loop (c := sub [1, 1, 1, 1, 1, 1, 0, 1, 0, 0] B13) ?_
  obtain ⟨z_b1_662, h674, h675⟩ := bind_some h597
  refine TT.weak (sha_press.L4_ok b1 b2 b3 z_b3_364 b420 z_b420_534 hE l_z_b420_534 9 0 a0 z_b1_662 l_a0 h674 (fun l_z_b1_662 => ?_)) (Sub.cons rfl (Sub.cons rfl (Sub.cons rfl (Sub.cons rfl (Sub.nil _)))))
  refine TT.seq (x := sub [1, 1, 1, 1, 1, 1, 1, 0] B13) (y := sub [1, 1, 1, 1, 1, 1, 1, 1] B13) ?_
  refine TT.region (id := 30) (n := 2) (ops := (opsOf (sub [1, 1, 1, 1, 1, 1, 1, 0] B13))) [(.quiet, none), (.store, none)] rfl ?_
  show DL _ _ _ _ _ _ _ _ _ _ [0, 1] _ _
  refine DL.qu 185 (.agg (enc .u64 z_b1_662)) rfl (f_loadA (j := 3) ty_a42 ty_s42 rfl (enc_sz l_z_b1_662) rfl rfl) ?_
  refine DL.put (H' := [(some b420, .cells (enc .u64 z_b420_534) 42 (0, 0)), (some b3, .cells (enc .u64 z_b3_364) 43 (0, 0)), (some b2, .cells (enc .u64 z_b1_662) 42 (0, 0)), (some b1, .cells (enc .u64 z_b1_662) 42 (0, 0))]) (i := 1) rfl (Wn.none rfl) rfl rfl (f_storeA (j := 2) ty_s42 rfl (enc_sz l_z_b1_662) (enc_sz (List.length_replicate)) (enc_oneCell _ _) rfl rfl rfl) (keep_none rfl) ?_
  refine DL.nil ?_
  obtain rfl := Option.some.inj h675
  exact retnE (rs := [.cell 6 42]) (vs := [.agg (enc .u64 z_b1_662)]) hE.base Try.func13 rfl rfl rfl (res_cons (ResV.cell (j := 2) ty_a42 ty_s42 rfl rfl (enc_sz l_z_b1_662)) res_nil) rfl
theorem sha_press.val {a0 : List Int} {a1 : List Int} {a2 : List Int} {a1_v : Value} {a2_b : Nat} {r : List Int} (l_a0 : a0.length = 8) (l_a2 : a2.length = 88) (h : sha_press.f a0 a1 a2 = some r) {M : Mem} (w : World) (hM : Ext M (heapOf w)) (hr_a1 : IntRow M .u8 a1_v a1) (hb_a2 : M a2_b = some (.cells (enc .u64 a2) 45 (0, 0))) : Calls Try.prog 13 #[.agg (enc .u64 a0), a1_v, ptr a2_b 8] w fun e w' => e = .returned (.agg (enc .u64 r)) ∧ Below w.heap.size w w' :=
  calls_value (sha_press.ok l_a0 l_a2 h w hM hr_a1 hb_a2)

/-! ### escutcheon/sha.Sum: function 6 -/
noncomputable def B6 : Code := bodyOf Try.f6
def sha_Sum.L0 (a0 : List (List Int)) : Nat → (List Int) → Int → Option (List Int)
  | 0, _, _ => none
  | k + 1, y_8, x18_9 => if (decide (x18_9 < (a0.length : Int))) = true then (req (0 ≤ x18_9) (req (x18_9 < (a0.length : Int)) (nm (a0.getD x18_9.toNat []) fun t82 => req (y_8.length + t82.length ≤ 1099511627776) (sha_Sum.L0 a0 k (y_8 ++ t82) (IntKind.i64.wrap (x18_9 + 1)))))) else (some y_8)
set_option maxRecDepth 20000 in
theorem sha_Sum.L0_ok (a0 : List (List Int)) (a0_v : Value) (b1 : Nat) (t2_b : Nat) {R : Ending → World → Prop} {w0 : World} {M0 M I : Mem} {K : List Item} (hE : Env w0 M0 M I) (hr_a0 : RowS (Sh.ints .u8) M a0_v a0) :
    ∀ (k : Nat) (y_8 : List Int) (x18_9 : Int) (y_8_v : Value) (y_8_c : Array Value) (r0_ : List Int) (ho_y_8 : IntOwn .u8 y_8_v y_8_c y_8) (h : sha_Sum.L0 a0 k y_8 x18_9 = some r0_) (hk : ∀ (z_o7_74_v : Value), ∀ (z_o7_74_c : Array Value), IntOwn .u8 z_o7_74_v z_o7_74_c r0_ → TT Try.prog 6 R 99 w0 I K [(2, ptr b1 0), (3, ptr t2_b 0), (4, z_o7_74_v)] [(Value.ownBlock z_o7_74_v, .cells z_o7_74_c 5 (0, 0)), (some b1, .cells (enc .u8 (List.replicate 64 0)) 27 (0, 0))]),
      TT Try.prog 6 R 99 w0 I (.code (sub [1, 1, 1, 0, 1, 0, 0] B6) :: .inLoop (sub [1, 1, 1, 0, 1, 0, 0] B6) :: .inBlock 0 :: K) [(2, ptr b1 0), (3, ptr t2_b 0), (4, y_8_v), (16, a0_v), (17, .int .i64 (a0.length : Int)), (18, .int .i64 x18_9)] [(Value.ownBlock y_8_v, .cells y_8_c 5 (0, 0)), (some b1, .cells (enc .u8 (List.replicate 64 0)) 27 (0, 0))] := by
  intro k
  induction k with
  | zero => intro y_8 x18_9 y_8_v y_8_c r0_ ho_y_8 h; simp [sha_Sum.L0] at h
  | succ k ih =>
    intro y_8 x18_9 y_8_v y_8_c r0_ ho_y_8 h hk
    unfold sha_Sum.L0 at h
    refine TT.seq (x := sub [1, 1, 1, 0, 1, 0, 0, 0] B6) (y := sub [1, 1, 1, 0, 1, 0, 0, 1] B6) ?_
    refine TT.region (id := 4) (n := 1) (ops := (opsOf (sub [1, 1, 1, 0, 1, 0, 0, 0] B6))) [(.pure, none)] rfl ?_
    show DL _ _ _ _ _ _ _ _ _ _ [0] _ _
    refine DL.pu 19 (.bool (decide (x18_9 < (a0.length : Int)))) rfl (p_lss rfl rfl rfl) ?_
    refine DL.nil ?_
    refine TT.seq (x := sub [1, 1, 1, 0, 1, 0, 0, 1, 0] B6) (y := sub [1, 1, 1, 0, 1, 0, 0, 1, 1] B6) ?_
    by_cases c75 : (decide (x18_9 < (a0.length : Int))) = true
    · have h76 := ite_true c75 h
      refine TT.cond_true (x := sub [1, 1, 1, 0, 1, 0, 0, 1, 0, 0] B6) (y := sub [1, 1, 1, 0, 1, 0, 0, 1, 0, 1] B6) rfl c75 ?_
      refine TT.skip ?_
      refine TT.seq (x := sub [1, 1, 1, 0, 1, 0, 0, 1, 1, 0] B6) (y := sub [1, 1, 1, 0, 1, 0, 0, 1, 1, 1] B6) ?_
      refine TT.block (c := sub [1, 1, 1, 0, 1, 0, 0, 1, 1, 0, 0] B6) ?_
      refine TT.seq (x := sub [1, 1, 1, 0, 1, 0, 0, 1, 1, 0, 0, 0] B6) (y := sub [1, 1, 1, 0, 1, 0, 0, 1, 1, 0, 0, 1] B6) ?_
      refine TT.region (id := 5) (n := 3) (ops := (opsOf (sub [1, 1, 1, 0, 1, 0, 0, 1, 1, 0, 0, 0] B6))) [(.pure, none), (.pure, none), (.pure, none)] rfl ?_
      show DL _ _ _ _ _ _ _ _ _ _ [0, 1, 2] _ _
      obtain ⟨g77, h78⟩ := req_some h76
      obtain ⟨g79, h80⟩ := req_some h78
      refine DL.pu 20 (elp a0_v x18_9.toNat) rfl (p_slIx1 ty_u25 ty_s22 (RowS.some hr_a0 g77 g79) g77 g79 rfl rfl rfl) ?_
      obtain ⟨t82, e83, h84⟩ := nm_some h80
      obtain ⟨cs81, hc81, hl81⟩ := id (hr_a0)
      have q81 := hl81 _ _ (getD_some [] (lt_len g77 g79)); rw [← e83] at q81
      obtain ⟨t82_v, hq81, hr_t82⟩ := ints_open q81
      refine DL.imm (v := t82_v) rfl (Wn.none rfl) rfl rfl rfl (i_loadEl (RowV.mono hc81 hE.mi) (chunk1 hq81) ty_a22 rfl rfl) ?_
      refine DL.pu 6 (t82_v) rfl (p_assign rfl rfl) ?_
      refine DL.nil ?_
      refine TT.region (id := 6) (n := 4) (ops := (opsOf (sub [1, 1, 1, 0, 1, 0, 0, 1, 1, 0, 0, 1] B6))) [(.pure, none), (.pure, none), (.actx, none), (.pure, none)] rfl ?_
      show DL _ _ _ _ _ _ _ _ _ _ [0, 1, 2, 3] _ _
      refine DL.pu 22 (y_8_v) rfl (p_move rfl rfl) ?_
      refine DL.pu 23 (t82_v) rfl (p_move rfl rfl) ?_
      obtain ⟨g85, h86⟩ := req_some h84
      refine DL.appendI (fun s87_v s87_c => [(Value.ownBlock s87_v, .cells s87_c 5 (0, 0)), (some b1, .cells (enc .u8 (List.replicate 64 0)) 27 (0, 0))]) elem22 (j := 0) rfl ho_y_8 g85 (by decide) (fun w hc => RowV.src (RowV.mono hr_t82 (hE.ext hc)) (encl_one _ _)) (i := 2) rfl (Wn.none rfl) rfl rfl rfl rfl rfl rfl (fun _ _ => rfl) ?_
      intro s87_v s87_c ho_s87
      show DL _ _ _ _ _ _ _ _ _ _ _ _ [(Value.ownBlock s87_v, .cells s87_c 5 (0, 0)), (some b1, .cells (enc .u8 (List.replicate 64 0)) 27 (0, 0))]
      refine DL.pu 4 (s87_v) rfl (p_assign rfl rfl) ?_
      refine DL.nil ?_
      refine TT.inBlock ?_
      refine TT.region (id := 7) (n := 2) (ops := (opsOf (sub [1, 1, 1, 0, 1, 0, 0, 1, 1, 1] B6))) [(.pure, none), (.pure, none)] rfl ?_
      show DL _ _ _ _ _ _ _ _ _ _ [0, 1] _ _
      refine DL.pu 25 (.int .i64 (IntKind.i64.wrap (x18_9 + 1))) rfl (p_add rfl rfl rfl) ?_
      refine DL.pu 18 (.int .i64 (IntKind.i64.wrap (x18_9 + 1))) rfl (p_move rfl rfl) ?_
      refine DL.nil ?_
      refine TT.inLoop ?_
      exact TT.weak (ih (y_8 ++ t82) (IntKind.i64.wrap (x18_9 + 1)) s87_v s87_c r0_ ho_s87 h86 hk) (Sub.cons rfl (Sub.cons rfl (Sub.cons rfl (Sub.cons rfl (Sub.cons rfl (Sub.cons rfl (Sub.nil _)))))))
    · replace c75 := Bool.eq_false_iff.mpr c75
      have h88 := ite_false c75 h
      refine TT.cond_false (x := sub [1, 1, 1, 0, 1, 0, 0, 1, 0, 0] B6) (y := sub [1, 1, 1, 0, 1, 0, 0, 1, 0, 1] B6) rfl c75 ?_
      refine TT.exit rfl ?_
      obtain rfl := Option.some.inj h88
      exact TT.weak (hk y_8_v y_8_c ho_y_8) (Sub.cons rfl (Sub.cons rfl (Sub.cons rfl (Sub.nil _))))

def sha_Sum.L1 : Nat → (List Int) → Option (List Int)
  | 0, _ => none
  | k + 1, y_97 => if ((Int.tmod (y_97.length : Int) 128) != 112) = true then (req (y_97.length + [0].length ≤ 1099511627776) (sha_Sum.L1 k (y_97 ++ [0]))) else (some y_97)
set_option maxRecDepth 20000 in
theorem sha_Sum.L1_ok (b1 : Nat) (t2_b : Nat) (z_o7_74 : List Int) (s93_v : Value) (s93_c : Array Value) {R : Ending → World → Prop} {w0 : World} {M0 M I : Mem} {K : List Item} (hE : Env w0 M0 M I) :
    ∀ (k : Nat) (y_97 : List Int) (y_97_v : Value) (y_97_c : Array Value) (r0_ : List Int) (ho_y_97 : IntOwn .u8 y_97_v y_97_c y_97) (h : sha_Sum.L1 k y_97 = some r0_) (hk : ∀ (z_o7_156_v : Value), ∀ (z_o7_156_c : Array Value), IntOwn .u8 z_o7_156_v z_o7_156_c r0_ → TT Try.prog 6 R 99 w0 I K [(2, ptr b1 0), (3, ptr t2_b 0), (4, z_o7_156_v), (7, .int .u64 (IntKind.u64.wrap (z_o7_74.length : Int)))] [(Value.ownBlock s93_v, .cells s93_c 5 (0, 0)), (Value.ownBlock z_o7_156_v, .cells z_o7_156_c 5 (0, 0)), (some b1, .cells (enc .u8 (List.replicate 64 0)) 27 (0, 0))]),
      TT Try.prog 6 R 99 w0 I (.code (sub [1, 1, 1, 1, 1, 1, 0, 0, 0] B6) :: .inLoop (sub [1, 1, 1, 1, 1, 1, 0, 0, 0] B6) :: .inBlock 2 :: K) [(2, ptr b1 0), (3, ptr t2_b 0), (4, y_97_v), (7, .int .u64 (IntKind.u64.wrap (z_o7_74.length : Int)))] [(Value.ownBlock s93_v, .cells s93_c 5 (0, 0)), (Value.ownBlock y_97_v, .cells y_97_c 5 (0, 0)), (some b1, .cells (enc .u8 (List.replicate 64 0)) 27 (0, 0))] := by
  intro k
  induction k with
  | zero => intro y_97 y_97_v y_97_c r0_ ho_y_97 h; simp [sha_Sum.L1] at h
  | succ k ih =>
    intro y_97 y_97_v y_97_c r0_ ho_y_97 h hk
    unfold sha_Sum.L1 at h
    refine TT.seq (x := sub [1, 1, 1, 1, 1, 1, 0, 0, 0, 0] B6) (y := sub [1, 1, 1, 1, 1, 1, 0, 0, 0, 1] B6) ?_
    refine TT.seq (x := sub [1, 1, 1, 1, 1, 1, 0, 0, 0, 0, 0] B6) (y := sub [1, 1, 1, 1, 1, 1, 0, 0, 0, 0, 1] B6) ?_
    refine TT.region (id := 10) (n := 4) (ops := (opsOf (sub [1, 1, 1, 1, 1, 1, 0, 0, 0, 0, 0] B6))) [(.pure, none), (.pure, none), (.pure, none), (.pure, none)] rfl ?_
    show DL _ _ _ _ _ _ _ _ _ _ [0, 1, 2, 3] _ _
    refine DL.pu 32 (y_97_v) rfl (p_move rfl rfl) ?_
    refine DL.pu 33 (.int .i64 (y_97.length : Int)) rfl (p_slLen ty_u22 (OwnV.sl ho_y_97) rfl rfl) ?_
    refine DL.pu 34 (.int .i64 (Int.tmod (y_97.length : Int) 128)) rfl (p_rem (by decide) rfl rfl rfl) ?_
    refine DL.pu 35 (.bool ((Int.tmod (y_97.length : Int) 128) != 112)) rfl (p_neq rfl rfl rfl) ?_
    refine DL.nil ?_
    by_cases c157 : ((Int.tmod (y_97.length : Int) 128) != 112) = true
    · have h158 := ite_true c157 h
      refine TT.cond_true (x := sub [1, 1, 1, 1, 1, 1, 0, 0, 0, 0, 1, 0] B6) (y := sub [1, 1, 1, 1, 1, 1, 0, 0, 0, 0, 1, 1] B6) rfl c157 ?_
      refine TT.skip ?_
      refine TT.block (c := sub [1, 1, 1, 1, 1, 1, 0, 0, 0, 1, 0] B6) ?_
      refine TT.region (id := 11) (n := 4) (ops := (opsOf (sub [1, 1, 1, 1, 1, 1, 0, 0, 0, 1, 0] B6))) [(.pure, none), (.alloc, none), (.actx, none), (.pure, none)] rfl ?_
      show DL _ _ _ _ _ _ _ _ _ _ [0, 1, 2, 3] _ _
      refine DL.pu 36 (y_97_v) rfl (p_move rfl rfl) ?_
      refine DL.newSl (zs := [0]) (n := 1) rfl (by decide) (i := 1) rfl (Wn.none rfl) rfl rfl rfl (f_buildSl (n := 1) (zs := [0]) (vs := [(0, .int .u8 0)]) elem22 rfl rfl (by kernel_rfl) rfl (args_val2 rfl)) ?_
      intro s160_v s160_c ho_s160
      obtain ⟨g161, h162⟩ := req_some h158
      refine DL.appendI (fun s163_v s163_c => [(Value.ownBlock s160_v, .cells s160_c 5 (0, 0)), (Value.ownBlock s93_v, .cells s93_c 5 (0, 0)), (Value.ownBlock s163_v, .cells s163_c 5 (0, 0)), (some b1, .cells (enc .u8 (List.replicate 64 0)) 27 (0, 0))]) elem22 (j := 2) rfl ho_y_97 g161 (by decide) (fun w hc => IntOwn.src (i := 0) ho_s160 hc rfl) (i := 2) rfl (Wn.none rfl) rfl rfl rfl rfl rfl rfl (fun _ _ => rfl) ?_
      intro s163_v s163_c ho_s163
      show DL _ _ _ _ _ _ _ _ _ _ _ _ [(Value.ownBlock s160_v, .cells s160_c 5 (0, 0)), (Value.ownBlock s93_v, .cells s93_c 5 (0, 0)), (Value.ownBlock s163_v, .cells s163_c 5 (0, 0)), (some b1, .cells (enc .u8 (List.replicate 64 0)) 27 (0, 0))]
      refine DL.pu 4 (s163_v) rfl (p_assign rfl rfl) ?_
      refine DL.nil ?_
      refine TT.inBlock ?_
      refine TT.inLoop ?_
      exact TT.pick [1, 2, 3] (by decide) (TT.weak (ih (y_97 ++ [0]) s163_v s163_c r0_ ho_s163 h162 hk) (Sub.cons rfl (Sub.cons rfl (Sub.cons rfl (Sub.cons rfl (Sub.nil _))))))
    · replace c157 := Bool.eq_false_iff.mpr c157
      have h164 := ite_false c157 h
      refine TT.cond_false (x := sub [1, 1, 1, 1, 1, 1, 0, 0, 0, 0, 1, 0] B6) (y := sub [1, 1, 1, 1, 1, 1, 0, 0, 0, 0, 1, 1] B6) rfl c157 ?_
      refine TT.exit rfl ?_
      obtain rfl := Option.some.inj h164
      exact TT.weak (hk y_97_v y_97_c ho_y_97) (Sub.cons rfl (Sub.cons rfl (Sub.cons rfl (Sub.cons rfl (Sub.nil _)))))

def sha_Sum.L3 (t176 : Int) (t179 : Int) (x48_185 : Int) : Nat → (List Int) → Int → Option (List Int)
  | 0, _, _ => none
  | k + 1, y_338, x52_339 => if (decide (x52_339 < 8)) = true then (nm (IntKind.i64.wrap (56 - (IntKind.i64.wrap (8 * x52_339)))) fun t409 => req (0 ≤ t409) (nm (ishr .u64 ([t176, t179].getD x48_185.toNat 0) t409) fun t414 => req (y_338.length + [IntKind.u8.wrap t414].length ≤ 1099511627776) (sha_Sum.L3 t176 t179 x48_185 k (y_338 ++ [IntKind.u8.wrap t414]) (IntKind.i64.wrap (x52_339 + 1))))) else (some y_338)
set_option maxRecDepth 20000 in
theorem sha_Sum.L3_ok (b1 : Nat) (t2_b : Nat) (s93_v : Value) (s93_c : Array Value) (t176 : Int) (t179 : Int) (s183_v : Value) (s183_c : Array Value) (x48_185 : Int) {R : Ending → World → Prop} {w0 : World} {M0 M I : Mem} {K : List Item} (hE : Env w0 M0 M I) :
    ∀ (k : Nat) (y_338 : List Int) (x52_339 : Int) (y_338_v : Value) (y_338_c : Array Value) (r0_ : List Int) (ho_y_338 : IntOwn .u8 y_338_v y_338_c y_338) (h : sha_Sum.L3 t176 t179 x48_185 k y_338 x52_339 = some r0_) (hk : ∀ (z_o7_406_v : Value), ∀ (z_o7_406_c : Array Value), IntOwn .u8 z_o7_406_v z_o7_406_c r0_ → TT Try.prog 6 R 99 w0 I K [(2, ptr b1 0), (3, ptr t2_b 0), (4, z_o7_406_v), (46, s183_v), (47, .int .i64 ([t176, t179].length : Int)), (48, .int .i64 x48_185)] [(Value.ownBlock s183_v, .cells s183_c 35 (0, 0)), (Value.ownBlock s93_v, .cells s93_c 5 (0, 0)), (Value.ownBlock z_o7_406_v, .cells z_o7_406_c 5 (0, 0)), (some b1, .cells (enc .u8 (List.replicate 64 0)) 27 (0, 0))]),
      TT Try.prog 6 R 99 w0 I (.code (sub [1, 1, 1, 1, 1, 1, 1, 1, 0, 1, 0, 0, 1, 1, 0, 0, 1, 1, 0, 0] B6) :: .inLoop (sub [1, 1, 1, 1, 1, 1, 1, 1, 0, 1, 0, 0, 1, 1, 0, 0, 1, 1, 0, 0] B6) :: .inBlock 6 :: K) [(2, ptr b1 0), (3, ptr t2_b 0), (4, y_338_v), (11, .int .u64 ([t176, t179].getD x48_185.toNat 0)), (46, s183_v), (47, .int .i64 ([t176, t179].length : Int)), (48, .int .i64 x48_185), (52, .int .i64 x52_339)] [(Value.ownBlock s183_v, .cells s183_c 35 (0, 0)), (Value.ownBlock s93_v, .cells s93_c 5 (0, 0)), (Value.ownBlock y_338_v, .cells y_338_c 5 (0, 0)), (some b1, .cells (enc .u8 (List.replicate 64 0)) 27 (0, 0))] := by
  intro k
  induction k with
  | zero => intro y_338 x52_339 y_338_v y_338_c r0_ ho_y_338 h; simp [sha_Sum.L3] at h
  | succ k ih =>
    intro y_338 x52_339 y_338_v y_338_c r0_ ho_y_338 h hk
    unfold sha_Sum.L3 at h
    refine TT.seq (x := sub [1, 1, 1, 1, 1, 1, 1, 1, 0, 1, 0, 0, 1, 1, 0, 0, 1, 1, 0, 0, 0] B6) (y := sub [1, 1, 1, 1, 1, 1, 1, 1, 0, 1, 0, 0, 1, 1, 0, 0, 1, 1, 0, 0, 1] B6) ?_
    refine TT.region (id := 17) (n := 1) (ops := (opsOf (sub [1, 1, 1, 1, 1, 1, 1, 1, 0, 1, 0, 0, 1, 1, 0, 0, 1, 1, 0, 0, 0] B6))) [(.pure, none)] rfl ?_
    show DL _ _ _ _ _ _ _ _ _ _ [0] _ _
    refine DL.pu 53 (.bool (decide (x52_339 < 8))) rfl (p_lss rfl rfl rfl) ?_
    refine DL.nil ?_
    refine TT.seq (x := sub [1, 1, 1, 1, 1, 1, 1, 1, 0, 1, 0, 0, 1, 1, 0, 0, 1, 1, 0, 0, 1, 0] B6) (y := sub [1, 1, 1, 1, 1, 1, 1, 1, 0, 1, 0, 0, 1, 1, 0, 0, 1, 1, 0, 0, 1, 1] B6) ?_
    by_cases c407 : (decide (x52_339 < 8)) = true
    · have h408 := ite_true c407 h
      refine TT.cond_true (x := sub [1, 1, 1, 1, 1, 1, 1, 1, 0, 1, 0, 0, 1, 1, 0, 0, 1, 1, 0, 0, 1, 0, 0] B6) (y := sub [1, 1, 1, 1, 1, 1, 1, 1, 0, 1, 0, 0, 1, 1, 0, 0, 1, 1, 0, 0, 1, 0, 1] B6) rfl c407 ?_
      refine TT.skip ?_
      refine TT.seq (x := sub [1, 1, 1, 1, 1, 1, 1, 1, 0, 1, 0, 0, 1, 1, 0, 0, 1, 1, 0, 0, 1, 1, 0] B6) (y := sub [1, 1, 1, 1, 1, 1, 1, 1, 0, 1, 0, 0, 1, 1, 0, 0, 1, 1, 0, 0, 1, 1, 1] B6) ?_
      refine TT.block (c := sub [1, 1, 1, 1, 1, 1, 1, 1, 0, 1, 0, 0, 1, 1, 0, 0, 1, 1, 0, 0, 1, 1, 0, 0] B6) ?_
      refine TT.seq (x := sub [1, 1, 1, 1, 1, 1, 1, 1, 0, 1, 0, 0, 1, 1, 0, 0, 1, 1, 0, 0, 1, 1, 0, 0, 0] B6) (y := sub [1, 1, 1, 1, 1, 1, 1, 1, 0, 1, 0, 0, 1, 1, 0, 0, 1, 1, 0, 0, 1, 1, 0, 0, 1] B6) ?_
      refine TT.region (id := 18) (n := 2) (ops := (opsOf (sub [1, 1, 1, 1, 1, 1, 1, 1, 0, 1, 0, 0, 1, 1, 0, 0, 1, 1, 0, 0, 1, 1, 0, 0, 0] B6))) [(.pure, none), (.pure, none)] rfl ?_
      show DL _ _ _ _ _ _ _ _ _ _ [0, 1] _ _
      refine DL.pu 54 (.int .i64 x52_339) rfl (p_move rfl rfl) ?_
      refine DL.pu 12 (.int .i64 x52_339) rfl (p_assign rfl rfl) ?_
      refine DL.nil ?_
      refine TT.region (id := 19) (n := 10) (ops := (opsOf (sub [1, 1, 1, 1, 1, 1, 1, 1, 0, 1, 0, 0, 1, 1, 0, 0, 1, 1, 0, 0, 1, 1, 0, 0, 1] B6))) [(.pure, none), (.pure, none), (.pure, none), (.pure, none), (.pure, none), (.pure, none), (.pure, none), (.alloc, none), (.actx, none), (.pure, none)] rfl ?_
      show DL _ _ _ _ _ _ _ _ _ _ [0, 1, 2, 3, 4, 5, 6, 7, 8, 9] _ _
      refine DL.pu 55 (y_338_v) rfl (p_move rfl rfl) ?_
      refine DL.pu 56 (.int .u64 ([t176, t179].getD x48_185.toNat 0)) rfl (p_move rfl rfl) ?_
      refine DL.pu 57 (.int .i64 x52_339) rfl (p_move rfl rfl) ?_
      refine DL.pu 58 (.int .i64 (IntKind.i64.wrap (8 * x52_339))) rfl (p_mul rfl rfl rfl) ?_
      obtain ⟨t409, e410, h411⟩ := nm_some h408
      refine DL.pu 59 (.int .i64 t409) rfl (by rw [e410]; exact p_sub rfl rfl rfl) ?_
      obtain ⟨g412, h413⟩ := req_some h411
      obtain ⟨t414, e415, h416⟩ := nm_some h413
      refine DL.pu 60 (.int .u64 t414) rfl (by rw [e415]; exact p_shr g412 rfl rfl rfl) ?_
      refine DL.pu 61 (.int .u8 (IntKind.u8.wrap t414)) rfl (p_conv ty_u35 ty_u5 ⟨_, rfl⟩ rfl rfl) ?_
      refine DL.newSl (zs := [IntKind.u8.wrap t414]) (n := 1) rfl (by decide) (i := 7) rfl (Wn.none rfl) rfl rfl rfl (f_buildSl (n := 1) (zs := [IntKind.u8.wrap t414]) (vs := [(0, .int .u8 (IntKind.u8.wrap t414))]) elem22 rfl rfl (by kernel_rfl) rfl (args_val2 rfl)) ?_
      intro s418_v s418_c ho_s418
      obtain ⟨g419, h420⟩ := req_some h416
      refine DL.appendI (fun s421_v s421_c => [(Value.ownBlock s418_v, .cells s418_c 5 (0, 0)), (Value.ownBlock s183_v, .cells s183_c 35 (0, 0)), (Value.ownBlock s93_v, .cells s93_c 5 (0, 0)), (Value.ownBlock s421_v, .cells s421_c 5 (0, 0)), (some b1, .cells (enc .u8 (List.replicate 64 0)) 27 (0, 0))]) elem22 (j := 3) rfl ho_y_338 g419 (by decide) (fun w hc => IntOwn.src (i := 0) ho_s418 hc rfl) (i := 8) rfl (Wn.none rfl) rfl rfl rfl rfl rfl rfl (fun _ _ => rfl) ?_
      intro s421_v s421_c ho_s421
      show DL _ _ _ _ _ _ _ _ _ _ _ _ [(Value.ownBlock s418_v, .cells s418_c 5 (0, 0)), (Value.ownBlock s183_v, .cells s183_c 35 (0, 0)), (Value.ownBlock s93_v, .cells s93_c 5 (0, 0)), (Value.ownBlock s421_v, .cells s421_c 5 (0, 0)), (some b1, .cells (enc .u8 (List.replicate 64 0)) 27 (0, 0))]
      refine DL.pu 4 (s421_v) rfl (p_assign rfl rfl) ?_
      refine DL.nil ?_
      refine TT.inBlock ?_
      refine TT.region (id := 20) (n := 2) (ops := (opsOf (sub [1, 1, 1, 1, 1, 1, 1, 1, 0, 1, 0, 0, 1, 1, 0, 0, 1, 1, 0, 0, 1, 1, 1] B6))) [(.pure, none), (.pure, none)] rfl ?_
      show DL _ _ _ _ _ _ _ _ _ _ [0, 1] _ _
      refine DL.pu 64 (.int .i64 (IntKind.i64.wrap (x52_339 + 1))) rfl (p_add rfl rfl rfl) ?_
      refine DL.pu 52 (.int .i64 (IntKind.i64.wrap (x52_339 + 1))) rfl (p_move rfl rfl) ?_
      refine DL.nil ?_
      refine TT.inLoop ?_
      exact TT.pick [1, 2, 3, 4] (by decide) (TT.weak (ih (y_338 ++ [IntKind.u8.wrap t414]) (IntKind.i64.wrap (x52_339 + 1)) s421_v s421_c r0_ ho_s421 h420 hk) (Sub.cons rfl (Sub.cons rfl (Sub.cons rfl (Sub.cons rfl (Sub.cons rfl (Sub.cons rfl (Sub.cons rfl (Sub.cons rfl (Sub.nil _))))))))))
    · replace c407 := Bool.eq_false_iff.mpr c407
      have h422 := ite_false c407 h
      refine TT.cond_false (x := sub [1, 1, 1, 1, 1, 1, 1, 1, 0, 1, 0, 0, 1, 1, 0, 0, 1, 1, 0, 0, 1, 0, 0] B6) (y := sub [1, 1, 1, 1, 1, 1, 1, 1, 0, 1, 0, 0, 1, 1, 0, 0, 1, 1, 0, 0, 1, 0, 1] B6) rfl c407 ?_
      refine TT.exit rfl ?_
      obtain rfl := Option.some.inj h422
      exact TT.weak (hk y_338_v y_338_c ho_y_338) (Sub.cons rfl (Sub.cons rfl (Sub.cons rfl (Sub.cons rfl (Sub.cons rfl (Sub.cons rfl (Sub.nil _)))))))

def sha_Sum.L2 (t176 : Int) (t179 : Int) : Nat → (List Int) → Int → Option (List Int)
  | 0, _, _ => none
  | k + 1, y_184, x48_185 => if (decide (x48_185 < ([t176, t179].length : Int))) = true then (req (0 ≤ x48_185) (req (x48_185 < ([t176, t179].length : Int)) ((sha_Sum.L3 t176 t179 x48_185 9 y_184 0).bind fun z_o7_406 => sha_Sum.L2 t176 t179 k z_o7_406 (IntKind.i64.wrap (x48_185 + 1))))) else (some y_184)
set_option maxRecDepth 20000 in
theorem sha_Sum.L2_ok (b1 : Nat) (t2_b : Nat) (s93_v : Value) (s93_c : Array Value) (t176 : Int) (t179 : Int) (s183_v : Value) (s183_c : Array Value) {R : Ending → World → Prop} {w0 : World} {M0 M I : Mem} {K : List Item} (hE : Env w0 M0 M I) (ho_s183 : IntOwn .u64 s183_v s183_c [t176, t179]) :
    ∀ (k : Nat) (y_184 : List Int) (x48_185 : Int) (y_184_v : Value) (y_184_c : Array Value) (r0_ : List Int) (ho_y_184 : IntOwn .u8 y_184_v y_184_c y_184) (h : sha_Sum.L2 t176 t179 k y_184 x48_185 = some r0_) (hk : ∀ (z_o7_331_v : Value), ∀ (z_o7_331_c : Array Value), IntOwn .u8 z_o7_331_v z_o7_331_c r0_ → TT Try.prog 6 R 99 w0 I K [(2, ptr b1 0), (3, ptr t2_b 0), (4, z_o7_331_v)] [(Value.ownBlock s183_v, .cells s183_c 35 (0, 0)), (Value.ownBlock s93_v, .cells s93_c 5 (0, 0)), (Value.ownBlock z_o7_331_v, .cells z_o7_331_c 5 (0, 0)), (some b1, .cells (enc .u8 (List.replicate 64 0)) 27 (0, 0))]),
      TT Try.prog 6 R 99 w0 I (.code (sub [1, 1, 1, 1, 1, 1, 1, 1, 0, 1, 0, 0] B6) :: .inLoop (sub [1, 1, 1, 1, 1, 1, 1, 1, 0, 1, 0, 0] B6) :: .inBlock 4 :: K) [(2, ptr b1 0), (3, ptr t2_b 0), (4, y_184_v), (46, s183_v), (47, .int .i64 ([t176, t179].length : Int)), (48, .int .i64 x48_185)] [(Value.ownBlock s183_v, .cells s183_c 35 (0, 0)), (Value.ownBlock s93_v, .cells s93_c 5 (0, 0)), (Value.ownBlock y_184_v, .cells y_184_c 5 (0, 0)), (some b1, .cells (enc .u8 (List.replicate 64 0)) 27 (0, 0))] := by
  intro k
  induction k with
  | zero => intro y_184 x48_185 y_184_v y_184_c r0_ ho_y_184 h; simp [sha_Sum.L2] at h
  | succ k ih =>
    intro y_184 x48_185 y_184_v y_184_c r0_ ho_y_184 h hk
    unfold sha_Sum.L2 at h
    refine TT.seq (x := sub [1, 1, 1, 1, 1, 1, 1, 1, 0, 1, 0, 0, 0] B6) (y := sub [1, 1, 1, 1, 1, 1, 1, 1, 0, 1, 0, 0, 1] B6) ?_
    refine TT.region (id := 14) (n := 1) (ops := (opsOf (sub [1, 1, 1, 1, 1, 1, 1, 1, 0, 1, 0, 0, 0] B6))) [(.pure, none)] rfl ?_
    show DL _ _ _ _ _ _ _ _ _ _ [0] _ _
    refine DL.pu 49 (.bool (decide (x48_185 < ([t176, t179].length : Int)))) rfl (p_lss rfl rfl rfl) ?_
    refine DL.nil ?_
    refine TT.seq (x := sub [1, 1, 1, 1, 1, 1, 1, 1, 0, 1, 0, 0, 1, 0] B6) (y := sub [1, 1, 1, 1, 1, 1, 1, 1, 0, 1, 0, 0, 1, 1] B6) ?_
    by_cases c332 : (decide (x48_185 < ([t176, t179].length : Int))) = true
    · have h333 := ite_true c332 h
      refine TT.cond_true (x := sub [1, 1, 1, 1, 1, 1, 1, 1, 0, 1, 0, 0, 1, 0, 0] B6) (y := sub [1, 1, 1, 1, 1, 1, 1, 1, 0, 1, 0, 0, 1, 0, 1] B6) rfl c332 ?_
      refine TT.skip ?_
      refine TT.seq (x := sub [1, 1, 1, 1, 1, 1, 1, 1, 0, 1, 0, 0, 1, 1, 0] B6) (y := sub [1, 1, 1, 1, 1, 1, 1, 1, 0, 1, 0, 0, 1, 1, 1] B6) ?_
      refine TT.block (c := sub [1, 1, 1, 1, 1, 1, 1, 1, 0, 1, 0, 0, 1, 1, 0, 0] B6) ?_
      refine TT.seq (x := sub [1, 1, 1, 1, 1, 1, 1, 1, 0, 1, 0, 0, 1, 1, 0, 0, 0] B6) (y := sub [1, 1, 1, 1, 1, 1, 1, 1, 0, 1, 0, 0, 1, 1, 0, 0, 1] B6) ?_
      refine TT.region (id := 15) (n := 3) (ops := (opsOf (sub [1, 1, 1, 1, 1, 1, 1, 1, 0, 1, 0, 0, 1, 1, 0, 0, 0] B6))) [(.pure, none), (.quiet, none), (.pure, none)] rfl ?_
      show DL _ _ _ _ _ _ _ _ _ _ [0, 1, 2] _ _
      obtain ⟨g334, h335⟩ := req_some h333
      obtain ⟨g336, h337⟩ := req_some h335
      refine DL.pu 50 (elp s183_v x48_185.toNat) rfl (p_slIx1 ty_u31 ty_s35 (OwnV.some ho_s183 g334 g336) g334 g336 rfl rfl rfl) ?_
      refine DL.qu 51 (.int .u64 ([t176, t179].getD x48_185.toNat 0)) rfl (f_loadEl (i := 0) rfl ho_s183 (encl_get .u64 (lt_len g334 g336)) ty_a35 rfl rfl) ?_
      refine DL.pu 11 (.int .u64 ([t176, t179].getD x48_185.toNat 0)) rfl (p_assign rfl rfl) ?_
      refine DL.nil ?_
      refine TT.seq (x := sub [1, 1, 1, 1, 1, 1, 1, 1, 0, 1, 0, 0, 1, 1, 0, 0, 1, 0] B6) (y := sub [1, 1, 1, 1, 1, 1, 1, 1, 0, 1, 0, 0, 1, 1, 0, 0, 1, 1] B6) ?_
      refine TT.region (id := 16) (n := 1) (ops := (opsOf (sub [1, 1, 1, 1, 1, 1, 1, 1, 0, 1, 0, 0, 1, 1, 0, 0, 1, 0] B6))) [(.pure, none)] rfl ?_
      show DL _ _ _ _ _ _ _ _ _ _ [0] _ _
      refine DL.pu 52 (.int .i64 0) rfl (p_move rfl rfl) ?_
      refine DL.nil ?_
      refine TT.block (c := sub [1, 1, 1, 1, 1, 1, 1, 1, 0, 1, 0, 0, 1, 1, 0, 0, 1, 1, 0] B6) ?_
      refine TT.loop (c := sub [1, 1, 1, 1, 1, 1, 1, 1, 0, 1, 0, 0, 1, 1, 0, 0, 1, 1, 0, 0] B6) ?_
      obtain ⟨z_o7_406, h423, h424⟩ := bind_some h337
      refine TT.weak (sha_Sum.L3_ok b1 t2_b s93_v s93_c t176 t179 s183_v s183_c x48_185 hE 9 y_184 0 y_184_v y_184_c z_o7_406 ho_y_184 h423 (fun z_o7_406_v z_o7_406_c ho_z_o7_406 => ?_)) (Sub.cons rfl (Sub.cons rfl (Sub.cons rfl (Sub.cons rfl (Sub.cons rfl (Sub.cons rfl (Sub.cons rfl (Sub.cons rfl (Sub.nil _)))))))))
      refine TT.inBlock ?_
      refine TT.region (id := 21) (n := 2) (ops := (opsOf (sub [1, 1, 1, 1, 1, 1, 1, 1, 0, 1, 0, 0, 1, 1, 1] B6))) [(.pure, none), (.pure, none)] rfl ?_
      show DL _ _ _ _ _ _ _ _ _ _ [0, 1] _ _
      refine DL.pu 65 (.int .i64 (IntKind.i64.wrap (x48_185 + 1))) rfl (p_add rfl rfl rfl) ?_
      refine DL.pu 48 (.int .i64 (IntKind.i64.wrap (x48_185 + 1))) rfl (p_move rfl rfl) ?_
      refine DL.nil ?_
      refine TT.inLoop ?_
      exact TT.weak (ih z_o7_406 (IntKind.i64.wrap (x48_185 + 1)) z_o7_406_v z_o7_406_c r0_ ho_z_o7_406 h424 hk) (Sub.cons rfl (Sub.cons rfl (Sub.cons rfl (Sub.cons rfl (Sub.cons rfl (Sub.cons rfl (Sub.nil _)))))))
    · replace c332 := Bool.eq_false_iff.mpr c332
      have h426 := ite_false c332 h
      refine TT.cond_false (x := sub [1, 1, 1, 1, 1, 1, 1, 1, 0, 1, 0, 0, 1, 0, 0] B6) (y := sub [1, 1, 1, 1, 1, 1, 1, 1, 0, 1, 0, 0, 1, 0, 1] B6) rfl c332 ?_
      refine TT.exit rfl ?_
      obtain rfl := Option.some.inj h426
      exact TT.weak (hk y_184_v y_184_c ho_y_184) (Sub.cons rfl (Sub.cons rfl (Sub.cons rfl (Sub.nil _))))

def sha_Sum.L4 (t2 : List Int) : Nat → (List Int) → (List Int) → Option (List Int)
  | 0, _, _ => none
  | k + 1, x4_432, y_433 => if (decide (0 < (x4_432.length : Int))) = true then (req ((128 : Int) ≤ (x4_432.length : Int)) ((sha_press.f y_433 (x4_432.take (128 : Int).toNat) t2).bind fun t504 => req (t504.length = 8) (sha_Sum.L4 t2 k (x4_432.drop (128 : Int).toNat) t504))) else (some y_433)
set_option maxRecDepth 20000 in
theorem sha_Sum.L4_ok (b1 : Nat) (t2 : List Int) (t2_b : Nat) (s93_v : Value) (s93_c : Array Value) (s183_v : Value) (s183_c : Array Value) (b430 : Nat) {R : Ending → World → Prop} {w0 : World} {M0 M I : Mem} {K : List Item} (hE : Env w0 M0 M I) (l_t2 : t2.length = 88) (hb_t2 : M t2_b = some (.cells (enc .u64 t2) 45 (0, 0))) :
    ∀ (k : Nat) (x4_432 : List Int) (y_433 : List Int) (x4_432_v : Value) (r0_ : List Int) (hr_x4_432 : IntRow M .u8 x4_432_v x4_432) (l_y_433 : y_433.length = 8) (h : sha_Sum.L4 t2 k x4_432 y_433 = some r0_) (hk : r0_.length = 8 → TT Try.prog 6 R 99 w0 I K [(2, ptr b1 0), (13, ptr b430 0)] [(some b430, .cells (enc .u64 r0_) 42 (0, 0)), (Value.ownBlock s183_v, .cells s183_c 35 (0, 0)), (Value.ownBlock s93_v, .cells s93_c 5 (0, 0)), (some b1, .cells (enc .u8 (List.replicate 64 0)) 27 (0, 0))]),
      TT Try.prog 6 R 99 w0 I (.code (sub [1, 1, 1, 1, 1, 1, 1, 1, 1, 1, 0, 0, 0] B6) :: .inLoop (sub [1, 1, 1, 1, 1, 1, 1, 1, 1, 1, 0, 0, 0] B6) :: .inBlock 8 :: K) [(2, ptr b1 0), (3, ptr t2_b 0), (4, x4_432_v), (13, ptr b430 0)] [(some b430, .cells (enc .u64 y_433) 42 (0, 0)), (Value.ownBlock s183_v, .cells s183_c 35 (0, 0)), (Value.ownBlock s93_v, .cells s93_c 5 (0, 0)), (some b1, .cells (enc .u8 (List.replicate 64 0)) 27 (0, 0))] := by
  intro k
  induction k with
  | zero => intro x4_432 y_433 x4_432_v r0_ hr_x4_432 l_y_433 h; simp [sha_Sum.L4] at h
  | succ k ih =>
    intro x4_432 y_433 x4_432_v r0_ hr_x4_432 l_y_433 h hk
    unfold sha_Sum.L4 at h
    refine TT.seq (x := sub [1, 1, 1, 1, 1, 1, 1, 1, 1, 1, 0, 0, 0, 0] B6) (y := sub [1, 1, 1, 1, 1, 1, 1, 1, 1, 1, 0, 0, 0, 1] B6) ?_
    refine TT.seq (x := sub [1, 1, 1, 1, 1, 1, 1, 1, 1, 1, 0, 0, 0, 0, 0] B6) (y := sub [1, 1, 1, 1, 1, 1, 1, 1, 1, 1, 0, 0, 0, 0, 1] B6) ?_
    refine TT.region (id := 23) (n := 3) (ops := (opsOf (sub [1, 1, 1, 1, 1, 1, 1, 1, 1, 1, 0, 0, 0, 0, 0] B6))) [(.pure, none), (.pure, none), (.pure, none)] rfl ?_
    show DL _ _ _ _ _ _ _ _ _ _ [0, 1, 2] _ _
    refine DL.pu 70 (x4_432_v) rfl (p_move rfl rfl) ?_
    refine DL.pu 71 (.int .i64 (x4_432.length : Int)) rfl (p_slLen ty_u22 (RowV.sl hr_x4_432) rfl rfl) ?_
    refine DL.pu 72 (.bool (decide (0 < (x4_432.length : Int)))) rfl (p_gtr rfl rfl rfl) ?_
    refine DL.nil ?_
    by_cases c498 : (decide (0 < (x4_432.length : Int))) = true
    · have h499 := ite_true c498 h
      refine TT.cond_true (x := sub [1, 1, 1, 1, 1, 1, 1, 1, 1, 1, 0, 0, 0, 0, 1, 0] B6) (y := sub [1, 1, 1, 1, 1, 1, 1, 1, 1, 1, 0, 0, 0, 0, 1, 1] B6) rfl c498 ?_
      refine TT.skip ?_
      refine TT.seq (x := sub [1, 1, 1, 1, 1, 1, 1, 1, 1, 1, 0, 0, 0, 1, 0] B6) (y := sub [1, 1, 1, 1, 1, 1, 1, 1, 1, 1, 0, 0, 0, 1, 1] B6) ?_
      refine TT.block (c := sub [1, 1, 1, 1, 1, 1, 1, 1, 1, 1, 0, 0, 0, 1, 0, 0] B6) ?_
      refine TT.regionD (id := 25) (ops := (opsOf (sub [1, 1, 1, 1, 1, 1, 1, 1, 1, 1, 0, 0, 0, 1, 0, 0] B6))) [0, 1, 2, 3, 4, 5, 6, 7] [0, 0, 2, 0, 8, 24, 63, 127] [(.look, some 0), (.pure, none), (.pure, none), (.pure, none), (.pure, none), (.pure, none), (.quiet, none), (.store, some 0)] mixed (by kernel_rfl) ?_
      intro w500 hl500 hj500 hz500
      refine DL.look (v := .agg (enc .u64 y_433)) (x := 0) (b := b430) (i := 0) rfl (Wn.none rfl) rfl rfl rfl rfl rfl (List.mem_of_getElem? (i := 0) rfl) (b_loadA ty_a42 ty_s42 (enc_sz l_y_433) rfl rfl) ?_
      refine DL.pu 76 (x4_432_v) rfl (p_move rfl rfl) ?_
      obtain ⟨g502, h503⟩ := req_some h499
      obtain ⟨v501, v501_e⟩ : ∃ u, u = subsl x4_432_v 1 0 (128 : Int).toNat := ⟨_, rfl⟩
      have hr_v501 : IntRow M .u8 v501 (x4_432.take (128 : Int).toNat) := by rw [v501_e]; exact (IntRow.subH hr_x4_432 (toNat_le g502))
      refine DL.pu 77 (v501) rfl (by rw [v501_e]; exact p_subH ty_u22 ty_s5 hr_x4_432 (by decide) g502 rfl rfl rfl) ?_
      refine DL.pu 78 (ptr t2_b 0) rfl (p_move rfl rfl) ?_
      refine DL.pu 79 (ptr t2_b 0) rfl (p_nilCheck rfl rfl) ?_
      refine DL.pu 80 (ptr t2_b 8) rfl (p_fieldAddr ty_f45_1 rfl rfl) ?_
      obtain ⟨t504, h505, h506⟩ := bind_some h503
      obtain ⟨g507, h508⟩ := req_some h506
      have l_t504 : t504.length = 8 := g507
      refine DL.qu 81 (.agg (enc .u64 t504)) rfl (f_callR rfl rfl (args_val (vs := [.agg (enc .u64 y_433), v501, ptr t2_b 8]) rfl) (fun w => enter13 _ w) (fun w hc => sha_press.val l_y_433 l_t2 h505 (M := M) w (hE.ext hc) hr_v501 hb_t2)) ?_
      refine DL.put (H' := [(some b430, .cells (enc .u64 t504) 42 (0, 0)), (Value.ownBlock s183_v, .cells s183_c 35 (0, 0)), (Value.ownBlock s93_v, .cells s93_c 5 (0, 0)), (some b1, .cells (enc .u8 (List.replicate 64 0)) 27 (0, 0))]) (i := 7) rfl (Wn.none rfl) rfl rfl (f_storeA (j := 0) ty_s42 rfl (enc_sz l_t504) (enc_sz l_y_433) (enc_oneCell _ _) rfl rfl rfl) (keep_set (j := 0) hj500 rfl rfl rfl) ?_
      refine DL.nil' hl500 ?_
      refine TT.inBlock ?_
      refine TT.region (id := 24) (n := 3) (ops := (opsOf (sub [1, 1, 1, 1, 1, 1, 1, 1, 1, 1, 0, 0, 0, 1, 1] B6))) [(.pure, none), (.pure, none), (.pure, none)] rfl ?_
      show DL _ _ _ _ _ _ _ _ _ _ [0, 1, 2] _ _
      refine DL.pu 73 (x4_432_v) rfl (p_move rfl rfl) ?_
      obtain ⟨v509, v509_e⟩ : ∃ u, u = subsl x4_432_v 1 (128 : Int).toNat x4_432.length := ⟨_, rfl⟩
      have hr_v509 : IntRow M .u8 v509 (x4_432.drop (128 : Int).toNat) := by rw [v509_e]; exact (IntRow.subL hr_x4_432 (toNat_le g502))
      refine DL.pu 74 (v509) rfl (by rw [v509_e]; exact p_subL ty_u22 ty_s5 hr_x4_432 (by decide) g502 rfl rfl rfl) ?_
      refine DL.pu 4 (v509) rfl (p_assign rfl rfl) ?_
      refine DL.nil ?_
      refine TT.inLoop ?_
      exact TT.weak (ih (x4_432.drop (128 : Int).toNat) t504 v509 r0_ hr_v509 l_t504 h508 hk) (Sub.cons rfl (Sub.cons rfl (Sub.cons rfl (Sub.cons rfl (Sub.nil _)))))
    · replace c498 := Bool.eq_false_iff.mpr c498
      have h510 := ite_false c498 h
      refine TT.cond_false (x := sub [1, 1, 1, 1, 1, 1, 1, 1, 1, 1, 0, 0, 0, 0, 1, 0] B6) (y := sub [1, 1, 1, 1, 1, 1, 1, 1, 1, 1, 0, 0, 0, 0, 1, 1] B6) rfl c498 ?_
      refine TT.exit rfl ?_
      obtain rfl := Option.some.inj h510
      exact TT.weak (hk l_y_433) (Sub.cons rfl (Sub.cons rfl (Sub.nil _)))

def sha_Sum.L5 (z_b430_497 : List Int) : Nat → Int → (List Int) → Option (List Int)
  | 0, _, _ => none
  | k + 1, x82_514, y_515 => if (decide (x82_514 < 64)) = true then (req (0 ≤ (IntKind.i64.wrap (Int.tdiv x82_514 8))) (req ((IntKind.i64.wrap (Int.tdiv x82_514 8)) < 8) (nm (IntKind.i64.wrap (56 - (IntKind.i64.wrap (8 * (Int.tmod x82_514 8))))) fun t592 => req (0 ≤ t592) (nm (ishr .u64 (z_b430_497.getD ((IntKind.i64.wrap (Int.tdiv x82_514 8)).toNat) 0) t592) fun t597 => req (0 ≤ x82_514) (req (x82_514 < 64) (sha_Sum.L5 z_b430_497 k (IntKind.i64.wrap (x82_514 + 1)) (y_515.set x82_514.toNat (IntKind.u8.wrap t597)))))))) else (some y_515)
set_option maxRecDepth 20000 in
theorem sha_Sum.L5_ok (b1 : Nat) (s93_v : Value) (s93_c : Array Value) (s183_v : Value) (s183_c : Array Value) (b430 : Nat) (z_b430_497 : List Int) {R : Ending → World → Prop} {w0 : World} {M0 M I : Mem} {K : List Item} (hE : Env w0 M0 M I) (l_z_b430_497 : z_b430_497.length = 8) :
    ∀ (k : Nat) (x82_514 : Int) (y_515 : List Int) (r0_ : List Int) (l_y_515 : y_515.length = 64) (h : sha_Sum.L5 z_b430_497 k x82_514 y_515 = some r0_) (hk : r0_.length = 64 → TT Try.prog 6 R 99 w0 I K [(2, ptr b1 0)] [(some b430, .cells (enc .u64 z_b430_497) 42 (0, 0)), (Value.ownBlock s183_v, .cells s183_c 35 (0, 0)), (Value.ownBlock s93_v, .cells s93_c 5 (0, 0)), (some b1, .cells (enc .u8 r0_) 27 (0, 0))]),
      TT Try.prog 6 R 99 w0 I (.code (sub [1, 1, 1, 1, 1, 1, 1, 1, 1, 1, 1, 0, 1, 0, 0] B6) :: .inLoop (sub [1, 1, 1, 1, 1, 1, 1, 1, 1, 1, 1, 0, 1, 0, 0] B6) :: .inBlock 10 :: K) [(2, ptr b1 0), (13, ptr b430 0), (82, .int .i64 x82_514)] [(some b430, .cells (enc .u64 z_b430_497) 42 (0, 0)), (Value.ownBlock s183_v, .cells s183_c 35 (0, 0)), (Value.ownBlock s93_v, .cells s93_c 5 (0, 0)), (some b1, .cells (enc .u8 y_515) 27 (0, 0))] := by
  intro k
  induction k with
  | zero => intro x82_514 y_515 r0_ l_y_515 h; simp [sha_Sum.L5] at h
  | succ k ih =>
    intro x82_514 y_515 r0_ l_y_515 h hk
    unfold sha_Sum.L5 at h
    refine TT.seq (x := sub [1, 1, 1, 1, 1, 1, 1, 1, 1, 1, 1, 0, 1, 0, 0, 0] B6) (y := sub [1, 1, 1, 1, 1, 1, 1, 1, 1, 1, 1, 0, 1, 0, 0, 1] B6) ?_
    refine TT.region (id := 27) (n := 1) (ops := (opsOf (sub [1, 1, 1, 1, 1, 1, 1, 1, 1, 1, 1, 0, 1, 0, 0, 0] B6))) [(.pure, none)] rfl ?_
    show DL _ _ _ _ _ _ _ _ _ _ [0] _ _
    refine DL.pu 83 (.bool (decide (x82_514 < 64))) rfl (p_lss rfl rfl rfl) ?_
    refine DL.nil ?_
    refine TT.seq (x := sub [1, 1, 1, 1, 1, 1, 1, 1, 1, 1, 1, 0, 1, 0, 0, 1, 0] B6) (y := sub [1, 1, 1, 1, 1, 1, 1, 1, 1, 1, 1, 0, 1, 0, 0, 1, 1] B6) ?_
    by_cases c586 : (decide (x82_514 < 64)) = true
    · have h587 := ite_true c586 h
      refine TT.cond_true (x := sub [1, 1, 1, 1, 1, 1, 1, 1, 1, 1, 1, 0, 1, 0, 0, 1, 0, 0] B6) (y := sub [1, 1, 1, 1, 1, 1, 1, 1, 1, 1, 1, 0, 1, 0, 0, 1, 0, 1] B6) rfl c586 ?_
      refine TT.skip ?_
      refine TT.seq (x := sub [1, 1, 1, 1, 1, 1, 1, 1, 1, 1, 1, 0, 1, 0, 0, 1, 1, 0] B6) (y := sub [1, 1, 1, 1, 1, 1, 1, 1, 1, 1, 1, 0, 1, 0, 0, 1, 1, 1] B6) ?_
      refine TT.block (c := sub [1, 1, 1, 1, 1, 1, 1, 1, 1, 1, 1, 0, 1, 0, 0, 1, 1, 0, 0] B6) ?_
      refine TT.seq (x := sub [1, 1, 1, 1, 1, 1, 1, 1, 1, 1, 1, 0, 1, 0, 0, 1, 1, 0, 0, 0] B6) (y := sub [1, 1, 1, 1, 1, 1, 1, 1, 1, 1, 1, 0, 1, 0, 0, 1, 1, 0, 0, 1] B6) ?_
      refine TT.region (id := 28) (n := 2) (ops := (opsOf (sub [1, 1, 1, 1, 1, 1, 1, 1, 1, 1, 1, 0, 1, 0, 0, 1, 1, 0, 0, 0] B6))) [(.pure, none), (.pure, none)] rfl ?_
      show DL _ _ _ _ _ _ _ _ _ _ [0, 1] _ _
      refine DL.pu 84 (.int .i64 x82_514) rfl (p_move rfl rfl) ?_
      refine DL.pu 14 (.int .i64 x82_514) rfl (p_assign rfl rfl) ?_
      refine DL.nil ?_
      refine TT.region (id := 29) (n := 13) (ops := (opsOf (sub [1, 1, 1, 1, 1, 1, 1, 1, 1, 1, 1, 0, 1, 0, 0, 1, 1, 0, 0, 1] B6))) [(.pure, none), (.pure, none), (.pure, none), (.pure, none), (.quiet, none), (.pure, none), (.pure, none), (.pure, none), (.pure, none), (.pure, none), (.pure, none), (.pure, none), (.store, none)] rfl ?_
      show DL _ _ _ _ _ _ _ _ _ _ [0, 1, 2, 3, 4, 5, 6, 7, 8, 9, 10, 11, 12] _ _
      refine DL.pu 85 (.int .i64 x82_514) rfl (p_move rfl rfl) ?_
      refine DL.pu 86 (.int .i64 x82_514) rfl (p_move rfl rfl) ?_
      refine DL.pu 87 (.int .i64 (IntKind.i64.wrap (Int.tdiv x82_514 8))) rfl (p_quo (by decide) rfl rfl rfl) ?_
      obtain ⟨g588, h589⟩ := req_some h587
      obtain ⟨g590, h591⟩ := req_some h589
      refine DL.pu 88 (ptr b430 ((IntKind.i64.wrap (Int.tdiv x82_514 8)).toNat)) rfl (p_ix ty_u42 ty_s35 g588 g590 rfl rfl rfl) ?_
      refine DL.qu 89 (.int .u64 (z_b430_497.getD ((IntKind.i64.wrap (Int.tdiv x82_514 8)).toNat) 0)) rfl (f_load (j := 0) ty_a35 rfl (enc_at l_z_b430_497 g588 g590) rfl rfl) ?_
      refine DL.pu 90 (.int .i64 x82_514) rfl (p_move rfl rfl) ?_
      refine DL.pu 91 (.int .i64 (Int.tmod x82_514 8)) rfl (p_rem (by decide) rfl rfl rfl) ?_
      refine DL.pu 92 (.int .i64 (IntKind.i64.wrap (8 * (Int.tmod x82_514 8)))) rfl (p_mul rfl rfl rfl) ?_
      obtain ⟨t592, e593, h594⟩ := nm_some h591
      refine DL.pu 93 (.int .i64 t592) rfl (by rw [e593]; exact p_sub rfl rfl rfl) ?_
      obtain ⟨g595, h596⟩ := req_some h594
      obtain ⟨t597, e598, h599⟩ := nm_some h596
      refine DL.pu 94 (.int .u64 t597) rfl (by rw [e598]; exact p_shr g595 rfl rfl rfl) ?_
      refine DL.pu 95 (.int .u8 (IntKind.u8.wrap t597)) rfl (p_conv ty_u35 ty_u5 ⟨_, rfl⟩ rfl rfl) ?_
      obtain ⟨g600, h601⟩ := req_some h599
      obtain ⟨g602, h603⟩ := req_some h601
      refine DL.pu 96 (ptr b1 x82_514.toNat) rfl (p_ix ty_u27 ty_s5 g600 g602 rfl rfl rfl) ?_
      refine DL.put (H' := [(some b430, .cells (enc .u64 z_b430_497) 42 (0, 0)), (Value.ownBlock s183_v, .cells s183_c 35 (0, 0)), (Value.ownBlock s93_v, .cells s93_c 5 (0, 0)), (some b1, .cells (enc .u8 (y_515.set x82_514.toNat (IntKind.u8.wrap t597))) 27 (0, 0))]) (i := 12) rfl (Wn.none rfl) rfl rfl (f_storeE (j := 3) ty_s5 rfl (lt_nat l_y_515 g600 g602) rfl rfl rfl) (keep_none rfl) ?_
      refine DL.nil ?_
      refine TT.inBlock ?_
      refine TT.region (id := 30) (n := 2) (ops := (opsOf (sub [1, 1, 1, 1, 1, 1, 1, 1, 1, 1, 1, 0, 1, 0, 0, 1, 1, 1] B6))) [(.pure, none), (.pure, none)] rfl ?_
      show DL _ _ _ _ _ _ _ _ _ _ [0, 1] _ _
      refine DL.pu 97 (.int .i64 (IntKind.i64.wrap (x82_514 + 1))) rfl (p_add rfl rfl rfl) ?_
      refine DL.pu 82 (.int .i64 (IntKind.i64.wrap (x82_514 + 1))) rfl (p_move rfl rfl) ?_
      refine DL.nil ?_
      refine TT.inLoop ?_
      exact TT.weak (ih (IntKind.i64.wrap (x82_514 + 1)) (y_515.set x82_514.toNat (IntKind.u8.wrap t597)) r0_ (len_set l_y_515) h603 hk) (Sub.cons rfl (Sub.cons rfl (Sub.cons rfl (Sub.nil _))))
    · replace c586 := Bool.eq_false_iff.mpr c586
      have h604 := ite_false c586 h
      refine TT.cond_false (x := sub [1, 1, 1, 1, 1, 1, 1, 1, 1, 1, 1, 0, 1, 0, 0, 1, 0, 0] B6) (y := sub [1, 1, 1, 1, 1, 1, 1, 1, 1, 1, 1, 0, 1, 0, 0, 1, 0, 1] B6) rfl c586 ?_
      refine TT.exit rfl ?_
      obtain rfl := Option.some.inj h604
      exact TT.weak (hk l_y_515) (Sub.cons rfl (Sub.nil _))

def sha_Sum.f (a0 : List (List Int)) : Option ((List Int)) := (sha_all.f).bind fun t2 => (sha_Sum.L0 a0 ((a0.length : Int).toNat + 1) ([] : List Int) 0).bind fun z_o7_74 => req (z_o7_74.length + [128].length ≤ 1099511627776) ((sha_Sum.L1 200 (z_o7_74 ++ [128])).bind fun z_o7_156 => req (0 ≤ (IntKind.u64.wrap (z_o7_74.length : Int))) (req ((IntKind.u64.wrap (z_o7_74.length : Int)) < 18446744073709551616) (req (0 ≤ (8 : Int)) (req ((8 : Int) < 18446744073709551616) (nm (mul64h (IntKind.u64.wrap (z_o7_74.length : Int)) (8 : Int)) fun t176 => nm (mul64l (IntKind.u64.wrap (z_o7_74.length : Int)) (8 : Int)) fun t179 => (sha_Sum.L2 t176 t179 (([t176, t179].length : Int).toNat + 1) z_o7_156 0).bind fun z_o7_331 => (sha_Sum.L4 t2 100000 z_o7_331 ((t2.drop 0).take 8)).bind fun z_b430_497 => (sha_Sum.L5 z_b430_497 65 0 (List.replicate 64 0)).bind fun z_b1_585 => some z_b1_585)))))
set_option maxHeartbeats 1000000 in
set_option maxRecDepth 20000 in
theorem sha_Sum.ok {a0 : List (List Int)} {a0_v : Value} {r : List Int} (h : sha_Sum.f a0 = some r) {M : Mem} (w : World) (hM : Ext M (heapOf w)) (hr_a0 : RowS (Sh.ints .u8) M a0_v a0) : Calls Try.prog 6 #[a0_v] w (Post (fun u => u = .agg (enc .u8 r)) w) := by
  unfold sha_Sum.f at h
  have hE := Env.start hM
  refine calls_of_TT (N := 99) (S := [(0, a0_v)]) (c := B6) Try.func6 rfl rfl rfl (by simp) ?_
  show TT _ _ _ _ _ _ [.code (sub [] B6)] _ _
  refine TT.seq (x := sub [0] B6) (y := sub [1] B6) ?_
  refine TT.region (id := 0) (n := 1) (ops := (opsOf (sub [0] B6))) [(.alloc, none)] rfl ?_
  show DL _ _ _ _ _ _ _ _ _ _ [0] _ _
  refine DL.new (ob := .cells (enc .u8 (List.replicate 64 0)) 27) (mk := fun b => ptr b 0) (i := 0) rfl (Wn.none rfl) rfl rfl rfl (f_alloc ty_z27 rfl) ?_
  intro b1 hb1
  refine DL.nil ?_
  refine TT.seq (x := sub [1, 0] B6) (y := sub [1, 1] B6) ?_
  refine TT.region (id := 1) (n := 2) (ops := (opsOf (sub [1, 0] B6))) [(.keep, none), (.pure, none)] rfl ?_
  show DL _ _ _ _ _ _ _ _ _ _ [0, 1] _ _
  obtain ⟨t2, h3, h4⟩ := bind_some h
  refine DL.callF (G := Nat) (u := fun g => ptr g 0) (Q := fun g M_ => (t2.length = 88) ∧ (M_ g = some (.cells (enc .u64 t2) 45 (0, 0)))) (A := [(some b1, .cells (enc .u8 (List.replicate 64 0)) 27 (0, 0))]) (J := []) (fun J5 => ((some b1, .cells (enc .u8 (List.replicate 64 0)) 27 (0, 0)) :: J5)) (Nat.le_refl _) hE.nil (List.append_nil _).symm (fun _ => rfl) (by simp) (i := 0) rfl (Wn.none rfl) rfl rfl rfl rfl rfl rfl (args_val (vs := []) rfl) (fun w => enter11 _ w) (fun w hc hI => sha_all.ok h3 (M := M) w hI ) ?_
  rintro t2_b M5 J5 hE5 hx5 ⟨l_t2, hb_t2⟩
  show DL _ _ _ _ _ _ _ _ _ _ _ _ ((some b1, .cells (enc .u8 (List.replicate 64 0)) 27 (0, 0)) :: J5)
  refine DL.pu 3 (ptr t2_b 0) rfl (p_assign rfl rfl) ?_
  refine DL.nil ?_
  refine TT.settle (A := [(some b1, .cells (enc .u8 (List.replicate 64 0)) 27 (0, 0))]) (J := J5) hE5 ?_
  intro I6 hE6 hxI6
  refine TT.seq (x := sub [1, 1, 0] B6) (y := sub [1, 1, 1] B6) ?_
  refine TT.region (id := 2) (n := 1) (ops := (opsOf (sub [1, 1, 0] B6))) [(.pure, none)] rfl ?_
  show DL _ _ _ _ _ _ _ _ _ _ [0] _ _
  refine DL.pu 4 (.slice none 0 0) rfl (p_assign rfl rfl) ?_
  refine DL.nil ?_
  refine TT.seq (x := sub [1, 1, 1, 0] B6) (y := sub [1, 1, 1, 1] B6) ?_
  refine TT.seq (x := sub [1, 1, 1, 0, 0] B6) (y := sub [1, 1, 1, 0, 1] B6) ?_
  refine TT.region (id := 3) (n := 3) (ops := (opsOf (sub [1, 1, 1, 0, 0] B6))) [(.pure, none), (.pure, none), (.pure, none)] rfl ?_
  show DL _ _ _ _ _ _ _ _ _ _ [0, 1, 2] _ _
  refine DL.pu 16 (a0_v) rfl (p_move rfl rfl) ?_
  refine DL.pu 17 (.int .i64 (a0.length : Int)) rfl (p_slLen ty_u25 (RowS.sl (RowS.mono hr_a0 hx5)) rfl rfl) ?_
  refine DL.pu 18 (.int .i64 0) rfl (p_move rfl rfl) ?_
  refine DL.nil ?_
  refine TT.block (c := sub [1, 1, 1, 0, 1, 0] B6) ?_
  refine TT.nilOwn (e := 5) ?_
  refine TT.loop (c := sub [1, 1, 1, 0, 1, 0, 0] B6) ?_
  obtain ⟨z_o7_74, h89, h90⟩ := bind_some h4
  refine TT.weak (sha_Sum.L0_ok a0 a0_v b1 t2_b hE6 (RowS.mono hr_a0 hx5) ((a0.length : Int).toNat + 1) ([] : List Int) 0 (.slice none 0 0) (#[]) z_o7_74 (IntOwn.nil .u8) h89 (fun z_o7_74_v z_o7_74_c ho_z_o7_74 => ?_)) (Sub.cons rfl (Sub.cons rfl (Sub.cons rfl (Sub.cons rfl (Sub.cons rfl (Sub.cons rfl (Sub.nil _)))))))
  refine TT.seq (x := sub [1, 1, 1, 1, 0] B6) (y := sub [1, 1, 1, 1, 1] B6) ?_
  refine TT.region (id := 8) (n := 4) (ops := (opsOf (sub [1, 1, 1, 1, 0] B6))) [(.pure, none), (.pure, none), (.pure, none), (.pure, none)] rfl ?_
  show DL _ _ _ _ _ _ _ _ _ _ [0, 1, 2, 3] _ _
  refine DL.pu 26 (z_o7_74_v) rfl (p_move rfl rfl) ?_
  refine DL.pu 27 (.int .i64 (z_o7_74.length : Int)) rfl (p_slLen ty_u22 (OwnV.sl ho_z_o7_74) rfl rfl) ?_
  refine DL.pu 28 (.int .u64 (IntKind.u64.wrap (z_o7_74.length : Int))) rfl (p_conv ty_u3 ty_u35 ⟨_, rfl⟩ rfl rfl) ?_
  refine DL.pu 7 (.int .u64 (IntKind.u64.wrap (z_o7_74.length : Int))) rfl (p_assign rfl rfl) ?_
  refine DL.nil ?_
  refine TT.seq (x := sub [1, 1, 1, 1, 1, 0] B6) (y := sub [1, 1, 1, 1, 1, 1] B6) ?_
  refine TT.region (id := 9) (n := 4) (ops := (opsOf (sub [1, 1, 1, 1, 1, 0] B6))) [(.pure, none), (.alloc, none), (.actx, none), (.pure, none)] rfl ?_
  show DL _ _ _ _ _ _ _ _ _ _ [0, 1, 2, 3] _ _
  refine DL.pu 29 (z_o7_74_v) rfl (p_move rfl rfl) ?_
  refine DL.newSl (zs := [128]) (n := 1) rfl (by decide) (i := 1) rfl (Wn.none rfl) rfl rfl rfl (f_buildSl (n := 1) (zs := [128]) (vs := [(0, .int .u8 128)]) elem22 rfl rfl (by kernel_rfl) rfl (args_val2 rfl)) ?_
  intro s93_v s93_c ho_s93
  obtain ⟨g94, h95⟩ := req_some h90
  refine DL.appendI (fun s96_v s96_c => [(Value.ownBlock s93_v, .cells s93_c 5 (0, 0)), (Value.ownBlock s96_v, .cells s96_c 5 (0, 0)), (some b1, .cells (enc .u8 (List.replicate 64 0)) 27 (0, 0))]) elem22 (j := 1) rfl ho_z_o7_74 g94 (by decide) (fun w hc => IntOwn.src (i := 0) ho_s93 hc rfl) (i := 2) rfl (Wn.none rfl) rfl rfl rfl rfl rfl rfl (fun _ _ => rfl) ?_
  intro s96_v s96_c ho_s96
  show DL _ _ _ _ _ _ _ _ _ _ _ _ [(Value.ownBlock s93_v, .cells s93_c 5 (0, 0)), (Value.ownBlock s96_v, .cells s96_c 5 (0, 0)), (some b1, .cells (enc .u8 (List.replicate 64 0)) 27 (0, 0))]
  refine DL.pu 4 (s96_v) rfl (p_assign rfl rfl) ?_
  refine DL.nil ?_
  refine TT.seq (x := sub [1, 1, 1, 1, 1, 1, 0] B6) (y := sub [1, 1, 1, 1, 1, 1, 1] B6) ?_
  refine TT.block (c := sub [1, 1, 1, 1, 1, 1, 0, 0] B6) ?_
  refine TT.loop (c := sub [1, 1, 1, 1, 1, 1, 0, 0, 0] B6) ?_
  obtain ⟨z_o7_156, h165, h166⟩ := bind_some h95
  refine TT.weak (sha_Sum.L1_ok b1 t2_b z_o7_74 s93_v s93_c hE6 200 (z_o7_74 ++ [128]) s96_v s96_c z_o7_156 ho_s96 h165 (fun z_o7_156_v z_o7_156_c ho_z_o7_156 => ?_)) (Sub.cons rfl (Sub.cons rfl (Sub.cons rfl (Sub.cons rfl (Sub.nil _)))))
  refine TT.seq (x := sub [1, 1, 1, 1, 1, 1, 1, 0] B6) (y := sub [1, 1, 1, 1, 1, 1, 1, 1] B6) ?_
  refine TT.region (id := 12) (n := 7) (ops := (opsOf (sub [1, 1, 1, 1, 1, 1, 1, 0] B6))) [(.pure, none), (.quiet, none), (.pure, none), (.pure, none), (.pure, none), (.pure, none), (.pure, none)] rfl ?_
  show DL _ _ _ _ _ _ _ _ _ _ [0, 1, 2, 3, 4, 5, 6] _ _
  refine DL.pu 40 (.int .u64 (IntKind.u64.wrap (z_o7_74.length : Int))) rfl (p_move rfl rfl) ?_
  obtain ⟨g168, h169⟩ := req_some h166
  obtain ⟨g170, h171⟩ := req_some h169
  obtain ⟨g172, h173⟩ := req_some h171
  obtain ⟨g174, h175⟩ := req_some h173
  obtain ⟨t176, e177, h178⟩ := nm_some h175
  obtain ⟨t179, e180, h181⟩ := nm_some h178
  refine DL.qu 41 (.tuple #[.int .u64 t176, .int .u64 t179]) rfl (by rw [e177, e180]; exact f_mul64 g168 g170 g172 g174 Try.bits_Mul64 rfl rfl (args_val (vs := [.int .u64 (IntKind.u64.wrap (z_o7_74.length : Int)), .int .u64 8]) rfl) (fun w => enter12 _ w)) ?_
  refine DL.pu 39 (.tuple #[.int .u64 t176, .int .u64 t179]) rfl (p_move rfl rfl) ?_
  refine DL.pu 42 (.int .u64 t176) rfl (p_extract rfl rfl rfl) ?_
  refine DL.pu 43 (.int .u64 t179) rfl (p_extract rfl rfl rfl) ?_
  refine DL.pu 8 (.int .u64 t176) rfl (p_assign rfl rfl) ?_
  refine DL.pu 9 (.int .u64 t179) rfl (p_assign rfl rfl) ?_
  refine DL.nil ?_
  refine TT.seq (x := sub [1, 1, 1, 1, 1, 1, 1, 1, 0] B6) (y := sub [1, 1, 1, 1, 1, 1, 1, 1, 1] B6) ?_
  refine TT.seq (x := sub [1, 1, 1, 1, 1, 1, 1, 1, 0, 0] B6) (y := sub [1, 1, 1, 1, 1, 1, 1, 1, 0, 1] B6) ?_
  refine TT.region (id := 13) (n := 5) (ops := (opsOf (sub [1, 1, 1, 1, 1, 1, 1, 1, 0, 0] B6))) [(.pure, none), (.pure, none), (.alloc, none), (.pure, none), (.pure, none)] rfl ?_
  show DL _ _ _ _ _ _ _ _ _ _ [0, 1, 2, 3, 4] _ _
  refine DL.pu 44 (.int .u64 t176) rfl (p_move rfl rfl) ?_
  refine DL.pu 45 (.int .u64 t179) rfl (p_move rfl rfl) ?_
  refine DL.newSl (zs := [t176, t179]) (n := 2) rfl (by decide) (i := 2) rfl (Wn.none rfl) rfl rfl rfl (f_buildSl (n := 2) (zs := [t176, t179]) (vs := [(0, .int .u64 t176), (1, .int .u64 t179)]) elem31 rfl rfl (by kernel_rfl) rfl (args_val2 rfl)) ?_
  intro s183_v s183_c ho_s183
  refine DL.pu 47 (.int .i64 ([t176, t179].length : Int)) rfl (p_slLen ty_u31 (OwnV.sl ho_s183) rfl rfl) ?_
  refine DL.pu 48 (.int .i64 0) rfl (p_move rfl rfl) ?_
  refine DL.nil ?_
  refine TT.block (c := sub [1, 1, 1, 1, 1, 1, 1, 1, 0, 1, 0] B6) ?_
  refine TT.loop (c := sub [1, 1, 1, 1, 1, 1, 1, 1, 0, 1, 0, 0] B6) ?_
  obtain ⟨z_o7_331, h427, h428⟩ := bind_some h181
  refine TT.weak (sha_Sum.L2_ok b1 t2_b s93_v s93_c t176 t179 s183_v s183_c hE6 ho_s183 (([t176, t179].length : Int).toNat + 1) z_o7_156 0 z_o7_156_v z_o7_156_c z_o7_331 ho_z_o7_156 h427 (fun z_o7_331_v z_o7_331_c ho_z_o7_331 => ?_)) (Sub.cons rfl (Sub.cons rfl (Sub.cons rfl (Sub.cons rfl (Sub.cons rfl (Sub.cons rfl (Sub.nil _)))))))
  refine TT.seq (x := sub [1, 1, 1, 1, 1, 1, 1, 1, 1, 0] B6) (y := sub [1, 1, 1, 1, 1, 1, 1, 1, 1, 1] B6) ?_
  refine TT.region (id := 22) (n := 6) (ops := (opsOf (sub [1, 1, 1, 1, 1, 1, 1, 1, 1, 0] B6))) [(.pure, none), (.pure, none), (.pure, none), (.pure, none), (.alloc, none), (.store, none)] rfl ?_
  show DL _ _ _ _ _ _ _ _ _ _ [0, 1, 2, 3, 4, 5] _ _
  refine DL.pu 66 (ptr t2_b 0) rfl (p_move rfl rfl) ?_
  refine DL.pu 67 (ptr t2_b 0) rfl (p_nilCheck rfl rfl) ?_
  refine DL.pu 68 (ptr t2_b 0) rfl (p_fieldAddr ty_f45_0 rfl rfl) ?_
  refine DL.imm (v := .agg (enc .u64 ((t2.drop 0).take 8))) rfl (Wn.none rfl) rfl rfl rfl (i_loadSub (hE6.mi _ _ hb_t2) (le_len l_t2 (by decide)) ty_a42 ty_s42 rfl rfl) ?_
  refine DL.new (ob := .cells (enc .u64 (List.replicate 8 0)) 42) (mk := fun b => ptr b 0) (i := 4) rfl (Wn.none rfl) rfl rfl rfl (f_alloc ty_z42 rfl) ?_
  intro b430 hb430
  refine DL.put (H' := [(some b430, .cells (enc .u64 ((t2.drop 0).take 8)) 42 (0, 0)), (Value.ownBlock s183_v, .cells s183_c 35 (0, 0)), (Value.ownBlock s93_v, .cells s93_c 5 (0, 0)), (Value.ownBlock z_o7_331_v, .cells z_o7_331_c 5 (0, 0)), (some b1, .cells (enc .u8 (List.replicate 64 0)) 27 (0, 0))]) (i := 5) rfl (Wn.none rfl) rfl rfl (f_storeA (j := 0) ty_s42 rfl (enc_sz (len_sub l_t2 (by decide))) (enc_sz (List.length_replicate)) (enc_oneCell _ _) rfl rfl rfl) (keep_none rfl) ?_
  refine DL.nil ?_
  refine TT.seq (x := sub [1, 1, 1, 1, 1, 1, 1, 1, 1, 1, 0] B6) (y := sub [1, 1, 1, 1, 1, 1, 1, 1, 1, 1, 1] B6) ?_
  refine TT.block (c := sub [1, 1, 1, 1, 1, 1, 1, 1, 1, 1, 0, 0] B6) ?_
  refine TT.freezeAt (j := 3) hE6 rfl ?_
  intro M431 I431 hE431 hx431 hxI431 hb431
  have hr_431 : IntRow M431 .u8 z_o7_331_v z_o7_331 := IntOwn.stays ho_z_o7_331 hb431
  show TT _ _ _ _ _ _ _ _ [(some b430, .cells (enc .u64 ((t2.drop 0).take 8)) 42 (0, 0)), (Value.ownBlock s183_v, .cells s183_c 35 (0, 0)), (Value.ownBlock s93_v, .cells s93_c 5 (0, 0)), (some b1, .cells (enc .u8 (List.replicate 64 0)) 27 (0, 0))]
  refine TT.loop (c := sub [1, 1, 1, 1, 1, 1, 1, 1, 1, 1, 0, 0, 0] B6) ?_
  obtain ⟨z_b430_497, h511, h512⟩ := bind_some h428
  refine TT.weak (sha_Sum.L4_ok b1 t2 t2_b s93_v s93_c s183_v s183_c b430 hE431 l_t2 (hx431 _ _ hb_t2) 100000 z_o7_331 ((t2.drop 0).take 8) z_o7_331_v z_b430_497 hr_431 (len_sub l_t2 (by decide)) h511 (fun l_z_b430_497 => ?_)) (Sub.cons rfl (Sub.cons rfl (Sub.cons rfl (Sub.cons rfl (Sub.nil _)))))
  refine TT.seq (x := sub [1, 1, 1, 1, 1, 1, 1, 1, 1, 1, 1, 0] B6) (y := sub [1, 1, 1, 1, 1, 1, 1, 1, 1, 1, 1, 1] B6) ?_
  refine TT.seq (x := sub [1, 1, 1, 1, 1, 1, 1, 1, 1, 1, 1, 0, 0] B6) (y := sub [1, 1, 1, 1, 1, 1, 1, 1, 1, 1, 1, 0, 1] B6) ?_
  refine TT.region (id := 26) (n := 1) (ops := (opsOf (sub [1, 1, 1, 1, 1, 1, 1, 1, 1, 1, 1, 0, 0] B6))) [(.pure, none)] rfl ?_
  show DL _ _ _ _ _ _ _ _ _ _ [0] _ _
  refine DL.pu 82 (.int .i64 0) rfl (p_move rfl rfl) ?_
  refine DL.nil ?_
  refine TT.block (c := sub [1, 1, 1, 1, 1, 1, 1, 1, 1, 1, 1, 0, 1, 0] B6) ?_
  refine TT.loop (c := sub [1, 1, 1, 1, 1, 1, 1, 1, 1, 1, 1, 0, 1, 0, 0] B6) ?_
  obtain ⟨z_b1_585, h605, h606⟩ := bind_some h512
  refine TT.weak (sha_Sum.L5_ok b1 s93_v s93_c s183_v s183_c b430 z_b430_497 hE431 l_z_b430_497 65 0 (List.replicate 64 0) z_b1_585 (List.length_replicate) h605 (fun l_z_b1_585 => ?_)) (Sub.cons rfl (Sub.cons rfl (Sub.cons rfl (Sub.nil _))))
  refine TT.seq (x := sub [1, 1, 1, 1, 1, 1, 1, 1, 1, 1, 1, 1, 0] B6) (y := sub [1, 1, 1, 1, 1, 1, 1, 1, 1, 1, 1, 1, 1] B6) ?_
  refine TT.region (id := 31) (n := 2) (ops := (opsOf (sub [1, 1, 1, 1, 1, 1, 1, 1, 1, 1, 1, 1, 0] B6))) [(.quiet, none), (.store, none)] rfl ?_
  show DL _ _ _ _ _ _ _ _ _ _ [0, 1] _ _
  refine DL.qu 98 (.agg (enc .u8 z_b1_585)) rfl (f_loadA (j := 3) ty_a27 ty_s27 rfl (enc_sz l_z_b1_585) rfl rfl) ?_
  refine DL.put (H' := [(some b430, .cells (enc .u64 z_b430_497) 42 (0, 0)), (Value.ownBlock s183_v, .cells s183_c 35 (0, 0)), (Value.ownBlock s93_v, .cells s93_c 5 (0, 0)), (some b1, .cells (enc .u8 z_b1_585) 27 (0, 0))]) (i := 1) rfl (Wn.none rfl) rfl rfl (f_storeA (j := 3) ty_s27 rfl (enc_sz l_z_b1_585) (enc_sz l_z_b1_585) (enc_oneCell _ _) rfl rfl rfl) (keep_none rfl) ?_
  refine DL.nil ?_
  obtain rfl := Option.some.inj h606
  exact retnE (rs := [.cell 2 27]) (vs := [.agg (enc .u8 z_b1_585)]) hE431.base Try.func6 rfl rfl rfl (res_cons (ResV.cell (j := 3) ty_a27 ty_s27 rfl rfl (enc_sz l_z_b1_585)) res_nil) rfl
theorem sha_Sum.val {a0 : List (List Int)} {a0_v : Value} {r : List Int} (h : sha_Sum.f a0 = some r) {M : Mem} (w : World) (hM : Ext M (heapOf w)) (hr_a0 : RowS (Sh.ints .u8) M a0_v a0) : Calls Try.prog 6 #[a0_v] w fun e w' => e = .returned (.agg (enc .u8 r)) ∧ Below w.heap.size w w' :=
  calls_value (sha_Sum.ok h w hM hr_a0)

/-! ### (escutcheon/escutcheonref05.Begun).Sum: function 14 -/
noncomputable def B14 : Code := bodyOf Try.f14
def ref05_Begun__Sum.L0 : Nat → (List Int) → Option (List Int)
  | 0, _ => none
  | k + 1, y_12 => if ((Int.tmod (y_12.length : Int) 128) != 112) = true then (req (y_12.length + [0].length ≤ 1099511627776) (ref05_Begun__Sum.L0 k (y_12 ++ [0]))) else (some y_12)
set_option maxRecDepth 20000 in
theorem ref05_Begun__Sum.L0_ok (a0_0 : Value) (a0_1 : Value) (a1_v : Value) (b1 : Nat) (b2 : Nat) (s8_v : Value) (s8_c : Array Value) {R : Ending → World → Prop} {w0 : World} {M0 M I : Mem} {K : List Item} (hE : Env w0 M0 M I) :
    ∀ (k : Nat) (y_12 : List Int) (y_12_v : Value) (y_12_c : Array Value) (r0_ : List Int) (ho_y_12 : IntOwn .u8 y_12_v y_12_c y_12) (h : ref05_Begun__Sum.L0 k y_12 = some r0_) (hk : ∀ (z_o3_71_v : Value), ∀ (z_o3_71_c : Array Value), IntOwn .u8 z_o3_71_v z_o3_71_c r0_ → TT Try.prog 14 R 245 w0 I K [(1, a1_v), (2, ptr b1 0), (4, ptr b2 0), (5, z_o3_71_v)] [(Value.ownBlock s8_v, .cells s8_c 5 (0, 0)), (Value.ownBlock z_o3_71_v, .cells z_o3_71_c 5 (0, 0)), (some b2, .cells (enc .u8 (List.replicate 64 0)) 27 (0, 0)), (some b1, .cells (#[a0_0, a0_1]) 33 (0, 0))]),
      TT Try.prog 14 R 245 w0 I (.code (sub [1, 1, 0, 0, 0] B14) :: .inLoop (sub [1, 1, 0, 0, 0] B14) :: .inBlock 0 :: K) [(1, a1_v), (2, ptr b1 0), (4, ptr b2 0), (5, y_12_v)] [(Value.ownBlock s8_v, .cells s8_c 5 (0, 0)), (Value.ownBlock y_12_v, .cells y_12_c 5 (0, 0)), (some b2, .cells (enc .u8 (List.replicate 64 0)) 27 (0, 0)), (some b1, .cells (#[a0_0, a0_1]) 33 (0, 0))] := by
  intro k
  induction k with
  | zero => intro y_12 y_12_v y_12_c r0_ ho_y_12 h; simp [ref05_Begun__Sum.L0] at h
  | succ k ih =>
    intro y_12 y_12_v y_12_c r0_ ho_y_12 h hk
    unfold ref05_Begun__Sum.L0 at h
    refine TT.seq (x := sub [1, 1, 0, 0, 0, 0] B14) (y := sub [1, 1, 0, 0, 0, 1] B14) ?_
    refine TT.seq (x := sub [1, 1, 0, 0, 0, 0, 0] B14) (y := sub [1, 1, 0, 0, 0, 0, 1] B14) ?_
    refine TT.region (id := 2) (n := 4) (ops := (opsOf (sub [1, 1, 0, 0, 0, 0, 0] B14))) [(.pure, none), (.pure, none), (.pure, none), (.pure, none)] rfl ?_
    show DL _ _ _ _ _ _ _ _ _ _ [0, 1, 2, 3] _ _
    refine DL.pu 26 (y_12_v) rfl (p_move rfl rfl) ?_
    refine DL.pu 27 (.int .i64 (y_12.length : Int)) rfl (p_slLen ty_u22 (OwnV.sl ho_y_12) rfl rfl) ?_
    refine DL.pu 28 (.int .i64 (Int.tmod (y_12.length : Int) 128)) rfl (p_rem (by decide) rfl rfl rfl) ?_
    refine DL.pu 29 (.bool ((Int.tmod (y_12.length : Int) 128) != 112)) rfl (p_neq rfl rfl rfl) ?_
    refine DL.nil ?_
    by_cases c72 : ((Int.tmod (y_12.length : Int) 128) != 112) = true
    · have h73 := ite_true c72 h
      refine TT.cond_true (x := sub [1, 1, 0, 0, 0, 0, 1, 0] B14) (y := sub [1, 1, 0, 0, 0, 0, 1, 1] B14) rfl c72 ?_
      refine TT.skip ?_
      refine TT.block (c := sub [1, 1, 0, 0, 0, 1, 0] B14) ?_
      refine TT.region (id := 3) (n := 4) (ops := (opsOf (sub [1, 1, 0, 0, 0, 1, 0] B14))) [(.pure, none), (.alloc, none), (.actx, none), (.pure, none)] rfl ?_
      show DL _ _ _ _ _ _ _ _ _ _ [0, 1, 2, 3] _ _
      refine DL.pu 30 (y_12_v) rfl (p_move rfl rfl) ?_
      refine DL.newSl (zs := [0]) (n := 1) rfl (by decide) (i := 1) rfl (Wn.none rfl) rfl rfl rfl (f_buildSl (n := 1) (zs := [0]) (vs := [(0, .int .u8 0)]) elem22 rfl rfl (by kernel_rfl) rfl (args_val2 rfl)) ?_
      intro s75_v s75_c ho_s75
      obtain ⟨g76, h77⟩ := req_some h73
      refine DL.appendI (fun s78_v s78_c => [(Value.ownBlock s75_v, .cells s75_c 5 (0, 0)), (Value.ownBlock s8_v, .cells s8_c 5 (0, 0)), (Value.ownBlock s78_v, .cells s78_c 5 (0, 0)), (some b2, .cells (enc .u8 (List.replicate 64 0)) 27 (0, 0)), (some b1, .cells (#[a0_0, a0_1]) 33 (0, 0))]) elem22 (j := 2) rfl ho_y_12 g76 (by decide) (fun w hc => IntOwn.src (i := 0) ho_s75 hc rfl) (i := 2) rfl (Wn.none rfl) rfl rfl rfl rfl rfl rfl (fun _ _ => rfl) ?_
      intro s78_v s78_c ho_s78
      show DL _ _ _ _ _ _ _ _ _ _ _ _ [(Value.ownBlock s75_v, .cells s75_c 5 (0, 0)), (Value.ownBlock s8_v, .cells s8_c 5 (0, 0)), (Value.ownBlock s78_v, .cells s78_c 5 (0, 0)), (some b2, .cells (enc .u8 (List.replicate 64 0)) 27 (0, 0)), (some b1, .cells (#[a0_0, a0_1]) 33 (0, 0))]
      refine DL.pu 5 (s78_v) rfl (p_assign rfl rfl) ?_
      refine DL.nil ?_
      refine TT.inBlock ?_
      refine TT.inLoop ?_
      exact TT.pick [1, 2, 3, 4] (by decide) (TT.weak (ih (y_12 ++ [0]) s78_v s78_c r0_ ho_s78 h77 hk) (Sub.cons rfl (Sub.cons rfl (Sub.cons rfl (Sub.cons rfl (Sub.nil _))))))
    · replace c72 := Bool.eq_false_iff.mpr c72
      have h79 := ite_false c72 h
      refine TT.cond_false (x := sub [1, 1, 0, 0, 0, 0, 1, 0] B14) (y := sub [1, 1, 0, 0, 0, 0, 1, 1] B14) rfl c72 ?_
      refine TT.exit rfl ?_
      obtain rfl := Option.some.inj h79
      exact TT.weak (hk y_12_v y_12_c ho_y_12) (Sub.cons rfl (Sub.cons rfl (Sub.cons rfl (Sub.cons rfl (Sub.nil _)))))

def ref05_Begun__Sum.L1 (t86 : Int) : Nat → (List Int) → Int → Option (List Int)
  | 0, _, _ => none
  | k + 1, y_89, x7_90 => if (decide (0 ≤ x7_90)) = true then (nm (IntKind.u64.wrap (IntKind.i64.wrap (8 * x7_90))) fun t157 => req (0 ≤ t157) (req (y_89.length + [IntKind.u8.wrap (ishr .u64 t86 t157)].length ≤ 1099511627776) (ref05_Begun__Sum.L1 t86 k (y_89 ++ [IntKind.u8.wrap (ishr .u64 t86 t157)]) (IntKind.i64.wrap (x7_90 - 1))))) else (some y_89)
set_option maxRecDepth 20000 in
theorem ref05_Begun__Sum.L1_ok (a0_0 : Value) (a0_1 : Value) (b1 : Nat) (b2 : Nat) (s8_v : Value) (s8_c : Array Value) (t86 : Int) {R : Ending → World → Prop} {w0 : World} {M0 M I : Mem} {K : List Item} (hE : Env w0 M0 M I) :
    ∀ (k : Nat) (y_89 : List Int) (x7_90 : Int) (y_89_v : Value) (y_89_c : Array Value) (r0_ : List Int) (ho_y_89 : IntOwn .u8 y_89_v y_89_c y_89) (h : ref05_Begun__Sum.L1 t86 k y_89 x7_90 = some r0_) (hk : ∀ (z_o3_154_v : Value), ∀ (z_o3_154_c : Array Value), IntOwn .u8 z_o3_154_v z_o3_154_c r0_ → TT Try.prog 14 R 245 w0 I K [(2, ptr b1 0), (4, ptr b2 0), (5, z_o3_154_v)] [(Value.ownBlock s8_v, .cells s8_c 5 (0, 0)), (Value.ownBlock z_o3_154_v, .cells z_o3_154_c 5 (0, 0)), (some b2, .cells (enc .u8 (List.replicate 64 0)) 27 (0, 0)), (some b1, .cells (#[a0_0, a0_1]) 33 (0, 0))]),
      TT Try.prog 14 R 245 w0 I (.code (sub [1, 1, 1, 1, 1, 0, 1, 0, 0] B14) :: .inLoop (sub [1, 1, 1, 1, 1, 0, 1, 0, 0] B14) :: .inBlock 2 :: K) [(2, ptr b1 0), (4, ptr b2 0), (5, y_89_v), (6, .int .u64 t86), (7, .int .i64 x7_90)] [(Value.ownBlock s8_v, .cells s8_c 5 (0, 0)), (Value.ownBlock y_89_v, .cells y_89_c 5 (0, 0)), (some b2, .cells (enc .u8 (List.replicate 64 0)) 27 (0, 0)), (some b1, .cells (#[a0_0, a0_1]) 33 (0, 0))] := by
  intro k
  induction k with
  | zero => intro y_89 x7_90 y_89_v y_89_c r0_ ho_y_89 h; simp [ref05_Begun__Sum.L1] at h
  | succ k ih =>
    intro y_89 x7_90 y_89_v y_89_c r0_ ho_y_89 h hk
    unfold ref05_Begun__Sum.L1 at h
    refine TT.seq (x := sub [1, 1, 1, 1, 1, 0, 1, 0, 0, 0] B14) (y := sub [1, 1, 1, 1, 1, 0, 1, 0, 0, 1] B14) ?_
    refine TT.seq (x := sub [1, 1, 1, 1, 1, 0, 1, 0, 0, 0, 0] B14) (y := sub [1, 1, 1, 1, 1, 0, 1, 0, 0, 0, 1] B14) ?_
    refine TT.region (id := 7) (n := 2) (ops := (opsOf (sub [1, 1, 1, 1, 1, 0, 1, 0, 0, 0, 0] B14))) [(.pure, none), (.pure, none)] rfl ?_
    show DL _ _ _ _ _ _ _ _ _ _ [0, 1] _ _
    refine DL.pu 39 (.int .i64 x7_90) rfl (p_move rfl rfl) ?_
    refine DL.pu 40 (.bool (decide (0 ≤ x7_90))) rfl (p_geq rfl rfl rfl) ?_
    refine DL.nil ?_
    by_cases c155 : (decide (0 ≤ x7_90)) = true
    · have h156 := ite_true c155 h
      refine TT.cond_true (x := sub [1, 1, 1, 1, 1, 0, 1, 0, 0, 0, 1, 0] B14) (y := sub [1, 1, 1, 1, 1, 0, 1, 0, 0, 0, 1, 1] B14) rfl c155 ?_
      refine TT.skip ?_
      refine TT.seq (x := sub [1, 1, 1, 1, 1, 0, 1, 0, 0, 1, 0] B14) (y := sub [1, 1, 1, 1, 1, 0, 1, 0, 0, 1, 1] B14) ?_
      refine TT.block (c := sub [1, 1, 1, 1, 1, 0, 1, 0, 0, 1, 0, 0] B14) ?_
      refine TT.region (id := 9) (n := 10) (ops := (opsOf (sub [1, 1, 1, 1, 1, 0, 1, 0, 0, 1, 0, 0] B14))) [(.pure, none), (.pure, none), (.pure, none), (.pure, none), (.pure, none), (.pure, none), (.pure, none), (.alloc, none), (.actx, none), (.pure, none)] rfl ?_
      show DL _ _ _ _ _ _ _ _ _ _ [0, 1, 2, 3, 4, 5, 6, 7, 8, 9] _ _
      refine DL.pu 43 (y_89_v) rfl (p_move rfl rfl) ?_
      refine DL.pu 44 (.int .u64 t86) rfl (p_move rfl rfl) ?_
      refine DL.pu 45 (.int .i64 x7_90) rfl (p_move rfl rfl) ?_
      refine DL.pu 46 (.int .i64 (IntKind.i64.wrap (8 * x7_90))) rfl (p_mul rfl rfl rfl) ?_
      obtain ⟨t157, e158, h159⟩ := nm_some h156
      refine DL.pu 47 (.int .u64 t157) rfl (by rw [e158]; exact p_conv ty_u3 ty_u50 ⟨_, rfl⟩ rfl rfl) ?_
      obtain ⟨g160, h161⟩ := req_some h159
      refine DL.pu 48 (.int .u64 (ishr .u64 t86 t157)) rfl (p_shr g160 rfl rfl rfl) ?_
      refine DL.pu 49 (.int .u8 (IntKind.u8.wrap (ishr .u64 t86 t157))) rfl (p_conv ty_u35 ty_u5 ⟨_, rfl⟩ rfl rfl) ?_
      refine DL.newSl (zs := [IntKind.u8.wrap (ishr .u64 t86 t157)]) (n := 1) rfl (by decide) (i := 7) rfl (Wn.none rfl) rfl rfl rfl (f_buildSl (n := 1) (zs := [IntKind.u8.wrap (ishr .u64 t86 t157)]) (vs := [(0, .int .u8 (IntKind.u8.wrap (ishr .u64 t86 t157)))]) elem22 rfl rfl (by kernel_rfl) rfl (args_val2 rfl)) ?_
      intro s163_v s163_c ho_s163
      obtain ⟨g164, h165⟩ := req_some h161
      refine DL.appendI (fun s166_v s166_c => [(Value.ownBlock s163_v, .cells s163_c 5 (0, 0)), (Value.ownBlock s8_v, .cells s8_c 5 (0, 0)), (Value.ownBlock s166_v, .cells s166_c 5 (0, 0)), (some b2, .cells (enc .u8 (List.replicate 64 0)) 27 (0, 0)), (some b1, .cells (#[a0_0, a0_1]) 33 (0, 0))]) elem22 (j := 2) rfl ho_y_89 g164 (by decide) (fun w hc => IntOwn.src (i := 0) ho_s163 hc rfl) (i := 8) rfl (Wn.none rfl) rfl rfl rfl rfl rfl rfl (fun _ _ => rfl) ?_
      intro s166_v s166_c ho_s166
      show DL _ _ _ _ _ _ _ _ _ _ _ _ [(Value.ownBlock s163_v, .cells s163_c 5 (0, 0)), (Value.ownBlock s8_v, .cells s8_c 5 (0, 0)), (Value.ownBlock s166_v, .cells s166_c 5 (0, 0)), (some b2, .cells (enc .u8 (List.replicate 64 0)) 27 (0, 0)), (some b1, .cells (#[a0_0, a0_1]) 33 (0, 0))]
      refine DL.pu 5 (s166_v) rfl (p_assign rfl rfl) ?_
      refine DL.nil ?_
      refine TT.inBlock ?_
      refine TT.region (id := 8) (n := 3) (ops := (opsOf (sub [1, 1, 1, 1, 1, 0, 1, 0, 0, 1, 1] B14))) [(.pure, none), (.pure, none), (.pure, none)] rfl ?_
      show DL _ _ _ _ _ _ _ _ _ _ [0, 1, 2] _ _
      refine DL.pu 41 (.int .i64 x7_90) rfl (p_move rfl rfl) ?_
      refine DL.pu 42 (.int .i64 (IntKind.i64.wrap (x7_90 - 1))) rfl (p_sub rfl rfl rfl) ?_
      refine DL.pu 7 (.int .i64 (IntKind.i64.wrap (x7_90 - 1))) rfl (p_assign rfl rfl) ?_
      refine DL.nil ?_
      refine TT.inLoop ?_
      exact TT.pick [1, 2, 3, 4] (by decide) (TT.weak (ih (y_89 ++ [IntKind.u8.wrap (ishr .u64 t86 t157)]) (IntKind.i64.wrap (x7_90 - 1)) s166_v s166_c r0_ ho_s166 h165 hk) (Sub.cons rfl (Sub.cons rfl (Sub.cons rfl (Sub.cons rfl (Sub.cons rfl (Sub.nil _)))))))
    · replace c155 := Bool.eq_false_iff.mpr c155
      have h167 := ite_false c155 h
      refine TT.cond_false (x := sub [1, 1, 1, 1, 1, 0, 1, 0, 0, 0, 1, 0] B14) (y := sub [1, 1, 1, 1, 1, 0, 1, 0, 0, 0, 1, 1] B14) rfl c155 ?_
      refine TT.exit rfl ?_
      obtain rfl := Option.some.inj h167
      exact TT.weak (hk y_89_v y_89_c ho_y_89) (Sub.cons rfl (Sub.cons rfl (Sub.cons rfl (Sub.nil _))))

def ref05_Begun__Sum.L3 (z_o3_154 : List Int) (x9_175 : Int) : Nat → Int → (List Int) → Option (List Int)
  | 0, _, _ => none
  | k + 1, x11_746, y_747 => if (decide (x11_746 < 128)) = true then (req (0 ≤ (IntKind.i64.wrap (Int.tdiv x11_746 8))) (req ((IntKind.i64.wrap (Int.tdiv x11_746 8)) < 80) (nm (IntKind.u64.wrap ((y_747.getD ((IntKind.i64.wrap (Int.tdiv x11_746 8)).toNat) 0) * 256)) fun t824 => req (0 ≤ (IntKind.i64.wrap (x9_175 + x11_746))) (req ((IntKind.i64.wrap (x9_175 + x11_746)) < (z_o3_154.length : Int)) (nm (IntKind.u64.wrap (z_o3_154.getD ((IntKind.i64.wrap (x9_175 + x11_746)).toNat) 0)) fun t831 => ref05_Begun__Sum.L3 z_o3_154 x9_175 k (IntKind.i64.wrap (x11_746 + 1)) (y_747.set ((IntKind.i64.wrap (Int.tdiv x11_746 8)).toNat) (IntKind.u64.wrap (t824 + t831)))))))) else (some y_747)
set_option maxRecDepth 20000 in
theorem ref05_Begun__Sum.L3_ok (a0_0 : Value) (a0_1 : Value) (b1 : Nat) (b2 : Nat) (s8_v : Value) (s8_c : Array Value) (z_o3_154 : List Int) (z_o3_154_v : Value) (z_o3_154_c : Array Value) (b171 : Nat) (x9_175 : Int) (y_176 : List Int) (b745 : Nat) {R : Ending → World → Prop} {w0 : World} {M0 M I : Mem} {K : List Item} (hE : Env w0 M0 M I) (ho_z_o3_154 : IntOwn .u8 z_o3_154_v z_o3_154_c z_o3_154) :
    ∀ (k : Nat) (x11_746 : Int) (y_747 : List Int) (r0_ : List Int) (l_y_747 : y_747.length = 80) (h : ref05_Begun__Sum.L3 z_o3_154 x9_175 k x11_746 y_747 = some r0_) (hk : r0_.length = 80 → TT Try.prog 14 R 245 w0 I K [(2, ptr b1 0), (4, ptr b2 0), (5, z_o3_154_v), (8, ptr b171 0), (9, .int .i64 x9_175), (10, ptr b745 0)] [(some b745, .cells (enc .u64 r0_) 43 (0, 0)), (some b171, .cells (enc .u64 y_176) 42 (0, 0)), (Value.ownBlock s8_v, .cells s8_c 5 (0, 0)), (Value.ownBlock z_o3_154_v, .cells z_o3_154_c 5 (0, 0)), (some b2, .cells (enc .u8 (List.replicate 64 0)) 27 (0, 0)), (some b1, .cells (#[a0_0, a0_1]) 33 (0, 0))]),
      TT Try.prog 14 R 245 w0 I (.code (sub [1, 1, 1, 1, 1, 1, 1, 1, 0, 1, 0, 0, 1, 0, 0, 1, 0, 1, 0, 0] B14) :: .inLoop (sub [1, 1, 1, 1, 1, 1, 1, 1, 0, 1, 0, 0, 1, 0, 0, 1, 0, 1, 0, 0] B14) :: .inBlock 6 :: K) [(2, ptr b1 0), (4, ptr b2 0), (5, z_o3_154_v), (8, ptr b171 0), (9, .int .i64 x9_175), (10, ptr b745 0), (11, .int .i64 x11_746)] [(some b745, .cells (enc .u64 y_747) 43 (0, 0)), (some b171, .cells (enc .u64 y_176) 42 (0, 0)), (Value.ownBlock s8_v, .cells s8_c 5 (0, 0)), (Value.ownBlock z_o3_154_v, .cells z_o3_154_c 5 (0, 0)), (some b2, .cells (enc .u8 (List.replicate 64 0)) 27 (0, 0)), (some b1, .cells (#[a0_0, a0_1]) 33 (0, 0))] := by
  intro k
  induction k with
  | zero => intro x11_746 y_747 r0_ l_y_747 h; simp [ref05_Begun__Sum.L3] at h
  | succ k ih =>
    intro x11_746 y_747 r0_ l_y_747 h hk
    unfold ref05_Begun__Sum.L3 at h
    refine TT.seq (x := sub [1, 1, 1, 1, 1, 1, 1, 1, 0, 1, 0, 0, 1, 0, 0, 1, 0, 1, 0, 0, 0] B14) (y := sub [1, 1, 1, 1, 1, 1, 1, 1, 0, 1, 0, 0, 1, 0, 0, 1, 0, 1, 0, 0, 1] B14) ?_
    refine TT.seq (x := sub [1, 1, 1, 1, 1, 1, 1, 1, 0, 1, 0, 0, 1, 0, 0, 1, 0, 1, 0, 0, 0, 0] B14) (y := sub [1, 1, 1, 1, 1, 1, 1, 1, 0, 1, 0, 0, 1, 0, 0, 1, 0, 1, 0, 0, 0, 1] B14) ?_
    refine TT.region (id := 17) (n := 2) (ops := (opsOf (sub [1, 1, 1, 1, 1, 1, 1, 1, 0, 1, 0, 0, 1, 0, 0, 1, 0, 1, 0, 0, 0, 0] B14))) [(.pure, none), (.pure, none)] rfl ?_
    show DL _ _ _ _ _ _ _ _ _ _ [0, 1] _ _
    refine DL.pu 62 (.int .i64 x11_746) rfl (p_move rfl rfl) ?_
    refine DL.pu 63 (.bool (decide (x11_746 < 128))) rfl (p_lss rfl rfl rfl) ?_
    refine DL.nil ?_
    by_cases c817 : (decide (x11_746 < 128)) = true
    · have h818 := ite_true c817 h
      refine TT.cond_true (x := sub [1, 1, 1, 1, 1, 1, 1, 1, 0, 1, 0, 0, 1, 0, 0, 1, 0, 1, 0, 0, 0, 1, 0] B14) (y := sub [1, 1, 1, 1, 1, 1, 1, 1, 0, 1, 0, 0, 1, 0, 0, 1, 0, 1, 0, 0, 0, 1, 1] B14) rfl c817 ?_
      refine TT.skip ?_
      refine TT.seq (x := sub [1, 1, 1, 1, 1, 1, 1, 1, 0, 1, 0, 0, 1, 0, 0, 1, 0, 1, 0, 0, 1, 0] B14) (y := sub [1, 1, 1, 1, 1, 1, 1, 1, 0, 1, 0, 0, 1, 0, 0, 1, 0, 1, 0, 0, 1, 1] B14) ?_
      refine TT.block (c := sub [1, 1, 1, 1, 1, 1, 1, 1, 0, 1, 0, 0, 1, 0, 0, 1, 0, 1, 0, 0, 1, 0, 0] B14) ?_
      refine TT.regionD (id := 19) (ops := (opsOf (sub [1, 1, 1, 1, 1, 1, 1, 1, 0, 1, 0, 0, 1, 0, 0, 1, 0, 1, 0, 0, 1, 0, 0] B14))) [0, 1, 2, 3, 4, 5, 6, 7, 8, 9, 10, 11, 12, 13, 14, 15, 16] [0, 1, 0, 4, 12, 28, 60, 0, 0, 0, 768, 1920, 3968, 8064, 16380, 32767, 65535] [(.pure, none), (.pure, none), (.pure, none), (.pure, none), (.pure, none), (.look, some 0), (.pure, none), (.pure, none), (.pure, none), (.pure, none), (.pure, none), (.pure, none), (.quiet, none), (.pure, none), (.pure, none), (.pure, none), (.store, some 0)] mixed (by kernel_rfl) ?_
      intro w819 hl819 hj819 hz819
      refine DL.pu 66 (.int .i64 x11_746) rfl (p_move rfl rfl) ?_
      refine DL.pu 67 (.int .i64 (IntKind.i64.wrap (Int.tdiv x11_746 8))) rfl (p_quo (by decide) rfl rfl rfl) ?_
      refine DL.pu 68 (.int .i64 x11_746) rfl (p_move rfl rfl) ?_
      refine DL.pu 69 (.int .i64 (IntKind.i64.wrap (Int.tdiv x11_746 8))) rfl (p_quo (by decide) rfl rfl rfl) ?_
      obtain ⟨g820, h821⟩ := req_some h818
      obtain ⟨g822, h823⟩ := req_some h821
      refine DL.pu 70 (ptr b745 ((IntKind.i64.wrap (Int.tdiv x11_746 8)).toNat)) rfl (p_ix ty_u43 ty_s35 g820 g822 rfl rfl rfl) ?_
      refine DL.look (v := .int .u64 (y_747.getD ((IntKind.i64.wrap (Int.tdiv x11_746 8)).toNat) 0)) (x := 0) (b := b745) (i := 5) rfl (Wn.none rfl) rfl rfl rfl rfl rfl (List.mem_of_getElem? (i := 0) rfl) (b_load ty_a35 (enc_at l_y_747 g820 g822) rfl rfl) ?_
      obtain ⟨t824, e825, h826⟩ := nm_some h823
      refine DL.pu 72 (.int .u64 t824) rfl (by rw [e825]; exact p_mul rfl rfl rfl) ?_
      refine DL.pu 73 (z_o3_154_v) rfl (p_move rfl rfl) ?_
      refine DL.pu 74 (.int .i64 x9_175) rfl (p_move rfl rfl) ?_
      refine DL.pu 75 (.int .i64 x11_746) rfl (p_move rfl rfl) ?_
      refine DL.pu 76 (.int .i64 (IntKind.i64.wrap (x9_175 + x11_746))) rfl (p_add rfl rfl rfl) ?_
      obtain ⟨g827, h828⟩ := req_some h826
      obtain ⟨g829, h830⟩ := req_some h828
      refine DL.pu 77 (elp z_o3_154_v ((IntKind.i64.wrap (x9_175 + x11_746)).toNat)) rfl (p_slIx1 ty_u22 ty_s5 (OwnV.some ho_z_o3_154 g827 g829) g827 g829 rfl rfl rfl) ?_
      refine DL.qu 78 (.int .u8 (z_o3_154.getD ((IntKind.i64.wrap (x9_175 + x11_746)).toNat) 0)) rfl (f_loadEl (i := 3) rfl ho_z_o3_154 (encl_get .u8 (lt_len g827 g829)) ty_a5 rfl rfl) ?_
      obtain ⟨t831, e832, h833⟩ := nm_some h830
      refine DL.pu 79 (.int .u64 t831) rfl (by rw [e832]; exact p_conv ty_u5 ty_u35 ⟨_, rfl⟩ rfl rfl) ?_
      refine DL.pu 80 (.int .u64 (IntKind.u64.wrap (t824 + t831))) rfl (p_add rfl rfl rfl) ?_
      refine DL.pu 81 (ptr b745 ((IntKind.i64.wrap (Int.tdiv x11_746 8)).toNat)) rfl (p_ix ty_u43 ty_s35 g820 g822 rfl rfl rfl) ?_
      refine DL.put (H' := [(some b745, .cells (enc .u64 (y_747.set ((IntKind.i64.wrap (Int.tdiv x11_746 8)).toNat) (IntKind.u64.wrap (t824 + t831)))) 43 (0, 0)), (some b171, .cells (enc .u64 y_176) 42 (0, 0)), (Value.ownBlock s8_v, .cells s8_c 5 (0, 0)), (Value.ownBlock z_o3_154_v, .cells z_o3_154_c 5 (0, 0)), (some b2, .cells (enc .u8 (List.replicate 64 0)) 27 (0, 0)), (some b1, .cells (#[a0_0, a0_1]) 33 (0, 0))]) (i := 16) rfl (Wn.none rfl) rfl rfl (f_storeE (j := 0) ty_s35 rfl (lt_nat l_y_747 g820 g822) rfl rfl rfl) (keep_set (j := 0) hj819 rfl rfl rfl) ?_
      refine DL.nil' hl819 ?_
      refine TT.inBlock ?_
      refine TT.region (id := 18) (n := 3) (ops := (opsOf (sub [1, 1, 1, 1, 1, 1, 1, 1, 0, 1, 0, 0, 1, 0, 0, 1, 0, 1, 0, 0, 1, 1] B14))) [(.pure, none), (.pure, none), (.pure, none)] rfl ?_
      show DL _ _ _ _ _ _ _ _ _ _ [0, 1, 2] _ _
      refine DL.pu 64 (.int .i64 x11_746) rfl (p_move rfl rfl) ?_
      refine DL.pu 65 (.int .i64 (IntKind.i64.wrap (x11_746 + 1))) rfl (p_add rfl rfl rfl) ?_
      refine DL.pu 11 (.int .i64 (IntKind.i64.wrap (x11_746 + 1))) rfl (p_assign rfl rfl) ?_
      refine DL.nil ?_
      refine TT.inLoop ?_
      exact TT.weak (ih (IntKind.i64.wrap (x11_746 + 1)) (y_747.set ((IntKind.i64.wrap (Int.tdiv x11_746 8)).toNat) (IntKind.u64.wrap (t824 + t831))) r0_ (len_set l_y_747) h833 hk) (Sub.cons rfl (Sub.cons rfl (Sub.cons rfl (Sub.cons rfl (Sub.cons rfl (Sub.cons rfl (Sub.cons rfl (Sub.nil _))))))))
    · replace c817 := Bool.eq_false_iff.mpr c817
      have h834 := ite_false c817 h
      refine TT.cond_false (x := sub [1, 1, 1, 1, 1, 1, 1, 1, 0, 1, 0, 0, 1, 0, 0, 1, 0, 1, 0, 0, 0, 1, 0] B14) (y := sub [1, 1, 1, 1, 1, 1, 1, 1, 0, 1, 0, 0, 1, 0, 0, 1, 0, 1, 0, 0, 0, 1, 1] B14) rfl c817 ?_
      refine TT.exit rfl ?_
      obtain rfl := Option.some.inj h834
      exact TT.weak (hk l_y_747) (Sub.cons rfl (Sub.cons rfl (Sub.cons rfl (Sub.cons rfl (Sub.cons rfl (Sub.cons rfl (Sub.nil _)))))))

def ref05_Begun__Sum.L4 : Nat → Int → (List Int) → Option (List Int)
  | 0, _, _ => none
  | k + 1, x12_838, y_839 => if (decide (x12_838 < 80)) = true then (req (0 ≤ (IntKind.i64.wrap (x12_838 - 15))) (req ((IntKind.i64.wrap (x12_838 - 15)) < 80) (req (0 ≤ (IntKind.i64.wrap (x12_838 - 2))) (req ((IntKind.i64.wrap (x12_838 - 2)) < 80) (req (0 ≤ (IntKind.i64.wrap (x12_838 - 16))) (req ((IntKind.i64.wrap (x12_838 - 16)) < 80) ((ref05_ror.f (y_839.getD ((IntKind.i64.wrap (x12_838 - 15)).toNat) 0) 1).bind fun t959 => (ref05_ror.f (y_839.getD ((IntKind.i64.wrap (x12_838 - 15)).toNat) 0) 8).bind fun t962 => nm (ishr .u64 (y_839.getD ((IntKind.i64.wrap (x12_838 - 15)).toNat) 0) 7) fun t965 => nm (IntKind.u64.wrap ((y_839.getD ((IntKind.i64.wrap (x12_838 - 16)).toNat) 0) + (ixor .u64 (ixor .u64 t959 t962) t965))) fun t968 => req (0 ≤ (IntKind.i64.wrap (x12_838 - 7))) (req ((IntKind.i64.wrap (x12_838 - 7)) < 80) (nm (IntKind.u64.wrap (t968 + (y_839.getD ((IntKind.i64.wrap (x12_838 - 7)).toNat) 0))) fun t975 => (ref05_ror.f (y_839.getD ((IntKind.i64.wrap (x12_838 - 2)).toNat) 0) 19).bind fun t978 => (ref05_ror.f (y_839.getD ((IntKind.i64.wrap (x12_838 - 2)).toNat) 0) 61).bind fun t981 => nm (ishr .u64 (y_839.getD ((IntKind.i64.wrap (x12_838 - 2)).toNat) 0) 6) fun t984 => nm (IntKind.u64.wrap (t975 + (ixor .u64 (ixor .u64 t978 t981) t984))) fun t987 => req (0 ≤ x12_838) (req (x12_838 < 80) (ref05_Begun__Sum.L4 k (IntKind.i64.wrap (x12_838 + 1)) (y_839.set x12_838.toNat t987)))))))))))) else (some y_839)
set_option maxRecDepth 20000 in
theorem ref05_Begun__Sum.L4_ok (a0_0 : Value) (a0_1 : Value) (b1 : Nat) (b2 : Nat) (s8_v : Value) (s8_c : Array Value) (z_o3_154_v : Value) (z_o3_154_c : Array Value) (b171 : Nat) (x9_175 : Int) (y_176 : List Int) (b745 : Nat) {R : Ending → World → Prop} {w0 : World} {M0 M I : Mem} {K : List Item} (hE : Env w0 M0 M I) :
    ∀ (k : Nat) (x12_838 : Int) (y_839 : List Int) (r0_ : List Int) (l_y_839 : y_839.length = 80) (h : ref05_Begun__Sum.L4 k x12_838 y_839 = some r0_) (hk : r0_.length = 80 → TT Try.prog 14 R 245 w0 I K [(2, ptr b1 0), (4, ptr b2 0), (5, z_o3_154_v), (8, ptr b171 0), (9, .int .i64 x9_175), (10, ptr b745 0)] [(some b745, .cells (enc .u64 r0_) 43 (0, 0)), (some b171, .cells (enc .u64 y_176) 42 (0, 0)), (Value.ownBlock s8_v, .cells s8_c 5 (0, 0)), (Value.ownBlock z_o3_154_v, .cells z_o3_154_c 5 (0, 0)), (some b2, .cells (enc .u8 (List.replicate 64 0)) 27 (0, 0)), (some b1, .cells (#[a0_0, a0_1]) 33 (0, 0))]),
      TT Try.prog 14 R 245 w0 I (.code (sub [1, 1, 1, 1, 1, 1, 1, 1, 0, 1, 0, 0, 1, 0, 0, 1, 1, 0, 1, 0, 0] B14) :: .inLoop (sub [1, 1, 1, 1, 1, 1, 1, 1, 0, 1, 0, 0, 1, 0, 0, 1, 1, 0, 1, 0, 0] B14) :: .inBlock 8 :: K) [(2, ptr b1 0), (4, ptr b2 0), (5, z_o3_154_v), (8, ptr b171 0), (9, .int .i64 x9_175), (10, ptr b745 0), (12, .int .i64 x12_838)] [(some b745, .cells (enc .u64 y_839) 43 (0, 0)), (some b171, .cells (enc .u64 y_176) 42 (0, 0)), (Value.ownBlock s8_v, .cells s8_c 5 (0, 0)), (Value.ownBlock z_o3_154_v, .cells z_o3_154_c 5 (0, 0)), (some b2, .cells (enc .u8 (List.replicate 64 0)) 27 (0, 0)), (some b1, .cells (#[a0_0, a0_1]) 33 (0, 0))] := by
  intro k
  induction k with
  | zero => intro x12_838 y_839 r0_ l_y_839 h; simp [ref05_Begun__Sum.L4] at h
  | succ k ih =>
    intro x12_838 y_839 r0_ l_y_839 h hk
    unfold ref05_Begun__Sum.L4 at h
    refine TT.seq (x := sub [1, 1, 1, 1, 1, 1, 1, 1, 0, 1, 0, 0, 1, 0, 0, 1, 1, 0, 1, 0, 0, 0] B14) (y := sub [1, 1, 1, 1, 1, 1, 1, 1, 0, 1, 0, 0, 1, 0, 0, 1, 1, 0, 1, 0, 0, 1] B14) ?_
    refine TT.seq (x := sub [1, 1, 1, 1, 1, 1, 1, 1, 0, 1, 0, 0, 1, 0, 0, 1, 1, 0, 1, 0, 0, 0, 0] B14) (y := sub [1, 1, 1, 1, 1, 1, 1, 1, 0, 1, 0, 0, 1, 0, 0, 1, 1, 0, 1, 0, 0, 0, 1] B14) ?_
    refine TT.region (id := 21) (n := 2) (ops := (opsOf (sub [1, 1, 1, 1, 1, 1, 1, 1, 0, 1, 0, 0, 1, 0, 0, 1, 1, 0, 1, 0, 0, 0, 0] B14))) [(.pure, none), (.pure, none)] rfl ?_
    show DL _ _ _ _ _ _ _ _ _ _ [0, 1] _ _
    refine DL.pu 82 (.int .i64 x12_838) rfl (p_move rfl rfl) ?_
    refine DL.pu 83 (.bool (decide (x12_838 < 80))) rfl (p_lss rfl rfl rfl) ?_
    refine DL.nil ?_
    by_cases c943 : (decide (x12_838 < 80)) = true
    · have h944 := ite_true c943 h
      refine TT.cond_true (x := sub [1, 1, 1, 1, 1, 1, 1, 1, 0, 1, 0, 0, 1, 0, 0, 1, 1, 0, 1, 0, 0, 0, 1, 0] B14) (y := sub [1, 1, 1, 1, 1, 1, 1, 1, 0, 1, 0, 0, 1, 0, 0, 1, 1, 0, 1, 0, 0, 0, 1, 1] B14) rfl c943 ?_
      refine TT.skip ?_
      refine TT.seq (x := sub [1, 1, 1, 1, 1, 1, 1, 1, 0, 1, 0, 0, 1, 0, 0, 1, 1, 0, 1, 0, 0, 1, 0] B14) (y := sub [1, 1, 1, 1, 1, 1, 1, 1, 0, 1, 0, 0, 1, 0, 0, 1, 1, 0, 1, 0, 0, 1, 1] B14) ?_
      refine TT.block (c := sub [1, 1, 1, 1, 1, 1, 1, 1, 0, 1, 0, 0, 1, 0, 0, 1, 1, 0, 1, 0, 0, 1, 0, 0] B14) ?_
      refine TT.seq (x := sub [1, 1, 1, 1, 1, 1, 1, 1, 0, 1, 0, 0, 1, 0, 0, 1, 1, 0, 1, 0, 0, 1, 0, 0, 0] B14) (y := sub [1, 1, 1, 1, 1, 1, 1, 1, 0, 1, 0, 0, 1, 0, 0, 1, 1, 0, 1, 0, 0, 1, 0, 0, 1] B14) ?_
      refine TT.regionD (id := 23) (ops := (opsOf (sub [1, 1, 1, 1, 1, 1, 1, 1, 0, 1, 0, 0, 1, 0, 0, 1, 1, 0, 1, 0, 0, 1, 0, 0, 0] B14))) [0, 1, 2, 3, 4, 5, 6, 7, 8, 9] [0, 1, 3, 7, 0, 16, 48, 112, 15, 511] [(.pure, none), (.pure, none), (.pure, none), (.look, some 0), (.pure, none), (.pure, none), (.pure, none), (.look, some 0), (.pure, none), (.pure, none)] mixed (by kernel_rfl) ?_
      intro w945 hl945 hj945 hz945
      refine DL.pu 86 (.int .i64 x12_838) rfl (p_move rfl rfl) ?_
      refine DL.pu 87 (.int .i64 (IntKind.i64.wrap (x12_838 - 15))) rfl (p_sub rfl rfl rfl) ?_
      obtain ⟨g946, h947⟩ := req_some h944
      obtain ⟨g948, h949⟩ := req_some h947
      refine DL.pu 88 (ptr b745 ((IntKind.i64.wrap (x12_838 - 15)).toNat)) rfl (p_ix ty_u43 ty_s35 g946 g948 rfl rfl rfl) ?_
      refine DL.look (v := .int .u64 (y_839.getD ((IntKind.i64.wrap (x12_838 - 15)).toNat) 0)) (x := 0) (b := b745) (i := 3) rfl (Wn.none rfl) rfl rfl rfl rfl rfl (List.mem_of_getElem? (i := 0) rfl) (b_load ty_a35 (enc_at l_y_839 g946 g948) rfl rfl) ?_
      refine DL.pu 90 (.int .i64 x12_838) rfl (p_move rfl rfl) ?_
      refine DL.pu 91 (.int .i64 (IntKind.i64.wrap (x12_838 - 2))) rfl (p_sub rfl rfl rfl) ?_
      obtain ⟨g950, h951⟩ := req_some h949
      obtain ⟨g952, h953⟩ := req_some h951
      refine DL.pu 92 (ptr b745 ((IntKind.i64.wrap (x12_838 - 2)).toNat)) rfl (p_ix ty_u43 ty_s35 g950 g952 rfl rfl rfl) ?_
      refine DL.look (v := .int .u64 (y_839.getD ((IntKind.i64.wrap (x12_838 - 2)).toNat) 0)) (x := 0) (b := b745) (i := 7) rfl (Wn.none rfl) rfl rfl rfl rfl rfl (List.mem_of_getElem? (i := 0) rfl) (b_load ty_a35 (enc_at l_y_839 g950 g952) rfl rfl) ?_
      refine DL.pu 13 (.int .u64 (y_839.getD ((IntKind.i64.wrap (x12_838 - 15)).toNat) 0)) rfl (p_assign rfl rfl) ?_
      refine DL.pu 14 (.int .u64 (y_839.getD ((IntKind.i64.wrap (x12_838 - 2)).toNat) 0)) rfl (p_assign rfl rfl) ?_
      refine DL.nil' hl945 ?_
      refine TT.regionD (id := 24) (ops := (opsOf (sub [1, 1, 1, 1, 1, 1, 1, 1, 0, 1, 0, 0, 1, 0, 0, 1, 1, 0, 1, 0, 0, 1, 0, 0, 1] B14))) [0, 1, 2, 3, 4, 5, 6, 7, 8, 9, 10, 11, 12, 13, 14, 15, 16, 17, 18, 19, 20, 21, 22, 23, 24, 25, 26, 27, 28, 29] [0, 0, 2, 6, 14, 0, 32, 0, 224, 480, 0, 1024, 4064, 8190, 0, 16384, 49152, 114688, 262142, 0, 524768, 0, 3670496, 7864800, 0, 16777216, 66585056, 134217726, 268435455, 536870911] [(.pure, none), (.pure, none), (.pure, none), (.pure, none), (.look, some 0), (.pure, none), (.quiet, none), (.pure, none), (.quiet, none), (.pure, none), (.pure, none), (.pure, none), (.pure, none), (.pure, none), (.pure, none), (.pure, none), (.pure, none), (.look, some 0), (.pure, none), (.pure, none), (.quiet, none), (.pure, none), (.quiet, none), (.pure, none), (.pure, none), (.pure, none), (.pure, none), (.pure, none), (.pure, none), (.store, some 0)] mixed (by kernel_rfl) ?_
      intro w954 hl954 hj954 hz954
      refine DL.pu 94 (.int .i64 x12_838) rfl (p_move rfl rfl) ?_
      refine DL.pu 95 (.int .i64 x12_838) rfl (p_move rfl rfl) ?_
      refine DL.pu 96 (.int .i64 (IntKind.i64.wrap (x12_838 - 16))) rfl (p_sub rfl rfl rfl) ?_
      obtain ⟨g955, h956⟩ := req_some h953
      obtain ⟨g957, h958⟩ := req_some h956
      refine DL.pu 97 (ptr b745 ((IntKind.i64.wrap (x12_838 - 16)).toNat)) rfl (p_ix ty_u43 ty_s35 g955 g957 rfl rfl rfl) ?_
      refine DL.look (v := .int .u64 (y_839.getD ((IntKind.i64.wrap (x12_838 - 16)).toNat) 0)) (x := 0) (b := b745) (i := 4) rfl (Wn.none rfl) rfl rfl rfl rfl rfl (List.mem_of_getElem? (i := 0) rfl) (b_load ty_a35 (enc_at l_y_839 g955 g957) rfl rfl) ?_
      refine DL.pu 99 (.int .u64 (y_839.getD ((IntKind.i64.wrap (x12_838 - 15)).toNat) 0)) rfl (p_move rfl rfl) ?_
      obtain ⟨t959, h960, h961⟩ := bind_some h958
      refine DL.qu 100 (.int .u64 t959) rfl (f_callR rfl rfl (args_val (vs := [.int .u64 (y_839.getD ((IntKind.i64.wrap (x12_838 - 15)).toNat) 0), .int .u64 1]) rfl) (fun w => enter18 _ w) (fun w hc => ref05_ror.val h960 (M := M) w (hE.ext hc) )) ?_
      refine DL.pu 101 (.int .u64 (y_839.getD ((IntKind.i64.wrap (x12_838 - 15)).toNat) 0)) rfl (p_move rfl rfl) ?_
      obtain ⟨t962, h963, h964⟩ := bind_some h961
      refine DL.qu 102 (.int .u64 t962) rfl (f_callR rfl rfl (args_val (vs := [.int .u64 (y_839.getD ((IntKind.i64.wrap (x12_838 - 15)).toNat) 0), .int .u64 8]) rfl) (fun w => enter18 _ w) (fun w hc => ref05_ror.val h963 (M := M) w (hE.ext hc) )) ?_
      refine DL.pu 103 (.int .u64 (ixor .u64 t959 t962)) rfl (p_xor rfl rfl rfl) ?_
      refine DL.pu 104 (.int .u64 (y_839.getD ((IntKind.i64.wrap (x12_838 - 15)).toNat) 0)) rfl (p_move rfl rfl) ?_
      obtain ⟨t965, e966, h967⟩ := nm_some h964
      refine DL.pu 105 (.int .u64 t965) rfl (by rw [e966]; exact p_shr (by decide) rfl rfl rfl) ?_
      refine DL.pu 106 (.int .u64 (ixor .u64 (ixor .u64 t959 t962) t965)) rfl (p_xor rfl rfl rfl) ?_
      obtain ⟨t968, e969, h970⟩ := nm_some h967
      refine DL.pu 107 (.int .u64 t968) rfl (by rw [e969]; exact p_add rfl rfl rfl) ?_
      refine DL.pu 108 (.int .i64 x12_838) rfl (p_move rfl rfl) ?_
      refine DL.pu 109 (.int .i64 (IntKind.i64.wrap (x12_838 - 7))) rfl (p_sub rfl rfl rfl) ?_
      obtain ⟨g971, h972⟩ := req_some h970
      obtain ⟨g973, h974⟩ := req_some h972
      refine DL.pu 110 (ptr b745 ((IntKind.i64.wrap (x12_838 - 7)).toNat)) rfl (p_ix ty_u43 ty_s35 g971 g973 rfl rfl rfl) ?_
      refine DL.look (v := .int .u64 (y_839.getD ((IntKind.i64.wrap (x12_838 - 7)).toNat) 0)) (x := 0) (b := b745) (i := 17) rfl (Wn.none rfl) rfl rfl rfl rfl rfl (List.mem_of_getElem? (i := 0) rfl) (b_load ty_a35 (enc_at l_y_839 g971 g973) rfl rfl) ?_
      obtain ⟨t975, e976, h977⟩ := nm_some h974
      refine DL.pu 112 (.int .u64 t975) rfl (by rw [e976]; exact p_add rfl rfl rfl) ?_
      refine DL.pu 113 (.int .u64 (y_839.getD ((IntKind.i64.wrap (x12_838 - 2)).toNat) 0)) rfl (p_move rfl rfl) ?_
      obtain ⟨t978, h979, h980⟩ := bind_some h977
      refine DL.qu 114 (.int .u64 t978) rfl (f_callR rfl rfl (args_val (vs := [.int .u64 (y_839.getD ((IntKind.i64.wrap (x12_838 - 2)).toNat) 0), .int .u64 19]) rfl) (fun w => enter18 _ w) (fun w hc => ref05_ror.val h979 (M := M) w (hE.ext hc) )) ?_
      refine DL.pu 115 (.int .u64 (y_839.getD ((IntKind.i64.wrap (x12_838 - 2)).toNat) 0)) rfl (p_move rfl rfl) ?_
      obtain ⟨t981, h982, h983⟩ := bind_some h980
      refine DL.qu 116 (.int .u64 t981) rfl (f_callR rfl rfl (args_val (vs := [.int .u64 (y_839.getD ((IntKind.i64.wrap (x12_838 - 2)).toNat) 0), .int .u64 61]) rfl) (fun w => enter18 _ w) (fun w hc => ref05_ror.val h982 (M := M) w (hE.ext hc) )) ?_
      refine DL.pu 117 (.int .u64 (ixor .u64 t978 t981)) rfl (p_xor rfl rfl rfl) ?_
      refine DL.pu 118 (.int .u64 (y_839.getD ((IntKind.i64.wrap (x12_838 - 2)).toNat) 0)) rfl (p_move rfl rfl) ?_
      obtain ⟨t984, e985, h986⟩ := nm_some h983
      refine DL.pu 119 (.int .u64 t984) rfl (by rw [e985]; exact p_shr (by decide) rfl rfl rfl) ?_
      refine DL.pu 120 (.int .u64 (ixor .u64 (ixor .u64 t978 t981) t984)) rfl (p_xor rfl rfl rfl) ?_
      obtain ⟨t987, e988, h989⟩ := nm_some h986
      refine DL.pu 121 (.int .u64 t987) rfl (by rw [e988]; exact p_add rfl rfl rfl) ?_
      obtain ⟨g990, h991⟩ := req_some h989
      obtain ⟨g992, h993⟩ := req_some h991
      refine DL.pu 122 (ptr b745 x12_838.toNat) rfl (p_ix ty_u43 ty_s35 g990 g992 rfl rfl rfl) ?_
      refine DL.put (H' := [(some b745, .cells (enc .u64 (y_839.set x12_838.toNat t987)) 43 (0, 0)), (some b171, .cells (enc .u64 y_176) 42 (0, 0)), (Value.ownBlock s8_v, .cells s8_c 5 (0, 0)), (Value.ownBlock z_o3_154_v, .cells z_o3_154_c 5 (0, 0)), (some b2, .cells (enc .u8 (List.replicate 64 0)) 27 (0, 0)), (some b1, .cells (#[a0_0, a0_1]) 33 (0, 0))]) (i := 29) rfl (Wn.none rfl) rfl rfl (f_storeE (j := 0) ty_s35 rfl (lt_nat l_y_839 g990 g992) rfl rfl rfl) (keep_set (j := 0) hj954 rfl rfl rfl) ?_
      refine DL.nil' hl954 ?_
      refine TT.inBlock ?_
      refine TT.region (id := 22) (n := 3) (ops := (opsOf (sub [1, 1, 1, 1, 1, 1, 1, 1, 0, 1, 0, 0, 1, 0, 0, 1, 1, 0, 1, 0, 0, 1, 1] B14))) [(.pure, none), (.pure, none), (.pure, none)] rfl ?_
      show DL _ _ _ _ _ _ _ _ _ _ [0, 1, 2] _ _
      refine DL.pu 84 (.int .i64 x12_838) rfl (p_move rfl rfl) ?_
      refine DL.pu 85 (.int .i64 (IntKind.i64.wrap (x12_838 + 1))) rfl (p_add rfl rfl rfl) ?_
      refine DL.pu 12 (.int .i64 (IntKind.i64.wrap (x12_838 + 1))) rfl (p_assign rfl rfl) ?_
      refine DL.nil ?_
      refine TT.inLoop ?_
      exact TT.weak (ih (IntKind.i64.wrap (x12_838 + 1)) (y_839.set x12_838.toNat t987) r0_ (len_set l_y_839) h993 hk) (Sub.cons rfl (Sub.cons rfl (Sub.cons rfl (Sub.cons rfl (Sub.cons rfl (Sub.cons rfl (Sub.cons rfl (Sub.nil _))))))))
    · replace c943 := Bool.eq_false_iff.mpr c943
      have h994 := ite_false c943 h
      refine TT.cond_false (x := sub [1, 1, 1, 1, 1, 1, 1, 1, 0, 1, 0, 0, 1, 0, 0, 1, 1, 0, 1, 0, 0, 0, 1, 0] B14) (y := sub [1, 1, 1, 1, 1, 1, 1, 1, 0, 1, 0, 0, 1, 0, 0, 1, 1, 0, 1, 0, 0, 0, 1, 1] B14) rfl c943 ?_
      refine TT.exit rfl ?_
      obtain rfl := Option.some.inj h994
      exact TT.weak (hk l_y_839) (Sub.cons rfl (Sub.cons rfl (Sub.cons rfl (Sub.cons rfl (Sub.cons rfl (Sub.cons rfl (Sub.nil _)))))))

def ref05_Begun__Sum.L5 (a0 : Begun) (z_b745_942 : List Int) : Nat → Int → (List Int) → Option (List Int)
  | 0, _, _ => none
  | k + 1, x16_999, y_1000 => if (decide (x16_999 < 80)) = true then ((ref05_ror.f (y_1000.getD ((4 : Int).toNat) 0) 14).bind fun t1117 => (ref05_ror.f (y_1000.getD ((4 : Int).toNat) 0) 18).bind fun t1120 => (ref05_ror.f (y_1000.getD ((4 : Int).toNat) 0) 41).bind fun t1123 => nm (IntKind.u64.wrap ((y_1000.getD ((7 : Int).toNat) 0) + (ixor .u64 (ixor .u64 t1117 t1120) t1123))) fun t1126 => nm (iand .u64 (y_1000.getD ((4 : Int).toNat) 0) (y_1000.getD ((5 : Int).toNat) 0)) fun t1129 => nm (iand .u64 (inot .u64 (y_1000.getD ((4 : Int).toNat) 0)) (y_1000.getD ((6 : Int).toNat) 0)) fun t1132 => nm (IntKind.u64.wrap (t1126 + (ixor .u64 t1129 t1132))) fun t1135 => req (0 ≤ x16_999) (req (x16_999 < ((Begun.k a0).length : Int)) (nm (IntKind.u64.wrap (t1135 + ((Begun.k a0).getD x16_999.toNat 0))) fun t1142 => req (x16_999 < 80) (nm (IntKind.u64.wrap (t1142 + (z_b745_942.getD x16_999.toNat 0))) fun t1147 => (ref05_ror.f (y_1000.getD ((0 : Int).toNat) 0) 28).bind fun t1151 => (ref05_ror.f (y_1000.getD ((0 : Int).toNat) 0) 34).bind fun t1154 => (ref05_ror.f (y_1000.getD ((0 : Int).toNat) 0) 39).bind fun t1157 => nm (iand .u64 (y_1000.getD ((0 : Int).toNat) 0) (y_1000.getD ((1 : Int).toNat) 0)) fun t1160 => nm (iand .u64 (y_1000.getD ((0 : Int).toNat) 0) (y_1000.getD ((2 : Int).toNat) 0)) fun t1163 => nm (iand .u64 (y_1000.getD ((1 : Int).toNat) 0) (y_1000.getD ((2 : Int).toNat) 0)) fun t1166 => nm (IntKind.u64.wrap ((ixor .u64 (ixor .u64 t1151 t1154) t1157) + (ixor .u64 (ixor .u64 t1160 t1163) t1166))) fun t1169 => nm (IntKind.u64.wrap ((y_1000.getD ((3 : Int).toNat) 0) + t1147)) fun t1172 => ref05_Begun__Sum.L5 a0 z_b745_942 k (IntKind.i64.wrap (x16_999 + 1)) [IntKind.u64.wrap (t1147 + t1169), y_1000.getD ((0 : Int).toNat) 0, y_1000.getD ((1 : Int).toNat) 0, y_1000.getD ((2 : Int).toNat) 0, t1172, y_1000.getD ((4 : Int).toNat) 0, y_1000.getD ((5 : Int).toNat) 0, y_1000.getD ((6 : Int).toNat) 0])))) else (some y_1000)
set_option maxRecDepth 20000 in
theorem ref05_Begun__Sum.L5_ok (a0 : Begun) (a0_0 : Value) (a0_1 : Value) (b1 : Nat) (b2 : Nat) (s8_v : Value) (s8_c : Array Value) (z_o3_154_v : Value) (z_o3_154_c : Array Value) (b171 : Nat) (x9_175 : Int) (y_176 : List Int) (b745 : Nat) (z_b745_942 : List Int) (b998 : Nat) {R : Ending → World → Prop} {w0 : World} {M0 M I : Mem} {K : List Item} (hE : Env w0 M0 M I) (hr_a0_1 : IntRow M .u64 a0_1 (Begun.k a0)) (l_z_b745_942 : z_b745_942.length = 80) :
    ∀ (k : Nat) (x16_999 : Int) (y_1000 : List Int) (r0_ : List Int) (l_y_1000 : y_1000.length = 8) (h : ref05_Begun__Sum.L5 a0 z_b745_942 k x16_999 y_1000 = some r0_) (hk : r0_.length = 8 → TT Try.prog 14 R 245 w0 I K [(2, ptr b1 0), (4, ptr b2 0), (5, z_o3_154_v), (8, ptr b171 0), (9, .int .i64 x9_175), (15, ptr b998 0)] [(some b998, .cells (enc .u64 r0_) 42 (0, 0)), (some b745, .cells (enc .u64 z_b745_942) 43 (0, 0)), (some b171, .cells (enc .u64 y_176) 42 (0, 0)), (Value.ownBlock s8_v, .cells s8_c 5 (0, 0)), (Value.ownBlock z_o3_154_v, .cells z_o3_154_c 5 (0, 0)), (some b2, .cells (enc .u8 (List.replicate 64 0)) 27 (0, 0)), (some b1, .cells (#[a0_0, a0_1]) 33 (0, 0))]),
      TT Try.prog 14 R 245 w0 I (.code (sub [1, 1, 1, 1, 1, 1, 1, 1, 0, 1, 0, 0, 1, 0, 0, 1, 1, 1, 1, 0, 1, 0, 0] B14) :: .inLoop (sub [1, 1, 1, 1, 1, 1, 1, 1, 0, 1, 0, 0, 1, 0, 0, 1, 1, 1, 1, 0, 1, 0, 0] B14) :: .inBlock 10 :: K) [(2, ptr b1 0), (4, ptr b2 0), (5, z_o3_154_v), (8, ptr b171 0), (9, .int .i64 x9_175), (10, ptr b745 0), (15, ptr b998 0), (16, .int .i64 x16_999)] [(some b998, .cells (enc .u64 y_1000) 42 (0, 0)), (some b745, .cells (enc .u64 z_b745_942) 43 (0, 0)), (some b171, .cells (enc .u64 y_176) 42 (0, 0)), (Value.ownBlock s8_v, .cells s8_c 5 (0, 0)), (Value.ownBlock z_o3_154_v, .cells z_o3_154_c 5 (0, 0)), (some b2, .cells (enc .u8 (List.replicate 64 0)) 27 (0, 0)), (some b1, .cells (#[a0_0, a0_1]) 33 (0, 0))] := by
  intro k
  induction k with
  | zero => intro x16_999 y_1000 r0_ l_y_1000 h; simp [ref05_Begun__Sum.L5] at h
  | succ k ih =>
    intro x16_999 y_1000 r0_ l_y_1000 h hk
    unfold ref05_Begun__Sum.L5 at h
    refine TT.seq (x := sub [1, 1, 1, 1, 1, 1, 1, 1, 0, 1, 0, 0, 1, 0, 0, 1, 1, 1, 1, 0, 1, 0, 0, 0] B14) (y := sub [1, 1, 1, 1, 1, 1, 1, 1, 0, 1, 0, 0, 1, 0, 0, 1, 1, 1, 1, 0, 1, 0, 0, 1] B14) ?_
    refine TT.seq (x := sub [1, 1, 1, 1, 1, 1, 1, 1, 0, 1, 0, 0, 1, 0, 0, 1, 1, 1, 1, 0, 1, 0, 0, 0, 0] B14) (y := sub [1, 1, 1, 1, 1, 1, 1, 1, 0, 1, 0, 0, 1, 0, 0, 1, 1, 1, 1, 0, 1, 0, 0, 0, 1] B14) ?_
    refine TT.region (id := 27) (n := 2) (ops := (opsOf (sub [1, 1, 1, 1, 1, 1, 1, 1, 0, 1, 0, 0, 1, 0, 0, 1, 1, 1, 1, 0, 1, 0, 0, 0, 0] B14))) [(.pure, none), (.pure, none)] rfl ?_
    show DL _ _ _ _ _ _ _ _ _ _ [0, 1] _ _
    refine DL.pu 124 (.int .i64 x16_999) rfl (p_move rfl rfl) ?_
    refine DL.pu 125 (.bool (decide (x16_999 < 80))) rfl (p_lss rfl rfl rfl) ?_
    refine DL.nil ?_
    by_cases c1114 : (decide (x16_999 < 80)) = true
    · have h1115 := ite_true c1114 h
      refine TT.cond_true (x := sub [1, 1, 1, 1, 1, 1, 1, 1, 0, 1, 0, 0, 1, 0, 0, 1, 1, 1, 1, 0, 1, 0, 0, 0, 1, 0] B14) (y := sub [1, 1, 1, 1, 1, 1, 1, 1, 0, 1, 0, 0, 1, 0, 0, 1, 1, 1, 1, 0, 1, 0, 0, 0, 1, 1] B14) rfl c1114 ?_
      refine TT.skip ?_
      refine TT.seq (x := sub [1, 1, 1, 1, 1, 1, 1, 1, 0, 1, 0, 0, 1, 0, 0, 1, 1, 1, 1, 0, 1, 0, 0, 1, 0] B14) (y := sub [1, 1, 1, 1, 1, 1, 1, 1, 0, 1, 0, 0, 1, 0, 0, 1, 1, 1, 1, 0, 1, 0, 0, 1, 1] B14) ?_
      refine TT.block (c := sub [1, 1, 1, 1, 1, 1, 1, 1, 0, 1, 0, 0, 1, 0, 0, 1, 1, 1, 1, 0, 1, 0, 0, 1, 0, 0] B14) ?_
      refine TT.seq (x := sub [1, 1, 1, 1, 1, 1, 1, 1, 0, 1, 0, 0, 1, 0, 0, 1, 1, 1, 1, 0, 1, 0, 0, 1, 0, 0, 0] B14) (y := sub [1, 1, 1, 1, 1, 1, 1, 1, 0, 1, 0, 0, 1, 0, 0, 1, 1, 1, 1, 0, 1, 0, 0, 1, 0, 0, 1] B14) ?_
      refine TT.regionD (id := 29) (ops := (opsOf (sub [1, 1, 1, 1, 1, 1, 1, 1, 0, 1, 0, 0, 1, 0, 0, 1, 1, 1, 1, 0, 1, 0, 0, 1, 0, 0, 0] B14))) [0, 1, 2, 3, 4, 5, 6, 7, 8, 9, 10, 11, 12, 13, 14, 15, 16, 17, 18, 19, 20, 21, 22, 23, 24, 25, 26, 27, 28, 29, 30, 31, 32, 33, 34, 35, 36, 37] [0, 1, 0, 4, 12, 0, 32, 124, 252, 0, 512, 1788, 4092, 8191, 0, 16384, 0, 65536, 245760, 0, 524288, 1572864, 0, 4194304, 16252928, 33538048, 67108863, 0, 134217728, 0, 939524096, 2013265920, 4294967295, 0, 8589934592, 25769803776, 68719476735, 137438953471] [(.pure, none), (.look, some 0), (.pure, none), (.look, some 0), (.quiet, none), (.pure, none), (.look, some 0), (.quiet, none), (.pure, none), (.pure, none), (.look, some 0), (.quiet, none), (.pure, none), (.pure, none), (.pure, none), (.look, some 0), (.pure, none), (.look, some 0), (.pure, none), (.pure, none), (.look, some 0), (.pure, none), (.pure, none), (.look, some 0), (.pure, none), (.pure, none), (.pure, none), (.pure, none), (.look, some 6), (.pure, none), (.pure, none), (.quiet, none), (.pure, none), (.pure, none), (.pure, none), (.look, some 1), (.pure, none), (.pure, none)] mixed (by kernel_rfl) ?_
      intro w1116 hl1116 hj1116 hz1116
      refine DL.pu 128 (ptr b998 ((7 : Int).toNat)) rfl (p_ix ty_u42 ty_s35 (by decide) (by decide) rfl rfl rfl) ?_
      refine DL.look (v := .int .u64 (y_1000.getD ((7 : Int).toNat) 0)) (x := 0) (b := b998) (i := 1) rfl (Wn.none rfl) rfl rfl rfl rfl rfl (List.mem_of_getElem? (i := 0) rfl) (b_load ty_a35 (enc_at l_y_1000 (by decide) (by decide)) rfl rfl) ?_
      refine DL.pu 130 (ptr b998 ((4 : Int).toNat)) rfl (p_ix ty_u42 ty_s35 (by decide) (by decide) rfl rfl rfl) ?_
      refine DL.look (v := .int .u64 (y_1000.getD ((4 : Int).toNat) 0)) (x := 0) (b := b998) (i := 3) rfl (Wn.none rfl) rfl rfl rfl rfl rfl (List.mem_of_getElem? (i := 0) rfl) (b_load ty_a35 (enc_at l_y_1000 (by decide) (by decide)) rfl rfl) ?_
      obtain ⟨t1117, h1118, h1119⟩ := bind_some h1115
      refine DL.qu 132 (.int .u64 t1117) rfl (f_callR rfl rfl (args_val (vs := [.int .u64 (y_1000.getD ((4 : Int).toNat) 0), .int .u64 14]) rfl) (fun w => enter18 _ w) (fun w hc => ref05_ror.val h1118 (M := M) w (hE.ext hc) )) ?_
      refine DL.pu 133 (ptr b998 ((4 : Int).toNat)) rfl (p_ix ty_u42 ty_s35 (by decide) (by decide) rfl rfl rfl) ?_
      refine DL.look (v := .int .u64 (y_1000.getD ((4 : Int).toNat) 0)) (x := 0) (b := b998) (i := 6) rfl (Wn.none rfl) rfl rfl rfl rfl rfl (List.mem_of_getElem? (i := 0) rfl) (b_load ty_a35 (enc_at l_y_1000 (by decide) (by decide)) rfl rfl) ?_
      obtain ⟨t1120, h1121, h1122⟩ := bind_some h1119
      refine DL.qu 135 (.int .u64 t1120) rfl (f_callR rfl rfl (args_val (vs := [.int .u64 (y_1000.getD ((4 : Int).toNat) 0), .int .u64 18]) rfl) (fun w => enter18 _ w) (fun w hc => ref05_ror.val h1121 (M := M) w (hE.ext hc) )) ?_
      refine DL.pu 136 (.int .u64 (ixor .u64 t1117 t1120)) rfl (p_xor rfl rfl rfl) ?_
      refine DL.pu 137 (ptr b998 ((4 : Int).toNat)) rfl (p_ix ty_u42 ty_s35 (by decide) (by decide) rfl rfl rfl) ?_
      refine DL.look (v := .int .u64 (y_1000.getD ((4 : Int).toNat) 0)) (x := 0) (b := b998) (i := 10) rfl (Wn.none rfl) rfl rfl rfl rfl rfl (List.mem_of_getElem? (i := 0) rfl) (b_load ty_a35 (enc_at l_y_1000 (by decide) (by decide)) rfl rfl) ?_
      obtain ⟨t1123, h1124, h1125⟩ := bind_some h1122
      refine DL.qu 139 (.int .u64 t1123) rfl (f_callR rfl rfl (args_val (vs := [.int .u64 (y_1000.getD ((4 : Int).toNat) 0), .int .u64 41]) rfl) (fun w => enter18 _ w) (fun w hc => ref05_ror.val h1124 (M := M) w (hE.ext hc) )) ?_
      refine DL.pu 140 (.int .u64 (ixor .u64 (ixor .u64 t1117 t1120) t1123)) rfl (p_xor rfl rfl rfl) ?_
      obtain ⟨t1126, e1127, h1128⟩ := nm_some h1125
      refine DL.pu 141 (.int .u64 t1126) rfl (by rw [e1127]; exact p_add rfl rfl rfl) ?_
      refine DL.pu 142 (ptr b998 ((4 : Int).toNat)) rfl (p_ix ty_u42 ty_s35 (by decide) (by decide) rfl rfl rfl) ?_
      refine DL.look (v := .int .u64 (y_1000.getD ((4 : Int).toNat) 0)) (x := 0) (b := b998) (i := 15) rfl (Wn.none rfl) rfl rfl rfl rfl rfl (List.mem_of_getElem? (i := 0) rfl) (b_load ty_a35 (enc_at l_y_1000 (by decide) (by decide)) rfl rfl) ?_
      refine DL.pu 144 (ptr b998 ((5 : Int).toNat)) rfl (p_ix ty_u42 ty_s35 (by decide) (by decide) rfl rfl rfl) ?_
      refine DL.look (v := .int .u64 (y_1000.getD ((5 : Int).toNat) 0)) (x := 0) (b := b998) (i := 17) rfl (Wn.none rfl) rfl rfl rfl rfl rfl (List.mem_of_getElem? (i := 0) rfl) (b_load ty_a35 (enc_at l_y_1000 (by decide) (by decide)) rfl rfl) ?_
      obtain ⟨t1129, e1130, h1131⟩ := nm_some h1128
      refine DL.pu 146 (.int .u64 t1129) rfl (by rw [e1130]; exact p_and rfl rfl rfl) ?_
      refine DL.pu 147 (ptr b998 ((4 : Int).toNat)) rfl (p_ix ty_u42 ty_s35 (by decide) (by decide) rfl rfl rfl) ?_
      refine DL.look (v := .int .u64 (y_1000.getD ((4 : Int).toNat) 0)) (x := 0) (b := b998) (i := 20) rfl (Wn.none rfl) rfl rfl rfl rfl rfl (List.mem_of_getElem? (i := 0) rfl) (b_load ty_a35 (enc_at l_y_1000 (by decide) (by decide)) rfl rfl) ?_
      refine DL.pu 149 (.int .u64 (inot .u64 (y_1000.getD ((4 : Int).toNat) 0))) rfl (p_com rfl rfl) ?_
      refine DL.pu 150 (ptr b998 ((6 : Int).toNat)) rfl (p_ix ty_u42 ty_s35 (by decide) (by decide) rfl rfl rfl) ?_
      refine DL.look (v := .int .u64 (y_1000.getD ((6 : Int).toNat) 0)) (x := 0) (b := b998) (i := 23) rfl (Wn.none rfl) rfl rfl rfl rfl rfl (List.mem_of_getElem? (i := 0) rfl) (b_load ty_a35 (enc_at l_y_1000 (by decide) (by decide)) rfl rfl) ?_
      obtain ⟨t1132, e1133, h1134⟩ := nm_some h1131
      refine DL.pu 152 (.int .u64 t1132) rfl (by rw [e1133]; exact p_and rfl rfl rfl) ?_
      refine DL.pu 153 (.int .u64 (ixor .u64 t1129 t1132)) rfl (p_xor rfl rfl rfl) ?_
      obtain ⟨t1135, e1136, h1137⟩ := nm_some h1134
      refine DL.pu 154 (.int .u64 t1135) rfl (by rw [e1136]; exact p_add rfl rfl rfl) ?_
      refine DL.pu 155 (ptr b1 1) rfl (p_fieldAddr ty_f33_1 rfl rfl) ?_
      refine DL.look (v := a0_1) (x := 6) (b := b1) (i := 28) rfl (Wn.none rfl) rfl rfl rfl rfl rfl (List.mem_of_getElem? (i := 6) rfl) (b_load ty_a31 rfl rfl rfl) ?_
      refine DL.pu 157 (.int .i64 x16_999) rfl (p_move rfl rfl) ?_
      obtain ⟨g1138, h1139⟩ := req_some h1137
      obtain ⟨g1140, h1141⟩ := req_some h1139
      refine DL.pu 158 (elp a0_1 x16_999.toNat) rfl (p_slIx1 ty_u31 ty_s35 (RowV.some hr_a0_1 g1138 g1140) g1138 g1140 rfl rfl rfl) ?_
      refine DL.qu 159 (.int .u64 ((Begun.k a0).getD x16_999.toNat 0)) rfl (q_loadEl (fun w hc => hE.imm hc) hr_a0_1 (encl_get .u64 (lt_len g1138 g1140)) ty_a35 rfl rfl) ?_
      obtain ⟨t1142, e1143, h1144⟩ := nm_some h1141
      refine DL.pu 160 (.int .u64 t1142) rfl (by rw [e1143]; exact p_add rfl rfl rfl) ?_
      refine DL.pu 161 (.int .i64 x16_999) rfl (p_move rfl rfl) ?_
      obtain ⟨g1145, h1146⟩ := req_some h1144
      refine DL.pu 162 (ptr b745 x16_999.toNat) rfl (p_ix ty_u43 ty_s35 g1138 g1145 rfl rfl rfl) ?_
      refine DL.look (v := .int .u64 (z_b745_942.getD x16_999.toNat 0)) (x := 1) (b := b745) (i := 35) rfl (Wn.none rfl) rfl rfl rfl rfl rfl (List.mem_of_getElem? (i := 1) rfl) (b_load ty_a35 (enc_at l_z_b745_942 g1138 g1145) rfl rfl) ?_
      obtain ⟨t1147, e1148, h1149⟩ := nm_some h1146
      refine DL.pu 164 (.int .u64 t1147) rfl (by rw [e1148]; exact p_add rfl rfl rfl) ?_
      refine DL.pu 17 (.int .u64 t1147) rfl (p_assign rfl rfl) ?_
      refine DL.nil' hl1116 ?_
      refine TT.seq (x := sub [1, 1, 1, 1, 1, 1, 1, 1, 0, 1, 0, 0, 1, 0, 0, 1, 1, 1, 1, 0, 1, 0, 0, 1, 0, 0, 1, 0] B14) (y := sub [1, 1, 1, 1, 1, 1, 1, 1, 0, 1, 0, 0, 1, 0, 0, 1, 1, 1, 1, 0, 1, 0, 0, 1, 0, 0, 1, 1] B14) ?_
      refine TT.regionD (id := 30) (ops := (opsOf (sub [1, 1, 1, 1, 1, 1, 1, 1, 0, 1, 0, 0, 1, 0, 0, 1, 1, 1, 1, 0, 1, 0, 0, 1, 0, 0, 1, 0] B14))) [0, 1, 2, 3, 4, 5, 6, 7, 8, 9, 10, 11, 12, 13, 14, 15, 16, 17, 18, 19, 20, 21, 22, 23, 24, 25, 26, 27, 28, 29] [0, 1, 3, 0, 8, 31, 63, 0, 128, 447, 1023, 0, 2048, 0, 8192, 30720, 0, 65536, 0, 262144, 983040, 2095104, 0, 4194304, 0, 16777216, 62914560, 134215680, 268435455, 536870911] [(.pure, none), (.look, some 0), (.quiet, none), (.pure, none), (.look, some 0), (.quiet, none), (.pure, none), (.pure, none), (.look, some 0), (.quiet, none), (.pure, none), (.pure, none), (.look, some 0), (.pure, none), (.look, some 0), (.pure, none), (.pure, none), (.look, some 0), (.pure, none), (.look, some 0), (.pure, none), (.pure, none), (.pure, none), (.look, some 0), (.pure, none), (.look, some 0), (.pure, none), (.pure, none), (.pure, none), (.pure, none)] mixed (by kernel_rfl) ?_
      intro w1150 hl1150 hj1150 hz1150
      refine DL.pu 165 (ptr b998 ((0 : Int).toNat)) rfl (p_ix ty_u42 ty_s35 (by decide) (by decide) rfl rfl rfl) ?_
      refine DL.look (v := .int .u64 (y_1000.getD ((0 : Int).toNat) 0)) (x := 0) (b := b998) (i := 1) rfl (Wn.none rfl) rfl rfl rfl rfl rfl (List.mem_of_getElem? (i := 0) rfl) (b_load ty_a35 (enc_at l_y_1000 (by decide) (by decide)) rfl rfl) ?_
      obtain ⟨t1151, h1152, h1153⟩ := bind_some h1149
      refine DL.qu 167 (.int .u64 t1151) rfl (f_callR rfl rfl (args_val (vs := [.int .u64 (y_1000.getD ((0 : Int).toNat) 0), .int .u64 28]) rfl) (fun w => enter18 _ w) (fun w hc => ref05_ror.val h1152 (M := M) w (hE.ext hc) )) ?_
      refine DL.pu 168 (ptr b998 ((0 : Int).toNat)) rfl (p_ix ty_u42 ty_s35 (by decide) (by decide) rfl rfl rfl) ?_
      refine DL.look (v := .int .u64 (y_1000.getD ((0 : Int).toNat) 0)) (x := 0) (b := b998) (i := 4) rfl (Wn.none rfl) rfl rfl rfl rfl rfl (List.mem_of_getElem? (i := 0) rfl) (b_load ty_a35 (enc_at l_y_1000 (by decide) (by decide)) rfl rfl) ?_
      obtain ⟨t1154, h1155, h1156⟩ := bind_some h1153
      refine DL.qu 170 (.int .u64 t1154) rfl (f_callR rfl rfl (args_val (vs := [.int .u64 (y_1000.getD ((0 : Int).toNat) 0), .int .u64 34]) rfl) (fun w => enter18 _ w) (fun w hc => ref05_ror.val h1155 (M := M) w (hE.ext hc) )) ?_
      refine DL.pu 171 (.int .u64 (ixor .u64 t1151 t1154)) rfl (p_xor rfl rfl rfl) ?_
      refine DL.pu 172 (ptr b998 ((0 : Int).toNat)) rfl (p_ix ty_u42 ty_s35 (by decide) (by decide) rfl rfl rfl) ?_
      refine DL.look (v := .int .u64 (y_1000.getD ((0 : Int).toNat) 0)) (x := 0) (b := b998) (i := 8) rfl (Wn.none rfl) rfl rfl rfl rfl rfl (List.mem_of_getElem? (i := 0) rfl) (b_load ty_a35 (enc_at l_y_1000 (by decide) (by decide)) rfl rfl) ?_
      obtain ⟨t1157, h1158, h1159⟩ := bind_some h1156
      refine DL.qu 174 (.int .u64 t1157) rfl (f_callR rfl rfl (args_val (vs := [.int .u64 (y_1000.getD ((0 : Int).toNat) 0), .int .u64 39]) rfl) (fun w => enter18 _ w) (fun w hc => ref05_ror.val h1158 (M := M) w (hE.ext hc) )) ?_
      refine DL.pu 175 (.int .u64 (ixor .u64 (ixor .u64 t1151 t1154) t1157)) rfl (p_xor rfl rfl rfl) ?_
      refine DL.pu 176 (ptr b998 ((0 : Int).toNat)) rfl (p_ix ty_u42 ty_s35 (by decide) (by decide) rfl rfl rfl) ?_
      refine DL.look (v := .int .u64 (y_1000.getD ((0 : Int).toNat) 0)) (x := 0) (b := b998) (i := 12) rfl (Wn.none rfl) rfl rfl rfl rfl rfl (List.mem_of_getElem? (i := 0) rfl) (b_load ty_a35 (enc_at l_y_1000 (by decide) (by decide)) rfl rfl) ?_
      refine DL.pu 178 (ptr b998 ((1 : Int).toNat)) rfl (p_ix ty_u42 ty_s35 (by decide) (by decide) rfl rfl rfl) ?_
      refine DL.look (v := .int .u64 (y_1000.getD ((1 : Int).toNat) 0)) (x := 0) (b := b998) (i := 14) rfl (Wn.none rfl) rfl rfl rfl rfl rfl (List.mem_of_getElem? (i := 0) rfl) (b_load ty_a35 (enc_at l_y_1000 (by decide) (by decide)) rfl rfl) ?_
      obtain ⟨t1160, e1161, h1162⟩ := nm_some h1159
      refine DL.pu 180 (.int .u64 t1160) rfl (by rw [e1161]; exact p_and rfl rfl rfl) ?_
      refine DL.pu 181 (ptr b998 ((0 : Int).toNat)) rfl (p_ix ty_u42 ty_s35 (by decide) (by decide) rfl rfl rfl) ?_
      refine DL.look (v := .int .u64 (y_1000.getD ((0 : Int).toNat) 0)) (x := 0) (b := b998) (i := 17) rfl (Wn.none rfl) rfl rfl rfl rfl rfl (List.mem_of_getElem? (i := 0) rfl) (b_load ty_a35 (enc_at l_y_1000 (by decide) (by decide)) rfl rfl) ?_
      refine DL.pu 183 (ptr b998 ((2 : Int).toNat)) rfl (p_ix ty_u42 ty_s35 (by decide) (by decide) rfl rfl rfl) ?_
      refine DL.look (v := .int .u64 (y_1000.getD ((2 : Int).toNat) 0)) (x := 0) (b := b998) (i := 19) rfl (Wn.none rfl) rfl rfl rfl rfl rfl (List.mem_of_getElem? (i := 0) rfl) (b_load ty_a35 (enc_at l_y_1000 (by decide) (by decide)) rfl rfl) ?_
      obtain ⟨t1163, e1164, h1165⟩ := nm_some h1162
      refine DL.pu 185 (.int .u64 t1163) rfl (by rw [e1164]; exact p_and rfl rfl rfl) ?_
      refine DL.pu 186 (.int .u64 (ixor .u64 t1160 t1163)) rfl (p_xor rfl rfl rfl) ?_
      refine DL.pu 187 (ptr b998 ((1 : Int).toNat)) rfl (p_ix ty_u42 ty_s35 (by decide) (by decide) rfl rfl rfl) ?_
      refine DL.look (v := .int .u64 (y_1000.getD ((1 : Int).toNat) 0)) (x := 0) (b := b998) (i := 23) rfl (Wn.none rfl) rfl rfl rfl rfl rfl (List.mem_of_getElem? (i := 0) rfl) (b_load ty_a35 (enc_at l_y_1000 (by decide) (by decide)) rfl rfl) ?_
      refine DL.pu 189 (ptr b998 ((2 : Int).toNat)) rfl (p_ix ty_u42 ty_s35 (by decide) (by decide) rfl rfl rfl) ?_
      refine DL.look (v := .int .u64 (y_1000.getD ((2 : Int).toNat) 0)) (x := 0) (b := b998) (i := 25) rfl (Wn.none rfl) rfl rfl rfl rfl rfl (List.mem_of_getElem? (i := 0) rfl) (b_load ty_a35 (enc_at l_y_1000 (by decide) (by decide)) rfl rfl) ?_
      obtain ⟨t1166, e1167, h1168⟩ := nm_some h1165
      refine DL.pu 191 (.int .u64 t1166) rfl (by rw [e1167]; exact p_and rfl rfl rfl) ?_
      refine DL.pu 192 (.int .u64 (ixor .u64 (ixor .u64 t1160 t1163) t1166)) rfl (p_xor rfl rfl rfl) ?_
      obtain ⟨t1169, e1170, h1171⟩ := nm_some h1168
      refine DL.pu 193 (.int .u64 t1169) rfl (by rw [e1170]; exact p_add rfl rfl rfl) ?_
      refine DL.pu 18 (.int .u64 t1169) rfl (p_assign rfl rfl) ?_
      refine DL.nil' hl1150 ?_
      refine TT.region (id := 31) (n := 21) (ops := (opsOf (sub [1, 1, 1, 1, 1, 1, 1, 1, 0, 1, 0, 0, 1, 0, 0, 1, 1, 1, 1, 0, 1, 0, 0, 1, 0, 0, 1, 1] B14))) [(.pure, none), (.pure, none), (.pure, none), (.pure, none), (.quiet, none), (.pure, none), (.quiet, none), (.pure, none), (.quiet, none), (.pure, none), (.quiet, none), (.pure, none), (.pure, none), (.pure, none), (.quiet, none), (.pure, none), (.quiet, none), (.pure, none), (.quiet, none), (.pure, none), (.store, none)] rfl ?_
      show DL _ _ _ _ _ _ _ _ _ _ [0, 1, 2, 3, 4, 5, 6, 7, 8, 9, 10, 11, 12, 13, 14, 15, 16, 17, 18, 19, 20] _ _
      refine DL.pu 194 (.int .u64 t1147) rfl (p_move rfl rfl) ?_
      refine DL.pu 195 (.int .u64 t1169) rfl (p_move rfl rfl) ?_
      refine DL.pu 196 (.int .u64 (IntKind.u64.wrap (t1147 + t1169))) rfl (p_add rfl rfl rfl) ?_
      refine DL.pu 197 (ptr b998 ((0 : Int).toNat)) rfl (p_ix ty_u42 ty_s35 (by decide) (by decide) rfl rfl rfl) ?_
      refine DL.qu 198 (.int .u64 (y_1000.getD ((0 : Int).toNat) 0)) rfl (f_load (j := 0) ty_a35 rfl (enc_at l_y_1000 (by decide) (by decide)) rfl rfl) ?_
      refine DL.pu 199 (ptr b998 ((1 : Int).toNat)) rfl (p_ix ty_u42 ty_s35 (by decide) (by decide) rfl rfl rfl) ?_
      refine DL.qu 200 (.int .u64 (y_1000.getD ((1 : Int).toNat) 0)) rfl (f_load (j := 0) ty_a35 rfl (enc_at l_y_1000 (by decide) (by decide)) rfl rfl) ?_
      refine DL.pu 201 (ptr b998 ((2 : Int).toNat)) rfl (p_ix ty_u42 ty_s35 (by decide) (by decide) rfl rfl rfl) ?_
      refine DL.qu 202 (.int .u64 (y_1000.getD ((2 : Int).toNat) 0)) rfl (f_load (j := 0) ty_a35 rfl (enc_at l_y_1000 (by decide) (by decide)) rfl rfl) ?_
      refine DL.pu 203 (ptr b998 ((3 : Int).toNat)) rfl (p_ix ty_u42 ty_s35 (by decide) (by decide) rfl rfl rfl) ?_
      refine DL.qu 204 (.int .u64 (y_1000.getD ((3 : Int).toNat) 0)) rfl (f_load (j := 0) ty_a35 rfl (enc_at l_y_1000 (by decide) (by decide)) rfl rfl) ?_
      refine DL.pu 205 (.int .u64 t1147) rfl (p_move rfl rfl) ?_
      obtain ⟨t1172, e1173, h1174⟩ := nm_some h1171
      refine DL.pu 206 (.int .u64 t1172) rfl (by rw [e1173]; exact p_add rfl rfl rfl) ?_
      refine DL.pu 207 (ptr b998 ((4 : Int).toNat)) rfl (p_ix ty_u42 ty_s35 (by decide) (by decide) rfl rfl rfl) ?_
      refine DL.qu 208 (.int .u64 (y_1000.getD ((4 : Int).toNat) 0)) rfl (f_load (j := 0) ty_a35 rfl (enc_at l_y_1000 (by decide) (by decide)) rfl rfl) ?_
      refine DL.pu 209 (ptr b998 ((5 : Int).toNat)) rfl (p_ix ty_u42 ty_s35 (by decide) (by decide) rfl rfl rfl) ?_
      refine DL.qu 210 (.int .u64 (y_1000.getD ((5 : Int).toNat) 0)) rfl (f_load (j := 0) ty_a35 rfl (enc_at l_y_1000 (by decide) (by decide)) rfl rfl) ?_
      refine DL.pu 211 (ptr b998 ((6 : Int).toNat)) rfl (p_ix ty_u42 ty_s35 (by decide) (by decide) rfl rfl rfl) ?_
      refine DL.qu 212 (.int .u64 (y_1000.getD ((6 : Int).toNat) 0)) rfl (f_load (j := 0) ty_a35 rfl (enc_at l_y_1000 (by decide) (by decide)) rfl rfl) ?_
      refine DL.pu 213 (.agg (enc .u64 [IntKind.u64.wrap (t1147 + t1169), y_1000.getD ((0 : Int).toNat) 0, y_1000.getD ((1 : Int).toNat) 0, y_1000.getD ((2 : Int).toNat) 0, t1172, y_1000.getD ((4 : Int).toNat) 0, y_1000.getD ((5 : Int).toNat) 0, y_1000.getD ((6 : Int).toNat) 0])) rfl (p_build (vs := [(0, .int .u64 (IntKind.u64.wrap (t1147 + t1169))), (1, .int .u64 (y_1000.getD ((0 : Int).toNat) 0)), (2, .int .u64 (y_1000.getD ((1 : Int).toNat) 0)), (3, .int .u64 (y_1000.getD ((2 : Int).toNat) 0)), (4, .int .u64 t1172), (5, .int .u64 (y_1000.getD ((4 : Int).toNat) 0)), (6, .int .u64 (y_1000.getD ((5 : Int).toNat) 0)), (7, .int .u64 (y_1000.getD ((6 : Int).toNat) 0))]) (fun w => by kernel_rfl) rfl rfl) ?_
      refine DL.put (H' := [(some b998, .cells (enc .u64 [IntKind.u64.wrap (t1147 + t1169), y_1000.getD ((0 : Int).toNat) 0, y_1000.getD ((1 : Int).toNat) 0, y_1000.getD ((2 : Int).toNat) 0, t1172, y_1000.getD ((4 : Int).toNat) 0, y_1000.getD ((5 : Int).toNat) 0, y_1000.getD ((6 : Int).toNat) 0]) 42 (0, 0)), (some b745, .cells (enc .u64 z_b745_942) 43 (0, 0)), (some b171, .cells (enc .u64 y_176) 42 (0, 0)), (Value.ownBlock s8_v, .cells s8_c 5 (0, 0)), (Value.ownBlock z_o3_154_v, .cells z_o3_154_c 5 (0, 0)), (some b2, .cells (enc .u8 (List.replicate 64 0)) 27 (0, 0)), (some b1, .cells (#[a0_0, a0_1]) 33 (0, 0))]) (i := 20) rfl (Wn.none rfl) rfl rfl (f_storeA (j := 0) ty_s42 rfl (enc_sz rfl) (enc_sz l_y_1000) (enc_oneCell _ _) rfl rfl rfl) (keep_none rfl) ?_
      refine DL.nil ?_
      refine TT.inBlock ?_
      refine TT.region (id := 28) (n := 3) (ops := (opsOf (sub [1, 1, 1, 1, 1, 1, 1, 1, 0, 1, 0, 0, 1, 0, 0, 1, 1, 1, 1, 0, 1, 0, 0, 1, 1] B14))) [(.pure, none), (.pure, none), (.pure, none)] rfl ?_
      show DL _ _ _ _ _ _ _ _ _ _ [0, 1, 2] _ _
      refine DL.pu 126 (.int .i64 x16_999) rfl (p_move rfl rfl) ?_
      refine DL.pu 127 (.int .i64 (IntKind.i64.wrap (x16_999 + 1))) rfl (p_add rfl rfl rfl) ?_
      refine DL.pu 16 (.int .i64 (IntKind.i64.wrap (x16_999 + 1))) rfl (p_assign rfl rfl) ?_
      refine DL.nil ?_
      refine TT.inLoop ?_
      exact TT.weak (ih (IntKind.i64.wrap (x16_999 + 1)) [IntKind.u64.wrap (t1147 + t1169), y_1000.getD ((0 : Int).toNat) 0, y_1000.getD ((1 : Int).toNat) 0, y_1000.getD ((2 : Int).toNat) 0, t1172, y_1000.getD ((4 : Int).toNat) 0, y_1000.getD ((5 : Int).toNat) 0, y_1000.getD ((6 : Int).toNat) 0] r0_ rfl h1174 hk) (Sub.cons rfl (Sub.cons rfl (Sub.cons rfl (Sub.cons rfl (Sub.cons rfl (Sub.cons rfl (Sub.cons rfl (Sub.cons rfl (Sub.nil _)))))))))
    · replace c1114 := Bool.eq_false_iff.mpr c1114
      have h1175 := ite_false c1114 h
      refine TT.cond_false (x := sub [1, 1, 1, 1, 1, 1, 1, 1, 0, 1, 0, 0, 1, 0, 0, 1, 1, 1, 1, 0, 1, 0, 0, 0, 1, 0] B14) (y := sub [1, 1, 1, 1, 1, 1, 1, 1, 0, 1, 0, 0, 1, 0, 0, 1, 1, 1, 1, 0, 1, 0, 0, 0, 1, 1] B14) rfl c1114 ?_
      refine TT.exit rfl ?_
      obtain rfl := Option.some.inj h1175
      exact TT.weak (hk l_y_1000) (Sub.cons rfl (Sub.cons rfl (Sub.cons rfl (Sub.cons rfl (Sub.cons rfl (Sub.cons rfl (Sub.nil _)))))))

def ref05_Begun__Sum.L6 (z_b998_1113 : List Int) : Nat → Int → (List Int) → Option (List Int)
  | 0, _, _ => none
  | k + 1, x19_1179, y_1180 => if (decide (x19_1179 < 8)) = true then (req (0 ≤ x19_1179) (req (x19_1179 < 8) (nm (IntKind.u64.wrap ((y_1180.getD x19_1179.toNat 0) + (z_b998_1113.getD x19_1179.toNat 0))) fun t1250 => ref05_Begun__Sum.L6 z_b998_1113 k (IntKind.i64.wrap (x19_1179 + 1)) (y_1180.set x19_1179.toNat t1250)))) else (some y_1180)
set_option maxRecDepth 20000 in
theorem ref05_Begun__Sum.L6_ok (a0_0 : Value) (a0_1 : Value) (b1 : Nat) (b2 : Nat) (s8_v : Value) (s8_c : Array Value) (z_o3_154_v : Value) (z_o3_154_c : Array Value) (b171 : Nat) (x9_175 : Int) (b745 : Nat) (z_b745_942 : List Int) (b998 : Nat) (z_b998_1113 : List Int) {R : Ending → World → Prop} {w0 : World} {M0 M I : Mem} {K : List Item} (hE : Env w0 M0 M I) (l_z_b998_1113 : z_b998_1113.length = 8) :
    ∀ (k : Nat) (x19_1179 : Int) (y_1180 : List Int) (r0_ : List Int) (l_y_1180 : y_1180.length = 8) (h : ref05_Begun__Sum.L6 z_b998_1113 k x19_1179 y_1180 = some r0_) (hk : r0_.length = 8 → TT Try.prog 14 R 245 w0 I K [(2, ptr b1 0), (4, ptr b2 0), (5, z_o3_154_v), (8, ptr b171 0), (9, .int .i64 x9_175)] [(some b998, .cells (enc .u64 z_b998_1113) 42 (0, 0)), (some b745, .cells (enc .u64 z_b745_942) 43 (0, 0)), (some b171, .cells (enc .u64 r0_) 42 (0, 0)), (Value.ownBlock s8_v, .cells s8_c 5 (0, 0)), (Value.ownBlock z_o3_154_v, .cells z_o3_154_c 5 (0, 0)), (some b2, .cells (enc .u8 (List.replicate 64 0)) 27 (0, 0)), (some b1, .cells (#[a0_0, a0_1]) 33 (0, 0))]),
      TT Try.prog 14 R 245 w0 I (.code (sub [1, 1, 1, 1, 1, 1, 1, 1, 0, 1, 0, 0, 1, 0, 0, 1, 1, 1, 1, 1, 1, 0, 0] B14) :: .inLoop (sub [1, 1, 1, 1, 1, 1, 1, 1, 0, 1, 0, 0, 1, 0, 0, 1, 1, 1, 1, 1, 1, 0, 0] B14) :: .inBlock 12 :: K) [(2, ptr b1 0), (4, ptr b2 0), (5, z_o3_154_v), (8, ptr b171 0), (9, .int .i64 x9_175), (15, ptr b998 0), (19, .int .i64 x19_1179)] [(some b998, .cells (enc .u64 z_b998_1113) 42 (0, 0)), (some b745, .cells (enc .u64 z_b745_942) 43 (0, 0)), (some b171, .cells (enc .u64 y_1180) 42 (0, 0)), (Value.ownBlock s8_v, .cells s8_c 5 (0, 0)), (Value.ownBlock z_o3_154_v, .cells z_o3_154_c 5 (0, 0)), (some b2, .cells (enc .u8 (List.replicate 64 0)) 27 (0, 0)), (some b1, .cells (#[a0_0, a0_1]) 33 (0, 0))] := by
  intro k
  induction k with
  | zero => intro x19_1179 y_1180 r0_ l_y_1180 h; simp [ref05_Begun__Sum.L6] at h
  | succ k ih =>
    intro x19_1179 y_1180 r0_ l_y_1180 h hk
    unfold ref05_Begun__Sum.L6 at h
    refine TT.seq (x := sub [1, 1, 1, 1, 1, 1, 1, 1, 0, 1, 0, 0, 1, 0, 0, 1, 1, 1, 1, 1, 1, 0, 0, 0] B14) (y := sub [1, 1, 1, 1, 1, 1, 1, 1, 0, 1, 0, 0, 1, 0, 0, 1, 1, 1, 1, 1, 1, 0, 0, 1] B14) ?_
    refine TT.seq (x := sub [1, 1, 1, 1, 1, 1, 1, 1, 0, 1, 0, 0, 1, 0, 0, 1, 1, 1, 1, 1, 1, 0, 0, 0, 0] B14) (y := sub [1, 1, 1, 1, 1, 1, 1, 1, 0, 1, 0, 0, 1, 0, 0, 1, 1, 1, 1, 1, 1, 0, 0, 0, 1] B14) ?_
    refine TT.region (id := 33) (n := 2) (ops := (opsOf (sub [1, 1, 1, 1, 1, 1, 1, 1, 0, 1, 0, 0, 1, 0, 0, 1, 1, 1, 1, 1, 1, 0, 0, 0, 0] B14))) [(.pure, none), (.pure, none)] rfl ?_
    show DL _ _ _ _ _ _ _ _ _ _ [0, 1] _ _
    refine DL.pu 214 (.int .i64 x19_1179) rfl (p_move rfl rfl) ?_
    refine DL.pu 215 (.bool (decide (x19_1179 < 8))) rfl (p_lss rfl rfl rfl) ?_
    refine DL.nil ?_
    by_cases c1243 : (decide (x19_1179 < 8)) = true
    · have h1244 := ite_true c1243 h
      refine TT.cond_true (x := sub [1, 1, 1, 1, 1, 1, 1, 1, 0, 1, 0, 0, 1, 0, 0, 1, 1, 1, 1, 1, 1, 0, 0, 0, 1, 0] B14) (y := sub [1, 1, 1, 1, 1, 1, 1, 1, 0, 1, 0, 0, 1, 0, 0, 1, 1, 1, 1, 1, 1, 0, 0, 0, 1, 1] B14) rfl c1243 ?_
      refine TT.skip ?_
      refine TT.seq (x := sub [1, 1, 1, 1, 1, 1, 1, 1, 0, 1, 0, 0, 1, 0, 0, 1, 1, 1, 1, 1, 1, 0, 0, 1, 0] B14) (y := sub [1, 1, 1, 1, 1, 1, 1, 1, 0, 1, 0, 0, 1, 0, 0, 1, 1, 1, 1, 1, 1, 0, 0, 1, 1] B14) ?_
      refine TT.block (c := sub [1, 1, 1, 1, 1, 1, 1, 1, 0, 1, 0, 0, 1, 0, 0, 1, 1, 1, 1, 1, 1, 0, 0, 1, 0, 0] B14) ?_
      refine TT.regionD (id := 35) (ops := (opsOf (sub [1, 1, 1, 1, 1, 1, 1, 1, 0, 1, 0, 0, 1, 0, 0, 1, 1, 1, 1, 1, 1, 0, 0, 1, 0, 0] B14))) [0, 1, 2, 3, 4, 5, 6, 7, 8, 9] [0, 0, 2, 6, 0, 16, 48, 126, 255, 511] [(.pure, none), (.pure, none), (.pure, none), (.look, some 2), (.pure, none), (.pure, none), (.look, some 0), (.pure, none), (.pure, none), (.store, some 2)] mixed (by kernel_rfl) ?_
      intro w1245 hl1245 hj1245 hz1245
      refine DL.pu 218 (.int .i64 x19_1179) rfl (p_move rfl rfl) ?_
      refine DL.pu 219 (.int .i64 x19_1179) rfl (p_move rfl rfl) ?_
      obtain ⟨g1246, h1247⟩ := req_some h1244
      obtain ⟨g1248, h1249⟩ := req_some h1247
      refine DL.pu 220 (ptr b171 x19_1179.toNat) rfl (p_ix ty_u42 ty_s35 g1246 g1248 rfl rfl rfl) ?_
      refine DL.look (v := .int .u64 (y_1180.getD x19_1179.toNat 0)) (x := 2) (b := b171) (i := 3) rfl (Wn.none rfl) rfl rfl rfl rfl rfl (List.mem_of_getElem? (i := 2) rfl) (b_load ty_a35 (enc_at l_y_1180 g1246 g1248) rfl rfl) ?_
      refine DL.pu 222 (.int .i64 x19_1179) rfl (p_move rfl rfl) ?_
      refine DL.pu 223 (ptr b998 x19_1179.toNat) rfl (p_ix ty_u42 ty_s35 g1246 g1248 rfl rfl rfl) ?_
      refine DL.look (v := .int .u64 (z_b998_1113.getD x19_1179.toNat 0)) (x := 0) (b := b998) (i := 6) rfl (Wn.none rfl) rfl rfl rfl rfl rfl (List.mem_of_getElem? (i := 0) rfl) (b_load ty_a35 (enc_at l_z_b998_1113 g1246 g1248) rfl rfl) ?_
      obtain ⟨t1250, e1251, h1252⟩ := nm_some h1249
      refine DL.pu 225 (.int .u64 t1250) rfl (by rw [e1251]; exact p_add rfl rfl rfl) ?_
      refine DL.pu 226 (ptr b171 x19_1179.toNat) rfl (p_ix ty_u42 ty_s35 g1246 g1248 rfl rfl rfl) ?_
      refine DL.put (H' := [(some b998, .cells (enc .u64 z_b998_1113) 42 (0, 0)), (some b745, .cells (enc .u64 z_b745_942) 43 (0, 0)), (some b171, .cells (enc .u64 (y_1180.set x19_1179.toNat t1250)) 42 (0, 0)), (Value.ownBlock s8_v, .cells s8_c 5 (0, 0)), (Value.ownBlock z_o3_154_v, .cells z_o3_154_c 5 (0, 0)), (some b2, .cells (enc .u8 (List.replicate 64 0)) 27 (0, 0)), (some b1, .cells (#[a0_0, a0_1]) 33 (0, 0))]) (i := 9) rfl (Wn.none rfl) rfl rfl (f_storeE (j := 2) ty_s35 rfl (lt_nat l_y_1180 g1246 g1248) rfl rfl rfl) (keep_set (j := 2) hj1245 rfl rfl rfl) ?_
      refine DL.nil' hl1245 ?_
      refine TT.inBlock ?_
      refine TT.region (id := 34) (n := 3) (ops := (opsOf (sub [1, 1, 1, 1, 1, 1, 1, 1, 0, 1, 0, 0, 1, 0, 0, 1, 1, 1, 1, 1, 1, 0, 0, 1, 1] B14))) [(.pure, none), (.pure, none), (.pure, none)] rfl ?_
      show DL _ _ _ _ _ _ _ _ _ _ [0, 1, 2] _ _
      refine DL.pu 216 (.int .i64 x19_1179) rfl (p_move rfl rfl) ?_
      refine DL.pu 217 (.int .i64 (IntKind.i64.wrap (x19_1179 + 1))) rfl (p_add rfl rfl rfl) ?_
      refine DL.pu 19 (.int .i64 (IntKind.i64.wrap (x19_1179 + 1))) rfl (p_assign rfl rfl) ?_
      refine DL.nil ?_
      refine TT.inLoop ?_
      exact TT.weak (ih (IntKind.i64.wrap (x19_1179 + 1)) (y_1180.set x19_1179.toNat t1250) r0_ (len_set l_y_1180) h1252 hk) (Sub.cons rfl (Sub.cons rfl (Sub.cons rfl (Sub.cons rfl (Sub.cons rfl (Sub.cons rfl (Sub.cons rfl (Sub.nil _))))))))
    · replace c1243 := Bool.eq_false_iff.mpr c1243
      have h1253 := ite_false c1243 h
      refine TT.cond_false (x := sub [1, 1, 1, 1, 1, 1, 1, 1, 0, 1, 0, 0, 1, 0, 0, 1, 1, 1, 1, 1, 1, 0, 0, 0, 1, 0] B14) (y := sub [1, 1, 1, 1, 1, 1, 1, 1, 0, 1, 0, 0, 1, 0, 0, 1, 1, 1, 1, 1, 1, 0, 0, 0, 1, 1] B14) rfl c1243 ?_
      refine TT.exit rfl ?_
      obtain rfl := Option.some.inj h1253
      exact TT.weak (hk l_y_1180) (Sub.cons rfl (Sub.cons rfl (Sub.cons rfl (Sub.cons rfl (Sub.cons rfl (Sub.nil _))))))

def ref05_Begun__Sum.L2 (a0 : Begun) (z_o3_154 : List Int) : Nat → Int → (List Int) → Option (List Int)
  | 0, _, _ => none
  | k + 1, x9_175, y_176 => if (decide (x9_175 < (z_o3_154.length : Int))) = true then ((ref05_Begun__Sum.L3 z_o3_154 x9_175 129 0 (List.replicate 80 0)).bind fun z_b745_816 => (ref05_Begun__Sum.L4 65 16 z_b745_816).bind fun z_b745_942 => (ref05_Begun__Sum.L5 a0 z_b745_942 81 0 y_176).bind fun z_b998_1113 => (ref05_Begun__Sum.L6 z_b998_1113 9 0 y_176).bind fun z_b171_1242 => ref05_Begun__Sum.L2 a0 z_o3_154 k (IntKind.i64.wrap (x9_175 + 128)) z_b171_1242) else (some y_176)
set_option maxRecDepth 20000 in
theorem ref05_Begun__Sum.L2_ok (a0 : Begun) (a0_0 : Value) (a0_1 : Value) (b1 : Nat) (b2 : Nat) (s8_v : Value) (s8_c : Array Value) (z_o3_154 : List Int) (z_o3_154_v : Value) (z_o3_154_c : Array Value) (b171 : Nat) {R : Ending → World → Prop} {w0 : World} {M0 M I : Mem} {K : List Item} (hE : Env w0 M0 M I) (hr_a0_1 : IntRow M .u64 a0_1 (Begun.k a0)) (ho_z_o3_154 : IntOwn .u8 z_o3_154_v z_o3_154_c z_o3_154) :
    ∀ (k : Nat) (x9_175 : Int) (y_176 : List Int) (r0_ : List Int) (l_y_176 : y_176.length = 8) (h : ref05_Begun__Sum.L2 a0 z_o3_154 k x9_175 y_176 = some r0_) (hk : r0_.length = 8 → TT Try.prog 14 R 245 w0 I K [(4, ptr b2 0), (8, ptr b171 0)] [(some b171, .cells (enc .u64 r0_) 42 (0, 0)), (Value.ownBlock s8_v, .cells s8_c 5 (0, 0)), (Value.ownBlock z_o3_154_v, .cells z_o3_154_c 5 (0, 0)), (some b2, .cells (enc .u8 (List.replicate 64 0)) 27 (0, 0)), (some b1, .cells (#[a0_0, a0_1]) 33 (0, 0))]),
      TT Try.prog 14 R 245 w0 I (.code (sub [1, 1, 1, 1, 1, 1, 1, 1, 0, 1, 0, 0] B14) :: .inLoop (sub [1, 1, 1, 1, 1, 1, 1, 1, 0, 1, 0, 0] B14) :: .inBlock 4 :: K) [(2, ptr b1 0), (4, ptr b2 0), (5, z_o3_154_v), (8, ptr b171 0), (9, .int .i64 x9_175)] [(some b171, .cells (enc .u64 y_176) 42 (0, 0)), (Value.ownBlock s8_v, .cells s8_c 5 (0, 0)), (Value.ownBlock z_o3_154_v, .cells z_o3_154_c 5 (0, 0)), (some b2, .cells (enc .u8 (List.replicate 64 0)) 27 (0, 0)), (some b1, .cells (#[a0_0, a0_1]) 33 (0, 0))] := by
  intro k
  induction k with
  | zero => intro x9_175 y_176 r0_ l_y_176 h; simp [ref05_Begun__Sum.L2] at h
  | succ k ih =>
    intro x9_175 y_176 r0_ l_y_176 h hk
    unfold ref05_Begun__Sum.L2 at h
    refine TT.seq (x := sub [1, 1, 1, 1, 1, 1, 1, 1, 0, 1, 0, 0, 0] B14) (y := sub [1, 1, 1, 1, 1, 1, 1, 1, 0, 1, 0, 0, 1] B14) ?_
    refine TT.seq (x := sub [1, 1, 1, 1, 1, 1, 1, 1, 0, 1, 0, 0, 0, 0] B14) (y := sub [1, 1, 1, 1, 1, 1, 1, 1, 0, 1, 0, 0, 0, 1] B14) ?_
    refine TT.region (id := 13) (n := 4) (ops := (opsOf (sub [1, 1, 1, 1, 1, 1, 1, 1, 0, 1, 0, 0, 0, 0] B14))) [(.pure, none), (.pure, none), (.pure, none), (.pure, none)] rfl ?_
    show DL _ _ _ _ _ _ _ _ _ _ [0, 1, 2, 3] _ _
    refine DL.pu 56 (.int .i64 x9_175) rfl (p_move rfl rfl) ?_
    refine DL.pu 57 (z_o3_154_v) rfl (p_move rfl rfl) ?_
    refine DL.pu 58 (.int .i64 (z_o3_154.length : Int)) rfl (p_slLen ty_u22 (OwnV.sl ho_z_o3_154) rfl rfl) ?_
    refine DL.pu 59 (.bool (decide (x9_175 < (z_o3_154.length : Int)))) rfl (p_lss rfl rfl rfl) ?_
    refine DL.nil ?_
    by_cases c743 : (decide (x9_175 < (z_o3_154.length : Int))) = true
    · have h744 := ite_true c743 h
      refine TT.cond_true (x := sub [1, 1, 1, 1, 1, 1, 1, 1, 0, 1, 0, 0, 0, 1, 0] B14) (y := sub [1, 1, 1, 1, 1, 1, 1, 1, 0, 1, 0, 0, 0, 1, 1] B14) rfl c743 ?_
      refine TT.skip ?_
      refine TT.seq (x := sub [1, 1, 1, 1, 1, 1, 1, 1, 0, 1, 0, 0, 1, 0] B14) (y := sub [1, 1, 1, 1, 1, 1, 1, 1, 0, 1, 0, 0, 1, 1] B14) ?_
      refine TT.block (c := sub [1, 1, 1, 1, 1, 1, 1, 1, 0, 1, 0, 0, 1, 0, 0] B14) ?_
      refine TT.seq (x := sub [1, 1, 1, 1, 1, 1, 1, 1, 0, 1, 0, 0, 1, 0, 0, 0] B14) (y := sub [1, 1, 1, 1, 1, 1, 1, 1, 0, 1, 0, 0, 1, 0, 0, 1] B14) ?_
      refine TT.region (id := 15) (n := 1) (ops := (opsOf (sub [1, 1, 1, 1, 1, 1, 1, 1, 0, 1, 0, 0, 1, 0, 0, 0] B14))) [(.alloc, none)] rfl ?_
      show DL _ _ _ _ _ _ _ _ _ _ [0] _ _
      refine DL.new (ob := .cells (enc .u64 (List.replicate 80 0)) 43) (mk := fun b => ptr b 0) (i := 0) rfl (Wn.none rfl) rfl rfl rfl (f_alloc ty_z43 rfl) ?_
      intro b745 hb745
      refine DL.nil ?_
      refine TT.seq (x := sub [1, 1, 1, 1, 1, 1, 1, 1, 0, 1, 0, 0, 1, 0, 0, 1, 0] B14) (y := sub [1, 1, 1, 1, 1, 1, 1, 1, 0, 1, 0, 0, 1, 0, 0, 1, 1] B14) ?_
      refine TT.seq (x := sub [1, 1, 1, 1, 1, 1, 1, 1, 0, 1, 0, 0, 1, 0, 0, 1, 0, 0] B14) (y := sub [1, 1, 1, 1, 1, 1, 1, 1, 0, 1, 0, 0, 1, 0, 0, 1, 0, 1] B14) ?_
      refine TT.region (id := 16) (n := 1) (ops := (opsOf (sub [1, 1, 1, 1, 1, 1, 1, 1, 0, 1, 0, 0, 1, 0, 0, 1, 0, 0] B14))) [(.pure, none)] rfl ?_
      show DL _ _ _ _ _ _ _ _ _ _ [0] _ _
      refine DL.pu 11 (.int .i64 0) rfl (p_assign rfl rfl) ?_
      refine DL.nil ?_
      refine TT.block (c := sub [1, 1, 1, 1, 1, 1, 1, 1, 0, 1, 0, 0, 1, 0, 0, 1, 0, 1, 0] B14) ?_
      refine TT.loop (c := sub [1, 1, 1, 1, 1, 1, 1, 1, 0, 1, 0, 0, 1, 0, 0, 1, 0, 1, 0, 0] B14) ?_
      obtain ⟨z_b745_816, h835, h836⟩ := bind_some h744
      refine TT.weak (ref05_Begun__Sum.L3_ok a0_0 a0_1 b1 b2 s8_v s8_c z_o3_154 z_o3_154_v z_o3_154_c b171 x9_175 y_176 b745 hE ho_z_o3_154 129 0 (List.replicate 80 0) z_b745_816 (List.length_replicate) h835 (fun l_z_b745_816 => ?_)) (Sub.cons rfl (Sub.cons rfl (Sub.cons rfl (Sub.cons rfl (Sub.cons rfl (Sub.cons rfl (Sub.cons rfl (Sub.nil _))))))))
      refine TT.seq (x := sub [1, 1, 1, 1, 1, 1, 1, 1, 0, 1, 0, 0, 1, 0, 0, 1, 1, 0] B14) (y := sub [1, 1, 1, 1, 1, 1, 1, 1, 0, 1, 0, 0, 1, 0, 0, 1, 1, 1] B14) ?_
      refine TT.seq (x := sub [1, 1, 1, 1, 1, 1, 1, 1, 0, 1, 0, 0, 1, 0, 0, 1, 1, 0, 0] B14) (y := sub [1, 1, 1, 1, 1, 1, 1, 1, 0, 1, 0, 0, 1, 0, 0, 1, 1, 0, 1] B14) ?_
      refine TT.region (id := 20) (n := 1) (ops := (opsOf (sub [1, 1, 1, 1, 1, 1, 1, 1, 0, 1, 0, 0, 1, 0, 0, 1, 1, 0, 0] B14))) [(.pure, none)] rfl ?_
      show DL _ _ _ _ _ _ _ _ _ _ [0] _ _
      refine DL.pu 12 (.int .i64 16) rfl (p_assign rfl rfl) ?_
      refine DL.nil ?_
      refine TT.block (c := sub [1, 1, 1, 1, 1, 1, 1, 1, 0, 1, 0, 0, 1, 0, 0, 1, 1, 0, 1, 0] B14) ?_
      refine TT.loop (c := sub [1, 1, 1, 1, 1, 1, 1, 1, 0, 1, 0, 0, 1, 0, 0, 1, 1, 0, 1, 0, 0] B14) ?_
      obtain ⟨z_b745_942, h995, h996⟩ := bind_some h836
      refine TT.weak (ref05_Begun__Sum.L4_ok a0_0 a0_1 b1 b2 s8_v s8_c z_o3_154_v z_o3_154_c b171 x9_175 y_176 b745 hE 65 16 z_b745_816 z_b745_942 l_z_b745_816 h995 (fun l_z_b745_942 => ?_)) (Sub.cons rfl (Sub.cons rfl (Sub.cons rfl (Sub.cons rfl (Sub.cons rfl (Sub.cons rfl (Sub.cons rfl (Sub.nil _))))))))
      refine TT.seq (x := sub [1, 1, 1, 1, 1, 1, 1, 1, 0, 1, 0, 0, 1, 0, 0, 1, 1, 1, 0] B14) (y := sub [1, 1, 1, 1, 1, 1, 1, 1, 0, 1, 0, 0, 1, 0, 0, 1, 1, 1, 1] B14) ?_
      refine TT.region (id := 25) (n := 3) (ops := (opsOf (sub [1, 1, 1, 1, 1, 1, 1, 1, 0, 1, 0, 0, 1, 0, 0, 1, 1, 1, 0] B14))) [(.quiet, none), (.alloc, none), (.store, none)] rfl ?_
      show DL _ _ _ _ _ _ _ _ _ _ [0, 1, 2] _ _
      refine DL.qu 123 (.agg (enc .u64 y_176)) rfl (f_loadA (j := 1) ty_a42 ty_s42 rfl (enc_sz l_y_176) rfl rfl) ?_
      refine DL.new (ob := .cells (enc .u64 (List.replicate 8 0)) 42) (mk := fun b => ptr b 0) (i := 1) rfl (Wn.none rfl) rfl rfl rfl (f_alloc ty_z42 rfl) ?_
      intro b998 hb998
      refine DL.put (H' := [(some b998, .cells (enc .u64 y_176) 42 (0, 0)), (some b745, .cells (enc .u64 z_b745_942) 43 (0, 0)), (some b171, .cells (enc .u64 y_176) 42 (0, 0)), (Value.ownBlock s8_v, .cells s8_c 5 (0, 0)), (Value.ownBlock z_o3_154_v, .cells z_o3_154_c 5 (0, 0)), (some b2, .cells (enc .u8 (List.replicate 64 0)) 27 (0, 0)), (some b1, .cells (#[a0_0, a0_1]) 33 (0, 0))]) (i := 2) rfl (Wn.none rfl) rfl rfl (f_storeA (j := 0) ty_s42 rfl (enc_sz l_y_176) (enc_sz (List.length_replicate)) (enc_oneCell _ _) rfl rfl rfl) (keep_none rfl) ?_
      refine DL.nil ?_
      refine TT.seq (x := sub [1, 1, 1, 1, 1, 1, 1, 1, 0, 1, 0, 0, 1, 0, 0, 1, 1, 1, 1, 0] B14) (y := sub [1, 1, 1, 1, 1, 1, 1, 1, 0, 1, 0, 0, 1, 0, 0, 1, 1, 1, 1, 1] B14) ?_
      refine TT.seq (x := sub [1, 1, 1, 1, 1, 1, 1, 1, 0, 1, 0, 0, 1, 0, 0, 1, 1, 1, 1, 0, 0] B14) (y := sub [1, 1, 1, 1, 1, 1, 1, 1, 0, 1, 0, 0, 1, 0, 0, 1, 1, 1, 1, 0, 1] B14) ?_
      refine TT.region (id := 26) (n := 1) (ops := (opsOf (sub [1, 1, 1, 1, 1, 1, 1, 1, 0, 1, 0, 0, 1, 0, 0, 1, 1, 1, 1, 0, 0] B14))) [(.pure, none)] rfl ?_
      show DL _ _ _ _ _ _ _ _ _ _ [0] _ _
      refine DL.pu 16 (.int .i64 0) rfl (p_assign rfl rfl) ?_
      refine DL.nil ?_
      refine TT.block (c := sub [1, 1, 1, 1, 1, 1, 1, 1, 0, 1, 0, 0, 1, 0, 0, 1, 1, 1, 1, 0, 1, 0] B14) ?_
      refine TT.loop (c := sub [1, 1, 1, 1, 1, 1, 1, 1, 0, 1, 0, 0, 1, 0, 0, 1, 1, 1, 1, 0, 1, 0, 0] B14) ?_
      obtain ⟨z_b998_1113, h1176, h1177⟩ := bind_some h996
      refine TT.weak (ref05_Begun__Sum.L5_ok a0 a0_0 a0_1 b1 b2 s8_v s8_c z_o3_154_v z_o3_154_c b171 x9_175 y_176 b745 z_b745_942 b998 hE hr_a0_1 l_z_b745_942 81 0 y_176 z_b998_1113 l_y_176 h1176 (fun l_z_b998_1113 => ?_)) (Sub.cons rfl (Sub.cons rfl (Sub.cons rfl (Sub.cons rfl (Sub.cons rfl (Sub.cons rfl (Sub.cons rfl (Sub.cons rfl (Sub.nil _)))))))))
      refine TT.seq (x := sub [1, 1, 1, 1, 1, 1, 1, 1, 0, 1, 0, 0, 1, 0, 0, 1, 1, 1, 1, 1, 0] B14) (y := sub [1, 1, 1, 1, 1, 1, 1, 1, 0, 1, 0, 0, 1, 0, 0, 1, 1, 1, 1, 1, 1] B14) ?_
      refine TT.region (id := 32) (n := 1) (ops := (opsOf (sub [1, 1, 1, 1, 1, 1, 1, 1, 0, 1, 0, 0, 1, 0, 0, 1, 1, 1, 1, 1, 0] B14))) [(.pure, none)] rfl ?_
      show DL _ _ _ _ _ _ _ _ _ _ [0] _ _
      refine DL.pu 19 (.int .i64 0) rfl (p_assign rfl rfl) ?_
      refine DL.nil ?_
      refine TT.block (c := sub [1, 1, 1, 1, 1, 1, 1, 1, 0, 1, 0, 0, 1, 0, 0, 1, 1, 1, 1, 1, 1, 0] B14) ?_
      refine TT.loop (c := sub [1, 1, 1, 1, 1, 1, 1, 1, 0, 1, 0, 0, 1, 0, 0, 1, 1, 1, 1, 1, 1, 0, 0] B14) ?_
      obtain ⟨z_b171_1242, h1254, h1255⟩ := bind_some h1177
      refine TT.weak (ref05_Begun__Sum.L6_ok a0_0 a0_1 b1 b2 s8_v s8_c z_o3_154_v z_o3_154_c b171 x9_175 b745 z_b745_942 b998 z_b998_1113 hE l_z_b998_1113 9 0 y_176 z_b171_1242 l_y_176 h1254 (fun l_z_b171_1242 => ?_)) (Sub.cons rfl (Sub.cons rfl (Sub.cons rfl (Sub.cons rfl (Sub.cons rfl (Sub.cons rfl (Sub.cons rfl (Sub.nil _))))))))
      refine TT.inBlock ?_
      refine TT.region (id := 14) (n := 3) (ops := (opsOf (sub [1, 1, 1, 1, 1, 1, 1, 1, 0, 1, 0, 0, 1, 1] B14))) [(.pure, none), (.pure, none), (.pure, none)] rfl ?_
      show DL _ _ _ _ _ _ _ _ _ _ [0, 1, 2] _ _
      refine DL.pu 60 (.int .i64 x9_175) rfl (p_move rfl rfl) ?_
      refine DL.pu 61 (.int .i64 (IntKind.i64.wrap (x9_175 + 128))) rfl (p_add rfl rfl rfl) ?_
      refine DL.pu 9 (.int .i64 (IntKind.i64.wrap (x9_175 + 128))) rfl (p_assign rfl rfl) ?_
      refine DL.nil ?_
      refine TT.inLoop ?_
      exact TT.pick [2, 3, 4, 5, 6] (by decide) (TT.weak (ih (IntKind.i64.wrap (x9_175 + 128)) z_b171_1242 r0_ l_z_b171_1242 h1255 hk) (Sub.cons rfl (Sub.cons rfl (Sub.cons rfl (Sub.cons rfl (Sub.cons rfl (Sub.nil _)))))))
    · replace c743 := Bool.eq_false_iff.mpr c743
      have h1257 := ite_false c743 h
      refine TT.cond_false (x := sub [1, 1, 1, 1, 1, 1, 1, 1, 0, 1, 0, 0, 0, 1, 0] B14) (y := sub [1, 1, 1, 1, 1, 1, 1, 1, 0, 1, 0, 0, 0, 1, 1] B14) rfl c743 ?_
      refine TT.exit rfl ?_
      obtain rfl := Option.some.inj h1257
      exact TT.weak (hk l_y_176) (Sub.cons rfl (Sub.cons rfl (Sub.nil _)))

def ref05_Begun__Sum.L7 (z_b171_742 : List Int) : Nat → Int → (List Int) → Option (List Int)
  | 0, _, _ => none
  | k + 1, x21_1262, y_1263 => if (decide (x21_1262 < 64)) = true then (req (0 ≤ (IntKind.i64.wrap (Int.tdiv x21_1262 8))) (req ((IntKind.i64.wrap (Int.tdiv x21_1262 8)) < 8) (nm (IntKind.i64.wrap (56 - (IntKind.i64.wrap (8 * (Int.tmod x21_1262 8))))) fun t1340 => req (0 ≤ (IntKind.u64.wrap t1340)) (nm (ishr .u64 (z_b171_742.getD ((IntKind.i64.wrap (Int.tdiv x21_1262 8)).toNat) 0) (IntKind.u64.wrap t1340)) fun t1345 => req (0 ≤ x21_1262) (req (x21_1262 < 64) (ref05_Begun__Sum.L7 z_b171_742 k (IntKind.i64.wrap (x21_1262 + 1)) (y_1263.set x21_1262.toNat (IntKind.u8.wrap t1345)))))))) else (some y_1263)
set_option maxRecDepth 20000 in
theorem ref05_Begun__Sum.L7_ok (a0_0 : Value) (a0_1 : Value) (b1 : Nat) (b2 : Nat) (s8_v : Value) (s8_c : Array Value) (z_o3_154_v : Value) (z_o3_154_c : Array Value) (b171 : Nat) (z_b171_742 : List Int) (b1261 : Nat) {R : Ending → World → Prop} {w0 : World} {M0 M I : Mem} {K : List Item} (hE : Env w0 M0 M I) (l_z_b171_742 : z_b171_742.length = 8) :
    ∀ (k : Nat) (x21_1262 : Int) (y_1263 : List Int) (r0_ : List Int) (l_y_1263 : y_1263.length = 64) (h : ref05_Begun__Sum.L7 z_b171_742 k x21_1262 y_1263 = some r0_) (hk : r0_.length = 64 → TT Try.prog 14 R 245 w0 I K [(4, ptr b2 0), (20, ptr b1261 0)] [(some b1261, .cells (enc .u8 r0_) 27 (0, 0)), (some b171, .cells (enc .u64 z_b171_742) 42 (0, 0)), (Value.ownBlock s8_v, .cells s8_c 5 (0, 0)), (Value.ownBlock z_o3_154_v, .cells z_o3_154_c 5 (0, 0)), (some b2, .cells (enc .u8 (List.replicate 64 0)) 27 (0, 0)), (some b1, .cells (#[a0_0, a0_1]) 33 (0, 0))]),
      TT Try.prog 14 R 245 w0 I (.code (sub [1, 1, 1, 1, 1, 1, 1, 1, 1, 1, 0, 1, 0, 0] B14) :: .inLoop (sub [1, 1, 1, 1, 1, 1, 1, 1, 1, 1, 0, 1, 0, 0] B14) :: .inBlock 14 :: K) [(4, ptr b2 0), (8, ptr b171 0), (20, ptr b1261 0), (21, .int .i64 x21_1262)] [(some b1261, .cells (enc .u8 y_1263) 27 (0, 0)), (some b171, .cells (enc .u64 z_b171_742) 42 (0, 0)), (Value.ownBlock s8_v, .cells s8_c 5 (0, 0)), (Value.ownBlock z_o3_154_v, .cells z_o3_154_c 5 (0, 0)), (some b2, .cells (enc .u8 (List.replicate 64 0)) 27 (0, 0)), (some b1, .cells (#[a0_0, a0_1]) 33 (0, 0))] := by
  intro k
  induction k with
  | zero => intro x21_1262 y_1263 r0_ l_y_1263 h; simp [ref05_Begun__Sum.L7] at h
  | succ k ih =>
    intro x21_1262 y_1263 r0_ l_y_1263 h hk
    unfold ref05_Begun__Sum.L7 at h
    refine TT.seq (x := sub [1, 1, 1, 1, 1, 1, 1, 1, 1, 1, 0, 1, 0, 0, 0] B14) (y := sub [1, 1, 1, 1, 1, 1, 1, 1, 1, 1, 0, 1, 0, 0, 1] B14) ?_
    refine TT.seq (x := sub [1, 1, 1, 1, 1, 1, 1, 1, 1, 1, 0, 1, 0, 0, 0, 0] B14) (y := sub [1, 1, 1, 1, 1, 1, 1, 1, 1, 1, 0, 1, 0, 0, 0, 1] B14) ?_
    refine TT.region (id := 38) (n := 2) (ops := (opsOf (sub [1, 1, 1, 1, 1, 1, 1, 1, 1, 1, 0, 1, 0, 0, 0, 0] B14))) [(.pure, none), (.pure, none)] rfl ?_
    show DL _ _ _ _ _ _ _ _ _ _ [0, 1] _ _
    refine DL.pu 227 (.int .i64 x21_1262) rfl (p_move rfl rfl) ?_
    refine DL.pu 228 (.bool (decide (x21_1262 < 64))) rfl (p_lss rfl rfl rfl) ?_
    refine DL.nil ?_
    by_cases c1334 : (decide (x21_1262 < 64)) = true
    · have h1335 := ite_true c1334 h
      refine TT.cond_true (x := sub [1, 1, 1, 1, 1, 1, 1, 1, 1, 1, 0, 1, 0, 0, 0, 1, 0] B14) (y := sub [1, 1, 1, 1, 1, 1, 1, 1, 1, 1, 0, 1, 0, 0, 0, 1, 1] B14) rfl c1334 ?_
      refine TT.skip ?_
      refine TT.seq (x := sub [1, 1, 1, 1, 1, 1, 1, 1, 1, 1, 0, 1, 0, 0, 1, 0] B14) (y := sub [1, 1, 1, 1, 1, 1, 1, 1, 1, 1, 0, 1, 0, 0, 1, 1] B14) ?_
      refine TT.block (c := sub [1, 1, 1, 1, 1, 1, 1, 1, 1, 1, 0, 1, 0, 0, 1, 0, 0] B14) ?_
      refine TT.region (id := 40) (n := 14) (ops := (opsOf (sub [1, 1, 1, 1, 1, 1, 1, 1, 1, 1, 0, 1, 0, 0, 1, 0, 0] B14))) [(.pure, none), (.pure, none), (.pure, none), (.pure, none), (.quiet, none), (.pure, none), (.pure, none), (.pure, none), (.pure, none), (.pure, none), (.pure, none), (.pure, none), (.pure, none), (.store, none)] rfl ?_
      show DL _ _ _ _ _ _ _ _ _ _ [0, 1, 2, 3, 4, 5, 6, 7, 8, 9, 10, 11, 12, 13] _ _
      refine DL.pu 231 (.int .i64 x21_1262) rfl (p_move rfl rfl) ?_
      refine DL.pu 232 (.int .i64 x21_1262) rfl (p_move rfl rfl) ?_
      refine DL.pu 233 (.int .i64 (IntKind.i64.wrap (Int.tdiv x21_1262 8))) rfl (p_quo (by decide) rfl rfl rfl) ?_
      obtain ⟨g1336, h1337⟩ := req_some h1335
      obtain ⟨g1338, h1339⟩ := req_some h1337
      refine DL.pu 234 (ptr b171 ((IntKind.i64.wrap (Int.tdiv x21_1262 8)).toNat)) rfl (p_ix ty_u42 ty_s35 g1336 g1338 rfl rfl rfl) ?_
      refine DL.qu 235 (.int .u64 (z_b171_742.getD ((IntKind.i64.wrap (Int.tdiv x21_1262 8)).toNat) 0)) rfl (f_load (j := 1) ty_a35 rfl (enc_at l_z_b171_742 g1336 g1338) rfl rfl) ?_
      refine DL.pu 236 (.int .i64 x21_1262) rfl (p_move rfl rfl) ?_
      refine DL.pu 237 (.int .i64 (Int.tmod x21_1262 8)) rfl (p_rem (by decide) rfl rfl rfl) ?_
      refine DL.pu 238 (.int .i64 (IntKind.i64.wrap (8 * (Int.tmod x21_1262 8)))) rfl (p_mul rfl rfl rfl) ?_
      obtain ⟨t1340, e1341, h1342⟩ := nm_some h1339
      refine DL.pu 239 (.int .i64 t1340) rfl (by rw [e1341]; exact p_sub rfl rfl rfl) ?_
      refine DL.pu 240 (.int .u64 (IntKind.u64.wrap t1340)) rfl (p_conv ty_u3 ty_u50 ⟨_, rfl⟩ rfl rfl) ?_
      obtain ⟨g1343, h1344⟩ := req_some h1342
      obtain ⟨t1345, e1346, h1347⟩ := nm_some h1344
      refine DL.pu 241 (.int .u64 t1345) rfl (by rw [e1346]; exact p_shr g1343 rfl rfl rfl) ?_
      refine DL.pu 242 (.int .u8 (IntKind.u8.wrap t1345)) rfl (p_conv ty_u35 ty_u5 ⟨_, rfl⟩ rfl rfl) ?_
      obtain ⟨g1348, h1349⟩ := req_some h1347
      obtain ⟨g1350, h1351⟩ := req_some h1349
      refine DL.pu 243 (ptr b1261 x21_1262.toNat) rfl (p_ix ty_u27 ty_s5 g1348 g1350 rfl rfl rfl) ?_
      refine DL.put (H' := [(some b1261, .cells (enc .u8 (y_1263.set x21_1262.toNat (IntKind.u8.wrap t1345))) 27 (0, 0)), (some b171, .cells (enc .u64 z_b171_742) 42 (0, 0)), (Value.ownBlock s8_v, .cells s8_c 5 (0, 0)), (Value.ownBlock z_o3_154_v, .cells z_o3_154_c 5 (0, 0)), (some b2, .cells (enc .u8 (List.replicate 64 0)) 27 (0, 0)), (some b1, .cells (#[a0_0, a0_1]) 33 (0, 0))]) (i := 13) rfl (Wn.none rfl) rfl rfl (f_storeE (j := 0) ty_s5 rfl (lt_nat l_y_1263 g1348 g1350) rfl rfl rfl) (keep_none rfl) ?_
      refine DL.nil ?_
      refine TT.inBlock ?_
      refine TT.region (id := 39) (n := 3) (ops := (opsOf (sub [1, 1, 1, 1, 1, 1, 1, 1, 1, 1, 0, 1, 0, 0, 1, 1] B14))) [(.pure, none), (.pure, none), (.pure, none)] rfl ?_
      show DL _ _ _ _ _ _ _ _ _ _ [0, 1, 2] _ _
      refine DL.pu 229 (.int .i64 x21_1262) rfl (p_move rfl rfl) ?_
      refine DL.pu 230 (.int .i64 (IntKind.i64.wrap (x21_1262 + 1))) rfl (p_add rfl rfl rfl) ?_
      refine DL.pu 21 (.int .i64 (IntKind.i64.wrap (x21_1262 + 1))) rfl (p_assign rfl rfl) ?_
      refine DL.nil ?_
      refine TT.inLoop ?_
      exact TT.weak (ih (IntKind.i64.wrap (x21_1262 + 1)) (y_1263.set x21_1262.toNat (IntKind.u8.wrap t1345)) r0_ (len_set l_y_1263) h1351 hk) (Sub.cons rfl (Sub.cons rfl (Sub.cons rfl (Sub.cons rfl (Sub.nil _)))))
    · replace c1334 := Bool.eq_false_iff.mpr c1334
      have h1352 := ite_false c1334 h
      refine TT.cond_false (x := sub [1, 1, 1, 1, 1, 1, 1, 1, 1, 1, 0, 1, 0, 0, 0, 1, 0] B14) (y := sub [1, 1, 1, 1, 1, 1, 1, 1, 1, 1, 0, 1, 0, 0, 0, 1, 1] B14) rfl c1334 ?_
      refine TT.exit rfl ?_
      obtain rfl := Option.some.inj h1352
      exact TT.weak (hk l_y_1263) (Sub.cons rfl (Sub.cons rfl (Sub.nil _)))

def ref05_Begun__Sum.f (a0 : Begun) (a1 : List Int) : Option ((List Int)) := req (a1.length ≤ 1099511627776) (req ((a1).length + [128].length ≤ 1099511627776) ((ref05_Begun__Sum.L0 200 ((a1) ++ [128])).bind fun z_o3_71 => req (z_o3_71.length + 8 ≤ 1099511627776) (nm (IntKind.u64.wrap ((IntKind.u64.wrap (a1.length : Int)) * 8)) fun t86 => (ref05_Begun__Sum.L1 t86 9 (z_o3_71 ++ List.replicate 8 0) 7).bind fun z_o3_154 => req ((Begun.start a0).length = 8) ((ref05_Begun__Sum.L2 a0 z_o3_154 100000 0 (Begun.start a0)).bind fun z_b171_742 => (ref05_Begun__Sum.L7 z_b171_742 65 0 (List.replicate 64 0)).bind fun z_b1261_1333 => some z_b1261_1333))))
set_option maxHeartbeats 1000000 in
set_option maxRecDepth 20000 in
theorem ref05_Begun__Sum.ok {a0 : Begun} {a1 : List Int} {a0_0 : Value} {a0_1 : Value} {a1_v : Value} {r : List Int} (h : ref05_Begun__Sum.f a0 a1 = some r) {M : Mem} (w : World) (hM : Ext M (heapOf w)) (hr_a0_0 : IntRow M .u64 a0_0 (Begun.start a0)) (hr_a0_1 : IntRow M .u64 a0_1 (Begun.k a0)) (hr_a1 : IntRow M .u8 a1_v a1) : Calls Try.prog 14 #[.agg #[a0_0, a0_1], a1_v] w (Post (fun u => u = .agg (enc .u8 r)) w) := by
  unfold ref05_Begun__Sum.f at h
  have hE := Env.start hM
  refine calls_of_TT (N := 245) (S := [(0, .agg #[a0_0, a0_1]), (1, a1_v)]) (c := B14) Try.func14 rfl rfl rfl (by simp) ?_
  show TT _ _ _ _ _ _ [.code (sub [] B14)] _ _
  refine TT.seq (x := sub [0] B14) (y := sub [1] B14) ?_
  refine TT.region (id := 0) (n := 2) (ops := (opsOf (sub [0] B14))) [(.alloc, none), (.alloc, none)] rfl ?_
  show DL _ _ _ _ _ _ _ _ _ _ [0, 1] _ _
  refine DL.new (ob := .cells (#[a0_0, a0_1]) 33) (mk := fun b => ptr b 0) (i := 0) rfl (Wn.none rfl) rfl rfl rfl (f_box (v := .agg #[a0_0, a0_1]) rfl rfl) ?_
  intro b1 hb1
  refine DL.new (ob := .cells (enc .u8 (List.replicate 64 0)) 27) (mk := fun b => ptr b 0) (i := 1) rfl (Wn.none rfl) rfl rfl rfl (f_alloc ty_z27 rfl) ?_
  intro b2 hb2
  refine DL.nil ?_
  refine TT.seq (x := sub [1, 0] B14) (y := sub [1, 1] B14) ?_
  refine TT.region (id := 1) (n := 5) (ops := (opsOf (sub [1, 0] B14))) [(.pure, none), (.actx, none), (.alloc, none), (.actx, none), (.pure, none)] rfl ?_
  show DL _ _ _ _ _ _ _ _ _ _ [0, 1, 2, 3, 4] _ _
  refine DL.pu 22 (a1_v) rfl (p_move rfl rfl) ?_
  obtain ⟨g4, h5⟩ := req_some h
  refine DL.appendI0 (fun s6_v s6_c => [(Value.ownBlock s6_v, .cells s6_c 5 (0, 0)), (some b2, .cells (enc .u8 (List.replicate 64 0)) 27 (0, 0)), (some b1, .cells (#[a0_0, a0_1]) 33 (0, 0))]) elem22  g4 (by decide) (fun w hc => RowV.src (RowV.mono hr_a1 (by have hc := hc.tail; exact (hE.ext hc))) (encl_one _ _)) (i := 1) rfl (Wn.none rfl) rfl rfl rfl rfl rfl rfl (fun _ _ => rfl) ?_
  intro s6_v s6_c ho_s6
  show DL _ _ _ _ _ _ _ _ _ _ _ _ [(Value.ownBlock s6_v, .cells s6_c 5 (0, 0)), (some b2, .cells (enc .u8 (List.replicate 64 0)) 27 (0, 0)), (some b1, .cells (#[a0_0, a0_1]) 33 (0, 0))]
  refine DL.newSl (zs := [128]) (n := 1) rfl (by decide) (i := 2) rfl (Wn.none rfl) rfl rfl rfl (f_buildSl (n := 1) (zs := [128]) (vs := [(0, .int .u8 128)]) elem22 rfl rfl (by kernel_rfl) rfl (args_val2 rfl)) ?_
  intro s8_v s8_c ho_s8
  obtain ⟨g9, h10⟩ := req_some h5
  refine DL.appendI (fun s11_v s11_c => [(Value.ownBlock s8_v, .cells s8_c 5 (0, 0)), (Value.ownBlock s11_v, .cells s11_c 5 (0, 0)), (some b2, .cells (enc .u8 (List.replicate 64 0)) 27 (0, 0)), (some b1, .cells (#[a0_0, a0_1]) 33 (0, 0))]) elem22 (j := 1) rfl ho_s6 g9 (by decide) (fun w hc => IntOwn.src (i := 0) ho_s8 hc rfl) (i := 3) rfl (Wn.none rfl) rfl rfl rfl rfl rfl rfl (fun _ _ => rfl) ?_
  intro s11_v s11_c ho_s11
  show DL _ _ _ _ _ _ _ _ _ _ _ _ [(Value.ownBlock s8_v, .cells s8_c 5 (0, 0)), (Value.ownBlock s11_v, .cells s11_c 5 (0, 0)), (some b2, .cells (enc .u8 (List.replicate 64 0)) 27 (0, 0)), (some b1, .cells (#[a0_0, a0_1]) 33 (0, 0))]
  refine DL.pu 5 (s11_v) rfl (p_assign rfl rfl) ?_
  refine DL.nil ?_
  refine TT.seq (x := sub [1, 1, 0] B14) (y := sub [1, 1, 1] B14) ?_
  refine TT.block (c := sub [1, 1, 0, 0] B14) ?_
  refine TT.loop (c := sub [1, 1, 0, 0, 0] B14) ?_
  obtain ⟨z_o3_71, h80, h81⟩ := bind_some h10
  refine TT.weak (ref05_Begun__Sum.L0_ok a0_0 a0_1 a1_v b1 b2 s8_v s8_c hE 200 ((a1) ++ [128]) s11_v s11_c z_o3_71 ho_s11 h80 (fun z_o3_71_v z_o3_71_c ho_z_o3_71 => ?_)) (Sub.cons rfl (Sub.cons rfl (Sub.cons rfl (Sub.cons rfl (Sub.nil _)))))
  refine TT.seq (x := sub [1, 1, 1, 0] B14) (y := sub [1, 1, 1, 1] B14) ?_
  refine TT.region (id := 4) (n := 3) (ops := (opsOf (sub [1, 1, 1, 0] B14))) [(.pure, none), (.actx, none), (.pure, none)] rfl ?_
  show DL _ _ _ _ _ _ _ _ _ _ [0, 1, 2] _ _
  refine DL.pu 33 (z_o3_71_v) rfl (p_move rfl rfl) ?_
  obtain ⟨g83, h84⟩ := req_some h81
  refine DL.appendZ (m := 8) (fun s85_v s85_c => [(Value.ownBlock s8_v, .cells s8_c 5 (0, 0)), (Value.ownBlock s85_v, .cells s85_c 5 (0, 0)), (some b2, .cells (enc .u8 (List.replicate 64 0)) 27 (0, 0)), (some b1, .cells (#[a0_0, a0_1]) 33 (0, 0))]) elem22 ty_ue3 (j := 1) rfl ho_z_o3_71 (by decide) g83 (by decide) (i := 1) rfl (Wn.none rfl) rfl rfl rfl rfl rfl rfl (fun _ _ => rfl) ?_
  intro s85_v s85_c ho_s85
  show DL _ _ _ _ _ _ _ _ _ _ _ _ [(Value.ownBlock s8_v, .cells s8_c 5 (0, 0)), (Value.ownBlock s85_v, .cells s85_c 5 (0, 0)), (some b2, .cells (enc .u8 (List.replicate 64 0)) 27 (0, 0)), (some b1, .cells (#[a0_0, a0_1]) 33 (0, 0))]
  refine DL.pu 5 (s85_v) rfl (p_assign rfl rfl) ?_
  refine DL.nil ?_
  refine TT.seq (x := sub [1, 1, 1, 1, 0] B14) (y := sub [1, 1, 1, 1, 1] B14) ?_
  refine TT.region (id := 5) (n := 5) (ops := (opsOf (sub [1, 1, 1, 1, 0] B14))) [(.pure, none), (.pure, none), (.pure, none), (.pure, none), (.pure, none)] rfl ?_
  show DL _ _ _ _ _ _ _ _ _ _ [0, 1, 2, 3, 4] _ _
  refine DL.pu 35 (a1_v) rfl (p_move rfl rfl) ?_
  refine DL.pu 36 (.int .i64 (a1.length : Int)) rfl (p_slLen ty_u22 (RowV.sl hr_a1) rfl rfl) ?_
  refine DL.pu 37 (.int .u64 (IntKind.u64.wrap (a1.length : Int))) rfl (p_conv ty_u3 ty_u35 ⟨_, rfl⟩ rfl rfl) ?_
  obtain ⟨t86, e87, h88⟩ := nm_some h84
  refine DL.pu 38 (.int .u64 t86) rfl (by rw [e87]; exact p_mul rfl rfl rfl) ?_
  refine DL.pu 6 (.int .u64 t86) rfl (p_assign rfl rfl) ?_
  refine DL.nil ?_
  refine TT.seq (x := sub [1, 1, 1, 1, 1, 0] B14) (y := sub [1, 1, 1, 1, 1, 1] B14) ?_
  refine TT.seq (x := sub [1, 1, 1, 1, 1, 0, 0] B14) (y := sub [1, 1, 1, 1, 1, 0, 1] B14) ?_
  refine TT.region (id := 6) (n := 1) (ops := (opsOf (sub [1, 1, 1, 1, 1, 0, 0] B14))) [(.pure, none)] rfl ?_
  show DL _ _ _ _ _ _ _ _ _ _ [0] _ _
  refine DL.pu 7 (.int .i64 7) rfl (p_assign rfl rfl) ?_
  refine DL.nil ?_
  refine TT.block (c := sub [1, 1, 1, 1, 1, 0, 1, 0] B14) ?_
  refine TT.loop (c := sub [1, 1, 1, 1, 1, 0, 1, 0, 0] B14) ?_
  obtain ⟨z_o3_154, h168, h169⟩ := bind_some h88
  refine TT.weak (ref05_Begun__Sum.L1_ok a0_0 a0_1 b1 b2 s8_v s8_c t86 hE 9 (z_o3_71 ++ List.replicate 8 0) 7 s85_v s85_c z_o3_154 ho_s85 h168 (fun z_o3_154_v z_o3_154_c ho_z_o3_154 => ?_)) (Sub.cons rfl (Sub.cons rfl (Sub.cons rfl (Sub.cons rfl (Sub.cons rfl (Sub.nil _))))))
  refine TT.seq (x := sub [1, 1, 1, 1, 1, 1, 0] B14) (y := sub [1, 1, 1, 1, 1, 1, 1] B14) ?_
  refine TT.region (id := 10) (n := 1) (ops := (opsOf (sub [1, 1, 1, 1, 1, 1, 0] B14))) [(.alloc, none)] rfl ?_
  show DL _ _ _ _ _ _ _ _ _ _ [0] _ _
  refine DL.new (ob := .cells (enc .u64 (List.replicate 8 0)) 42) (mk := fun b => ptr b 0) (i := 0) rfl (Wn.none rfl) rfl rfl rfl (f_alloc ty_z42 rfl) ?_
  intro b171 hb171
  refine DL.nil ?_
  refine TT.seq (x := sub [1, 1, 1, 1, 1, 1, 1, 0] B14) (y := sub [1, 1, 1, 1, 1, 1, 1, 1] B14) ?_
  refine TT.regionD (id := 11) (ops := (opsOf (sub [1, 1, 1, 1, 1, 1, 1, 0] B14))) [0, 1, 2, 3] [0, 0, 2, 7] [(.pure, none), (.pure, none), (.look, some 4), (.actx, none)] mixed (by kernel_rfl) ?_
  intro w172 hl172 hj172 hz172
  refine DL.pu 52 (.slice (some ⟨b171, 0, none⟩) 8 8) rfl (p_view ty_u42 ty_s35 (by decide) rfl rfl) ?_
  refine DL.pu 53 (ptr b1 0) rfl (p_fieldAddr ty_f33_0 rfl rfl) ?_
  refine DL.look (v := a0_0) (x := 4) (b := b1) (i := 2) rfl (Wn.none rfl) rfl rfl rfl rfl rfl (List.mem_of_getElem? (i := 4) rfl) (b_load ty_a31 rfl rfl rfl) ?_
  obtain ⟨g173, h174⟩ := req_some h169
  refine DL.copyArr [(some b171, .cells (enc .u64 (Begun.start a0)) 42 (0, 0)), (Value.ownBlock s8_v, .cells s8_c 5 (0, 0)), (Value.ownBlock z_o3_154_v, .cells z_o3_154_c 5 (0, 0)), (some b2, .cells (enc .u8 (List.replicate 64 0)) 27 (0, 0)), (some b1, .cells (#[a0_0, a0_1]) 33 (0, 0))] ty_us31 ty_sz35 (fun w hc => hE.imm hc) hr_a0_0 (j := 0) rfl (List.length_replicate) g173 (by decide) (i := 3) rfl (Wn.none rfl) rfl rfl rfl rfl rfl rfl rfl ?_
  refine DL.nil' hl172 ?_
  refine TT.seq (x := sub [1, 1, 1, 1, 1, 1, 1, 1, 0] B14) (y := sub [1, 1, 1, 1, 1, 1, 1, 1, 1] B14) ?_
  refine TT.seq (x := sub [1, 1, 1, 1, 1, 1, 1, 1, 0, 0] B14) (y := sub [1, 1, 1, 1, 1, 1, 1, 1, 0, 1] B14) ?_
  refine TT.region (id := 12) (n := 1) (ops := (opsOf (sub [1, 1, 1, 1, 1, 1, 1, 1, 0, 0] B14))) [(.pure, none)] rfl ?_
  show DL _ _ _ _ _ _ _ _ _ _ [0] _ _
  refine DL.pu 9 (.int .i64 0) rfl (p_assign rfl rfl) ?_
  refine DL.nil ?_
  refine TT.block (c := sub [1, 1, 1, 1, 1, 1, 1, 1, 0, 1, 0] B14) ?_
  refine TT.loop (c := sub [1, 1, 1, 1, 1, 1, 1, 1, 0, 1, 0, 0] B14) ?_
  obtain ⟨z_b171_742, h1258, h1259⟩ := bind_some h174
  refine TT.weak (ref05_Begun__Sum.L2_ok a0 a0_0 a0_1 b1 b2 s8_v s8_c z_o3_154 z_o3_154_v z_o3_154_c b171 hE hr_a0_1 ho_z_o3_154 100000 0 (Begun.start a0) z_b171_742 g173 h1258 (fun l_z_b171_742 => ?_)) (Sub.cons rfl (Sub.cons rfl (Sub.cons rfl (Sub.cons rfl (Sub.cons rfl (Sub.nil _))))))
  refine TT.seq (x := sub [1, 1, 1, 1, 1, 1, 1, 1, 1, 0] B14) (y := sub [1, 1, 1, 1, 1, 1, 1, 1, 1, 1] B14) ?_
  refine TT.region (id := 36) (n := 1) (ops := (opsOf (sub [1, 1, 1, 1, 1, 1, 1, 1, 1, 0] B14))) [(.alloc, none)] rfl ?_
  show DL _ _ _ _ _ _ _ _ _ _ [0] _ _
  refine DL.new (ob := .cells (enc .u8 (List.replicate 64 0)) 27) (mk := fun b => ptr b 0) (i := 0) rfl (Wn.none rfl) rfl rfl rfl (f_alloc ty_z27 rfl) ?_
  intro b1261 hb1261
  refine DL.nil ?_
  refine TT.seq (x := sub [1, 1, 1, 1, 1, 1, 1, 1, 1, 1, 0] B14) (y := sub [1, 1, 1, 1, 1, 1, 1, 1, 1, 1, 1] B14) ?_
  refine TT.seq (x := sub [1, 1, 1, 1, 1, 1, 1, 1, 1, 1, 0, 0] B14) (y := sub [1, 1, 1, 1, 1, 1, 1, 1, 1, 1, 0, 1] B14) ?_
  refine TT.region (id := 37) (n := 1) (ops := (opsOf (sub [1, 1, 1, 1, 1, 1, 1, 1, 1, 1, 0, 0] B14))) [(.pure, none)] rfl ?_
  show DL _ _ _ _ _ _ _ _ _ _ [0] _ _
  refine DL.pu 21 (.int .i64 0) rfl (p_assign rfl rfl) ?_
  refine DL.nil ?_
  refine TT.block (c := sub [1, 1, 1, 1, 1, 1, 1, 1, 1, 1, 0, 1, 0] B14) ?_
  refine TT.loop (c := sub [1, 1, 1, 1, 1, 1, 1, 1, 1, 1, 0, 1, 0, 0] B14) ?_
  obtain ⟨z_b1261_1333, h1353, h1354⟩ := bind_some h1259
  refine TT.weak (ref05_Begun__Sum.L7_ok a0_0 a0_1 b1 b2 s8_v s8_c z_o3_154_v z_o3_154_c b171 z_b171_742 b1261 hE l_z_b171_742 65 0 (List.replicate 64 0) z_b1261_1333 (List.length_replicate) h1353 (fun l_z_b1261_1333 => ?_)) (Sub.cons rfl (Sub.cons rfl (Sub.cons rfl (Sub.cons rfl (Sub.nil _)))))
  refine TT.seq (x := sub [1, 1, 1, 1, 1, 1, 1, 1, 1, 1, 1, 0] B14) (y := sub [1, 1, 1, 1, 1, 1, 1, 1, 1, 1, 1, 1] B14) ?_
  refine TT.region (id := 41) (n := 2) (ops := (opsOf (sub [1, 1, 1, 1, 1, 1, 1, 1, 1, 1, 1, 0] B14))) [(.quiet, none), (.store, none)] rfl ?_
  show DL _ _ _ _ _ _ _ _ _ _ [0, 1] _ _
  refine DL.qu 244 (.agg (enc .u8 z_b1261_1333)) rfl (f_loadA (j := 0) ty_a27 ty_s27 rfl (enc_sz l_z_b1261_1333) rfl rfl) ?_
  refine DL.put (H' := [(some b1261, .cells (enc .u8 z_b1261_1333) 27 (0, 0)), (some b171, .cells (enc .u64 z_b171_742) 42 (0, 0)), (Value.ownBlock s8_v, .cells s8_c 5 (0, 0)), (Value.ownBlock z_o3_154_v, .cells z_o3_154_c 5 (0, 0)), (some b2, .cells (enc .u8 z_b1261_1333) 27 (0, 0)), (some b1, .cells (#[a0_0, a0_1]) 33 (0, 0))]) (i := 1) rfl (Wn.none rfl) rfl rfl (f_storeA (j := 4) ty_s27 rfl (enc_sz l_z_b1261_1333) (enc_sz (List.length_replicate)) (enc_oneCell _ _) rfl rfl rfl) (keep_none rfl) ?_
  refine DL.nil ?_
  obtain rfl := Option.some.inj h1354
  exact retnE (rs := [.cell 4 27]) (vs := [.agg (enc .u8 z_b1261_1333)]) hE.base Try.func14 rfl rfl rfl (res_cons (ResV.cell (j := 4) ty_a27 ty_s27 rfl rfl (enc_sz l_z_b1261_1333)) res_nil) rfl
theorem ref05_Begun__Sum.val {a0 : Begun} {a1 : List Int} {a0_0 : Value} {a0_1 : Value} {a1_v : Value} {r : List Int} (h : ref05_Begun__Sum.f a0 a1 = some r) {M : Mem} (w : World) (hM : Ext M (heapOf w)) (hr_a0_0 : IntRow M .u64 a0_0 (Begun.start a0)) (hr_a0_1 : IntRow M .u64 a0_1 (Begun.k a0)) (hr_a1 : IntRow M .u8 a1_v a1) : Calls Try.prog 14 #[.agg #[a0_0, a0_1], a1_v] w fun e w' => e = .returned (.agg (enc .u8 r)) ∧ Below w.heap.size w w' :=
  calls_value (ref05_Begun__Sum.ok h w hM hr_a0_0 hr_a0_1 hr_a1)

/-! ### escutcheon/escutcheonref05.Sum: function 7 -/
noncomputable def B7 : Code := bodyOf Try.f7
def ref05_Sum.f (a0 : List Int) : Option ((List Int)) := (ref05_Begin.f).bind fun t2 => (ref05_Begun__Sum.f t2 a0).bind fun t6 => req (t6.length = 64) (some t6)
set_option maxRecDepth 20000 in
theorem ref05_Sum.ok {a0 : List Int} {a0_v : Value} {r : List Int} (h : ref05_Sum.f a0 = some r) {M : Mem} (w : World) (hM : Ext M (heapOf w)) (hr_a0 : IntRow M .u8 a0_v a0) : Calls Try.prog 7 #[a0_v] w (Post (fun u => u = .agg (enc .u8 r)) w) := by
  unfold ref05_Sum.f at h
  have hE := Env.start hM
  refine calls_of_TT (N := 6) (S := [(0, a0_v)]) (c := B7) Try.func7 rfl rfl rfl (by simp) ?_
  show TT _ _ _ _ _ _ [.code (sub [] B7)] _ _
  refine TT.seq (x := sub [0] B7) (y := sub [1] B7) ?_
  refine TT.region (id := 0) (n := 1) (ops := (opsOf (sub [0] B7))) [(.alloc, none)] rfl ?_
  show DL _ _ _ _ _ _ _ _ _ _ [0] _ _
  refine DL.new (ob := .cells (enc .u8 (List.replicate 64 0)) 27) (mk := fun b => ptr b 0) (i := 0) rfl (Wn.none rfl) rfl rfl rfl (f_alloc ty_z27 rfl) ?_
  intro b1 hb1
  refine DL.nil ?_
  refine TT.seq (x := sub [1, 0] B7) (y := sub [1, 1] B7) ?_
  refine TT.region (id := 1) (n := 4) (ops := (opsOf (sub [1, 0] B7))) [(.keep, none), (.pure, none), (.quiet, none), (.store, none)] rfl ?_
  show DL _ _ _ _ _ _ _ _ _ _ [0, 1, 2, 3] _ _
  obtain ⟨t2, h3, h4⟩ := bind_some h
  refine DL.callF (G := Value × Value) (u := fun g => .agg #[(g.1), (g.2)]) (Q := fun g M_ => (IntRow M_ .u64 (g.1) (Begun.start t2)) ∧ (IntRow M_ .u64 (g.2) (Begun.k t2))) (A := [(some b1, .cells (enc .u8 (List.replicate 64 0)) 27 (0, 0))]) (J := []) (fun J5 => ((some b1, .cells (enc .u8 (List.replicate 64 0)) 27 (0, 0)) :: J5)) (Nat.le_refl _) hE.nil (List.append_nil _).symm (fun _ => rfl) (by simp) (i := 0) rfl (Wn.none rfl) rfl rfl rfl rfl rfl rfl (args_val (vs := []) rfl) (fun w => enter8 _ w) (fun w hc hI => ref05_Begin.ok h3 (M := M) w hI ) ?_
  rintro ⟨t2_0, t2_1⟩ M5 J5 hE5 hx5 ⟨hr_t2_0, hr_t2_1⟩
  show DL _ _ _ _ _ _ _ _ _ _ _ _ ((some b1, .cells (enc .u8 (List.replicate 64 0)) 27 (0, 0)) :: J5)
  refine DL.pu 4 (a0_v) rfl (p_move rfl rfl) ?_
  obtain ⟨t6, h7, h8⟩ := bind_some h4
  obtain ⟨g9, h10⟩ := req_some h8
  have l_t6 : t6.length = 64 := g9
  refine DL.qu 5 (.agg (enc .u8 t6)) rfl (f_callR rfl rfl (args_val (vs := [.agg #[t2_0, t2_1], a0_v]) rfl) (fun w => enter14 _ w) (fun w hc => ref05_Begun__Sum.val h7 (M := M5) w (hE5.extJ (A := [(some b1, .cells (enc .u8 (List.replicate 64 0)) 27 (0, 0))]) hc rfl) hr_t2_0 hr_t2_1 (IntRow.mono hr_a0 hx5))) ?_
  refine DL.put (H' := ((some b1, .cells (enc .u8 t6) 27 (0, 0)) :: J5)) (i := 3) rfl (Wn.none rfl) rfl rfl (f_storeA (j := 0) ty_s27 rfl (enc_sz l_t6) (enc_sz (List.length_replicate)) (enc_oneCell _ _) rfl rfl rfl) (keep_none rfl) ?_
  refine DL.nil ?_
  refine TT.settle (A := [(some b1, .cells (enc .u8 t6) 27 (0, 0))]) (J := J5) hE5 ?_
  intro I11 hE11 hxI11
  obtain rfl := Option.some.inj h10
  exact retnE (rs := [.cell 2 27]) (vs := [.agg (enc .u8 t6)]) hE11.base Try.func7 rfl rfl rfl (res_cons (ResV.cell (j := 0) ty_a27 ty_s27 rfl rfl (enc_sz l_t6)) res_nil) rfl
theorem ref05_Sum.val {a0 : List Int} {a0_v : Value} {r : List Int} (h : ref05_Sum.f a0 = some r) {M : Mem} (w : World) (hM : Ext M (heapOf w)) (hr_a0 : IntRow M .u8 a0_v a0) : Calls Try.prog 7 #[a0_v] w fun e w' => e = .returned (.agg (enc .u8 r)) ∧ Below w.heap.size w w' :=
  calls_value (ref05_Sum.ok h w hM hr_a0)

/-! ### escutcheon/escutcheonlaw05.known: function 5 -/
noncomputable def B5 : Code := bodyOf Try.f5
def law05_known.f : Option (Bool) := (sha_Sum.f ([[97, 98, 99]] : List (List Int))).bind fun t5 => req (t5.length = 64) ((if ((t5.getD ((0 : Int).toNat) 0) == 221) = true then (some ((t5.getD ((1 : Int).toNat) 0) == 175)) else (some false)).bind fun q12 => (if q12 = true then (some ((t5.getD ((2 : Int).toNat) 0) == 53)) else (some false)).bind fun q20 => (if q20 = true then (some ((t5.getD ((3 : Int).toNat) 0) == 161)) else (some false)).bind fun q28 => some q28)
set_option maxRecDepth 20000 in
theorem law05_known.ok {r : Bool} (h : law05_known.f = some r) {M : Mem} (w : World) (hM : Ext M (heapOf w)) : Calls Try.prog 5 #[] w (Post (fun u => u = .bool r) w) := by
  unfold law05_known.f at h
  have hE := Env.start hM
  refine calls_of_TT (N := 24) (S := []) (c := B5) Try.func5 rfl rfl rfl (by simp) ?_
  show TT _ _ _ _ _ _ [.code (sub [] B5)] _ _
  refine TT.seq (x := sub [0] B5) (y := sub [1] B5) ?_
  refine TT.region (id := 0) (n := 1) (ops := (opsOf (sub [0] B5))) [(.pure, none)] rfl ?_
  show DL _ _ _ _ _ _ _ _ _ _ [0] _ _
  refine DL.pu 0 (.bool false) rfl (p_assign rfl rfl) ?_
  refine DL.nil ?_
  refine TT.seq (x := sub [1, 0] B5) (y := sub [1, 1] B5) ?_
  refine TT.region (id := 1) (n := 6) (ops := (opsOf (sub [1, 0] B5))) [(.alloc, none), (.actx, none), (.alloc, none), (.quiet, none), (.alloc, none), (.store, none)] rfl ?_
  show DL _ _ _ _ _ _ _ _ _ _ [0, 1, 2, 3, 4, 5] _ _
  refine DL.newSl (zs := [97, 98, 99]) (n := 3) rfl (by decide) (i := 0) rfl (Wn.none rfl) rfl rfl rfl (f_buildSl (n := 3) (zs := [97, 98, 99]) (vs := [(0, .int .u8 97), (1, .int .u8 98), (2, .int .u8 99)]) elem22 rfl rfl (by kernel_rfl) rfl (args_val2 rfl)) ?_
  intro s2_v s2_c ho_s2
  refine DL.convB [(Value.ownBlock s2_v, .cells s2_c 5 (s2_c.size, s2_c.size + 1))] ty_us22 ty_us5 (j := 0) rfl ho_s2 (by decide) (i := 1) rfl (Wn.none rfl) rfl rfl rfl rfl rfl rfl ?_
  refine DL.newO (cells := [s2_v]) (n := 1) rfl (by decide) (i := 2) rfl (Wn.none rfl) rfl rfl rfl (f_buildS (n := 1) (vs := [(0, s2_v)]) elem25 rfl rfl (by simp [Instr.fill, sl_cells (OwnV.sl ho_s2)] <;> exact fill_one _ _) rfl (args_val2 rfl)) ?_
  intro s4_v s4_c ho_s4
  obtain ⟨t5, h6, h7⟩ := bind_some h
  obtain ⟨g8, h9⟩ := req_some h7
  have l_t5 : t5.length = 64 := g8
  refine DL.qu 5 (.agg (enc .u8 t5)) rfl (f_callR rfl rfl (args_val (vs := [s4_v]) rfl) (fun w => enter6 _ w) (fun w hc => sha_Sum.val h6 (M := heapOf w) w (Ext.refl _) (row_one (j := 0) (j2 := 1) ho_s4 ho_s2 hc rfl rfl))) ?_
  refine DL.new (ob := .cells (enc .u8 (List.replicate 64 0)) 27) (mk := fun b => ptr b 0) (i := 4) rfl (Wn.none rfl) rfl rfl rfl (f_alloc ty_z27 rfl) ?_
  intro b10 hb10
  refine DL.put (H' := [(some b10, .cells (enc .u8 t5) 27 (0, 0)), (Value.ownBlock s4_v, .cells s4_c 22 (0, 0)), (Value.ownBlock s2_v, .cells s2_c 5 (s2_c.size, s2_c.size + 1))]) (i := 5) rfl (Wn.none rfl) rfl rfl (f_storeA (j := 0) ty_s27 rfl (enc_sz l_t5) (enc_sz (List.length_replicate)) (enc_oneCell _ _) rfl rfl rfl) (keep_none rfl) ?_
  refine DL.nil ?_
  refine TT.seq (x := sub [1, 1, 0] B5) (y := sub [1, 1, 1] B5) ?_
  refine TT.region (id := 2) (n := 19) (ops := (opsOf (sub [1, 1, 0] B5))) [(.pure, none), (.quiet, none), (.pure, none), (.pure, none), (.pure, none), (.quiet, none), (.pure, none), (.pure, none), (.pure, none), (.pure, none), (.quiet, none), (.pure, none), (.pure, none), (.pure, none), (.pure, none), (.quiet, none), (.pure, none), (.pure, none), (.pure, none)] rfl ?_
  show DL _ _ _ _ _ _ _ _ _ _ [0, 1, 2, 3, 4, 5, 6, 7, 8, 9, 10, 11, 12, 13, 14, 15, 16, 17, 18] _ _
  refine DL.pu 6 (ptr b10 ((0 : Int).toNat)) rfl (p_ix ty_u27 ty_s5 (by decide) (by decide) rfl rfl rfl) ?_
  refine DL.qu 7 (.int .u8 (t5.getD ((0 : Int).toNat) 0)) rfl (f_load (j := 0) ty_a5 rfl (enc_at l_t5 (by decide) (by decide)) rfl rfl) ?_
  refine DL.pu 8 (.bool ((t5.getD ((0 : Int).toNat) 0) == 221)) rfl (p_eql rfl rfl rfl) ?_
  refine DL.pu 9 (.bool ((t5.getD ((0 : Int).toNat) 0) == 221)) rfl (p_move rfl rfl) ?_
  obtain ⟨q12, h13, h14⟩ := bind_some h9
  refine DL.cut [(1, ptr b10 0), (13, .bool q12)] [8, 9, 10, 11, 12, 13, 14, 15, 16, 17, 18] ?_ (fun J15 => ?_)
  · refine DL.pu 14 (.bool q12) rfl (p_move rfl rfl) ?_
    obtain ⟨q20, h21, h22⟩ := bind_some h14
    refine DL.cut [(1, ptr b10 0), (18, .bool q20)] [13, 14, 15, 16, 17, 18] ?_ (fun J23 => ?_)
    · refine DL.pu 19 (.bool q20) rfl (p_move rfl rfl) ?_
      obtain ⟨q28, h29, h30⟩ := bind_some h22
      refine DL.cut [(23, .bool q28)] [18] ?_ (fun J31 => ?_)
      · refine DL.pu 0 (.bool q28) rfl (p_assign rfl rfl) ?_
        refine DL.nil ?_
        obtain rfl := Option.some.inj h30
        exact retnE (rs := [.tmp 0]) (vs := [.bool q28]) hE.base Try.func5 rfl rfl rfl (res_cons (ResV.tmp rfl) res_nil) rfl
      · by_cases c32 : q20 = true
        · have h33 := ite_true c32 h29
          refine DL.pure (v := ptr b10 ((3 : Int).toNat)) rfl (Wn.yes c32 rfl rfl rfl rfl) rfl rfl rfl (p_ix ty_u27 ty_s5 (by decide) (by decide) rfl rfl rfl) ?_
          refine DL.quiet (v := .int .u8 (t5.getD ((3 : Int).toNat) 0)) rfl (Wn.yes c32 rfl rfl rfl rfl) rfl rfl rfl (f_load (j := 0) ty_a5 rfl (enc_at l_t5 (by decide) (by decide)) rfl rfl) ?_
          refine DL.pure (v := .bool ((t5.getD ((3 : Int).toNat) 0) == 161)) rfl (Wn.yes c32 rfl rfl rfl rfl) rfl rfl rfl (p_eql rfl rfl rfl) ?_
          refine DL.pu 23 (.bool ((t5.getD ((3 : Int).toNat) 0) == 161)) rfl (p_pick_t c32 rfl rfl rfl) ?_
          obtain rfl := Option.some.inj h33
          exact DL.weak J31 (Sub.cons rfl (Sub.nil _))
        · replace c32 := Bool.eq_false_iff.mpr c32
          have h34 := ite_false c32 h29
          refine DL.not (i := 14) rfl (Wn.no c32 rfl rfl rfl rfl) rfl rfl ?_
          refine DL.not (i := 15) rfl (Wn.no c32 rfl rfl rfl rfl) rfl rfl ?_
          refine DL.not (i := 16) rfl (Wn.no c32 rfl rfl rfl rfl) rfl rfl ?_
          refine DL.pu 23 (.bool false) rfl (p_pick_f c32 rfl rfl rfl) ?_
          obtain rfl := Option.some.inj h34
          exact DL.weak J31 (Sub.cons rfl (Sub.nil _))
    · by_cases c24 : q12 = true
      · have h25 := ite_true c24 h21
        refine DL.pure (v := ptr b10 ((2 : Int).toNat)) rfl (Wn.yes c24 rfl rfl rfl rfl) rfl rfl rfl (p_ix ty_u27 ty_s5 (by decide) (by decide) rfl rfl rfl) ?_
        refine DL.quiet (v := .int .u8 (t5.getD ((2 : Int).toNat) 0)) rfl (Wn.yes c24 rfl rfl rfl rfl) rfl rfl rfl (f_load (j := 0) ty_a5 rfl (enc_at l_t5 (by decide) (by decide)) rfl rfl) ?_
        refine DL.pure (v := .bool ((t5.getD ((2 : Int).toNat) 0) == 53)) rfl (Wn.yes c24 rfl rfl rfl rfl) rfl rfl rfl (p_eql rfl rfl rfl) ?_
        refine DL.pu 18 (.bool ((t5.getD ((2 : Int).toNat) 0) == 53)) rfl (p_pick_t c24 rfl rfl rfl) ?_
        obtain rfl := Option.some.inj h25
        exact DL.weak J23 (Sub.cons rfl (Sub.cons rfl (Sub.nil _)))
      · replace c24 := Bool.eq_false_iff.mpr c24
        have h26 := ite_false c24 h21
        refine DL.not (i := 9) rfl (Wn.no c24 rfl rfl rfl rfl) rfl rfl ?_
        refine DL.not (i := 10) rfl (Wn.no c24 rfl rfl rfl rfl) rfl rfl ?_
        refine DL.not (i := 11) rfl (Wn.no c24 rfl rfl rfl rfl) rfl rfl ?_
        refine DL.pu 18 (.bool false) rfl (p_pick_f c24 rfl rfl rfl) ?_
        obtain rfl := Option.some.inj h26
        exact DL.weak J23 (Sub.cons rfl (Sub.cons rfl (Sub.nil _)))
  · by_cases c16 : ((t5.getD ((0 : Int).toNat) 0) == 221) = true
    · have h17 := ite_true c16 h13
      refine DL.pure (v := ptr b10 ((1 : Int).toNat)) rfl (Wn.yes c16 rfl rfl rfl rfl) rfl rfl rfl (p_ix ty_u27 ty_s5 (by decide) (by decide) rfl rfl rfl) ?_
      refine DL.quiet (v := .int .u8 (t5.getD ((1 : Int).toNat) 0)) rfl (Wn.yes c16 rfl rfl rfl rfl) rfl rfl rfl (f_load (j := 0) ty_a5 rfl (enc_at l_t5 (by decide) (by decide)) rfl rfl) ?_
      refine DL.pure (v := .bool ((t5.getD ((1 : Int).toNat) 0) == 175)) rfl (Wn.yes c16 rfl rfl rfl rfl) rfl rfl rfl (p_eql rfl rfl rfl) ?_
      refine DL.pu 13 (.bool ((t5.getD ((1 : Int).toNat) 0) == 175)) rfl (p_pick_t c16 rfl rfl rfl) ?_
      obtain rfl := Option.some.inj h17
      exact DL.weak J15 (Sub.cons rfl (Sub.cons rfl (Sub.nil _)))
    · replace c16 := Bool.eq_false_iff.mpr c16
      have h18 := ite_false c16 h13
      refine DL.not (i := 4) rfl (Wn.no c16 rfl rfl rfl rfl) rfl rfl ?_
      refine DL.not (i := 5) rfl (Wn.no c16 rfl rfl rfl rfl) rfl rfl ?_
      refine DL.not (i := 6) rfl (Wn.no c16 rfl rfl rfl rfl) rfl rfl ?_
      refine DL.pu 13 (.bool false) rfl (p_pick_f c16 rfl rfl rfl) ?_
      obtain rfl := Option.some.inj h18
      exact DL.weak J15 (Sub.cons rfl (Sub.cons rfl (Sub.nil _)))
theorem law05_known.val {r : Bool} (h : law05_known.f = some r) {M : Mem} (w : World) (hM : Ext M (heapOf w)) : Calls Try.prog 5 #[] w fun e w' => e = .returned (.bool r) ∧ Below w.heap.size w w' :=
  calls_value (law05_known.ok h w hM)

end Go.Proofs.Ytlpodhejgcmbpaa
