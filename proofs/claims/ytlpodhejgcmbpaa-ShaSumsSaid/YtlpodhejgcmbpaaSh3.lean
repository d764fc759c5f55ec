import Derived.Test.YtlpodhejgcmbpaaSh2
namespace Go.Proofs.Ytlpodhejgcmbpaa
open Go Go.HW Go.RowKit
set_option linter.unusedVariables false
set_option linter.unusedSimpArgs false

/-! ### escutcheon/escutcheonlaw05.ShaSums: function 3 -/
noncomputable def B3 : Code := bodyOf Try.f3
def law05_ShaSums.L0 (a1 : List Int) : Nat → (List (List Int)) → (List Int) → Int → Option (List (List Int) × List Int)
  | 0, _, _, _ => none
  | k + 1, y_16, x6_17, x7_18 => if (decide (x7_18 < (a1.length : Int))) = true then (req (0 ≤ x7_18) (req (x7_18 < (a1.length : Int)) (req ((IntKind.i64.wrap ((x6_17.length : Int) + 1)) ≠ 0) (nm (Int.tmod (a1.getD x7_18.toNat 0) (IntKind.i64.wrap ((x6_17.length : Int) + 1))) fun t108 => nm (IntKind.i64.wrap ((IntKind.i64.wrap (t108 + (x6_17.length : Int))) + 1)) fun t111 => nm (Int.tmod t111 (IntKind.i64.wrap ((x6_17.length : Int) + 1))) fun t114 => req (0 ≤ t114) (req (t114 ≤ (x6_17.length : Int)) (req (y_16.length + [x6_17.take t114.toNat].length ≤ 1099511627776) (law05_ShaSums.L0 a1 k (y_16 ++ [x6_17.take t114.toNat]) (x6_17.drop t114.toNat) (IntKind.i64.wrap (x7_18 + 1))))))))) else (some (y_16, x6_17))
set_option maxRecDepth 20000 in
theorem law05_ShaSums.L0_ok (a0_v : Value) (a1 : List Int) (a1_v : Value) {R : Ending → World → Prop} {w0 : World} {M0 M I : Mem} {K : List Item} (hE : Env w0 M0 M I) (hr_a1 : IntRow M .i64 a1_v a1) :
    ∀ (k : Nat) (y_16 : List (List Int)) (x6_17 : List Int) (x7_18 : Int) (y_16_v : Value) (y_16_c : Array Value) (x6_17_v : Value) (r0_ : List (List Int)) (r1_ : List Int) (ho_y_16 : OwnS (Sh.ints .u8) M y_16_v y_16_c y_16) (hr_x6_17 : IntRow M .u8 x6_17_v x6_17) (h : law05_ShaSums.L0 a1 k y_16 x6_17 x7_18 = some (r0_, r1_)) (hk : ∀ (z_o15_98_v : Value), ∀ (z_o15_98_c : Array Value), ∀ (z6_99_v : Value), OwnS (Sh.ints .u8) M z_o15_98_v z_o15_98_c r0_ → IntRow M .u8 z6_99_v r1_ → TT Try.prog 3 R 70 w0 I K [(0, a0_v), (5, z_o15_98_v), (6, z6_99_v)] [(Value.ownBlock z_o15_98_v, .cells z_o15_98_c 22 (0, 0))]),
      TT Try.prog 3 R 70 w0 I (.code (sub [1, 1, 1, 1, 0, 1, 0, 0] B3) :: .inLoop (sub [1, 1, 1, 1, 0, 1, 0, 0] B3) :: .inBlock 0 :: K) [(0, a0_v), (1, a1_v), (5, y_16_v), (6, x6_17_v), (7, .int .i64 x7_18)] [(Value.ownBlock y_16_v, .cells y_16_c 22 (0, 0))] := by
  intro k
  induction k with
  | zero => intro y_16 x6_17 x7_18 y_16_v y_16_c x6_17_v r0_ r1_ ho_y_16 hr_x6_17 h; simp [law05_ShaSums.L0] at h
  | succ k ih =>
    intro y_16 x6_17 x7_18 y_16_v y_16_c x6_17_v r0_ r1_ ho_y_16 hr_x6_17 h hk
    unfold law05_ShaSums.L0 at h
    refine TT.seq (x := sub [1, 1, 1, 1, 0, 1, 0, 0, 0] B3) (y := sub [1, 1, 1, 1, 0, 1, 0, 0, 1] B3) ?_
    refine TT.seq (x := sub [1, 1, 1, 1, 0, 1, 0, 0, 0, 0] B3) (y := sub [1, 1, 1, 1, 0, 1, 0, 0, 0, 1] B3) ?_
    refine TT.region (id := 6) (n := 4) (ops := (opsOf (sub [1, 1, 1, 1, 0, 1, 0, 0, 0, 0] B3))) [(.pure, none), (.pure, none), (.pure, none), (.pure, none)] rfl ?_
    show DL _ _ _ _ _ _ _ _ _ _ [0, 1, 2, 3] _ _
    refine DL.pu 19 (.int .i64 x7_18) rfl (p_move rfl rfl) ?_
    refine DL.pu 20 (a1_v) rfl (p_move rfl rfl) ?_
    refine DL.pu 21 (.int .i64 (a1.length : Int)) rfl (p_slLen ty_u23 (RowV.sl hr_a1) rfl rfl) ?_
    refine DL.pu 22 (.bool (decide (x7_18 < (a1.length : Int)))) rfl (p_lss rfl rfl rfl) ?_
    refine DL.nil ?_
    by_cases c100 : (decide (x7_18 < (a1.length : Int))) = true
    · have h101 := ite_true c100 h
      refine TT.cond_true (x := sub [1, 1, 1, 1, 0, 1, 0, 0, 0, 1, 0] B3) (y := sub [1, 1, 1, 1, 0, 1, 0, 0, 0, 1, 1] B3) rfl c100 ?_
      refine TT.skip ?_
      refine TT.seq (x := sub [1, 1, 1, 1, 0, 1, 0, 0, 1, 0] B3) (y := sub [1, 1, 1, 1, 0, 1, 0, 0, 1, 1] B3) ?_
      refine TT.block (c := sub [1, 1, 1, 1, 0, 1, 0, 0, 1, 0, 0] B3) ?_
      refine TT.seq (x := sub [1, 1, 1, 1, 0, 1, 0, 0, 1, 0, 0, 0] B3) (y := sub [1, 1, 1, 1, 0, 1, 0, 0, 1, 0, 0, 1] B3) ?_
      refine TT.region (id := 8) (n := 17) (ops := (opsOf (sub [1, 1, 1, 1, 0, 1, 0, 0, 1, 0, 0, 0] B3))) [(.pure, none), (.pure, none), (.pure, none), (.pure, none), (.pure, none), (.pure, none), (.pure, none), (.pure, none), (.pure, none), (.pure, none), (.pure, none), (.pure, none), (.pure, none), (.pure, none), (.pure, none), (.pure, none), (.pure, none)] rfl ?_
      show DL _ _ _ _ _ _ _ _ _ _ [0, 1, 2, 3, 4, 5, 6, 7, 8, 9, 10, 11, 12, 13, 14, 15, 16] _ _
      refine DL.pu 25 (a1_v) rfl (p_move rfl rfl) ?_
      refine DL.pu 26 (.int .i64 x7_18) rfl (p_move rfl rfl) ?_
      obtain ⟨g102, h103⟩ := req_some h101
      obtain ⟨g104, h105⟩ := req_some h103
      refine DL.pu 27 (elp a1_v x7_18.toNat) rfl (p_slIx1 ty_u23 ty_s3 (RowV.some hr_a1 g102 g104) g102 g104 rfl rfl rfl) ?_
      refine DL.imm (v := .int .i64 (a1.getD x7_18.toNat 0)) rfl (Wn.none rfl) rfl rfl rfl (i_loadEl (RowV.mono hr_a1 hE.mi) (encl_get .i64 (lt_len g102 g104)) ty_a3 rfl rfl) ?_
      refine DL.pu 29 (x6_17_v) rfl (p_move rfl rfl) ?_
      refine DL.pu 30 (.int .i64 (x6_17.length : Int)) rfl (p_slLen ty_u22 (RowV.sl hr_x6_17) rfl rfl) ?_
      refine DL.pu 31 (.int .i64 (IntKind.i64.wrap ((x6_17.length : Int) + 1))) rfl (p_add rfl rfl rfl) ?_
      obtain ⟨g106, h107⟩ := req_some h105
      obtain ⟨t108, e109, h110⟩ := nm_some h107
      refine DL.pu 32 (.int .i64 t108) rfl (by rw [e109]; exact p_rem g106 rfl rfl rfl) ?_
      refine DL.pu 33 (x6_17_v) rfl (p_move rfl rfl) ?_
      refine DL.pu 34 (.int .i64 (x6_17.length : Int)) rfl (p_slLen ty_u22 (RowV.sl hr_x6_17) rfl rfl) ?_
      refine DL.pu 35 (.int .i64 (IntKind.i64.wrap (t108 + (x6_17.length : Int)))) rfl (p_add rfl rfl rfl) ?_
      obtain ⟨t111, e112, h113⟩ := nm_some h110
      refine DL.pu 36 (.int .i64 t111) rfl (by rw [e112]; exact p_add rfl rfl rfl) ?_
      refine DL.pu 37 (x6_17_v) rfl (p_move rfl rfl) ?_
      refine DL.pu 38 (.int .i64 (x6_17.length : Int)) rfl (p_slLen ty_u22 (RowV.sl hr_x6_17) rfl rfl) ?_
      refine DL.pu 39 (.int .i64 (IntKind.i64.wrap ((x6_17.length : Int) + 1))) rfl (p_add rfl rfl rfl) ?_
      obtain ⟨t114, e115, h116⟩ := nm_some h113
      refine DL.pu 40 (.int .i64 t114) rfl (by rw [e115]; exact p_rem g106 rfl rfl rfl) ?_
      refine DL.pu 8 (.int .i64 t114) rfl (p_assign rfl rfl) ?_
      refine DL.nil ?_
      refine TT.seq (x := sub [1, 1, 1, 1, 0, 1, 0, 0, 1, 0, 0, 1, 0] B3) (y := sub [1, 1, 1, 1, 0, 1, 0, 0, 1, 0, 0, 1, 1] B3) ?_
      refine TT.region (id := 9) (n := 7) (ops := (opsOf (sub [1, 1, 1, 1, 0, 1, 0, 0, 1, 0, 0, 1, 0] B3))) [(.pure, none), (.pure, none), (.pure, none), (.pure, none), (.alloc, none), (.actx, none), (.pure, none)] rfl ?_
      show DL _ _ _ _ _ _ _ _ _ _ [0, 1, 2, 3, 4, 5, 6] _ _
      refine DL.pu 41 (y_16_v) rfl (p_move rfl rfl) ?_
      refine DL.pu 42 (x6_17_v) rfl (p_move rfl rfl) ?_
      refine DL.pu 43 (.int .i64 t114) rfl (p_move rfl rfl) ?_
      obtain ⟨g118, h119⟩ := req_some h116
      obtain ⟨g120, h121⟩ := req_some h119
      obtain ⟨v117, v117_e⟩ : ∃ u, u = subsl x6_17_v 1 0 t114.toNat := ⟨_, rfl⟩
      have hr_v117 : IntRow M .u8 v117 (x6_17.take t114.toNat) := by rw [v117_e]; exact (IntRow.subH hr_x6_17 (toNat_le g120))
      refine DL.pu 44 (v117) rfl (by rw [v117_e]; exact p_subH ty_u22 ty_s5 hr_x6_17 g118 g120 rfl rfl rfl) ?_
      refine DL.newS (M := M) (s := (Sh.ints .u8)) (zs := [x6_17.take t114.toNat]) (cells := [v117]) (n := 1) rfl (by decide) rfl (fun i x hx => by match i, hx with | 0, hx => cases hx; exact ⟨_, rfl, hr_v117⟩ | k + 1, hx => simp at hx) (i := 4) rfl (Wn.none rfl) rfl rfl rfl (f_buildS (n := 1) (vs := [(0, v117)]) elem25 rfl rfl (by simp [Instr.fill, sl_cells (RowV.sl hr_v117)] <;> exact fill_one _ _) rfl (args_val2 rfl)) ?_
      intro s123_v s123_c ho_s123
      obtain ⟨g124, h125⟩ := req_some h121
      refine DL.appendS (M := M) (s := (Sh.ints .u8)) (fun s126_v s126_c => [(Value.ownBlock s123_v, .cells s123_c 22 (0, 0)), (Value.ownBlock s126_v, .cells s126_c 22 (0, 0))]) elem25 (j := 1) rfl ho_y_16 g124 (by decide) (OwnS.src (i := 0) ho_s123 rfl) (i := 5) rfl (Wn.none rfl) rfl rfl rfl rfl rfl rfl (fun _ _ => rfl) ?_
      intro s126_v s126_c ho_s126
      show DL _ _ _ _ _ _ _ _ _ _ _ _ [(Value.ownBlock s123_v, .cells s123_c 22 (0, 0)), (Value.ownBlock s126_v, .cells s126_c 22 (0, 0))]
      refine DL.pu 5 (s126_v) rfl (p_assign rfl rfl) ?_
      refine DL.nil ?_
      refine TT.region (id := 10) (n := 4) (ops := (opsOf (sub [1, 1, 1, 1, 0, 1, 0, 0, 1, 0, 0, 1, 1] B3))) [(.pure, none), (.pure, none), (.pure, none), (.pure, none)] rfl ?_
      show DL _ _ _ _ _ _ _ _ _ _ [0, 1, 2, 3] _ _
      refine DL.pu 47 (x6_17_v) rfl (p_move rfl rfl) ?_
      refine DL.pu 48 (.int .i64 t114) rfl (p_move rfl rfl) ?_
      obtain ⟨v127, v127_e⟩ : ∃ u, u = subsl x6_17_v 1 t114.toNat x6_17.length := ⟨_, rfl⟩
      have hr_v127 : IntRow M .u8 v127 (x6_17.drop t114.toNat) := by rw [v127_e]; exact (IntRow.subL hr_x6_17 (toNat_le g120))
      refine DL.pu 49 (v127) rfl (by rw [v127_e]; exact p_subL ty_u22 ty_s5 hr_x6_17 g118 g120 rfl rfl rfl) ?_
      refine DL.pu 6 (v127) rfl (p_assign rfl rfl) ?_
      refine DL.nil ?_
      refine TT.inBlock ?_
      refine TT.region (id := 7) (n := 3) (ops := (opsOf (sub [1, 1, 1, 1, 0, 1, 0, 0, 1, 1] B3))) [(.pure, none), (.pure, none), (.pure, none)] rfl ?_
      show DL _ _ _ _ _ _ _ _ _ _ [0, 1, 2] _ _
      refine DL.pu 23 (.int .i64 x7_18) rfl (p_move rfl rfl) ?_
      refine DL.pu 24 (.int .i64 (IntKind.i64.wrap (x7_18 + 1))) rfl (p_add rfl rfl rfl) ?_
      refine DL.pu 7 (.int .i64 (IntKind.i64.wrap (x7_18 + 1))) rfl (p_assign rfl rfl) ?_
      refine DL.nil ?_
      refine TT.inLoop ?_
      exact TT.pick [1] (by decide) (TT.weak (ih (y_16 ++ [x6_17.take t114.toNat]) (x6_17.drop t114.toNat) (IntKind.i64.wrap (x7_18 + 1)) s126_v s126_c v127 r0_ r1_ ho_s126 hr_v127 h125 hk) (Sub.cons rfl (Sub.cons rfl (Sub.cons rfl (Sub.cons rfl (Sub.cons rfl (Sub.nil _)))))))
    · replace c100 := Bool.eq_false_iff.mpr c100
      have h128 := ite_false c100 h
      refine TT.cond_false (x := sub [1, 1, 1, 1, 0, 1, 0, 0, 0, 1, 0] B3) (y := sub [1, 1, 1, 1, 0, 1, 0, 0, 0, 1, 1] B3) rfl c100 ?_
      refine TT.exit rfl ?_
      simp only [Option.some.injEq, Prod.mk.injEq] at h128
      obtain ⟨rfl, rfl⟩ := h128
      exact TT.weak (hk y_16_v y_16_c x6_17_v ho_y_16 hr_x6_17) (Sub.cons rfl (Sub.cons rfl (Sub.cons rfl (Sub.nil _))))

def law05_ShaSums.f (a0 : List Int) (a1 : List Int) : Option (Bool) := (if (decide (2000 < (a0.length : Int))) = true then (some true) else (some (decide (20 < (a1.length : Int))))).bind fun q2 => if q2 = true then ((law05_known.f).bind fun t11 => some t11) else ((law05_ShaSums.L0 a1 ((a1.length : Int).toNat + 1) ([] : List (List Int)) a0 0).bind fun (z_o15_98, z6_99) => req (z_o15_98.length + [z6_99].length ≤ 1099511627776) ((sha_Sum.f (z_o15_98 ++ [z6_99])).bind fun t137 => req (t137.length = 64) ((ref05_Sum.f a0).bind fun t142 => req (t142.length = 64) ((if (t137 == t142) = true then ((sha_Sum.f [a0]).bind fun t157 => req (t157.length = 64) ((sha_Sum.f (z_o15_98 ++ [z6_99])).bind fun t162 => req (t162.length = 64) (some (t157 == t162)))) else (some false)).bind fun q148 => (if q148 = true then ((law05_known.f).bind fun t175 => some t175) else (some false)).bind fun q169 => some q169))))
set_option maxRecDepth 20000 in
theorem law05_ShaSums.ok {a0 : List Int} {a1 : List Int} {a0_v : Value} {a1_v : Value} {r : Bool} (h : law05_ShaSums.f a0 a1 = some r) {M : Mem} (w : World) (hM : Ext M (heapOf w)) (hr_a0 : IntRow M .u8 a0_v a0) (hr_a1 : IntRow M .i64 a1_v a1) : Calls Try.prog 3 #[a0_v, a1_v] w (Post (fun u => u = .bool r) w) := by
  unfold law05_ShaSums.f at h
  have hE := Env.start hM
  refine calls_of_TT (N := 70) (S := [(0, a0_v), (1, a1_v)]) (c := B3) Try.func3 rfl rfl rfl (by simp) ?_
  show TT _ _ _ _ _ _ [.code (sub [] B3)] _ _
  refine TT.seq (x := sub [0] B3) (y := sub [1] B3) ?_
  refine TT.region (id := 0) (n := 1) (ops := (opsOf (sub [0] B3))) [(.pure, none)] rfl ?_
  show DL _ _ _ _ _ _ _ _ _ _ [0] _ _
  refine DL.pu 4 (.bool false) rfl (p_assign rfl rfl) ?_
  refine DL.nil ?_
  refine TT.seq (x := sub [1, 0] B3) (y := sub [1, 1] B3) ?_
  refine TT.seq (x := sub [1, 0, 0] B3) (y := sub [1, 0, 1] B3) ?_
  refine TT.region (id := 1) (n := 8) (ops := (opsOf (sub [1, 0, 0] B3))) [(.pure, none), (.pure, none), (.pure, none), (.pure, none), (.pure, none), (.pure, none), (.pure, none), (.pure, none)] rfl ?_
  show DL _ _ _ _ _ _ _ _ _ _ [0, 1, 2, 3, 4, 5, 6, 7] _ _
  refine DL.pu 9 (a0_v) rfl (p_move rfl rfl) ?_
  refine DL.pu 10 (.int .i64 (a0.length : Int)) rfl (p_slLen ty_u22 (RowV.sl hr_a0) rfl rfl) ?_
  refine DL.pu 11 (.bool (decide (2000 < (a0.length : Int)))) rfl (p_gtr rfl rfl rfl) ?_
  refine DL.pu 12 (.bool (decide (2000 < (a0.length : Int)))) rfl (p_move rfl rfl) ?_
  obtain ⟨q2, h3, h4⟩ := bind_some h
  refine DL.cut [(0, a0_v), (1, a1_v), (16, .bool q2)] [] ?_ (fun J5 => ?_)
  · refine DL.nil ?_
    by_cases c9 : q2 = true
    · have h10 := ite_true c9 h4
      refine TT.cond_true (x := sub [1, 0, 1, 0] B3) (y := sub [1, 0, 1, 1] B3) rfl c9 ?_
      refine TT.seq (x := sub [1, 0, 1, 0, 0] B3) (y := sub [1, 0, 1, 0, 1] B3) ?_
      refine TT.region (id := 2) (n := 2) (ops := (opsOf (sub [1, 0, 1, 0, 0] B3))) [(.quiet, none), (.pure, none)] rfl ?_
      show DL _ _ _ _ _ _ _ _ _ _ [0, 1] _ _
      obtain ⟨t11, h12, h13⟩ := bind_some h10
      refine DL.qu 17 (.bool t11) rfl (f_callR rfl rfl (args_val (vs := []) rfl) (fun w => enter5 _ w) (fun w hc => law05_known.val h12 (M := M) w (hE.ext hc) )) ?_
      refine DL.pu 4 (.bool t11) rfl (p_assign rfl rfl) ?_
      refine DL.nil ?_
      obtain rfl := Option.some.inj h13
      exact retnE (rs := [.tmp 4]) (vs := [.bool t11]) hE.base Try.func3 rfl rfl rfl (res_cons (ResV.tmp rfl) res_nil) rfl
    · replace c9 := Bool.eq_false_iff.mpr c9
      have h14 := ite_false c9 h4
      refine TT.cond_false (x := sub [1, 0, 1, 0] B3) (y := sub [1, 0, 1, 1] B3) rfl c9 ?_
      refine TT.skip ?_
      refine TT.seq (x := sub [1, 1, 0] B3) (y := sub [1, 1, 1] B3) ?_
      refine TT.region (id := 3) (n := 1) (ops := (opsOf (sub [1, 1, 0] B3))) [(.pure, none)] rfl ?_
      show DL _ _ _ _ _ _ _ _ _ _ [0] _ _
      refine DL.pu 5 (.slice none 0 0) rfl (p_assign rfl rfl) ?_
      refine DL.nil ?_
      refine TT.seq (x := sub [1, 1, 1, 0] B3) (y := sub [1, 1, 1, 1] B3) ?_
      refine TT.region (id := 4) (n := 2) (ops := (opsOf (sub [1, 1, 1, 0] B3))) [(.pure, none), (.pure, none)] rfl ?_
      show DL _ _ _ _ _ _ _ _ _ _ [0, 1] _ _
      refine DL.pu 18 (a0_v) rfl (p_move rfl rfl) ?_
      refine DL.pu 6 (a0_v) rfl (p_assign rfl rfl) ?_
      refine DL.nil ?_
      refine TT.seq (x := sub [1, 1, 1, 1, 0] B3) (y := sub [1, 1, 1, 1, 1] B3) ?_
      refine TT.seq (x := sub [1, 1, 1, 1, 0, 0] B3) (y := sub [1, 1, 1, 1, 0, 1] B3) ?_
      refine TT.region (id := 5) (n := 1) (ops := (opsOf (sub [1, 1, 1, 1, 0, 0] B3))) [(.pure, none)] rfl ?_
      show DL _ _ _ _ _ _ _ _ _ _ [0] _ _
      refine DL.pu 7 (.int .i64 0) rfl (p_assign rfl rfl) ?_
      refine DL.nil ?_
      refine TT.block (c := sub [1, 1, 1, 1, 0, 1, 0] B3) ?_
      refine TT.nilOwn (e := 22) ?_
      refine TT.loop (c := sub [1, 1, 1, 1, 0, 1, 0, 0] B3) ?_
      obtain ⟨⟨z_o15_98, z6_99⟩, h129, h130⟩ := bind_some h14
      refine TT.weak (law05_ShaSums.L0_ok a0_v a1 a1_v hE hr_a1 ((a1.length : Int).toNat + 1) ([] : List (List Int)) a0 0 (.slice none 0 0) (#[]) a0_v z_o15_98 z6_99 (OwnS.nil (Sh.ints .u8) M) hr_a0 h129 (fun z_o15_98_v z_o15_98_c z6_99_v ho_z_o15_98 hr_z6_99 => ?_)) (Sub.cons rfl (Sub.cons rfl (Sub.cons rfl (Sub.cons rfl (Sub.cons rfl (Sub.nil _))))))
      refine TT.seq (x := sub [1, 1, 1, 1, 1, 0] B3) (y := sub [1, 1, 1, 1, 1, 1] B3) ?_
      refine TT.region (id := 11) (n := 5) (ops := (opsOf (sub [1, 1, 1, 1, 1, 0] B3))) [(.pure, none), (.pure, none), (.alloc, none), (.actx, none), (.pure, none)] rfl ?_
      show DL _ _ _ _ _ _ _ _ _ _ [0, 1, 2, 3, 4] _ _
      refine DL.pu 50 (z_o15_98_v) rfl (p_move rfl rfl) ?_
      refine DL.pu 51 (z6_99_v) rfl (p_move rfl rfl) ?_
      refine DL.newS (M := M) (s := (Sh.ints .u8)) (zs := [z6_99]) (cells := [z6_99_v]) (n := 1) rfl (by decide) rfl (fun i x hx => by match i, hx with | 0, hx => cases hx; exact ⟨_, rfl, hr_z6_99⟩ | k + 1, hx => simp at hx) (i := 2) rfl (Wn.none rfl) rfl rfl rfl (f_buildS (n := 1) (vs := [(0, z6_99_v)]) elem25 rfl rfl (by simp [Instr.fill, sl_cells (RowV.sl hr_z6_99)] <;> exact fill_one _ _) rfl (args_val2 rfl)) ?_
      intro s133_v s133_c ho_s133
      obtain ⟨g134, h135⟩ := req_some h130
      refine DL.appendS (M := M) (s := (Sh.ints .u8)) (fun s136_v s136_c => [(Value.ownBlock s133_v, .cells s133_c 22 (0, 0)), (Value.ownBlock s136_v, .cells s136_c 22 (0, 0))]) elem25 (j := 1) rfl ho_z_o15_98 g134 (by decide) (OwnS.src (i := 0) ho_s133 rfl) (i := 3) rfl (Wn.none rfl) rfl rfl rfl rfl rfl rfl (fun _ _ => rfl) ?_
      intro s136_v s136_c ho_s136
      show DL _ _ _ _ _ _ _ _ _ _ _ _ [(Value.ownBlock s133_v, .cells s133_c 22 (0, 0)), (Value.ownBlock s136_v, .cells s136_c 22 (0, 0))]
      refine DL.pu 5 (s136_v) rfl (p_assign rfl rfl) ?_
      refine DL.nil ?_
      refine TT.seq (x := sub [1, 1, 1, 1, 1, 1, 0] B3) (y := sub [1, 1, 1, 1, 1, 1, 1] B3) ?_
      refine TT.region (id := 12) (n := 17) (ops := (opsOf (sub [1, 1, 1, 1, 1, 1, 0] B3))) [(.pure, none), (.quiet, none), (.pure, none), (.quiet, none), (.pure, none), (.pure, none), (.pure, none), (.keep, none), (.quiet, none), (.pure, none), (.quiet, none), (.pure, none), (.pure, none), (.pure, none), (.quiet, none), (.pure, none), (.pure, none)] rfl ?_
      show DL _ _ _ _ _ _ _ _ _ _ [0, 1, 2, 3, 4, 5, 6, 7, 8, 9, 10, 11, 12, 13, 14, 15, 16] _ _
      refine DL.pu 54 (s136_v) rfl (p_move rfl rfl) ?_
      obtain ⟨t137, h138, h139⟩ := bind_some h135
      obtain ⟨g140, h141⟩ := req_some h139
      have l_t137 : t137.length = 64 := g140
      refine DL.qu 55 (.agg (enc .u8 t137)) rfl (f_callR rfl rfl (args_val (vs := [s136_v]) rfl) (fun w => enter6 _ w) (fun w hc => sha_Sum.val h138 (M := heapOf w) w (Ext.refl _) (OwnS.row ho_s136 (hE.ext hc) hc (i := 1) rfl))) ?_
      refine DL.pu 56 (a0_v) rfl (p_move rfl rfl) ?_
      obtain ⟨t142, h143, h144⟩ := bind_some h141
      obtain ⟨g145, h146⟩ := req_some h144
      have l_t142 : t142.length = 64 := g145
      refine DL.qu 57 (.agg (enc .u8 t142)) rfl (f_callR rfl rfl (args_val (vs := [a0_v]) rfl) (fun w => enter7 _ w) (fun w hc => ref05_Sum.val h143 (M := M) w (hE.ext hc) hr_a0)) ?_
      refine DL.pu 58 (.bool (t137 == t142)) rfl (p_eqAgg ty_g27 (fun w => run_eqRow (d := 9998) ty_ue27 ty_s5 ty_a5 ty_ue5 l_t137 l_t142 w) rfl rfl rfl) ?_
      refine DL.pu 59 (.bool (t137 == t142)) rfl (p_move rfl rfl) ?_
      obtain ⟨q148, h149, h150⟩ := bind_some h146
      refine DL.cutJ [(Value.ownBlock s133_v, .cells s133_c 22 (0, 0)), (Value.ownBlock s136_v, .cells s136_c 22 (0, 0))] M hE [(66, .bool q148)] [13, 14, 15, 16] ?_ (fun J151 => ?_)
      · intro M152 J152 hE152 hx152
        show DL _ _ _ _ _ _ _ _ _ _ _ _ ((Value.ownBlock s133_v, .cells s133_c 22 (0, 0)) :: (Value.ownBlock s136_v, .cells s136_c 22 (0, 0)) :: J152)
        refine DL.pu 67 (.bool q148) rfl (p_move rfl rfl) ?_
        obtain ⟨q169, h170, h171⟩ := bind_some h150
        refine DL.cut [(69, .bool q169)] [16] ?_ (fun J172 => ?_)
        · refine DL.pu 4 (.bool q169) rfl (p_assign rfl rfl) ?_
          refine DL.nil ?_
          refine TT.settle (A := [(Value.ownBlock s133_v, .cells s133_c 22 (0, 0)), (Value.ownBlock s136_v, .cells s136_c 22 (0, 0))]) (J := J152) hE152 ?_
          intro I179 hE179 hxI179
          obtain rfl := Option.some.inj h171
          exact retnE (rs := [.tmp 4]) (vs := [.bool q169]) hE179.base Try.func3 rfl rfl rfl (res_cons (ResV.tmp rfl) res_nil) rfl
        · by_cases c173 : q148 = true
          · have h174 := ite_true c173 h170
            obtain ⟨t175, h176, h177⟩ := bind_some h174
            refine DL.quiet (v := .bool t175) rfl (Wn.yes c173 rfl rfl rfl rfl) rfl rfl rfl (f_callR rfl rfl (args_val (vs := []) rfl) (fun w => enter5 _ w) (fun w hc => law05_known.val h176 (M := M152) w (hE152.extJ (A := [(Value.ownBlock s133_v, .cells s133_c 22 (0, 0)), (Value.ownBlock s136_v, .cells s136_c 22 (0, 0))]) hc rfl) )) ?_
            refine DL.pu 69 (.bool t175) rfl (p_pick_t c173 rfl rfl rfl) ?_
            obtain rfl := Option.some.inj h177
            exact DL.weak J172 (Sub.cons rfl (Sub.nil _))
          · replace c173 := Bool.eq_false_iff.mpr c173
            have h178 := ite_false c173 h170
            refine DL.not (i := 14) rfl (Wn.no c173 rfl rfl rfl rfl) rfl rfl ?_
            refine DL.pu 69 (.bool false) rfl (p_pick_f c173 rfl rfl rfl) ?_
            obtain rfl := Option.some.inj h178
            exact DL.weak J172 (Sub.cons rfl (Sub.nil _))
      · by_cases c147 : (t137 == t142) = true
        · have h153 := ite_true c147 h149
          refine DL.pure (v := a0_v) rfl (Wn.yes c147 rfl rfl rfl rfl) rfl rfl rfl (p_move rfl rfl) ?_
          refine DL.newRowS (s := (Sh.ints .u8)) (zs := [a0]) (cells := [a0_v]) (n := 1) (A := [(Value.ownBlock s133_v, .cells s133_c 22 (0, 0)), (Value.ownBlock s136_v, .cells s136_c 22 (0, 0))]) (J := []) (fun J156 => ((Value.ownBlock s133_v, .cells s133_c 22 (0, 0)) :: (Value.ownBlock s136_v, .cells s136_c 22 (0, 0)) :: J156)) (Nat.le_refl _) hE.nil (List.append_nil _).symm (fun _ => rfl) rfl (by decide) rfl (fun i x hx => by match i, hx with | 0, hx => cases hx; exact ⟨_, rfl, hr_a0⟩ | k + 1, hx => simp at hx) (i := 7) rfl (Wn.yes c147 rfl rfl rfl rfl) rfl rfl rfl (f_buildS (n := 1) (vs := [(0, a0_v)]) elem25 rfl rfl (by simp [Instr.fill, sl_cells (RowV.sl hr_a0)] <;> exact fill_one _ _) rfl (args_val2 rfl)) ?_
          intro v156 M156 J156 hE156 hx156 hr_v156
          show DL _ _ _ _ _ _ _ _ _ _ _ _ ((Value.ownBlock s133_v, .cells s133_c 22 (0, 0)) :: (Value.ownBlock s136_v, .cells s136_c 22 (0, 0)) :: J156)
          obtain ⟨t157, h158, h159⟩ := bind_some h153
          obtain ⟨g160, h161⟩ := req_some h159
          have l_t157 : t157.length = 64 := g160
          refine DL.quiet (v := .agg (enc .u8 t157)) rfl (Wn.yes c147 rfl rfl rfl rfl) rfl rfl rfl (f_callR rfl rfl (args_val (vs := [v156]) rfl) (fun w => enter6 _ w) (fun w hc => sha_Sum.val h158 (M := M156) w (hE156.extJ (A := [(Value.ownBlock s133_v, .cells s133_c 22 (0, 0)), (Value.ownBlock s136_v, .cells s136_c 22 (0, 0))]) hc rfl) hr_v156)) ?_
          refine DL.pure (v := s136_v) rfl (Wn.yes c147 rfl rfl rfl rfl) rfl rfl rfl (p_move rfl rfl) ?_
          obtain ⟨t162, h163, h164⟩ := bind_some h161
          obtain ⟨g165, h166⟩ := req_some h164
          have l_t162 : t162.length = 64 := g165
          refine DL.quiet (v := .agg (enc .u8 t162)) rfl (Wn.yes c147 rfl rfl rfl rfl) rfl rfl rfl (f_callR rfl rfl (args_val (vs := [s136_v]) rfl) (fun w => enter6 _ w) (fun w hc => sha_Sum.val h163 (M := heapOf w) w (Ext.refl _) (OwnS.row (OwnS.mono ho_s136 hx156) (hE156.extJ (A := [(Value.ownBlock s133_v, .cells s133_c 22 (0, 0)), (Value.ownBlock s136_v, .cells s136_c 22 (0, 0))]) hc rfl) hc (i := 1) rfl))) ?_
          refine DL.pure (v := .bool (t157 == t162)) rfl (Wn.yes c147 rfl rfl rfl rfl) rfl rfl rfl (p_eqAgg ty_g27 (fun w => run_eqRow (d := 9998) ty_ue27 ty_s5 ty_a5 ty_ue5 l_t157 l_t162 w) rfl rfl rfl) ?_
          refine DL.pu 66 (.bool (t157 == t162)) rfl (p_pick_t c147 rfl rfl rfl) ?_
          obtain rfl := Option.some.inj h166
          exact DL.weak (J151 _ _ hE156 hx156) (Sub.cons rfl (Sub.nil _))
        · replace c147 := Bool.eq_false_iff.mpr c147
          have h167 := ite_false c147 h149
          refine DL.not (i := 6) rfl (Wn.no c147 rfl rfl rfl rfl) rfl rfl ?_
          refine DL.not (i := 7) rfl (Wn.no c147 rfl rfl rfl rfl) rfl rfl ?_
          refine DL.not (i := 8) rfl (Wn.no c147 rfl rfl rfl rfl) rfl rfl ?_
          refine DL.not (i := 9) rfl (Wn.no c147 rfl rfl rfl rfl) rfl rfl ?_
          refine DL.not (i := 10) rfl (Wn.no c147 rfl rfl rfl rfl) rfl rfl ?_
          refine DL.not (i := 11) rfl (Wn.no c147 rfl rfl rfl rfl) rfl rfl ?_
          refine DL.pu 66 (.bool false) rfl (p_pick_f c147 rfl rfl rfl) ?_
          obtain rfl := Option.some.inj h167
          exact DL.weak (J151 _ _ hE.nil (Ext.refl _)) (Sub.cons rfl (Sub.nil _))
  · by_cases c6 : (decide (2000 < (a0.length : Int))) = true
    · have h7 := ite_true c6 h3
      refine DL.not (i := 4) rfl (Wn.yes c6 rfl rfl rfl rfl) rfl rfl ?_
      refine DL.not (i := 5) rfl (Wn.yes c6 rfl rfl rfl rfl) rfl rfl ?_
      refine DL.not (i := 6) rfl (Wn.yes c6 rfl rfl rfl rfl) rfl rfl ?_
      refine DL.pu 16 (.bool true) rfl (p_pick_t c6 rfl rfl rfl) ?_
      obtain rfl := Option.some.inj h7
      exact DL.weak J5 (Sub.cons rfl (Sub.cons rfl (Sub.cons rfl (Sub.nil _))))
    · replace c6 := Bool.eq_false_iff.mpr c6
      have h8 := ite_false c6 h3
      refine DL.pure (v := a1_v) rfl (Wn.no c6 rfl rfl rfl rfl) rfl rfl rfl (p_move rfl rfl) ?_
      refine DL.pure (v := .int .i64 (a1.length : Int)) rfl (Wn.no c6 rfl rfl rfl rfl) rfl rfl rfl (p_slLen ty_u23 (RowV.sl hr_a1) rfl rfl) ?_
      refine DL.pure (v := .bool (decide (20 < (a1.length : Int)))) rfl (Wn.no c6 rfl rfl rfl rfl) rfl rfl rfl (p_gtr rfl rfl rfl) ?_
      refine DL.pu 16 (.bool (decide (20 < (a1.length : Int)))) rfl (p_pick_f c6 rfl rfl rfl) ?_
      obtain rfl := Option.some.inj h8
      exact DL.weak J5 (Sub.cons rfl (Sub.cons rfl (Sub.cons rfl (Sub.nil _))))
theorem law05_ShaSums.val {a0 : List Int} {a1 : List Int} {a0_v : Value} {a1_v : Value} {r : Bool} (h : law05_ShaSums.f a0 a1 = some r) {M : Mem} (w : World) (hM : Ext M (heapOf w)) (hr_a0 : IntRow M .u8 a0_v a0) (hr_a1 : IntRow M .i64 a1_v a1) : Calls Try.prog 3 #[a0_v, a1_v] w fun e w' => e = .returned (.bool r) ∧ Below w.heap.size w w' :=
  calls_value (law05_ShaSums.ok h w hM hr_a0 hr_a1)

/-! ### escutcheon/escutcheonlaw05.ShaConstants: function 4 -/
noncomputable def B4 : Code := bodyOf Try.f4
def law05_ShaConstants.L0 (t1 : Begun) : Nat → Int → Option ((Unit) ⊕ (Bool))
  | 0, _ => none
  | k + 1, x4_7 => if (decide (x4_7 < 80)) = true then ((sha_Constant.f x4_7).bind fun t96 => req (0 ≤ x4_7) (req (x4_7 < ((Begun.k t1).length : Int)) ((if (t96 != ((Begun.k t1).getD x4_7.toNat 0)) = true then (some true) else ((if (decide (x4_7 < 8)) = true then ((sha_Start.f x4_7).bind fun t118 => req (x4_7 < ((Begun.start t1).length : Int)) (some (t118 != ((Begun.start t1).getD x4_7.toNat 0)))) else (some false)).bind fun q112 => some q112)).bind fun q104 => if q104 = true then (some (.inr false)) else (law05_ShaConstants.L0 t1 k (IntKind.i64.wrap (x4_7 + 1)))))) else (some (.inl ()))
set_option maxRecDepth 20000 in
theorem law05_ShaConstants.L0_ok (a0 : Int) (t1 : Begun) (t1_0 : Value) (t1_1 : Value) (b5 : Nat) {r : Bool}  {w0 : World} {M0 M I : Mem} {K : List Item} (hE : Env w0 M0 M I) (hr_t1_0 : IntRow M .u64 t1_0 (Begun.start t1)) (hr_t1_1 : IntRow M .u64 t1_1 (Begun.k t1)) :
    ∀ (k : Nat) (x4_7 : Int) (q : (Unit) ⊕ (Bool)) (h : law05_ShaConstants.L0 t1 k x4_7 = some q) (hk : match (generalizing := false) q with | .inl () => (TT Try.prog 4 (Post (fun u => u = .bool r) w0) 59 w0 I K [(0, .int .i64 a0)] [(some b5, .cells (#[t1_0, t1_1]) 33 (0, 0))]) | .inr rq => rq = r),
      TT Try.prog 4 (Post (fun u => u = .bool r) w0) 59 w0 I (.code (sub [1, 1, 0, 1, 0, 0] B4) :: .inLoop (sub [1, 1, 0, 1, 0, 0] B4) :: .inBlock 0 :: K) [(0, .int .i64 a0), (3, ptr b5 0), (4, .int .i64 x4_7)] [(some b5, .cells (#[t1_0, t1_1]) 33 (0, 0))] := by
  intro k
  induction k with
  | zero => intro x4_7 q h; simp [law05_ShaConstants.L0] at h
  | succ k ih =>
    intro x4_7 q h hk
    unfold law05_ShaConstants.L0 at h
    refine TT.seq (x := sub [1, 1, 0, 1, 0, 0, 0] B4) (y := sub [1, 1, 0, 1, 0, 0, 1] B4) ?_
    refine TT.seq (x := sub [1, 1, 0, 1, 0, 0, 0, 0] B4) (y := sub [1, 1, 0, 1, 0, 0, 0, 1] B4) ?_
    refine TT.region (id := 3) (n := 2) (ops := (opsOf (sub [1, 1, 0, 1, 0, 0, 0, 0] B4))) [(.pure, none), (.pure, none)] rfl ?_
    show DL _ _ _ _ _ _ _ _ _ _ [0, 1] _ _
    refine DL.pu 6 (.int .i64 x4_7) rfl (p_move rfl rfl) ?_
    refine DL.pu 7 (.bool (decide (x4_7 < 80))) rfl (p_lss rfl rfl rfl) ?_
    refine DL.nil ?_
    by_cases c93 : (decide (x4_7 < 80)) = true
    · have h94 := ite_true c93 h
      refine TT.cond_true (x := sub [1, 1, 0, 1, 0, 0, 0, 1, 0] B4) (y := sub [1, 1, 0, 1, 0, 0, 0, 1, 1] B4) rfl c93 ?_
      refine TT.skip ?_
      refine TT.seq (x := sub [1, 1, 0, 1, 0, 0, 1, 0] B4) (y := sub [1, 1, 0, 1, 0, 0, 1, 1] B4) ?_
      refine TT.block (c := sub [1, 1, 0, 1, 0, 0, 1, 0, 0] B4) ?_
      refine TT.seq (x := sub [1, 1, 0, 1, 0, 0, 1, 0, 0, 0] B4) (y := sub [1, 1, 0, 1, 0, 0, 1, 0, 0, 1] B4) ?_
      refine TT.regionD (id := 5) (ops := (opsOf (sub [1, 1, 0, 1, 0, 0, 1, 0, 0, 0] B4))) [0, 1, 2, 3, 4, 5, 6, 7, 8, 9, 10, 11, 12, 13, 14, 15, 16, 17, 18, 19, 20, 21] [0, 1, 0, 4, 0, 28, 60, 127, 255, 511, 1023, 2047, 4095, 8191, 4095, 20479, 4095, 118783, 249855, 524287, 1048575, 2097151] [(.pure, none), (.quiet, none), (.pure, none), (.look, some 0), (.pure, none), (.pure, none), (.quiet, none), (.pure, none), (.pure, none), (.pure, none), (.pure, none), (.pure, none), (.pure, none), (.quiet, none), (.pure, none), (.look, some 0), (.pure, none), (.pure, none), (.quiet, none), (.pure, none), (.pure, none), (.pure, none)] mixed (by kernel_rfl) ?_
      intro w95 hl95 hj95 hz95
      refine DL.pu 10 (.int .i64 x4_7) rfl (p_move rfl rfl) ?_
      obtain ⟨t96, h97, h98⟩ := bind_some h94
      refine DL.qu 11 (.int .u64 t96) rfl (f_callR rfl rfl (args_val (vs := [.int .i64 x4_7]) rfl) (fun w => enter9 _ w) (fun w hc => sha_Constant.val h97 (M := M) w (hE.ext hc) )) ?_
      refine DL.pu 12 (ptr b5 1) rfl (p_fieldAddr ty_f33_1 rfl rfl) ?_
      refine DL.look (v := t1_1) (x := 0) (b := b5) (i := 3) rfl (Wn.none rfl) rfl rfl rfl rfl rfl (List.mem_of_getElem? (i := 0) rfl) (b_load ty_a31 rfl rfl rfl) ?_
      refine DL.pu 14 (.int .i64 x4_7) rfl (p_move rfl rfl) ?_
      obtain ⟨g99, h100⟩ := req_some h98
      obtain ⟨g101, h102⟩ := req_some h100
      refine DL.pu 15 (elp t1_1 x4_7.toNat) rfl (p_slIx1 ty_u31 ty_s35 (RowV.some hr_t1_1 g99 g101) g99 g101 rfl rfl rfl) ?_
      refine DL.qu 16 (.int .u64 ((Begun.k t1).getD x4_7.toNat 0)) rfl (q_loadEl (fun w hc => hE.imm hc) hr_t1_1 (encl_get .u64 (lt_len g99 g101)) ty_a35 rfl rfl) ?_
      refine DL.pu 17 (.bool (t96 != ((Begun.k t1).getD x4_7.toNat 0))) rfl (p_neq rfl rfl rfl) ?_
      refine DL.pu 18 (.bool (t96 != ((Begun.k t1).getD x4_7.toNat 0))) rfl (p_move rfl rfl) ?_
      obtain ⟨q104, h105, h106⟩ := bind_some h102
      refine DL.cut [(0, .int .i64 a0), (3, ptr b5 0), (4, .int .i64 x4_7), (31, .bool q104)] [] ?_ (fun J107 => ?_)
      · refine DL.nil' hl95 ?_
        by_cases c124 : q104 = true
        · have h125 := ite_true c124 h106
          refine TT.cond_true (x := sub [1, 1, 0, 1, 0, 0, 1, 0, 0, 1, 0] B4) (y := sub [1, 1, 0, 1, 0, 0, 1, 0, 0, 1, 1] B4) rfl c124 ?_
          refine TT.seq (x := sub [1, 1, 0, 1, 0, 0, 1, 0, 0, 1, 0, 0] B4) (y := sub [1, 1, 0, 1, 0, 0, 1, 0, 0, 1, 0, 1] B4) ?_
          refine TT.region (id := 6) (n := 1) (ops := (opsOf (sub [1, 1, 0, 1, 0, 0, 1, 0, 0, 1, 0, 0] B4))) [(.pure, none)] rfl ?_
          show DL _ _ _ _ _ _ _ _ _ _ [0] _ _
          refine DL.pu 2 (.bool false) rfl (p_assign rfl rfl) ?_
          refine DL.nil ?_
          obtain rfl := Option.some.inj h125
          have k126 : false = r := hk
          subst k126
          exact retnE (rs := [.tmp 2]) (vs := [.bool false]) hE.base Try.func4 rfl rfl rfl (res_cons (ResV.tmp rfl) res_nil) rfl
        · replace c124 := Bool.eq_false_iff.mpr c124
          have h127 := ite_false c124 h106
          refine TT.cond_false (x := sub [1, 1, 0, 1, 0, 0, 1, 0, 0, 1, 0] B4) (y := sub [1, 1, 0, 1, 0, 0, 1, 0, 0, 1, 1] B4) rfl c124 ?_
          refine TT.skip ?_
          refine TT.inBlock ?_
          refine TT.region (id := 4) (n := 3) (ops := (opsOf (sub [1, 1, 0, 1, 0, 0, 1, 1] B4))) [(.pure, none), (.pure, none), (.pure, none)] rfl ?_
          show DL _ _ _ _ _ _ _ _ _ _ [0, 1, 2] _ _
          refine DL.pu 8 (.int .i64 x4_7) rfl (p_move rfl rfl) ?_
          refine DL.pu 9 (.int .i64 (IntKind.i64.wrap (x4_7 + 1))) rfl (p_add rfl rfl rfl) ?_
          refine DL.pu 4 (.int .i64 (IntKind.i64.wrap (x4_7 + 1))) rfl (p_assign rfl rfl) ?_
          refine DL.nil ?_
          refine TT.inLoop ?_
          exact TT.weak (ih (IntKind.i64.wrap (x4_7 + 1)) _ h127 hk) (Sub.cons rfl (Sub.cons rfl (Sub.cons rfl (Sub.nil _))))
      · by_cases c108 : (t96 != ((Begun.k t1).getD x4_7.toNat 0)) = true
        · have h109 := ite_true c108 h105
          refine DL.not (i := 9) rfl (Wn.yes c108 rfl rfl rfl rfl) rfl rfl ?_
          refine DL.not (i := 10) rfl (Wn.yes c108 rfl rfl rfl rfl) rfl rfl ?_
          refine DL.not (i := 11) rfl (Wn.yes c108 rfl rfl rfl rfl) rfl rfl ?_
          refine DL.not (i := 12) rfl (Wn.undef rfl rfl rfl) rfl rfl ?_
          refine DL.not (i := 13) rfl (Wn.undef rfl rfl rfl) rfl rfl ?_
          refine DL.not (i := 14) rfl (Wn.undef rfl rfl rfl) rfl rfl ?_
          refine DL.not (i := 15) rfl (Wn.undef rfl rfl rfl) rfl rfl ?_
          refine DL.not (i := 16) rfl (Wn.undef rfl rfl rfl) rfl rfl ?_
          refine DL.not (i := 17) rfl (Wn.undef rfl rfl rfl) rfl rfl ?_
          refine DL.not (i := 18) rfl (Wn.undef rfl rfl rfl) rfl rfl ?_
          refine DL.not (i := 19) rfl (Wn.undef rfl rfl rfl) rfl rfl ?_
          refine DL.not (i := 20) rfl (Wn.yes c108 rfl rfl rfl rfl) rfl rfl ?_
          refine DL.pu 31 (.bool true) rfl (p_pick_t c108 rfl rfl rfl) ?_
          obtain rfl := Option.some.inj h109
          exact DL.weak J107 (Sub.cons rfl (Sub.cons rfl (Sub.cons rfl (Sub.cons rfl (Sub.nil _)))))
        · replace c108 := Bool.eq_false_iff.mpr c108
          have h110 := ite_false c108 h105
          refine DL.pure (v := .int .i64 x4_7) rfl (Wn.no c108 rfl rfl rfl rfl) rfl rfl rfl (p_move rfl rfl) ?_
          refine DL.pure (v := .bool (decide (x4_7 < 8))) rfl (Wn.no c108 rfl rfl rfl rfl) rfl rfl rfl (p_lss rfl rfl rfl) ?_
          refine DL.pure (v := .bool (decide (x4_7 < 8))) rfl (Wn.no c108 rfl rfl rfl rfl) rfl rfl rfl (p_move rfl rfl) ?_
          obtain ⟨q112, h113, h114⟩ := bind_some h110
          refine DL.cut [(0, .int .i64 a0), (3, ptr b5 0), (4, .int .i64 x4_7), (18, .bool (t96 != ((Begun.k t1).getD x4_7.toNat 0))), (19, .int .i64 x4_7), (20, .bool (decide (x4_7 < 8))), (21, .bool (decide (x4_7 < 8))), (30, .bool q112)] [21] ?_ (fun J115 => ?_)
          · refine DL.pu 31 (.bool q112) rfl (p_pick_f c108 rfl rfl rfl) ?_
            obtain rfl := Option.some.inj h114
            exact DL.weak J107 (Sub.cons rfl (Sub.cons rfl (Sub.cons rfl (Sub.cons rfl (Sub.nil _)))))
          · by_cases c116 : (decide (x4_7 < 8)) = true
            · have h117 := ite_true c116 h113
              refine DL.pure (v := .int .i64 x4_7) rfl (Wn.yes c116 rfl rfl rfl rfl) rfl rfl rfl (p_move rfl rfl) ?_
              obtain ⟨t118, h119, h120⟩ := bind_some h117
              refine DL.quiet (v := .int .u64 t118) rfl (Wn.yes c116 rfl rfl rfl rfl) rfl rfl rfl (f_callR rfl rfl (args_val (vs := [.int .i64 x4_7]) rfl) (fun w => enter10 _ w) (fun w hc => sha_Start.val h119 (M := M) w (hE.ext hc) )) ?_
              refine DL.pure (v := ptr b5 0) rfl (Wn.yes c116 rfl rfl rfl rfl) rfl rfl rfl (p_fieldAddr ty_f33_0 rfl rfl) ?_
              refine DL.look (v := t1_0) (x := 0) (b := b5) (i := 15) rfl (Wn.yes c116 rfl rfl rfl rfl) rfl rfl rfl rfl rfl (List.mem_of_getElem? (i := 0) rfl) (b_load ty_a31 rfl rfl rfl) ?_
              refine DL.pure (v := .int .i64 x4_7) rfl (Wn.yes c116 rfl rfl rfl rfl) rfl rfl rfl (p_move rfl rfl) ?_
              obtain ⟨g121, h122⟩ := req_some h120
              refine DL.pure (v := elp t1_0 x4_7.toNat) rfl (Wn.yes c116 rfl rfl rfl rfl) rfl rfl rfl (p_slIx1 ty_u31 ty_s35 (RowV.some hr_t1_0 g99 g121) g99 g121 rfl rfl rfl) ?_
              refine DL.quiet (v := .int .u64 ((Begun.start t1).getD x4_7.toNat 0)) rfl (Wn.yes c116 rfl rfl rfl rfl) rfl rfl rfl (q_loadEl (fun w hc => hE.imm hc) hr_t1_0 (encl_get .u64 (lt_len g99 g121)) ty_a35 rfl rfl) ?_
              refine DL.pure (v := .bool (t118 != ((Begun.start t1).getD x4_7.toNat 0))) rfl (Wn.yes c116 rfl rfl rfl rfl) rfl rfl rfl (p_neq rfl rfl rfl) ?_
              refine DL.pure (v := .bool (t118 != ((Begun.start t1).getD x4_7.toNat 0))) rfl (Wn.no c108 rfl rfl rfl rfl) rfl rfl rfl (p_pick_t c116 rfl rfl rfl) ?_
              obtain rfl := Option.some.inj h122
              exact DL.weak J115 (Sub.cons rfl (Sub.cons rfl (Sub.cons rfl (Sub.cons rfl (Sub.cons rfl (Sub.cons rfl (Sub.cons rfl (Sub.cons rfl (Sub.nil _)))))))))
            · replace c116 := Bool.eq_false_iff.mpr c116
              have h123 := ite_false c116 h113
              refine DL.not (i := 12) rfl (Wn.no c116 rfl rfl rfl rfl) rfl rfl ?_
              refine DL.not (i := 13) rfl (Wn.no c116 rfl rfl rfl rfl) rfl rfl ?_
              refine DL.not (i := 14) rfl (Wn.no c116 rfl rfl rfl rfl) rfl rfl ?_
              refine DL.not (i := 15) rfl (Wn.no c116 rfl rfl rfl rfl) rfl rfl ?_
              refine DL.not (i := 16) rfl (Wn.no c116 rfl rfl rfl rfl) rfl rfl ?_
              refine DL.not (i := 17) rfl (Wn.no c116 rfl rfl rfl rfl) rfl rfl ?_
              refine DL.not (i := 18) rfl (Wn.no c116 rfl rfl rfl rfl) rfl rfl ?_
              refine DL.not (i := 19) rfl (Wn.no c116 rfl rfl rfl rfl) rfl rfl ?_
              refine DL.pure (v := .bool false) rfl (Wn.no c108 rfl rfl rfl rfl) rfl rfl rfl (p_pick_f c116 rfl rfl rfl) ?_
              obtain rfl := Option.some.inj h123
              exact DL.weak J115 (Sub.cons rfl (Sub.cons rfl (Sub.cons rfl (Sub.cons rfl (Sub.cons rfl (Sub.cons rfl (Sub.cons rfl (Sub.cons rfl (Sub.nil _)))))))))
    · replace c93 := Bool.eq_false_iff.mpr c93
      have h128 := ite_false c93 h
      refine TT.cond_false (x := sub [1, 1, 0, 1, 0, 0, 0, 1, 0] B4) (y := sub [1, 1, 0, 1, 0, 0, 0, 1, 1] B4) rfl c93 ?_
      refine TT.exit rfl ?_
      obtain rfl := Option.some.inj h128
      exact TT.weak (hk) (Sub.cons rfl (Sub.nil _))

def law05_ShaConstants.f (a0 : Int) : Option (Bool) := (ref05_Begin.f).bind fun t1 => onw (law05_ShaConstants.L0 t1 81 0) (fun _ => (if (decide (0 ≤ a0)) = true then (some (decide (a0 < 80))) else (some false)).bind fun q134 => (if q134 = true then (some true) else ((sha_Constant.f a0).bind fun t149 => some (t149 == 0))).bind fun q142 => (if q142 = true then ((if (decide (0 ≤ a0)) = true then (some (decide (a0 < 8))) else (some false)).bind fun q160 => (if q160 = true then (some true) else ((sha_Start.f a0).bind fun t175 => some (t175 == 0))).bind fun q168 => some q168) else (some false)).bind fun q153 => (if q153 = true then ((law05_known.f).bind fun t186 => some t186) else (some false)).bind fun q180 => some q180) (fun r => some r)
set_option maxRecDepth 20000 in
theorem law05_ShaConstants.ok {a0 : Int} {r : Bool} (h : law05_ShaConstants.f a0 = some r) {M : Mem} (w : World) (hM : Ext M (heapOf w)) : Calls Try.prog 4 #[.int .i64 a0] w (Post (fun u => u = .bool r) w) := by
  unfold law05_ShaConstants.f at h
  have hE := Env.start hM
  refine calls_of_TT (N := 59) (S := [(0, .int .i64 a0)]) (c := B4) Try.func4 rfl rfl rfl (by simp) ?_
  show TT _ _ _ _ _ _ [.code (sub [] B4)] _ _
  refine TT.seq (x := sub [0] B4) (y := sub [1] B4) ?_
  refine TT.region (id := 0) (n := 1) (ops := (opsOf (sub [0] B4))) [(.pure, none)] rfl ?_
  show DL _ _ _ _ _ _ _ _ _ _ [0] _ _
  refine DL.pu 2 (.bool false) rfl (p_assign rfl rfl) ?_
  refine DL.nil ?_
  refine TT.seq (x := sub [1, 0] B4) (y := sub [1, 1] B4) ?_
  refine TT.region (id := 1) (n := 3) (ops := (opsOf (sub [1, 0] B4))) [(.keep, none), (.alloc, none), (.store, none)] rfl ?_
  show DL _ _ _ _ _ _ _ _ _ _ [0, 1, 2] _ _
  obtain ⟨t1, h2, h3⟩ := bind_some h
  refine DL.callF (G := Value × Value) (u := fun g => .agg #[(g.1), (g.2)]) (Q := fun g M_ => (IntRow M_ .u64 (g.1) (Begun.start t1)) ∧ (IntRow M_ .u64 (g.2) (Begun.k t1))) (A := []) (J := []) (fun J4 => (J4)) (Nat.le_refl _) hE.nil (List.append_nil _).symm (fun _ => rfl) (by simp) (i := 0) rfl (Wn.none rfl) rfl rfl rfl rfl rfl rfl (args_val (vs := []) rfl) (fun w => enter8 _ w) (fun w hc hI => ref05_Begin.ok h2 (M := M) w hI ) ?_
  rintro ⟨t1_0, t1_1⟩ M4 J4 hE4 hx4 ⟨hr_t1_0, hr_t1_1⟩
  show DL _ _ _ _ _ _ _ _ _ _ _ _ (J4)
  refine DL.new (ob := .cells (#[(.slice none 0 0), (.slice none 0 0)]) 33) (mk := fun b => ptr b 0) (i := 1) rfl (Wn.none rfl) rfl rfl rfl (f_alloc ty_z33 rfl) ?_
  intro b5 hb5
  refine DL.put (H' := ((some b5, .cells (#[t1_0, t1_1]) 33 (0, 0)) :: J4)) (i := 2) rfl (Wn.none rfl) rfl rfl (f_storeA (j := 0) ty_s33 rfl rfl rfl (one_cons (sl_one (RowV.sl hr_t1_0)) (one_cons (sl_one (RowV.sl hr_t1_1)) one_nil)) rfl rfl rfl) (keep_none rfl) ?_
  refine DL.nil ?_
  refine TT.settle (A := [(some b5, .cells (#[t1_0, t1_1]) 33 (0, 0))]) (J := J4) hE4 ?_
  intro I6 hE6 hxI6
  refine TT.seq (x := sub [1, 1, 0] B4) (y := sub [1, 1, 1] B4) ?_
  refine TT.seq (x := sub [1, 1, 0, 0] B4) (y := sub [1, 1, 0, 1] B4) ?_
  refine TT.region (id := 2) (n := 1) (ops := (opsOf (sub [1, 1, 0, 0] B4))) [(.pure, none)] rfl ?_
  show DL _ _ _ _ _ _ _ _ _ _ [0] _ _
  refine DL.pu 4 (.int .i64 0) rfl (p_assign rfl rfl) ?_
  refine DL.nil ?_
  refine TT.block (c := sub [1, 1, 0, 1, 0] B4) ?_
  refine TT.loop (c := sub [1, 1, 0, 1, 0, 0] B4) ?_
  rcases onw_some h3 with ⟨_, h129, h130⟩ | ⟨r132, h129, h130⟩
  · refine TT.weak (law05_ShaConstants.L0_ok a0 t1 t1_0 t1_1 b5 hE6 hr_t1_0 hr_t1_1 81 0 (.inl ()) h129 (?_)) (Sub.cons rfl (Sub.cons rfl (Sub.cons rfl (Sub.nil _))))
    show TT _ _ _ _ _ _ _ _ _
    refine TT.seq (x := sub [1, 1, 1, 0] B4) (y := sub [1, 1, 1, 1] B4) ?_
    refine TT.region (id := 7) (n := 28) (ops := (opsOf (sub [1, 1, 1, 0] B4))) [(.pure, none), (.pure, none), (.pure, none), (.pure, none), (.pure, none), (.pure, none), (.pure, none), (.pure, none), (.quiet, none), (.pure, none), (.pure, none), (.pure, none), (.pure, none), (.pure, none), (.pure, none), (.pure, none), (.pure, none), (.pure, none), (.pure, none), (.pure, none), (.quiet, none), (.pure, none), (.pure, none), (.pure, none), (.pure, none), (.quiet, none), (.pure, none), (.pure, none)] rfl ?_
    show DL _ _ _ _ _ _ _ _ _ _ [0, 1, 2, 3, 4, 5, 6, 7, 8, 9, 10, 11, 12, 13, 14, 15, 16, 17, 18, 19, 20, 21, 22, 23, 24, 25, 26, 27] _ _
    refine DL.pu 32 (.int .i64 a0) rfl (p_move rfl rfl) ?_
    refine DL.pu 33 (.bool (decide (0 ≤ a0))) rfl (p_geq rfl rfl rfl) ?_
    refine DL.pu 34 (.bool (decide (0 ≤ a0))) rfl (p_move rfl rfl) ?_
    obtain ⟨q134, h135, h136⟩ := bind_some h130
    refine DL.cut [(0, .int .i64 a0), (37, .bool q134)] [6, 7, 8, 9, 10, 11, 12, 13, 14, 15, 16, 17, 18, 19, 20, 21, 22, 23, 24, 25, 26, 27] ?_ (fun J137 => ?_)
    · refine DL.pu 38 (.bool q134) rfl (p_move rfl rfl) ?_
      obtain ⟨q142, h143, h144⟩ := bind_some h136
      refine DL.cut [(0, .int .i64 a0), (42, .bool q142)] [11, 12, 13, 14, 15, 16, 17, 18, 19, 20, 21, 22, 23, 24, 25, 26, 27] ?_ (fun J145 => ?_)
      · refine DL.pu 43 (.bool q142) rfl (p_move rfl rfl) ?_
        obtain ⟨q153, h154, h155⟩ := bind_some h144
        refine DL.cut [(55, .bool q153)] [24, 25, 26, 27] ?_ (fun J156 => ?_)
        · refine DL.pu 56 (.bool q153) rfl (p_move rfl rfl) ?_
          obtain ⟨q180, h181, h182⟩ := bind_some h155
          refine DL.cut [(58, .bool q180)] [27] ?_ (fun J183 => ?_)
          · refine DL.pu 2 (.bool q180) rfl (p_assign rfl rfl) ?_
            refine DL.nil ?_
            obtain rfl := Option.some.inj h182
            exact retnE (rs := [.tmp 2]) (vs := [.bool q180]) hE6.base Try.func4 rfl rfl rfl (res_cons (ResV.tmp rfl) res_nil) rfl
          · by_cases c184 : q153 = true
            · have h185 := ite_true c184 h181
              obtain ⟨t186, h187, h188⟩ := bind_some h185
              refine DL.quiet (v := .bool t186) rfl (Wn.yes c184 rfl rfl rfl rfl) rfl rfl rfl (f_callR rfl rfl (args_val (vs := []) rfl) (fun w => enter5 _ w) (fun w hc => law05_known.val h187 (M := M4) w (hE6.ext hc) )) ?_
              refine DL.pu 58 (.bool t186) rfl (p_pick_t c184 rfl rfl rfl) ?_
              obtain rfl := Option.some.inj h188
              exact DL.weak J183 (Sub.cons rfl (Sub.nil _))
            · replace c184 := Bool.eq_false_iff.mpr c184
              have h189 := ite_false c184 h181
              refine DL.not (i := 25) rfl (Wn.no c184 rfl rfl rfl rfl) rfl rfl ?_
              refine DL.pu 58 (.bool false) rfl (p_pick_f c184 rfl rfl rfl) ?_
              obtain rfl := Option.some.inj h189
              exact DL.weak J183 (Sub.cons rfl (Sub.nil _))
        · by_cases c157 : q142 = true
          · have h158 := ite_true c157 h154
            refine DL.pure (v := .int .i64 a0) rfl (Wn.yes c157 rfl rfl rfl rfl) rfl rfl rfl (p_move rfl rfl) ?_
            refine DL.pure (v := .bool (decide (0 ≤ a0))) rfl (Wn.yes c157 rfl rfl rfl rfl) rfl rfl rfl (p_geq rfl rfl rfl) ?_
            refine DL.pure (v := .bool (decide (0 ≤ a0))) rfl (Wn.yes c157 rfl rfl rfl rfl) rfl rfl rfl (p_move rfl rfl) ?_
            obtain ⟨q160, h161, h162⟩ := bind_some h158
            refine DL.cut [(0, .int .i64 a0), (43, .bool q142), (49, .bool q160)] [18, 19, 20, 21, 22, 23, 24, 25, 26, 27] ?_ (fun J163 => ?_)
            · refine DL.pure (v := .bool q160) rfl (Wn.yes c157 rfl rfl rfl rfl) rfl rfl rfl (p_move rfl rfl) ?_
              obtain ⟨q168, h169, h170⟩ := bind_some h162
              refine DL.cut [(43, .bool q142), (54, .bool q168)] [23, 24, 25, 26, 27] ?_ (fun J171 => ?_)
              · refine DL.pu 55 (.bool q168) rfl (p_pick_t c157 rfl rfl rfl) ?_
                obtain rfl := Option.some.inj h170
                exact DL.weak J156 (Sub.cons rfl (Sub.nil _))
              · by_cases c172 : q160 = true
                · have h173 := ite_true c172 h169
                  refine DL.not (i := 19) rfl (Wn.yes c172 rfl rfl rfl rfl) rfl rfl ?_
                  refine DL.not (i := 20) rfl (Wn.yes c172 rfl rfl rfl rfl) rfl rfl ?_
                  refine DL.not (i := 21) rfl (Wn.yes c172 rfl rfl rfl rfl) rfl rfl ?_
                  refine DL.pure (v := .bool true) rfl (Wn.yes c157 rfl rfl rfl rfl) rfl rfl rfl (p_pick_t c172 rfl rfl rfl) ?_
                  obtain rfl := Option.some.inj h173
                  exact DL.weak J171 (Sub.cons rfl (Sub.cons rfl (Sub.nil _)))
                · replace c172 := Bool.eq_false_iff.mpr c172
                  have h174 := ite_false c172 h169
                  refine DL.pure (v := .int .i64 a0) rfl (Wn.no c172 rfl rfl rfl rfl) rfl rfl rfl (p_move rfl rfl) ?_
                  obtain ⟨t175, h176, h177⟩ := bind_some h174
                  refine DL.quiet (v := .int .u64 t175) rfl (Wn.no c172 rfl rfl rfl rfl) rfl rfl rfl (f_callR rfl rfl (args_val (vs := [.int .i64 a0]) rfl) (fun w => enter10 _ w) (fun w hc => sha_Start.val h176 (M := M4) w (hE6.ext hc) )) ?_
                  refine DL.pure (v := .bool (t175 == 0)) rfl (Wn.no c172 rfl rfl rfl rfl) rfl rfl rfl (p_eql rfl rfl rfl) ?_
                  refine DL.pure (v := .bool (t175 == 0)) rfl (Wn.yes c157 rfl rfl rfl rfl) rfl rfl rfl (p_pick_f c172 rfl rfl rfl) ?_
                  obtain rfl := Option.some.inj h177
                  exact DL.weak J171 (Sub.cons rfl (Sub.cons rfl (Sub.nil _)))
            · by_cases c164 : (decide (0 ≤ a0)) = true
              · have h165 := ite_true c164 h161
                refine DL.pure (v := .int .i64 a0) rfl (Wn.yes c164 rfl rfl rfl rfl) rfl rfl rfl (p_move rfl rfl) ?_
                refine DL.pure (v := .bool (decide (a0 < 8))) rfl (Wn.yes c164 rfl rfl rfl rfl) rfl rfl rfl (p_lss rfl rfl rfl) ?_
                refine DL.pure (v := .bool (decide (a0 < 8))) rfl (Wn.yes c157 rfl rfl rfl rfl) rfl rfl rfl (p_pick_t c164 rfl rfl rfl) ?_
                obtain rfl := Option.some.inj h165
                exact DL.weak J163 (Sub.cons rfl (Sub.cons rfl (Sub.cons rfl (Sub.nil _))))
              · replace c164 := Bool.eq_false_iff.mpr c164
                have h166 := ite_false c164 h161
                refine DL.not (i := 15) rfl (Wn.no c164 rfl rfl rfl rfl) rfl rfl ?_
                refine DL.not (i := 16) rfl (Wn.no c164 rfl rfl rfl rfl) rfl rfl ?_
                refine DL.pure (v := .bool false) rfl (Wn.yes c157 rfl rfl rfl rfl) rfl rfl rfl (p_pick_f c164 rfl rfl rfl) ?_
                obtain rfl := Option.some.inj h166
                exact DL.weak J163 (Sub.cons rfl (Sub.cons rfl (Sub.cons rfl (Sub.nil _))))
          · replace c157 := Bool.eq_false_iff.mpr c157
            have h178 := ite_false c157 h154
            refine DL.not (i := 12) rfl (Wn.no c157 rfl rfl rfl rfl) rfl rfl ?_
            refine DL.not (i := 13) rfl (Wn.no c157 rfl rfl rfl rfl) rfl rfl ?_
            refine DL.not (i := 14) rfl (Wn.no c157 rfl rfl rfl rfl) rfl rfl ?_
            refine DL.not (i := 15) rfl (Wn.undef rfl rfl rfl) rfl rfl ?_
            refine DL.not (i := 16) rfl (Wn.undef rfl rfl rfl) rfl rfl ?_
            refine DL.not (i := 17) rfl (Wn.no c157 rfl rfl rfl rfl) rfl rfl ?_
            refine DL.not (i := 18) rfl (Wn.no c157 rfl rfl rfl rfl) rfl rfl ?_
            refine DL.not (i := 19) rfl (Wn.undef rfl rfl rfl) rfl rfl ?_
            refine DL.not (i := 20) rfl (Wn.undef rfl rfl rfl) rfl rfl ?_
            refine DL.not (i := 21) rfl (Wn.undef rfl rfl rfl) rfl rfl ?_
            refine DL.not (i := 22) rfl (Wn.no c157 rfl rfl rfl rfl) rfl rfl ?_
            refine DL.pu 55 (.bool false) rfl (p_pick_f c157 rfl rfl rfl) ?_
            obtain rfl := Option.some.inj h178
            exact DL.weak J156 (Sub.cons rfl (Sub.nil _))
      · by_cases c146 : q134 = true
        · have h147 := ite_true c146 h143
          refine DL.not (i := 7) rfl (Wn.yes c146 rfl rfl rfl rfl) rfl rfl ?_
          refine DL.not (i := 8) rfl (Wn.yes c146 rfl rfl rfl rfl) rfl rfl ?_
          refine DL.not (i := 9) rfl (Wn.yes c146 rfl rfl rfl rfl) rfl rfl ?_
          refine DL.pu 42 (.bool true) rfl (p_pick_t c146 rfl rfl rfl) ?_
          obtain rfl := Option.some.inj h147
          exact DL.weak J145 (Sub.cons rfl (Sub.cons rfl (Sub.nil _)))
        · replace c146 := Bool.eq_false_iff.mpr c146
          have h148 := ite_false c146 h143
          refine DL.pure (v := .int .i64 a0) rfl (Wn.no c146 rfl rfl rfl rfl) rfl rfl rfl (p_move rfl rfl) ?_
          obtain ⟨t149, h150, h151⟩ := bind_some h148
          refine DL.quiet (v := .int .u64 t149) rfl (Wn.no c146 rfl rfl rfl rfl) rfl rfl rfl (f_callR rfl rfl (args_val (vs := [.int .i64 a0]) rfl) (fun w => enter9 _ w) (fun w hc => sha_Constant.val h150 (M := M4) w (hE6.ext hc) )) ?_
          refine DL.pure (v := .bool (t149 == 0)) rfl (Wn.no c146 rfl rfl rfl rfl) rfl rfl rfl (p_eql rfl rfl rfl) ?_
          refine DL.pu 42 (.bool (t149 == 0)) rfl (p_pick_f c146 rfl rfl rfl) ?_
          obtain rfl := Option.some.inj h151
          exact DL.weak J145 (Sub.cons rfl (Sub.cons rfl (Sub.nil _)))
    · by_cases c138 : (decide (0 ≤ a0)) = true
      · have h139 := ite_true c138 h135
        refine DL.pure (v := .int .i64 a0) rfl (Wn.yes c138 rfl rfl rfl rfl) rfl rfl rfl (p_move rfl rfl) ?_
        refine DL.pure (v := .bool (decide (a0 < 80))) rfl (Wn.yes c138 rfl rfl rfl rfl) rfl rfl rfl (p_lss rfl rfl rfl) ?_
        refine DL.pu 37 (.bool (decide (a0 < 80))) rfl (p_pick_t c138 rfl rfl rfl) ?_
        obtain rfl := Option.some.inj h139
        exact DL.weak J137 (Sub.cons rfl (Sub.cons rfl (Sub.nil _)))
      · replace c138 := Bool.eq_false_iff.mpr c138
        have h140 := ite_false c138 h135
        refine DL.not (i := 3) rfl (Wn.no c138 rfl rfl rfl rfl) rfl rfl ?_
        refine DL.not (i := 4) rfl (Wn.no c138 rfl rfl rfl rfl) rfl rfl ?_
        refine DL.pu 37 (.bool false) rfl (p_pick_f c138 rfl rfl rfl) ?_
        obtain rfl := Option.some.inj h140
        exact DL.weak J137 (Sub.cons rfl (Sub.cons rfl (Sub.nil _)))
  · obtain rfl := Option.some.inj h130
    exact TT.weak (law05_ShaConstants.L0_ok a0 t1 t1_0 t1_1 b5 hE6 hr_t1_0 hr_t1_1 81 0 (.inr r132) h129 rfl) (Sub.cons rfl (Sub.cons rfl (Sub.cons rfl (Sub.nil _))))
theorem law05_ShaConstants.val {a0 : Int} {r : Bool} (h : law05_ShaConstants.f a0 = some r) {M : Mem} (w : World) (hM : Ext M (heapOf w)) : Calls Try.prog 4 #[.int .i64 a0] w fun e w' => e = .returned (.bool r) ∧ Below w.heap.size w w' :=
  calls_value (law05_ShaConstants.ok h w hM)

end Go.Proofs.Ytlpodhejgcmbpaa
