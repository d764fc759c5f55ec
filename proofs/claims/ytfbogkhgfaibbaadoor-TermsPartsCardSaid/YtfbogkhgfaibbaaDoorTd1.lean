import Derived.Test.YtfbogkhgfaibbaaDoorTmOnce2
import Derived.Test.YtfbogkhgfaibbaaDoorTb1
namespace Go.Proofs.YtfbogkhgfaibbaaDoor
open Go Go.HW Go.RowKit
set_option linter.unusedVariables false
set_option linter.unusedSimpArgs false

theorem enter22 (args : Array Value) (w : World) : (callFunc 22 args).run Tryd.prog w = .ok (.enter 22 args) w := by kernel_rfl

/-! ### escutcheon/escutcheonlaw29.TermsParts: function 7 -/
noncomputable def B7 : Code := bodyOf Tryd.f7
def law29_TermsParts.f (a0 : Tm) (a1 : Int) : Option (Bool) := (ref29_Size.f (Tm.fuel a0) a0 301).bind fun t2 => if (decide (300 < t2)) = true then ((law29_known.f).bind fun t7 => some t7) else ((law29_once.f a0 0).bind fun t11 => (if t11 = true then ((law29_once.f a0 a1).bind fun t21 => some t21) else (some false)).bind fun q15 => (if q15 = true then ((law29_known.f).bind fun t32 => some t32) else (some false)).bind fun q26 => some q26)
set_option maxRecDepth 20000 in
theorem law29_TermsParts.ok {a0 : Tm} {a1 : Int} {a0_2 : Value} {r : Bool} (h : law29_TermsParts.f a0 a1 = some r) {M : Mem} (w : World) (hM : Ext M (heapOf w)) (hG : Glob M) (hr_a0_2 : RowS ShTm M a0_2 (Tree.kids a0)) : Calls Tryd.prog 7 #[.agg #[.int .i64 (Tm.kind a0), .int .i64 (Tm.num a0), a0_2], .int .i64 a1] w (Post (fun u => u = .bool r) w) := by
  unfold law29_TermsParts.f at h
  have hE := Env.start hM
  refine calls_of_TT (N := 19) (S := [(0, .agg #[.int .i64 (Tm.kind a0), .int .i64 (Tm.num a0), a0_2]), (1, .int .i64 a1)]) (c := B7) Tryd.func7 rfl rfl rfl (by simp) ?_
  show TT _ _ _ _ _ _ [.code (sub [] B7)] _ _
  refine TT.seq (x := sub [0] B7) (y := sub [1] B7) ?_
  refine TT.region (id := 0) (n := 2) (ops := (opsOf (sub [0] B7))) [(.alloc, none), (.pure, none)] rfl ?_
  show DL _ _ _ _ _ _ _ _ _ _ [0, 1] _ _
  refine DL.new (ob := .cells (#[.int .i64 (Tm.kind a0), .int .i64 (Tm.num a0), a0_2]) 25) (mk := fun b => ptr b 0) (i := 0) rfl (Wn.none rfl) rfl rfl rfl (f_box (v := .agg #[.int .i64 (Tm.kind a0), .int .i64 (Tm.num a0), a0_2]) rfl rfl) ?_
  intro b1 hb1
  refine DL.pu 4 (.bool false) rfl (p_assign rfl rfl) ?_
  refine DL.nil ?_
  refine TT.seq (x := sub [1, 0] B7) (y := sub [1, 1] B7) ?_
  refine TT.seq (x := sub [1, 0, 0] B7) (y := sub [1, 0, 1] B7) ?_
  refine TT.region (id := 1) (n := 3) (ops := (opsOf (sub [1, 0, 0] B7))) [(.quiet, none), (.quiet, none), (.pure, none)] rfl ?_
  show DL _ _ _ _ _ _ _ _ _ _ [0, 1, 2] _ _
  refine DL.qu 5 (.agg #[.int .i64 (Tm.kind a0), .int .i64 (Tm.num a0), a0_2]) rfl (f_loadA (j := 0) ty_a25 ty_s25 rfl rfl rfl rfl) ?_
  obtain ⟨t2, h3, h4⟩ := bind_some h
  refine DL.qu 6 (.int .i64 t2) rfl (f_callR rfl rfl (args_val (vs := [.agg #[.int .i64 (Tm.kind a0), .int .i64 (Tm.num a0), a0_2], .int .i64 301]) rfl) (fun w => enter13 _ w) (fun w hc => ref29_Size.val h3 (M := M) w (hE.ext hc) hr_a0_2)) ?_
  refine DL.pu 7 (.bool (decide (300 < t2))) rfl (p_gtr rfl rfl rfl) ?_
  refine DL.nil ?_
  by_cases c5 : (decide (300 < t2)) = true
  · have h6 := ite_true c5 h4
    refine TT.cond_true (x := sub [1, 0, 1, 0] B7) (y := sub [1, 0, 1, 1] B7) rfl c5 ?_
    refine TT.seq (x := sub [1, 0, 1, 0, 0] B7) (y := sub [1, 0, 1, 0, 1] B7) ?_
    refine TT.region (id := 2) (n := 2) (ops := (opsOf (sub [1, 0, 1, 0, 0] B7))) [(.quiet, none), (.pure, none)] rfl ?_
    show DL _ _ _ _ _ _ _ _ _ _ [0, 1] _ _
    obtain ⟨t7, h8, h9⟩ := bind_some h6
    refine DL.qu 8 (.bool t7) rfl (f_callR rfl rfl (args_val (vs := []) rfl) (fun w => enter11 _ w) (fun w hc => law29_known.val h8 (M := M) w (hE.ext hc) hG)) ?_
    refine DL.pu 4 (.bool t7) rfl (p_assign rfl rfl) ?_
    refine DL.nil ?_
    obtain rfl := Option.some.inj h9
    exact retnE (rs := [.tmp 4]) (vs := [.bool t7]) hE.base Tryd.func7 rfl rfl rfl (res_cons (ResV.tmp rfl) res_nil) rfl
  · replace c5 := Bool.eq_false_iff.mpr c5
    have h10 := ite_false c5 h4
    refine TT.cond_false (x := sub [1, 0, 1, 0] B7) (y := sub [1, 0, 1, 1] B7) rfl c5 ?_
    refine TT.skip ?_
    refine TT.seq (x := sub [1, 1, 0] B7) (y := sub [1, 1, 1] B7) ?_
    refine TT.region (id := 3) (n := 11) (ops := (opsOf (sub [1, 1, 0] B7))) [(.quiet, none), (.quiet, none), (.pure, none), (.quiet, none), (.pure, none), (.quiet, none), (.pure, none), (.pure, none), (.quiet, none), (.pure, none), (.pure, none)] rfl ?_
    show DL _ _ _ _ _ _ _ _ _ _ [0, 1, 2, 3, 4, 5, 6, 7, 8, 9, 10] _ _
    refine DL.qu 9 (.agg #[.int .i64 (Tm.kind a0), .int .i64 (Tm.num a0), a0_2]) rfl (f_loadA (j := 0) ty_a25 ty_s25 rfl rfl rfl rfl) ?_
    obtain ⟨t11, h12, h13⟩ := bind_some h10
    refine DL.qu 10 (.bool t11) rfl (f_callR rfl rfl (args_val (vs := [.agg #[.int .i64 (Tm.kind a0), .int .i64 (Tm.num a0), a0_2], .int .i64 0]) rfl) (fun w => enter22 _ w) (fun w hc => law29_once.val h12 (M := M) w (hE.ext hc) hr_a0_2)) ?_
    refine DL.pu 11 (.bool t11) rfl (p_move rfl rfl) ?_
    obtain ⟨q15, h16, h17⟩ := bind_some h13
    refine DL.cut [(15, .bool q15)] [7, 8, 9, 10] ?_ (fun J18 => ?_)
    · refine DL.pu 16 (.bool q15) rfl (p_move rfl rfl) ?_
      obtain ⟨q26, h27, h28⟩ := bind_some h17
      refine DL.cut [(18, .bool q26)] [10] ?_ (fun J29 => ?_)
      · refine DL.pu 4 (.bool q26) rfl (p_assign rfl rfl) ?_
        refine DL.nil ?_
        obtain rfl := Option.some.inj h28
        exact retnE (rs := [.tmp 4]) (vs := [.bool q26]) hE.base Tryd.func7 rfl rfl rfl (res_cons (ResV.tmp rfl) res_nil) rfl
      · by_cases c30 : q15 = true
        · have h31 := ite_true c30 h27
          obtain ⟨t32, h33, h34⟩ := bind_some h31
          refine DL.quiet (v := .bool t32) rfl (Wn.yes c30 rfl rfl rfl rfl) rfl rfl rfl (f_callR rfl rfl (args_val (vs := []) rfl) (fun w => enter11 _ w) (fun w hc => law29_known.val h33 (M := M) w (hE.ext hc) hG)) ?_
          refine DL.pu 18 (.bool t32) rfl (p_pick_t c30 rfl rfl rfl) ?_
          obtain rfl := Option.some.inj h34
          exact DL.weak J29 (Sub.cons rfl (Sub.nil _))
        · replace c30 := Bool.eq_false_iff.mpr c30
          have h35 := ite_false c30 h27
          refine DL.not (i := 8) rfl (Wn.no c30 rfl rfl rfl rfl) rfl rfl ?_
          refine DL.pu 18 (.bool false) rfl (p_pick_f c30 rfl rfl rfl) ?_
          obtain rfl := Option.some.inj h35
          exact DL.weak J29 (Sub.cons rfl (Sub.nil _))
    · by_cases c19 : t11 = true
      · have h20 := ite_true c19 h16
        refine DL.quiet (v := .agg #[.int .i64 (Tm.kind a0), .int .i64 (Tm.num a0), a0_2]) rfl (Wn.yes c19 rfl rfl rfl rfl) rfl rfl rfl (f_loadA (j := 0) ty_a25 ty_s25 rfl rfl rfl rfl) ?_
        refine DL.pure (v := .int .i64 a1) rfl (Wn.yes c19 rfl rfl rfl rfl) rfl rfl rfl (p_move rfl rfl) ?_
        obtain ⟨t21, h22, h23⟩ := bind_some h20
        refine DL.quiet (v := .bool t21) rfl (Wn.yes c19 rfl rfl rfl rfl) rfl rfl rfl (f_callR rfl rfl (args_val (vs := [.agg #[.int .i64 (Tm.kind a0), .int .i64 (Tm.num a0), a0_2], .int .i64 a1]) rfl) (fun w => enter22 _ w) (fun w hc => law29_once.val h22 (M := M) w (hE.ext hc) hr_a0_2)) ?_
        refine DL.pu 15 (.bool t21) rfl (p_pick_t c19 rfl rfl rfl) ?_
        obtain rfl := Option.some.inj h23
        exact DL.weak J18 (Sub.cons rfl (Sub.nil _))
      · replace c19 := Bool.eq_false_iff.mpr c19
        have h24 := ite_false c19 h16
        refine DL.not (i := 3) rfl (Wn.no c19 rfl rfl rfl rfl) rfl rfl ?_
        refine DL.not (i := 4) rfl (Wn.no c19 rfl rfl rfl rfl) rfl rfl ?_
        refine DL.not (i := 5) rfl (Wn.no c19 rfl rfl rfl rfl) rfl rfl ?_
        refine DL.pu 15 (.bool false) rfl (p_pick_f c19 rfl rfl rfl) ?_
        obtain rfl := Option.some.inj h24
        exact DL.weak J18 (Sub.cons rfl (Sub.nil _))
theorem law29_TermsParts.val {a0 : Tm} {a1 : Int} {a0_2 : Value} {r : Bool} (h : law29_TermsParts.f a0 a1 = some r) {M : Mem} (w : World) (hM : Ext M (heapOf w)) (hG : Glob M) (hr_a0_2 : RowS ShTm M a0_2 (Tree.kids a0)) : Calls Tryd.prog 7 #[.agg #[.int .i64 (Tm.kind a0), .int .i64 (Tm.num a0), a0_2], .int .i64 a1] w fun e w' => e = .returned (.bool r) ∧ Below w.heap.size w w' :=
  calls_value (law29_TermsParts.ok h w hM hG hr_a0_2)

end Go.Proofs.YtfbogkhgfaibbaaDoor
