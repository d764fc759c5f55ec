import Derived.Test.YthldgjbmjgjogaaGreatDoorSnNm
namespace Go.Proofs.YthldgjbmjgjogaaGreatDoor
open Go Go.HW Go.RowKit
set_option linter.unusedVariables false
set_option linter.unusedSimpArgs false

/-! ### escutcheonlaw31.once: function 27 -/
noncomputable def B27 : Code := bodyOf Tryz.f27
theorem kenter39 (args : Array Value) (w : World) : (callFunc 39 args).run Tryz.prog w = .ok (.enter 39 args) w := by kernel_rfl
def nmL : List (List UInt8) := ref31_Names.f.getD []
theorem nmL_eq : ref31_Names.f = some nmL := by kernel_rfl
theorem nmL_len : nmL.length = 15 := by kernel_rfl
theorem nmL_at : ∀ k : Nat, k < 15 → 1 ≤ k → nmL[k]? = some (sfName (k : Int)) := of_decide_eq_true (by kernel_rfl)
/-- How far it has come, whether it is at an end, and what it answers with. -/
structure OnS where
  i : Nat
  done : Bool
  ret : Bool
abbrev onRec (rec : Loop) (s : OnS) : Loop := if s.done then { rec with state := .done, pending := some .ret } else rec
abbrev onE (rec : Loop) (l b2 b3 : Nat) (s : OnS) : Heap := [(some l, .loop (onRec rec s)), (some b2, .cells #[.bool s.ret] 4 (0, 0)), (some b3, .cells #[.int .i64 (s.i : Int)] 3 (0, 0))]
def onStep (n : Int) (k : Nat) (s : OnS) (t : OnS) : Prop := t = if (k : Int) = n then ⟨k, true, true⟩ else ⟨k, false, s.ret⟩
def onGd (k : Nat) (s : OnS) : Prop := s.done = false ∧ s.i + 1 = k
set_option maxRecDepth 20000 in
theorem onceRound {I : Mem} {rec : Loop} {l b1 b2 b3 : Nat} {n : Int} (hst : rec.state = .ready) (hpe : rec.pending = none) (hps : rec.params = #[11, 12]) (has : rec.assign = sub [1, 1, 1, 1, 0, 1, 0, 0] B27) (hbo : rec.body = sub [1, 1, 1, 1, 0, 1, 0, 1] B27)
    (hag : Agree 37 [(1, ptr b1 0), (2, ptr b2 0), (3, ptr b3 0)] { tmps := rec.tmps, defers := [] }) (h1 : I b1 = some (.cells #[.int .i64 n] 3 (0, 0)))
    (k : Nat) (s : OnS) (hk1 : 1 ≤ k) (hk14 : k ≤ 14) (hg : onGd k s) :
    RoundTurnV Tryz.prog l I (.int .i64 (k : Int)) (str (sfName k)) (onE rec l b2 b3 s) (fun t => onStep n k s t) (fun t => !t.done) (onE rec l b2 b3) := fun w0 I' A w hI hc => by
  obtain ⟨i, done, ret⟩ := s
  obtain ⟨hd, hx⟩ := hg
  simp only at hd hx
  subst hd; subst hx
  replace hc : Cls w0 I' ((some l, .loop rec) :: (some b2, .cells #[.bool ret] 4 (0, 0)) :: (some b3, .cells #[.int .i64 (i : Int)] 3 (0, 0)) :: A) w := hc
  refine round_of_CI2 (N := 37) (S := [(12, str (sfName ((i + 1 : Nat) : Int))), (11, .int .i64 ((i + 1 : Nat) : Int)), (1, ptr b1 0), (2, ptr b2 0), (3, ptr b3 0)]) (w0 := w0) (I := I') (p := 11) (q := 12) hps (hc.own l _ List.mem_cons_self) ((hag.put (by decide) _).put (by decide) _) hc ?_
  rw [has, hbo]
  refine CI.seq (x := sub [1, 1, 1, 1, 0, 1, 0, 0, 0] B27) (y := sub [1, 1, 1, 1, 0, 1, 0, 0, 1] B27) ?_
  refine CI.rg (id := 6) [0] [(.pure, none)] rfl rfl (by kernel_rfl) ?_
  refine DL.pu 5 (.int .i64 ((i + 1 : Nat) : Int)) rfl (p_assign rfl rfl) ?_
  refine DK.next0 rfl ?_
  refine CI.rg (id := 7) [0] [(.pure, none)] rfl rfl (by kernel_rfl) ?_
  refine DL.pu 6 (str (sfName ((i + 1 : Nat) : Int))) rfl (p_assign rfl rfl) ?_
  refine DK.nil (begin_body (j := 0) rfl hst ?_)
  refine CI.block (c := sub [1, 1, 1, 1, 0, 1, 0, 1, 0] B27) ?_
  show CI _ _ _ _ _ _ _ _ _ ((some l, .loop { rec with state := .busy }) :: (some b2, .cells #[.bool ret] 4 (0, 0)) :: (some b3, .cells #[.int .i64 (i : Int)] 3 (0, 0)) :: A)
  refine CI.seq (x := sub [1, 1, 1, 1, 0, 1, 0, 1, 0, 0] B27) (y := sub [1, 1, 1, 1, 0, 1, 0, 1, 0, 1] B27) ?_
  refine CI.seq (x := sub [1, 1, 1, 1, 0, 1, 0, 1, 0, 0, 0] B27) (y := sub [1, 1, 1, 1, 0, 1, 0, 1, 0, 0, 1] B27) ?_
  refine CI.rgD (id := 8) [0, 1, 2, 3, 4, 5, 6, 7, 8, 9, 11, 12, 10, 13, 14, 15, 16] [0, 1, 3, 7, 7, 23, 63, 127, 255, 511, 511, 511, 2559, 7679, 15871, 32767, 65535] [(.quiet, none), (.pure, none), (.pure, none), (.pure, none), (.quiet, none), (.pure, none), (.pure, none), (.pure, none), (.pure, none), (.pure, none), (.free, none), (.quiet, none), (.pure, none), (.pure, none), (.quiet, none), (.pure, none), (.pure, none)] rfl mixed (by kernel_rfl) (by kernel_rfl) ?_
  intro w1 hl1 hj1 hz1
  refine DL.qu 13 (.int .i64 (i : Int)) rfl (f_load (j := 2) ty_a3 rfl rfl rfl rfl) ?_
  have c1 : decide (14 ≤ (i : Int)) = false := by simp; omega
  refine DL.pu 14 (.bool (decide (14 ≤ (i : Int)))) rfl (p_geq rfl rfl rfl) ?_
  refine DL.pu 15 (.bool (decide (14 ≤ (i : Int)))) rfl (p_move rfl rfl) ?_
  refine DL.pure (v := .int .i64 ((i + 1 : Nat) : Int)) rfl (Wn.no c1 rfl rfl rfl rfl) rfl rfl rfl (p_move rfl rfl) ?_
  refine DL.quiet (v := .int .i64 (i : Int)) rfl (Wn.no c1 rfl rfl rfl rfl) rfl rfl rfl (f_load (j := 2) ty_a3 rfl rfl rfl rfl) ?_
  refine DL.pure (v := .int .i64 ((i + 1 : Nat) : Int)) rfl (Wn.no c1 rfl rfl rfl rfl) rfl rfl rfl (wrap_next (i := i) (by omega) ▸ p_add rfl rfl rfl) ?_
  have c2 : (!(((i + 1 : Nat) : Int) == ((i + 1 : Nat) : Int))) = false := by simp
  refine DL.pure (v := .bool false) rfl (Wn.no c1 rfl rfl rfl rfl) rfl rfl rfl (show FPure _ _ _ (.bool false) from c2 ▸ p_neq rfl rfl rfl) ?_
  refine DL.pu 20 (.bool false) rfl (p_pick_f c1 rfl rfl rfl) ?_
  refine DL.pu 21 (.bool false) rfl (p_move rfl rfl) ?_
  refine DL.pure (v := str (sfName ((i + 1 : Nat) : Int))) rfl (Wn.some rfl rfl rfl rfl) rfl rfl rfl (p_move rfl rfl) ?_
  refine DL.quiet (v := .int .i64 (i : Int)) rfl (Wn.some rfl rfl rfl rfl) rfl rfl rfl (f_load (j := 2) ty_a3 rfl rfl rfl rfl) ?_
  refine DL.pure (v := .int .i64 ((i + 1 : Nat) : Int)) rfl (Wn.some rfl rfl rfl rfl) rfl rfl rfl (wrap_next (i := i) (by omega) ▸ p_add rfl rfl rfl) ?_
  refine DL.callFf (G := Value) (u := fun g => g) (Q := fun g M_ => RowS Sh.str M_ g nmL) (M := fun _ => none) (A := (some l, .loop { rec with state := .busy }) :: (some b2, .cells #[.bool ret] 4 (0, 0)) :: (some b3, .cells #[.int .i64 (i : Int)] 3 (0, 0)) :: A) (J := []) (fun J4 => ((some l, .loop { rec with state := .busy }) :: (some b2, .cells #[.bool ret] 4 (0, 0)) :: (some b3, .cells #[.int .i64 (i : Int)] 3 (0, 0)) :: A) ++ J4) (Nat.zero_le _) (EnvX.bare (w := w) (M := fun _ => none) (I := I') (fun b o e => by cases e)).nil (List.append_nil _).symm (fun _ => rfl) (by simp) (i := 10) rfl (Wn.some rfl rfl rfl rfl) rfl rfl rfl rfl rfl rfl (args_val (vs := []) rfl) (fun w => kenter39 _ w) (fun w hc hI => ref31_Names.ok nmL_eq (M := fun _ => none) w hI) ?_
  intro g M4 J4 hE4 hx4 hrow
  have hlt : i + 1 < nmL.length := by rw [nmL_len]; omega
  refine DL.pure (v := elp g (((i + 1 : Nat) : Int)).toNat) rfl (Wn.some rfl rfl rfl rfl) rfl rfl rfl (p_slIx1 (i := ((i + 1 : Nat) : Int)) ty_u46 ty_s9 (RowS.some (i := ((i + 1 : Nat) : Int)) hrow (by omega) (by omega)) (by omega) (by omega) rfl rfl rfl) ?_
  obtain ⟨cs, hv, hq⟩ := id hrow
  have hq0 : cs[((i + 1 : Nat) : Int).toNat]? = some (str (sfName ((i + 1 : Nat) : Int))) := by
    have h2 : chunk cs 1 (i + 1) = [str (sfName ((i + 1 : Nat) : Int))] := hq (i + 1) _ (nmL_at (i + 1) (by omega) (by omega))
    have := chunk_get (cs := cs) (n := 1) (i := i + 1) (j := 0) (q := str (sfName ((i + 1 : Nat) : Int))) (by rw [h2]; rfl)
    simpa using this
  refine DL.quiet (v := str (sfName ((i + 1 : Nat) : Int))) rfl (Wn.some rfl rfl rfl rfl) rfl rfl rfl (FImm.quiet (i_loadEl (I := M4) hv hq0 ty_a9 rfl rfl) (fun w hc => hE4.immJ hc rfl)) ?_
  have c3 : (!(sfName ((i + 1 : Nat) : Int) == sfName ((i + 1 : Nat) : Int))) = false := by simp
  refine DL.pure (v := .bool false) rfl (Wn.some rfl rfl rfl rfl) rfl rfl rfl (show FPure _ _ _ (.bool false) from c3 ▸ p_strNe rfl rfl rfl) ?_
  refine DL.pu 29 (.bool false) rfl (p_pick_f (p := false) rfl rfl rfl rfl) ?_
  refine DK.next hl1 rfl ?_
  refine CI.fewer (List.sublist_append_left ((some l, .loop { rec with state := .busy }) :: (some b2, .cells #[.bool ret] 4 (0, 0)) :: (some b3, .cells #[.int .i64 (i : Int)] 3 (0, 0)) :: A) J4) ?_
  refine CI.cond_false (x := sub [1, 1, 1, 1, 0, 1, 0, 1, 0, 0, 1, 0] B27) (y := sub [1, 1, 1, 1, 0, 1, 0, 1, 0, 0, 1, 1] B27) rfl rfl ?_
  refine CI.skipN rfl ?_
  refine CI.seq (x := sub [1, 1, 1, 1, 0, 1, 0, 1, 0, 1, 0] B27) (y := sub [1, 1, 1, 1, 0, 1, 0, 1, 0, 1, 1] B27) ?_
  refine CI.rg (id := 10) [0, 1, 2] [(.quiet, none), (.pure, none), (.store, none)] rfl rfl (by kernel_rfl) ?_
  refine DL.qu 30 (.int .i64 (i : Int)) rfl (f_load (j := 2) ty_a3 rfl rfl rfl rfl) ?_
  refine DL.pu 31 (.int .i64 ((i + 1 : Nat) : Int)) rfl (wrap_next (i := i) (by omega) ▸ p_add rfl rfl rfl) ?_
  refine DL.put (H' := (some l, .loop { rec with state := .busy }) :: (some b2, .cells #[.bool ret] 4 (0, 0)) :: (some b3, .cells #[.int .i64 ((i + 1 : Nat) : Int)] 3 (0, 0)) :: A) (i := 2) rfl (Wn.none rfl) rfl rfl (f_store (c := #[.int .i64 (i : Int)]) (v := .int .i64 ((i + 1 : Nat) : Int)) (off := 0) (j := 2) ty_s3 rfl rfl (of_decide_eq_true rfl) trivial rfl rfl rfl) (keep_none rfl) ?_
  refine DK.next0 rfl ?_
  refine CI.seq (x := sub [1, 1, 1, 1, 0, 1, 0, 1, 0, 1, 1, 0] B27) (y := sub [1, 1, 1, 1, 0, 1, 0, 1, 0, 1, 1, 1] B27) ?_
  refine CI.rg (id := 11) [0, 1, 2] [(.quiet, none), (.pure, none), (.pure, none)] rfl rfl (by kernel_rfl) ?_
  refine DL.qu 32 (.int .i64 ((i + 1 : Nat) : Int)) rfl (f_load (j := 2) ty_a3 rfl rfl rfl rfl) ?_
  refine DL.imm (v := .int .i64 n) rfl (Wn.none rfl) rfl rfl rfl (i_loadBox (hI _ _ h1) rfl ty_a3 rfl rfl) ?_
  refine DL.pu 34 (.bool (((i + 1 : Nat) : Int) == n)) rfl (p_eql rfl rfl rfl) ?_
  refine DK.next0 rfl ?_
  have hrec : ({ ({ rec with state := .busy } : Loop) with state := .ready, pending := none } : Loop) = rec := by
    cases rec; simp only at hst hpe; subst hst; subst hpe; rfl
  by_cases cn : (((i + 1 : Nat) : Int) == n) = true
  · refine CI.cond_true (x := sub [1, 1, 1, 1, 0, 1, 0, 1, 0, 1, 1, 1, 0] B27) (y := sub [1, 1, 1, 1, 0, 1, 0, 1, 0, 1, 1, 1, 1] B27) rfl cn ?_
    refine CI.seq (x := sub [1, 1, 1, 1, 0, 1, 0, 1, 0, 1, 1, 1, 0, 0] B27) (y := sub [1, 1, 1, 1, 0, 1, 0, 1, 0, 1, 1, 1, 0, 1] B27) ?_
    refine CI.rg (id := 12) [0] [(.store, none)] rfl rfl (by kernel_rfl) ?_
    refine DL.put (H' := (some l, .loop { rec with state := .busy }) :: (some b2, .cells #[.bool true] 4 (0, 0)) :: (some b3, .cells #[.int .i64 ((i + 1 : Nat) : Int)] 3 (0, 0)) :: A) (i := 0) rfl (Wn.none rfl) rfl rfl (f_store (c := #[.bool ret]) (v := .bool true) (off := 0) (j := 1) ty_s4 rfl rfl (of_decide_eq_true rfl) trivial rfl rfl rfl) (keep_none rfl) ?_
    refine DK.next0 rfl ?_
    refine CI.ret fun a' w' ha' hc' => ?_
    refine (show roundPost Tryz.prog l (fun e w' => ∃ t, onStep n (i + 1) ⟨i, false, ret⟩ t ∧ e = .returned (.bool (!t.done)) ∧ Cls w0 I' (onE rec l b2 b3 t ++ A) w') .ret (wd [] a') w' from ?_)
    refine end_ret (j := 0) rfl (fun w'' hc'' => ?_) (wd [] a') w' hc'
    refine ⟨⟨i + 1, true, true⟩, ?_, rfl, hc''⟩
    unfold onStep; rw [if_pos (by simpa using cn)]
  · replace cn := Bool.eq_false_iff.mpr cn
    refine CI.cond_false (x := sub [1, 1, 1, 1, 0, 1, 0, 1, 0, 1, 1, 1, 0] B27) (y := sub [1, 1, 1, 1, 0, 1, 0, 1, 0, 1, 1, 1, 1] B27) rfl cn ?_
    refine CI.skip fun a' w' ha' hc' => ?_
    refine (show roundPost Tryz.prog l (fun e w' => ∃ t, onStep n (i + 1) ⟨i, false, ret⟩ t ∧ e = .returned (.bool (!t.done)) ∧ Cls w0 I' (onE rec l b2 b3 t ++ A) w') .normal (wd [] a') w' from ?_)
    refine end_round (j := 0) rfl (fun w'' hc'' => ?_) (wd [] a') w' hc'
    refine ⟨⟨i + 1, false, ret⟩, ?_, rfl, ?_⟩
    · unfold onStep; rw [if_neg (by simpa using cn)]
    · rw [hrec] at hc''
      exact hc''
end Go.Proofs.YthldgjbmjgjogaaGreatDoor
