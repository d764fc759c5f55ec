import Derived.Test.YthldgjbmjgjogaaGreatDoorSnOn2
import Derived.Lib.SplitLaws
namespace Go.Proofs.YthldgjbmjgjogaaGreatDoor
open Go Go.HW Go.RowKit
set_option linter.unusedVariables false
set_option linter.unusedSimpArgs false

theorem str_data (a : ByteArray) : str a.data.toList = Value.string a := by
  cases a; simp [str]
theorem chunk_one {cs : List Value} {i : Nat} {v : Value} (h : cs[i]? = some v) : chunk cs 1 i = [v] := by
  unfold chunk
  have hi := (List.getElem?_eq_some_iff.1 h).1
  rw [List.getElem?_eq_getElem hi] at h
  cases h
  simp only [Nat.mul_one]
  rw [List.drop_eq_getElem_cons hi]; rfl
/-! ### strings.Split -/
def splitL (s : List UInt8) : List (List UInt8) := (Lib.splitB ⟨#[32]⟩ 0 (Lib.countB ⟨s.toArray⟩ ⟨#[32]⟩) ⟨s.toArray⟩).map (·.data.toList)
theorem splitL_len (s : List UInt8) : (splitL s).length = Lib.countB ⟨s.toArray⟩ ⟨#[32]⟩ + 1 := by
  unfold splitL; rw [List.length_map]; exact Lib.splitB_all _ (by decide) 0 _ _ rfl
theorem split_ok {s : List UInt8} (hs : s.length < 4294967281) {M : Mem} (w : World) (hM : Ext M (heapOf w)) (hG : GlobE M) : Calls Tryz.prog 33 #[str s, str [32]] w (PostF (G := Value) (fun g => g) (fun g M_ => RowS Sh.str M_ g (splitL s)) M w) := by
  obtain ⟨m, hm⟩ := hG.v0 w hM
  refine (Tryz.strings_Split ⟨s.toArray⟩ ⟨#[32]⟩ m w (by simp [ByteArray.size]; omega) hm (by decide)).mono fun e w' ⟨he, hw⟩ => ?_
  obtain ⟨o, ho⟩ : ∃ o, o = Obj.cells ((Lib.splitB ⟨#[32]⟩ 0 (Lib.countB ⟨s.toArray⟩ ⟨#[32]⟩) ⟨s.toArray⟩).map Value.string).toArray 9 (0, 0) := ⟨_, rfl⟩
  have hnew : M w.heap.size = none := by
    cases hq : M w.heap.size with
    | none => rfl
    | some z => have h := lt_of_get (show w.heap[w.heap.size]? = some z from hM _ _ hq); omega
  have hw2 : w' = w.alloc o := by rw [hw, ho]
  have hx : Ext M (fun b => if b = w.heap.size then some o else M b) := fun b z hb => by
    by_cases h : b = w.heap.size
    · subst h; rw [hnew] at hb; cases hb
    · simp only [if_neg h]; exact hb
  have hb0 : w'.heap[w.heap.size]? = some o := by
    rw [hw2]
    show (w.heap.push o)[w.heap.size]? = some o
    simp
  have hlow : ∀ (b : Nat) (z : Obj), w.heap[b]? = some z → w'.heap[b]? = some z := fun b z hb => by
    rw [hw2]
    show (w.heap.push o)[b]? = some z
    rw [Array.getElem?_push_lt (lt_of_get hb), ← hb, Array.getElem?_eq_getElem (lt_of_get hb)]
  refine ⟨_, fun b => if b = w.heap.size then some o else M b, he, ?_, hx, fun b h1 h2 => ?_, fun b z hb => ?_, ?_⟩
  · have hlen := splitL_len s
    refine ⟨(splitL s).map str, ⟨by simp [Sh.str], some ⟨w.heap.size, 0, none⟩, _, ?_, Nat.le_refl _, .inr ⟨w.heap.size, 0, ((Lib.splitB ⟨#[32]⟩ 0 (Lib.countB ⟨s.toArray⟩ ⟨#[32]⟩) ⟨s.toArray⟩).map Value.string).toArray, 9, (0, 0), rfl, by simp [ho], fun i q hq => ?_⟩⟩, fun i x hx => ?_⟩
    · rw [hlen]
    · rw [Nat.zero_add]
      unfold splitL at hq
      rw [List.map_map, show (str ∘ fun x : ByteArray => x.data.toList) = Value.string from funext fun a => str_data a] at hq
      simpa using hq
    · show chunk ((splitL s).map str) 1 i = [str x]
      have h2 : ((splitL s).map str)[i]? = some (str x) := by rw [List.getElem?_map, hx]; rfl
      exact chunk_one h2
  · by_cases h : b = w.heap.size
    · omega
    · have h3 : (if b = w.heap.size then some o else M b) ≠ none := h2
      rw [if_neg h] at h3; exact absurd h1 h3
  · by_cases h : b = w.heap.size
    · have h3 : (if b = w.heap.size then some o else M b) = some z := hb
      rw [if_pos h] at h3
      cases h3; subst h; exact hb0
    · have h3 : (if b = w.heap.size then some o else M b) = some z := hb
      rw [if_neg h] at h3
      exact hlow b z (hM b z h3)
  · rw [hw2]
    exact ⟨rfl, rfl, rfl, by show w.heap.size ≤ (w.heap.push o).size; simp, fun i hi => by
      show (w.heap.push o)[i]? = _
      rw [Array.getElem?_push_lt hi, Array.getElem?_eq_getElem hi]⟩

/-! ### escutcheon/script.ActOf: function 8, where nothing is found -/
noncomputable def B8 : Code := bodyOf Tryz.f8
theorem kenter33 (args : Array Value) (w : World) : (callFunc 33 args).run Tryz.prog w = .ok (.enter 33 args) w := by kernel_rfl
theorem kenter36 (args : Array Value) (w : World) : (callFunc 36 args).run Tryz.prog w = .ok (.enter 36 args) w := by kernel_rfl
theorem kenter19 (args : Array Value) (w : World) : (callFunc 19 args).run Tryz.prog w = .ok (.enter 19 args) w := by kernel_rfl
theorem kenter37 (args : Array Value) (w : World) : (callFunc 37 args).run Tryz.prog w = .ok (.enter 37 args) w := by kernel_rfl
/-- Under no name is it an act's text. -/
def NoAct (s : List UInt8) : Prop := ∀ k : Nat, 1 ≤ k → k ≤ 14 → sfName (k : Int) = (splitL s).headD [] → ∃ a, script_take.f (k : Int) (sfParts (k : Int)) (splitL s).tail = some a ∧ (script_MayAct.f a = some false ∨ (script_MayAct.f a = some true ∧ ∃ t, script_actText.f a = some t ∧ t ≠ s))
abbrev aoE (rec : Loop) (l : Nat) (s : Unit) : Heap := [(some l, .loop rec)]
set_option maxRecDepth 20000 in
set_option maxHeartbeats 1000000 in
theorem actRound {s : List UInt8} (hno : NoAct s) {M I : Mem} {rec : Loop} {l b1 b2 b3 b4 b5 bm : Nat} {pv : Value} (hMI : Ext M I) (hG : GlobE M) (hst : rec.state = .ready) (hpe : rec.pending = none) (hps : rec.params = #[13, 14]) (has : rec.assign = sub [1, 1, 1, 0, 1, 0, 0] B8) (hbo : rec.body = sub [1, 1, 1, 0, 1, 0, 1] B8)
    (hag : Agree 38 [(1, ptr b1 0), (2, ptr b2 0), (3, ptr b3 0), (4, ptr b4 0), (5, ptr b5 0)] { tmps := rec.tmps, defers := [] }) (h1 : I b1 = some (.cells #[str s] 9 (0, 0))) (h4 : I b4 = some (.cells #[pv] 46 (0, 0))) (h5 : I b5 = some (.cells #[.map (some bm)] 79 (0, 0)))
    (hrow : RowS Sh.str M pv (splitL s)) (hbm : M bm = some SFormsO) (k : Nat) (u : Unit) (hk1 : 1 ≤ k) (hk14 : k ≤ 14) :
    RoundTurnV Tryz.prog l I (.int .i64 (k : Int)) (str (sfName k)) (aoE rec l u) (fun _ => True) (fun _ => true) (aoE rec l) := fun w0 I' A w hI hc => by
  replace hc : Cls w0 I' ((some l, .loop rec) :: A) w := hc
  have hrec : ({ ({ rec with state := .busy } : Loop) with state := .ready, pending := none } : Loop) = rec := by
    cases rec; simp only at hst hpe; subst hst; subst hpe; rfl
  obtain ⟨p0, ps, hsp⟩ : ∃ p0 ps, splitL s = p0 :: ps := by
    have := splitL_len s
    cases hq : splitL s with
    | nil => rw [hq] at this; simp at this
    | cons p ps => exact ⟨p, ps, rfl⟩
  rw [hsp] at hrow
  obtain ⟨cs, hv, hq⟩ := id hrow
  have hq0 : cs[0]? = some (str p0) := by
    have h2 : chunk cs 1 0 = [str p0] := hq 0 _ rfl
    have := chunk_get (cs := cs) (n := 1) (i := 0) (j := 0) (q := str p0) (by rw [h2]; rfl)
    simpa using this
  refine round_of_CI2 (N := 38) (S := [(14, str (sfName (k : Int))), (13, .int .i64 (k : Int)), (1, ptr b1 0), (2, ptr b2 0), (3, ptr b3 0), (4, ptr b4 0), (5, ptr b5 0)]) (w0 := w0) (I := I') (p := 13) (q := 14) hps (hc.own l _ List.mem_cons_self) ((hag.put (by decide) _).put (by decide) _) hc ?_
  rw [has, hbo]
  refine CI.seq (x := sub [1, 1, 1, 0, 1, 0, 0, 0] B8) (y := sub [1, 1, 1, 0, 1, 0, 0, 1] B8) ?_
  refine CI.rg (id := 4) [0] [(.pure, none)] rfl rfl (by kernel_rfl) ?_
  refine DL.pu 6 (.int .i64 (k : Int)) rfl (p_assign rfl rfl) ?_
  refine DK.next0 rfl ?_
  refine CI.rg (id := 5) [0] [(.pure, none)] rfl rfl (by kernel_rfl) ?_
  refine DL.pu 7 (str (sfName (k : Int))) rfl (p_assign rfl rfl) ?_
  refine DK.nil (begin_body (j := 0) rfl hst ?_)
  refine CI.block (c := sub [1, 1, 1, 0, 1, 0, 1, 0] B8) ?_
  show CI _ _ _ _ _ _ _ _ _ ((some l, .loop { rec with state := .busy }) :: A)
  refine CI.seq (x := sub [1, 1, 1, 0, 1, 0, 1, 0, 0] B8) (y := sub [1, 1, 1, 0, 1, 0, 1, 0, 1] B8) ?_
  refine CI.seq (x := sub [1, 1, 1, 0, 1, 0, 1, 0, 0, 0] B8) (y := sub [1, 1, 1, 0, 1, 0, 1, 0, 0, 1] B8) ?_
  refine CI.rg (id := 6) [0, 1, 2, 3, 4] [(.pure, none), (.pure, none), (.pure, none), (.pure, none), (.pure, none)] rfl rfl (by kernel_rfl) ?_
  refine DL.pu 15 (str (sfName (k : Int))) rfl (p_move rfl rfl) ?_
  refine DL.imm (v := pv) rfl (Wn.none rfl) rfl rfl rfl (i_loadBox (hI _ _ h4) rfl ty_a46 rfl rfl) ?_
  refine DL.pu 17 (elp pv 0) rfl (p_slIx1 (i := 0) ty_u46 ty_s9 (RowS.some (i := 0) hrow (by decide) (by simp)) (by decide) (by simp) rfl rfl rfl) ?_
  refine DL.imm (v := str p0) rfl (Wn.none rfl) rfl rfl rfl (i_loadEl (RowV.mono hv (hMI.trans hI)) hq0 ty_a9 rfl rfl) ?_
  refine DL.pu 19 (.bool (!(sfName (k : Int) == p0))) rfl (p_strNe rfl rfl rfl) ?_
  refine DK.next0 rfl ?_
  have hend : ∀ a' w', Cls w0 I' ((some l, .loop { rec with state := .busy }) :: A) w' → roundPost Tryz.prog l (fun e w' => ∃ t : Unit, True ∧ e = .returned (.bool true) ∧ Cls w0 I' (aoE rec l t ++ A) w') .normal a' w' := fun a' w' hc' =>
    end_round (j := 0) rfl (fun w'' hc'' => ⟨(), trivial, rfl, by rw [hrec] at hc''; exact hc''⟩) a' w' hc'
  by_cases cn : sfName (k : Int) = p0
  · have cb : (!(sfName (k : Int) == p0)) = false := by simp [cn]
    refine CI.cond_false (x := sub [1, 1, 1, 0, 1, 0, 1, 0, 0, 1, 0] B8) (y := sub [1, 1, 1, 0, 1, 0, 1, 0, 0, 1, 1] B8) rfl cb ?_
    refine CI.skipN rfl ?_
    obtain ⟨a, ha, hma⟩ := hno k hk1 hk14 (by rw [hsp]; exact cn)
    rw [hsp] at ha
    refine CI.seq (x := sub [1, 1, 1, 0, 1, 0, 1, 0, 1, 0] B8) (y := sub [1, 1, 1, 0, 1, 0, 1, 0, 1, 1] B8) ?_
    refine CI.rgD (id := 7) [0, 1, 2, 3, 4, 5, 6, 7, 8, 9] [0, 0, 0, 6, 14, 0, 32, 127, 0, 511] [(.pure, none), (.pure, none), (.pure, none), (.pure, none), (.pure, none), (.pure, none), (.pure, none), (.free, none), (.alloc, none), (.store, some 108)] rfl mixed (by kernel_rfl) (by kernel_rfl) ?_
    intro w1 hl1 hj1 hz1
    refine DL.pu 20 (.int .i64 (k : Int)) rfl (p_move rfl rfl) ?_
    refine DL.imm (v := .map (some bm)) rfl (Wn.none rfl) rfl rfl rfl (i_loadBox (hI _ _ h5) rfl (fun w => by kernel_rfl) rfl rfl) ?_
    refine DL.pu 22 (.int .i64 (k : Int)) rfl (p_move rfl rfl) ?_
    refine DL.imm (v := .agg #[str (sfName (k : Int)), str (sfParts (k : Int))]) rfl (Wn.none rfl) rfl rfl rfl (i_lookupM (a := (k : Int)) ty_u79 ty_u23 ty_z86 (hI _ _ (hMI _ _ hbm)) (sf_val k) rfl rfl rfl) ?_
    refine DL.pu 24 (str (sfParts (k : Int))) rfl (p_field (fun w => by kernel_rfl) rfl rfl) ?_
    refine DL.imm (v := pv) rfl (Wn.none rfl) rfl rfl rfl (i_loadBox (hI _ _ h4) rfl ty_a46 rfl rfl) ?_
    refine DL.pu 26 (subsl pv 1 1 (p0 :: ps).length) rfl (p_subL (i := 1) ty_u46 ty_s9 hv (by decide) (by simp; omega) rfl rfl rfl) ?_
    have hr2 : RowS Sh.str M (subsl pv 1 1 (p0 :: ps).length) ps := by
      have := hrow.subL (l := 1) (by simp)
      show RowS Sh.str M (subsl pv Sh.str.n 1 (p0 :: ps).length) ps
      simpa using this
    refine DL.callFf (G := Value × Value × Value) (u := fun g => .agg (Act.ce a (g.1) (g.2.1) (g.2.2))) (Q := fun g M_ => (IntRow M_ .u8 (g.1) a.cmd.data) ∧ (IntRow M_ .u8 (g.2.1) a.bytes) ∧ (IntRow M_ .i64 (g.2.2) a.picks)) (M := M) (A := (some l, .loop { rec with state := .busy }) :: A) (J := []) (fun J4 => ((some l, .loop { rec with state := .busy }) :: A) ++ J4) (Nat.zero_le _) (EnvX.bare (w := w) (hMI.trans hI)).nil (List.append_nil _).symm (fun _ => rfl) (by simp) (i := 7) rfl (Wn.none rfl) rfl rfl rfl rfl rfl rfl (args_val (vs := [.int .i64 (k : Int), str (sfParts (k : Int)), subsl pv 1 1 (p0 :: ps).length]) rfl) (fun w => kenter36 _ w) (fun w hc hI2 => script_take.ok ha (M := M) w hI2 hG hr2) ?_
    rintro ⟨g1, g2, g3⟩ M4 J4 hE4 hx4 ⟨q1, q2, q3⟩
    refine DL.new (ob := .cells (Act.ce (Act.mk 0 0 0 0 0 0 ([] : List Int) ([] : List Int) (Cmd.mk 0 0 0 0 0 0 ([] : List Int) ([] : List Int)) ([] : List Int) ([] : List Int)) (.slice none 0 0) (.slice none 0 0) (.slice none 0 0)) 36) (mk := fun b => ptr b 0) (i := 8) rfl (Wn.none rfl) rfl rfl rfl (f_alloc ty_z36 rfl) ?_
    intro b8 hb8
    refine DL.put (H' := (some b8, .cells (Act.ce a g1 g2 g3) 36 (0, 0)) :: (((some l, .loop { rec with state := .busy }) :: A) ++ J4)) (i := 9) rfl (Wn.none rfl) rfl rfl (f_storeA (j := 0) ty_s36 rfl rfl rfl (act_one (sl_one (RowV.sl q1)) (sl_one (RowV.sl q2)) (sl_one (RowV.sl q3))) rfl rfl rfl) (keep_new (j := 0) hz1 hb8 rfl) ?_
    refine DK.next hl1 rfl ?_
    refine CI.seq (x := sub [1, 1, 1, 0, 1, 0, 1, 0, 1, 1, 0] B8) (y := sub [1, 1, 1, 0, 1, 0, 1, 0, 1, 1, 1] B8) ?_
    refine CI.rgD (id := 8) [0, 1, 2, 3, 4, 5, 6, 7] [0, 1, 3, 7, 15, 7, 63, 127] [(.quiet, none), (.quiet, none), (.pure, none), (.quiet, none), (.quiet, none), (.pure, none), (.pure, none), (.pure, none)] rfl mixed (by kernel_rfl) (by kernel_rfl) ?_
    intro w2 hl2 hj2 hz2
    refine DL.qu 28 (.agg (Act.ce a g1 g2 g3)) rfl (f_loadA (j := 0) ty_a36 ty_s36 rfl rfl rfl rfl) ?_
    have hend2 : ∀ a' w', Cls w0 I' ((some b8, .cells (Act.ce a g1 g2 g3) 36 (0, 0)) :: (((some l, .loop { rec with state := .busy }) :: A) ++ J4)) w' → roundPost Tryz.prog l (fun e w' => ∃ t : Unit, True ∧ e = .returned (.bool true) ∧ Cls w0 I' (aoE rec l t ++ A) w') .normal a' w' := fun a' w' hc' =>
      hend a' w' (hc'.tail.fewer (List.sublist_append_left _ _))
    rcases hma with hm | ⟨hm, t, ht, hne⟩
    · refine DL.qu 29 (.bool false) rfl (f_callR rfl rfl (args_val (vs := [.agg (Act.ce a g1 g2 g3)]) rfl) (fun w => kenter19 _ w) (fun w hc => script_MayAct.val hm (M := M4) w (hE4.immJ (A := (some b8, .cells (Act.ce a g1 g2 g3) 36 (0, 0)) :: (some l, .loop { rec with state := .busy }) :: A) hc rfl) q1 q2 q3)) ?_
      refine DL.pu 30 (.bool false) rfl (p_move rfl rfl) ?_
      refine DL.not (i := 3) rfl (Wn.some rfl rfl rfl rfl) rfl rfl ?_
      refine DL.not (i := 4) rfl (Wn.some rfl rfl rfl rfl) rfl rfl ?_
      refine DL.not (i := 5) rfl (Wn.some rfl rfl rfl rfl) rfl rfl ?_
      refine DL.not (i := 6) rfl (Wn.some rfl rfl rfl rfl) rfl rfl ?_
      refine DL.pu 35 (.bool false) rfl (p_pick_false rfl rfl rfl) ?_
      refine DK.next hl2 rfl ?_
      refine CI.cond_false (x := sub [1, 1, 1, 0, 1, 0, 1, 0, 1, 1, 1, 0] B8) (y := sub [1, 1, 1, 0, 1, 0, 1, 0, 1, 1, 1, 1] B8) rfl rfl ?_
      refine CI.skip fun a' w' ha' hc' => ?_
      exact hend2 (wd [] a') w' hc'
    · refine DL.qu 29 (.bool true) rfl (f_callR rfl rfl (args_val (vs := [.agg (Act.ce a g1 g2 g3)]) rfl) (fun w => kenter19 _ w) (fun w hc => script_MayAct.val hm (M := M4) w (hE4.immJ (A := (some b8, .cells (Act.ce a g1 g2 g3) 36 (0, 0)) :: (some l, .loop { rec with state := .busy }) :: A) hc rfl) q1 q2 q3)) ?_
      refine DL.pu 30 (.bool true) rfl (p_move rfl rfl) ?_
      refine DL.quiet (v := .agg (Act.ce a g1 g2 g3)) rfl (Wn.some rfl rfl rfl rfl) rfl rfl rfl (f_loadA (j := 0) ty_a36 ty_s36 rfl rfl rfl rfl) ?_
      refine DL.quiet (v := str t) rfl (Wn.some rfl rfl rfl rfl) rfl rfl rfl (f_callR rfl rfl (args_val (vs := [.agg (Act.ce a g1 g2 g3)]) rfl) (fun w => kenter37 _ w) (fun w hc => script_actText.val ht (M := M4) w (hE4.immJ (A := (some b8, .cells (Act.ce a g1 g2 g3) 36 (0, 0)) :: (some l, .loop { rec with state := .busy }) :: A) hc rfl) (hG.mono hx4).g q1 q2 q3)) ?_
      refine DL.imm (v := str s) rfl (Wn.some rfl rfl rfl rfl) rfl rfl rfl (i_loadBox (hI _ _ h1) rfl ty_a9 rfl rfl) ?_
      have cb : (t == s) = false := by simpa using hne
      refine DL.pure (v := .bool false) rfl (Wn.some rfl rfl rfl rfl) rfl rfl rfl (show FPure _ _ _ (.bool false) from cb ▸ p_strEq rfl rfl rfl) ?_
      refine DL.pu 35 (.bool false) rfl (p_pick_true rfl rfl rfl) ?_
      refine DK.next hl2 rfl ?_
      refine CI.cond_false (x := sub [1, 1, 1, 0, 1, 0, 1, 0, 1, 1, 1, 0] B8) (y := sub [1, 1, 1, 0, 1, 0, 1, 0, 1, 1, 1, 1] B8) rfl rfl ?_
      refine CI.skip fun a' w' ha' hc' => ?_
      exact hend2 (wd [] a') w' hc'
  · have cb : (!(sfName (k : Int) == p0)) = true := by simp [cn]
    refine CI.cond_true (x := sub [1, 1, 1, 0, 1, 0, 1, 0, 0, 1, 0] B8) (y := sub [1, 1, 1, 0, 1, 0, 1, 0, 0, 1, 1] B8) rfl cb ?_
    refine (show CI _ _ _ _ _ _ (.exit 1) _ _ _ from fun a' w' ha' hc' => wpIn_exit ?_)
    exact hend (wd [] a') w' hc'
end Go.Proofs.YthldgjbmjgjogaaGreatDoor
