import Derived.Test.YthldgjbmjgjogaaGreatDoorSnCl2
import Derived.Lib.SmallJoins
namespace Go.Proofs.YthldgjbmjgjogaaGreatDoor
open Go Go.HW Go.RowKit
set_option linter.unusedVariables false
set_option linter.unusedSimpArgs false
set_option maxRecDepth 20000

/-! ### strconv.Atoi -/
/-- The tables, and three variables, stay as they are laid. -/
structure GlobE (M : Mem) : Prop where
  g : Glob M
  v0 : ∀ w, Imm M w → ∃ m, w.cell? ⟨1, 0, none⟩ = some (.int .i64 m)
  v1 : ∀ w, Imm M w → ∃ ev, w.cell? ⟨2, 0, none⟩ = some ev ∧ (ev = .nilIface ∨ ∃ te pe, ev = .iface te pe)
  v2 : ∀ w, Imm M w → ∃ ev, w.cell? ⟨3, 0, none⟩ = some ev ∧ (ev = .nilIface ∨ ∃ te pe, ev = .iface te pe)
theorem GlobE.mono {M M' : Mem} (h : GlobE M) (hx : Ext M M') : GlobE M' := ⟨h.g.mono hx, fun w hi => h.v0 w fun b o e => hi b o (hx b o e), fun w hi => h.v1 w fun b o e => hi b o (hx b o e), fun w hi => h.v2 w fun b o e => hi b o (hx b o e)⟩
/-- An error, nil or not. -/
def ErrV (v : Value) (b : Bool) : Prop := if b = true then v = .nilIface else ∃ t p, v = .iface t p
def atoiR (s : List UInt8) : Int × Bool := match Lib.atoiAll s with
  | .ok v => (v, true)
  | .«syntax» => (0, false)
  | .range => (Lib.atoiSat s, false)
def sn_atoi.f (a0 : List UInt8) : Option (Int × Bool) := if a0.length ≤ 281474976710656 then some (atoiR a0) else none
theorem postF_below {G : Type} {u : G → Value} {Q : G → Mem → Prop} {M : Mem} {w w' : World} {e : Ending} (hM : Ext M (heapOf w)) (hb : Below w.heap.size w w') (g : G) (he : e = .returned (u g)) (hQ : Q g M) : PostF u Q M w e w' :=
  ⟨g, M, he, hQ, Ext.refl _, fun b h1 h2 => absurd h1 h2, fun b o h => by
    have h1 : w.heap[b]? = some o := hM b o h
    rw [hb.block b (lt_of_get h1)]; exact h1, hb⟩
theorem sn_atoi.ok {a0 : List UInt8} {r_0 : Int} {r_1 : Bool} (h : sn_atoi.f a0 = some (r_0, r_1)) {M : Mem} (w : World) (hM : Ext M (heapOf w)) (hG : GlobE M) : Calls Tryz.prog 111 #[str a0] w (PostF (G := Value) (fun g => .tuple #[.int .i64 r_0, g]) (fun g M_ => ErrV g r_1) M w) := by
  unfold sn_atoi.f at h
  split at h
  · rename_i hl
    have hs : (⟨a0.toArray⟩ : ByteArray).size = a0.length := by simp [ByteArray.size]
    obtain ⟨e1, h1, h1'⟩ := hG.v1 w hM
    obtain ⟨e2, h2, h2'⟩ := hG.v2 w hM
    have h := Option.some.inj h
    unfold atoiR at h
    cases hq : Lib.atoiAll a0 with
    | ok v =>
      rw [hq] at h; cases h
      refine (Tryz.strconv_Atoi_ok ⟨a0.toArray⟩ (by rw [hs]; omega) r_0 hq w).mono fun e w' ⟨he, hw⟩ => ?_
      refine postF_below hM ?_ .nilIface he rfl
      rcases hw with rfl | ⟨t, rfl⟩
      · exact Below.refl _ _
      · exact Joins.below_bytesWorld _ _ _ _ (Nat.le_refl _)
    | «syntax» =>
      rw [hq] at h; cases h
      refine (Tryz.strconv_Atoi_syntax ⟨a0.toArray⟩ (by rw [hs]; omega) hq e1 w h1 h1').mono fun e w' ⟨N, he, _, _, hb⟩ => ?_
      exact postF_below hM hb _ he ⟨_, _, rfl⟩
    | range =>
      rw [hq] at h; cases h
      refine (Tryz.strconv_Atoi_range ⟨a0.toArray⟩ (by rw [hs]; omega) hq e2 w h2 h2').mono fun e w' ⟨N, he, _, _, hb⟩ => ?_
      exact postF_below hM hb _ he ⟨_, _, rfl⟩
  · cases h
theorem p_nilNe {P : Program} {o : Oper} {S : Slots} {T U : TypeId} {x : Operand} {v : Value} {b : Bool} (h : ErrV v b) (hr : ∀ w, (binOp .neq T v .nilIface).run P w = .ok (.bool (!b)) w) (ho : o.op = .binOp .neq T x (.const .nilIface) U) (hx : ev S x = some v) : FPure P o S (.bool (!b)) := fun ρ hρ w => by
  simp only [execOp, ho, hρ _ _ hx, hρ (.const .nilIface) _ rfl]
  refine val_run ?_
  have hg : (eqGuard .neq T x (.const .nilIface) v .nilIface).run P w = .ok () w := by
    unfold ErrV at h
    cases b with
    | true => simp only [if_true] at h; subst h; unfold eqGuard; simp only [Bool.not_true, Bool.false_eq_true, if_false, Bool.or_true, if_true]; rfl
    | false => obtain ⟨t, p, rfl⟩ := h; rfl
  exact (run_of_bind hg).trans (hr w)
theorem errNe {v : Value} {b : Bool} (h : ErrV v b) (w : World) : (binOp .neq 110 v .nilIface).run Tryz.prog w = .ok (.bool (!b)) w := by
  unfold ErrV at h
  cases b with
  | true => simp only [if_true] at h; subst h; kernel_rfl
  | false =>
    obtain ⟨t, p, rfl⟩ := h
    kernel_rfl

/-! ### next: the captured list's first, and it moves on -/
noncomputable def B83 : Code := bodyOf Tryz.f83
theorem next83 {M : Mem} {b : Nat} {v : Value} {xs : List (List UInt8)} (hr : RowS Sh.str M v xs) : TurnM Tryz.prog M 83 #[ptr b 0] [(some b, .cells #[v] 46 (0, 0))] (X := {v' : Value // RowS Sh.str M v' xs.tail}) (fun _ => str (xs.headD [])) (fun p => [(some b, .cells #[p.1] 46 (0, 0))]) := fun I' hM w0 w hcl => by
  refine calls_of_TTG (N := 12) (S := [(0, ptr b 0)]) (b := B83) hcl Tryz.func83 rfl rfl rfl (by simp) ?_
  show TT _ _ _ _ _ _ [.code (sub [] B83)] _ _
  refine TT.seq (x := sub [0] B83) (y := sub [1] B83) ?_
  refine TT.region (id := 0) (n := 1) (ops := opsOf (sub [0] B83)) [(.pure, none)] rfl ?_
  refine DL.pu 1 (str ([] : List UInt8)) rfl (p_assign rfl rfl) ?_
  refine DL.nil ?_
  refine TT.seq (x := sub [1, 0] B83) (y := sub [1, 1] B83) ?_
  refine TT.seq (x := sub [1, 0, 0] B83) (y := sub [1, 0, 1] B83) ?_
  refine TT.region (id := 1) (n := 3) (ops := opsOf (sub [1, 0, 0] B83)) [(.quiet, none), (.pure, none), (.pure, none)] rfl ?_
  refine DL.qu 3 v rfl (f_load (j := 0) (fun w => by kernel_rfl) rfl rfl rfl rfl) ?_
  refine DL.pu 4 (.int .i64 (xs.length : Int)) rfl (p_slLen (e := 9) (fun w => by kernel_rfl) (RowS.sl hr) rfl rfl) ?_
  refine DL.pu 5 (.bool ((xs.length : Int) == 0)) rfl (p_eql rfl rfl rfl) ?_
  refine DL.nil ?_
  cases xs with
  | nil =>
    refine TT.cond_true (x := sub [1, 0, 1, 0] B83) (y := sub [1, 0, 1, 1] B83) rfl rfl ?_
    refine TT.seq (x := sub [1, 0, 1, 0, 0] B83) (y := sub [1, 0, 1, 0, 1] B83) ?_
    refine TT.region (id := 2) (n := 1) (ops := opsOf (sub [1, 0, 1, 0, 0] B83)) [(.pure, none)] rfl ?_
    refine DL.pu 1 (str ([] : List UInt8)) rfl (p_assign rfl rfl) ?_
    refine DL.nil ?_
    exact retR (rs := [.tmp 1]) (vs := [str []]) Tryz.func83 rfl rfl rfl (res_cons (ResV.tmp rfl) res_nil) fun w hc => ⟨⟨v, hr⟩, rfl, hc⟩
  | cons s xs =>
    have hb0 : (((s :: xs).length : Int) == 0) = false := by
      rw [List.length_cons]; simp; omega
    rw [hb0]
    refine TT.cond_false (x := sub [1, 0, 1, 0] B83) (y := sub [1, 0, 1, 1] B83) rfl rfl ?_
    refine TT.skip ?_
    refine TT.seq (x := sub [1, 1, 0] B83) (y := sub [1, 1, 1] B83) ?_
    refine TT.region (id := 3) (n := 4) (ops := opsOf (sub [1, 1, 0] B83)) [(.quiet, none), (.pure, none), (.quiet, none), (.pure, none)] rfl ?_
    obtain ⟨cs, h1, h2⟩ := id hr
    have hq : chunk cs 1 0 = [str s] := h2 0 s rfl
    have hq0 : cs[0]? = some (str s) := by
      have := chunk_get (cs := cs) (n := 1) (i := 0) (j := 0) (q := str s) (by rw [hq]; rfl)
      simpa using this
    refine DL.qu 6 v rfl (f_load (j := 0) (fun w => by kernel_rfl) rfl rfl rfl rfl) ?_
    refine DL.pu 7 (elp v 0) rfl (p_slIx1 (e := 9) (i := 0) (fun w => by kernel_rfl) (fun w => by kernel_rfl) (RowS.some (i := 0) hr (by decide) (by simp)) (by decide) (by simp) rfl rfl rfl) ?_
    refine DL.qu 8 (str s) rfl (FImm.quiet (i_loadEl (I := M) h1 hq0 (fun w => by kernel_rfl) rfl rfl) (fun w hc b o e => hc.imm b o (hM b o e))) ?_
    refine DL.pu 2 (str s) rfl (p_assign rfl rfl) ?_
    refine DL.nil ?_
    refine TT.seq (x := sub [1, 1, 1, 0] B83) (y := sub [1, 1, 1, 1] B83) ?_
    refine TT.region (id := 4) (n := 3) (ops := opsOf (sub [1, 1, 1, 0] B83)) [(.quiet, none), (.pure, none), (.store, none)] rfl ?_
    refine DL.qu 9 v rfl (f_load (j := 0) (fun w => by kernel_rfl) rfl rfl rfl rfl) ?_
    refine DL.pu 10 (subsl v 1 1 (s :: xs).length) rfl (p_subL (e := 9) (i := 1) (fun w => by kernel_rfl) (fun w => by kernel_rfl) h1 (by decide) (by simp; omega) rfl rfl rfl) ?_
    have hr2 : RowS Sh.str M (subsl v 1 1 (s :: xs).length) xs := by
      have := hr.subL (l := 1) (by simp)
      show RowS Sh.str M (subsl v Sh.str.n 1 (s :: xs).length) xs
      simpa using this
    refine DL.put (H' := [(some b, .cells #[subsl v 1 1 (s :: xs).length] 46 (0, 0))]) (i := 2) rfl (Wn.none rfl) rfl rfl (f_store (c := #[v]) (off := 0) (j := 0) (fun w => by kernel_rfl) rfl (sl_cells (RowS.sl hr2)) (of_decide_eq_true rfl) (sl_one (RowS.sl hr2)) rfl rfl rfl) (keep_none rfl) ?_
    refine DL.nil ?_
    refine TT.seq (x := sub [1, 1, 1, 1, 0] B83) (y := sub [1, 1, 1, 1, 1] B83) ?_
    refine TT.region (id := 5) (n := 2) (ops := opsOf (sub [1, 1, 1, 1, 0] B83)) [(.pure, none), (.pure, none)] rfl ?_
    refine DL.pu 11 (str s) rfl (p_move rfl rfl) ?_
    refine DL.pu 1 (str s) rfl (p_assign rfl rfl) ?_
    refine DL.nil ?_
    exact retR (rs := [.tmp 1]) (vs := [str s]) Tryz.func83 rfl rfl rfl (res_cons (ResV.tmp rfl) res_nil) fun w hc => ⟨⟨_, hr2⟩, rfl, hc⟩
end Go.Proofs.YthldgjbmjgjogaaGreatDoor
