import Derived.Test.YthldgjbmjgjogaaGreatDoorSf1
namespace Go.HW
open Go Go.RowKit
set_option linter.unusedVariables false
set_option linter.unusedSimpArgs false

/-! ### rounds with more than one value -/
theorem Cls.lessI {w0 w : World} {I I' : Mem} {H : Heap} (he : Ext I I') (hc : Cls w0 I' H w) : Cls w0 I H w :=
  ⟨hc.os, hc.tape, hc.output, hc.size, fun b o h => hc.imm b o (he b o h), hc.own, fun b o h => (by
    cases hq : I b with
    | none => rfl
    | some z => have := hc.disj b o h; rw [he b z hq] at this; cases this), hc.nodup⟩
theorem EnvX.bare {w : World} {M I : Mem} (h : Ext M I) : EnvX none { w with heap := #[] } M M I := ⟨h, fun b o _ e => (by
  have h2 : (#[] : Array Obj)[b]? = some o := e
  simp at h2), Ext.refl _, fun b h1 h2 => absurd h2 h1⟩
theorem TT.settleB {P : Program} {f : FuncId} {R : Ending → World → Prop} {N : Nat} {w0 : World} {I : Mem} {k : List Item} {S : Slots} {A J : Heap} (h : TT P f R N w0 (addJ I J) k S A) : TT P f R N w0 I k S (A ++ J) := fun a w ha hc => h a w ha hc.settle
theorem wrap_next {i : Nat} (h : i < 1099511627776) : IntKind.i64.wrap ((i : Int) + 1) = ((i + 1 : Nat) : Int) := by
  rw [IntKind.wrap_i64]; omega
def RoundTurnV {σ : Type} (P : Program) (l : Nat) (I : Mem) (x y : Value) (E : Heap) (p : σ → Prop) (b : σ → Bool) (E' : σ → Heap) : Prop :=
  ∀ (w0 : World) (I' : Mem) (A : Heap) (w : World), Ext I I' → Cls w0 I' (E ++ A) w → ∃ fn tmps assign body, (Instr.yield l #[x, y]).run P w = .ok (.round l fn tmps assign body) w ∧
    RoundIn (FR none) 2 P l fn tmps assign body w fun e w' => ∃ t, p t ∧ e = .returned (.bool (b t)) ∧ Cls w0 I' (E' t ++ A) w'
section
variable {P : Program} {N : Nat} {w0 : World} {I I' : Mem} {H : Heap} {ops : Array Oper} {D : List Deferred} {Q : Exit → Act → World → Prop} {S : Slots}
theorem wpOp_yieldV {σ : Type} {l : Nat} {I I' : Mem} {x y : Value} {E A : Heap} {p : σ → Prop} {b : σ → Bool} {E' : σ → Heap} {i d : Nat} {o : Oper} {rest : List Nat} {cl : Call} {fo : Operand} (hi : ops[i]? = some o) (hg : o.guard = none) (hd : o.dst = some d) (hN : Nat.blt d N = true) (ho : o.op = .call cl) (hcal : cl.callee = .value fo) (hf : ev S fo = some (.func (.yield l) #[] #[])) (hargs : ∀ ρ, Val S ρ → cl.args.map ρ = #[x, y])
    (hY : RoundTurnV P l I x y E p b E') (he : Ext I I') (hH : H.Perm (E ++ A)) (h : ∀ t, p t → ∀ a w, Agree N ((d, .bool (b t)) :: S) a → Cls w0 I' (E' t ++ A) w → wpOpsIn (FR none) 3 P ops Q rest (wd D a) w) :
    ∀ a w, Agree N S a → Cls w0 I' H w → wpOpsIn (FR none) 3 P ops Q (i :: rest) (wd D a) w := fun a w ha hc => by
  have hc := hc.perm hH
  obtain ⟨fn, tmps, assign, body, hy, hR⟩ := hY w0 I' A w he hc
  unfold wpOpsIn
  rw [hi]
  simp only [Region.wanted, hg, if_true]
  refine ⟨fun _ _ => trivial, ?_⟩
  rw [Oper.semAt_eq _ _ _ (fun c hx => by rw [ho] at hx; cases hx), wd_eval]
  have e : (execOp a.eval o).run P w = .ok (.round l fn tmps assign body) w := by
    simp only [execOp, ho, resolve, hcal, hargs _ ha.val]
    rw [ha.val _ _ hf]
    exact hy
  rw [e, Oper.uponIn_round]
  refine ⟨FR_dep, hR.mono ?_⟩
  rintro en w' ⟨t, hp, rfl, hc'⟩
  show wpOpsIn _ _ _ _ _ _ _ _
  rw [wd_put, hd]
  exact h t hp _ _ (ha.put (by simpa [Nat.blt_eq] using hN) _) hc'
end
section
variable {P : Program} {N : Nat} {w0 w : World} {I : Mem} {S : Slots} {H : Heap} {l : Nat} {rec : Loop} {R : Ending → World → Prop}
theorem round_of_CI2 {x y : Value} {p q : Nat} (hps : rec.params = #[p, q]) (hl : w.heap[l]? = some (.loop rec)) (ht : Agree N S { tmps := (rec.tmps.setIfInBounds p x).setIfInBounds q y, defers := [] }) (hc : Cls w0 I H w)
    (h : CI (some l) P [] N w0 I rec.assign (Exit.then (fun a₁ w₁ => ∃ w₂, (Instr.beginRound l).run P w₁ = .ok () w₂ ∧ rec.body.wpIn (FR (some l)) 3 P (roundPost P l R) a₁ w₂) (fun _ _ _ => False)) S H) :
    ∃ fn tmps assign body, (Instr.yield l #[x, y]).run P w = .ok (.round l fn tmps assign body) w ∧ RoundIn (FR none) 2 P l fn tmps assign body w R := by
  refine ⟨rec.fn, _, rec.assign, rec.body, run_yield hl (by rw [hps]; rfl), ?_⟩
  rw [hps]
  refine roundFR (n := 3) (roundIn_of_wpIn (F := FR none) trivial ?_)
  have := h _ w ht hc
  rw [wd_nil ht] at this
  have hz : ((#[p, q] : Array Tmp).zip #[x, y]).foldl (fun tmps (t, a) => tmps.setIfInBounds t a) rec.tmps = (rec.tmps.setIfInBounds p x).setIfInBounds q y := by simp
  rw [hz]
  exact this
end
end Go.HW
namespace Go.Proofs.YthldgjbmjgjogaaGreatDoor
open Go Go.HW Go.RowKit
set_option linter.unusedVariables false
set_option linter.unusedSimpArgs false

/-! ### escutcheon/script.Names: functions 35 and 82 -/
noncomputable def B82 : Code := bodyOf Tryz.f82
noncomputable def B35 : Code := bodyOf Tryz.f35
theorem kenter34 (args : Array Value) (w : World) : (callFunc 34 args).run Tryz.prog w = .ok (.enter 34 args) w := by kernel_rfl
theorem kenter35 (args : Array Value) (w : World) : (callFunc 35 args).run Tryz.prog w = .ok (.enter 35 args) w := by kernel_rfl
theorem names35 (w : World) : Calls Tryz.prog 35 #[] w fun e w' => e = .returned (.func (.func 82) #[] #[]) ∧ Below w.heap.size w w' := by
  have hE := Env.start (Ext.refl (heapOf w))
  refine calls_value ?_
  refine calls_of_TT (N := 1) (S := []) (c := B35) Tryz.func35 rfl rfl rfl (by simp) ?_
  show TT _ _ _ _ _ _ [.code (sub [] B35)] _ _
  refine TT.seq (x := sub [0] B35) (y := sub [1] B35) ?_
  refine TT.region (id := 0) (n := 1) (ops := (opsOf (sub [0] B35))) [(.pure, none)] rfl ?_
  refine DL.pu 0 .nilFunc rfl (p_assign rfl rfl) ?_
  refine DL.nil ?_
  refine TT.seq (x := sub [1, 0] B35) (y := sub [1, 1] B35) ?_
  refine TT.region (id := 1) (n := 1) (ops := (opsOf (sub [1, 0] B35))) [(.pure, none)] rfl ?_
  refine DL.pu 0 (.func (.func 82) #[] #[]) rfl (p_assign rfl rfl) ?_
  refine DL.nil ?_
  exact ret1E hE.base Tryz.func35 rfl (ResV.tmp rfl) rfl
structure NGoing {σ : Type} (l : Nat) (I : Mem) (E : σ → Heap) (step : Nat → σ → σ → Prop) (b : σ → Bool) (Gd : Nat → σ → Prop) : Prop where
  turn : ∀ (i : Nat) s, 1 ≤ i → i ≤ 14 → Gd i s → RoundTurnV Tryz.prog l I (.int .i64 (i : Int)) (str (sfName i)) (E s) (fun t => step i s t) b E
  on : ∀ i s t, 1 ≤ i → i ≤ 14 → Gd i s → step i s t → b t = true → Gd (i + 1) t
section
variable {σ : Type} {l : Nat} {I : Mem} {E : σ → Heap} {step : Nat → σ → σ → Prop} {b : σ → Bool} {Gd : Nat → σ → Prop}
abbrev NEnd (step : Nat → σ → σ → Prop) (b : σ → Bool) (Gd : Nat → σ → Prop) : Type := {t : σ // Gd 15 t ∨ (b t = false ∧ ∃ i s, 1 ≤ i ∧ i ≤ 14 ∧ Gd i s ∧ step i s t)}
set_option maxRecDepth 20000 in
theorem names82 (hgo : NGoing l I E step b Gd) {s : σ} (hs : Gd 1 s) {w0 : World} {A : Heap} {w : World} (hc : Cls w0 I (E s ++ A) w) :
    Calls Tryz.prog 82 #[.func (.yield l) #[] #[]] w fun e w' => ∃ t : NEnd step b Gd, e = .returned (.tuple #[]) ∧ Cls w0 I (E t.1 ++ A) w' := by
  let R : Ending → World → Prop := fun e w' => ∃ t : NEnd step b Gd, e = .returned (.tuple #[]) ∧ Cls w0 I (E t.1 ++ A) w'
  have hloop : ∀ (I2 : Mem) (M : Mem) (bm : Nat) (hx : Ext I I2) (hM : Ext M I2) (hbm : M bm = some SFormsO) (d i : Nat) (s1 : σ), 15 - i = d → 1 ≤ i → i ≤ 15 → Gd i s1 →
      TT Tryz.prog 82 R 17 w0 I2 [.code (sub [1, 1, 0, 0] B82), .inLoop (sub [1, 1, 0, 0] B82), .inBlock 0] [(0, .func (.yield l) #[] #[]), (2, .map (some bm)), (3, .int .i64 (i : Int))] (E s1 ++ A) := by
    intro I2 M bm hx hM hbm d
    induction d with
    | zero =>
      intro i s1 hn h1 h15 hg
      refine TT.seq (x := sub [1, 1, 0, 0, 0] B82) (y := sub [1, 1, 0, 0, 1] B82) ?_
      refine TT.seq (x := sub [1, 1, 0, 0, 0, 0] B82) (y := sub [1, 1, 0, 0, 0, 1] B82) ?_
      refine TT.region (id := 2) (n := 2) (ops := opsOf (sub [1, 1, 0, 0, 0, 0] B82)) [(.pure, none), (.pure, none)] rfl ?_
      refine DL.pu 5 (.int .i64 (i : Int)) rfl (p_move rfl rfl) ?_
      refine DL.pu 6 (.bool (decide ((i : Int) ≤ 14))) rfl (p_leq rfl rfl rfl) ?_
      refine DL.nil ?_
      refine TT.cond_false (x := sub [1, 1, 0, 0, 0, 1, 0] B82) (y := sub [1, 1, 0, 0, 0, 1, 1] B82) rfl (by simp; omega) ?_
      refine TT.exit rfl ?_
      have hi : i = 15 := by omega
      subst hi
      exact endR (rs := []) (vs := []) (v := .tuple #[]) Tryz.func82 rfl rfl rfl res_nil fun w' hc' => ⟨⟨s1, .inl hg⟩, rfl, hc'.lessI hx⟩
    | succ d ihd =>
      intro i s1 hn h1 h15 hg
      have h14 : i ≤ 14 := by omega
      refine TT.seq (x := sub [1, 1, 0, 0, 0] B82) (y := sub [1, 1, 0, 0, 1] B82) ?_
      refine TT.seq (x := sub [1, 1, 0, 0, 0, 0] B82) (y := sub [1, 1, 0, 0, 0, 1] B82) ?_
      refine TT.region (id := 2) (n := 2) (ops := opsOf (sub [1, 1, 0, 0, 0, 0] B82)) [(.pure, none), (.pure, none)] rfl ?_
      refine DL.pu 5 (.int .i64 (i : Int)) rfl (p_move rfl rfl) ?_
      refine DL.pu 6 (.bool (decide ((i : Int) ≤ 14))) rfl (p_leq rfl rfl rfl) ?_
      refine DL.nil ?_
      refine TT.cond_true (x := sub [1, 1, 0, 0, 0, 1, 0] B82) (y := sub [1, 1, 0, 0, 0, 1, 1] B82) rfl (by simp; omega) ?_
      refine TT.skip ?_
      refine TT.seq (x := sub [1, 1, 0, 0, 1, 0] B82) (y := sub [1, 1, 0, 0, 1, 1] B82) ?_
      refine TT.block (c := sub [1, 1, 0, 0, 1, 0, 0] B82) ?_
      refine TT.seq (x := sub [1, 1, 0, 0, 1, 0, 0, 0] B82) (y := sub [1, 1, 0, 0, 1, 0, 0, 1] B82) ?_
      refine TT.ofCI ?_
      refine CI.rgY (id := 4) [0, 1, 2, 3, 4, 5] [6, 7] [(.pure, none), (.pure, none), (.pure, none), (.pure, none), (.quiet, none), (.pure, none), (.actx, none), (.pure, none)] rfl rfl (by kernel_rfl) ?_
      refine DL.pu 9 (.func (.yield l) #[] #[]) rfl (p_move rfl rfl) ?_
      refine DL.pu 10 (.int .i64 (i : Int)) rfl (p_move rfl rfl) ?_
      refine DL.pu 11 (.map (some bm)) rfl (p_move rfl rfl) ?_
      refine DL.pu 12 (.int .i64 (i : Int)) rfl (p_move rfl rfl) ?_
      refine DL.qu 13 (.agg #[str (sfName i), str (sfParts i)]) rfl (FImm.quiet (i_lookupM (I := M) (a := (i : Int)) ty_u79 ty_u23 ty_z86 hbm (sf_val i) rfl rfl rfl) (fun w hc b o e => hc.imm b o (hM b o e))) ?_
      refine DL.pu 14 (str (sfName i)) rfl (p_field (fun w => by kernel_rfl) rfl rfl) ?_
      refine DK.nil ?_
      refine wpOp_yieldV (σ := σ) (A := A) rfl rfl rfl rfl rfl rfl rfl (args_val (vs := [.int .i64 (i : Int), str (sfName i)]) rfl) (hgo.turn i s1 h1 h14 hg) hx (List.Perm.refl _) ?_
      intro t ht
      refine wpOps_of_DK (lab := labOf [(.pure, none), (.pure, none), (.pure, none), (.pure, none), (.pure, none), (.pure, none), (.pure, none), (.pure, none)]) (ids := fun _ => none) (by kernel_rfl) ?_
      refine DL.pu 16 (.bool (!(b t))) rfl (p_not rfl rfl) ?_
      refine DK.nil fun a' w' ha' hc' => ⟨rfl, ?_⟩
      rw [wd_nil ha']
      refine (show TT Tryz.prog 82 R 17 w0 I2 _ _ (E t ++ A) from ?_) a' w' ha' hc'
      cases hb : b t with
      | false =>
        refine TT.cond_true (x := sub [1, 1, 0, 0, 1, 0, 0, 1, 0] B82) (y := sub [1, 1, 0, 0, 1, 0, 0, 1, 1] B82) rfl rfl ?_
        exact retR (rs := []) (vs := []) (v := .tuple #[]) Tryz.func82 rfl rfl rfl res_nil fun w' hc' => ⟨⟨t, .inr ⟨hb, i, s1, h1, h14, hg, ht⟩⟩, rfl, hc'.lessI hx⟩
      | true =>
        refine TT.cond_false (x := sub [1, 1, 0, 0, 1, 0, 0, 1, 0] B82) (y := sub [1, 1, 0, 0, 1, 0, 0, 1, 1] B82) rfl rfl ?_
        refine TT.skip ?_
        refine TT.inBlock ?_
        refine TT.region (id := 3) (n := 3) (ops := opsOf (sub [1, 1, 0, 0, 1, 1] B82)) [(.pure, none), (.pure, none), (.pure, none)] rfl ?_
        refine DL.pu 7 (.int .i64 (i : Int)) rfl (p_move rfl rfl) ?_
        refine DL.pu 8 (.int .i64 ((i + 1 : Nat) : Int)) rfl (wrap_next (i := i) (by omega) ▸ p_add rfl rfl rfl) ?_
        refine DL.pu 3 (.int .i64 ((i + 1 : Nat) : Int)) rfl (p_assign rfl rfl) ?_
        refine DL.nil ?_
        refine TT.inLoop ?_
        exact TT.weak (ihd (i + 1) t (by omega) (by omega) (by omega) (hgo.on i s1 t h1 h14 hg ht hb)) (Sub.cons rfl (Sub.cons rfl (Sub.cons rfl (Sub.nil _))))
  refine calls_of_TTG (N := 17) (S := [(0, .func (.yield l) #[] #[])]) (b := B82) hc Tryz.func82 rfl rfl rfl (by simp) ?_
  show TT _ _ R _ _ _ [.code (sub [] B82)] _ _
  have hE : EnvX none { w with heap := #[] } (fun _ => none) (fun _ => none) I := EnvX.bare (fun b o e => by cases e)
  refine TT.seq (x := sub [0] B82) (y := sub [1] B82) ?_
  refine TT.region (id := 0) (n := 2) (ops := opsOf (sub [0] B82)) [(.keep, none), (.pure, none)] rfl ?_
  refine DL.callF (G := Nat) (u := fun g => .map (some g)) (Q := fun g M_ => (M_ g = some SFormsO)) (A := E s ++ A) (J := []) (fun J7 => (E s ++ A) ++ J7) (Nat.zero_le _) hE.nil (List.append_nil _).symm (fun _ => rfl) (by simp) (i := 0) rfl (Wn.none rfl) rfl rfl rfl rfl rfl rfl (args_val (vs := []) rfl) (fun w => kenter34 _ w) (fun w hc hI => script_forms.ok rfl (M := fun _ => none) w hI) ?_
  intro bm M2 J2 hE2 hx2 hbm
  refine DL.pu 2 (.map (some bm)) rfl (p_assign rfl rfl) ?_
  refine DL.nil ?_
  refine TT.settleB (A := E s ++ A) (J := J2) ?_
  have hxI2 : Ext I (addJ I J2) := Ext.addJ _ _
  refine TT.seq (x := sub [1, 0] B82) (y := sub [1, 1] B82) ?_
  refine TT.region (id := 1) (n := 1) (ops := opsOf (sub [1, 0] B82)) [(.pure, none)] rfl ?_
  refine DL.pu 3 (.int .i64 ((1 : Nat) : Int)) rfl (p_assign rfl rfl) ?_
  refine DL.nil ?_
  refine TT.block (c := sub [1, 1, 0] B82) ?_
  refine TT.loop (c := sub [1, 1, 0, 0] B82) ?_
  exact TT.weak (hloop (addJ I J2) M2 bm hxI2 hE2.mi hbm _ 1 s rfl (by decide) (by decide) hs) (Sub.cons rfl (Sub.cons rfl (Sub.cons rfl (Sub.nil _))))
end
end Go.Proofs.YthldgjbmjgjogaaGreatDoor
