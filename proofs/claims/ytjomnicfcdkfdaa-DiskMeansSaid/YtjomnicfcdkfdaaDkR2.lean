import Derived.Test.YtjomnicfcdkfdaaDkL3
section
namespace Go.Proofs.Ytjomnicfcdkfdaa
open Go Go.HW Go.RowKit
set_option linter.unusedVariables false
set_option linter.unusedSimpArgs false

/-! ### steps -/
structure Stp where
  kind : Int
  n : Int
  m : Int
  fill : Int
  picks : List Int
def stc (z : Stp) (pv : Value) : List Value := [.int .i64 z.kind, .int .i64 z.n, .int .i64 z.m, .int .u8 z.fill, pv]
def ShStp : Shape Stp where
  n := 5
  pos := by decide
  rep := fun M l z => ∃ pv, l = stc z pv ∧ IntRow M .i64 pv z.picks
  len := fun ⟨pv, h, _⟩ => by subst h; rfl
  one := fun ⟨pv, h, h2⟩ v hv => by
    subst h
    simp only [stc, List.mem_cons, List.not_mem_nil, or_false] at hv
    rcases hv with rfl | rfl | rfl | rfl | rfl
    · rfl
    · rfl
    · rfl
    · rfl
    · exact RowV.one h2
  mono := fun he ⟨pv, h, h2⟩ => ⟨pv, h, h2.mono he⟩
def blkN (m : Int) : Nat := (max 0 (min m 2000)).toNat
theorem blkN_eq (m : Int) : (if 0 < (if 2000 < m then 2000 else m) then (if 2000 < m then 2000 else m) else 0) = ((blkN m : Nat) : Int) := by
  unfold blkN; split <;> split <;> omega
theorem blkN_le (m : Int) : blkN m ≤ 2000 := by unfold blkN; omega
def doK (s : Dk) (z : Stp) : Int × Dk :=
  if z.kind = 1 then writeK s z.n (blockL z.fill 512)
  else if z.kind = 2 then syncK s
  else if z.kind = 3 then setFuseK s z.n
  else if z.kind = 4 then (0, crashK s z.picks)
  else if z.kind = 5 then editK s z.n z.m z.fill
  else if z.kind = 6 then writeK s z.n (blockL z.fill (blkN z.m))
  else (0, s)
theorem writeK_late (s : Dk) (n : Int) (xs : List Int) : (writeK s n xs).2.late.length ≤ s.late.length + 1 := by
  unfold writeK
  by_cases h : hasD s n = false
  · rw [if_pos h]; simp
  · rw [if_neg h]
    by_cases h2 : ¬ xs.length = 512
    · rw [if_pos h2]; simp
    · rw [if_neg h2]
      by_cases h3 : (stepK s).1 = 14
      · rw [if_pos h3]; simp [stepK_late']
      · rw [if_neg h3]; simp [stepK_late']
theorem syncK_late (s : Dk) : (syncK s).2.late.length ≤ s.late.length := by
  unfold syncK
  by_cases h : (stepK s).1 = 0
  · rw [if_pos h]; simp
  · rw [if_neg h, stepK_late']; exact Nat.le_refl _
theorem setFuseK_late (s : Dk) (n : Int) : (setFuseK s n).2.late = s.late := by
  unfold setFuseK
  by_cases h : n < 0
  · rw [if_pos h]
  · rw [if_neg h]
theorem editK_late (s : Dk) (n a x : Int) : (editK s n a x).2.late.length = s.late.length := by
  unfold editK
  by_cases h : hasD s n = false
  · rw [if_pos h]
  · rw [if_neg h]
    by_cases h2 : a < 0
    · rw [if_pos h2]
    · rw [if_neg h2]
      by_cases h3 : 512 ≤ a
      · rw [if_pos h3]
      · rw [if_neg h3]; simp
theorem doK_late (s : Dk) (z : Stp) : (doK s z).2.late.length ≤ s.late.length + 1 := by
  unfold doK
  by_cases h1 : z.kind = 1
  · rw [if_pos h1]; exact writeK_late _ _ _
  rw [if_neg h1]
  by_cases h2 : z.kind = 2
  · rw [if_pos h2]; have := syncK_late s; omega
  rw [if_neg h2]
  by_cases h3 : z.kind = 3
  · rw [if_pos h3, setFuseK_late]; omega
  rw [if_neg h3]
  by_cases h4 : z.kind = 4
  · rw [if_pos h4]; simp [crashK]
  rw [if_neg h4]
  by_cases h5 : z.kind = 5
  · rw [if_pos h5, editK_late]; omega
  rw [if_neg h5]
  by_cases h6 : z.kind = 6
  · rw [if_pos h6]; exact writeK_late _ _ _
  rw [if_neg h6]; simp
theorem writeK_n (s : Dk) (n : Int) (xs : List Int) : (writeK s n xs).2.n = s.n := by
  unfold writeK
  by_cases h : hasD s n = false
  · rw [if_pos h]
  · rw [if_neg h]
    by_cases h2 : ¬ xs.length = 512
    · rw [if_pos h2]
    · rw [if_neg h2]
      by_cases h3 : (stepK s).1 = 14
      · rw [if_pos h3]; exact stepK_n s
      · rw [if_neg h3]; exact stepK_n s
theorem syncK_n (s : Dk) : (syncK s).2.n = s.n := by
  unfold syncK
  by_cases h : (stepK s).1 = 0
  · rw [if_pos h]; exact stepK_n s
  · rw [if_neg h]; exact stepK_n s
theorem setFuseK_n (s : Dk) (n : Int) : (setFuseK s n).2.n = s.n := by
  unfold setFuseK
  by_cases h : n < 0
  · rw [if_pos h]
  · rw [if_neg h]
theorem editK_n (s : Dk) (n a x : Int) : (editK s n a x).2.n = s.n := by
  unfold editK
  by_cases h : hasD s n = false
  · rw [if_pos h]
  · rw [if_neg h]
    by_cases h2 : a < 0
    · rw [if_pos h2]
    · rw [if_neg h2]
      by_cases h3 : 512 ≤ a
      · rw [if_pos h3]
      · rw [if_neg h3]
theorem doK_n (s : Dk) (z : Stp) : (doK s z).2.n = s.n := by
  unfold doK
  by_cases h1 : z.kind = 1
  · rw [if_pos h1]; exact writeK_n _ _ _
  rw [if_neg h1]
  by_cases h2 : z.kind = 2
  · rw [if_pos h2]; exact syncK_n s
  rw [if_neg h2]
  by_cases h3 : z.kind = 3
  · rw [if_pos h3]; exact setFuseK_n s _
  rw [if_neg h3]
  by_cases h4 : z.kind = 4
  · rw [if_pos h4]; rfl
  rw [if_neg h4]
  by_cases h5 : z.kind = 5
  · rw [if_pos h5]; exact editK_n _ _ _ _
  rw [if_neg h5]
  by_cases h6 : z.kind = 6
  · rw [if_pos h6]; exact writeK_n _ _ _
  rw [if_neg h6]
section
variable {N : Nat} {S : Slots} {w0 w1 : World} {I : Mem} {H : Heap} {Q : Exit → Act → World → Prop} {Qn : Act → Heap → Prop} {ops : Array Oper} {lab : Lab} {ids : Nat → Option Nat} {l : List Nat} {i d : Nat} {o : Oper} {v : Value} {X : Type} {u : X → Value} {cl : Call} {fo : Operand} {g : FuncId} {args : Array Value}
theorem cls_less {I' : Mem} {w : World} (he : Ext I I') (h : Cls w0 I' H w) : Cls w0 I H w := ⟨h.os, h.tape, h.output, h.size, fun b o e => h.imm b o (he b o e), h.own, (fun b o hm => by
  have := h.disj b o hm
  cases hI : I b with
  | none => rfl
  | some z => rw [he b z hI] at this; cases this), h.nodup⟩
/-- what is not turned any more stays -/
theorem C.settleF {c : Code} {E R : Heap} (hH : H = E ++ R) (h : ∀ I', Ext I I' → (∀ b o, (some b, o) ∈ E → I' b = some o) → CW N w0 I' c Q S R) : CW N w0 I c Q S H := fun a w ha hc => by
  subst hH
  have hnE : (E.filterMap Prod.fst).Nodup := hc.nodup.sublist ((List.sublist_append_left E R).filterMap _)
  refine h (addJ I E) (Ext.addJ _ _) (fun b o hm => ?_) a w ha ((hc.perm (List.perm_append_comm)).settle)
  unfold addJ
  rw [hc.disj b o (List.mem_append_left _ hm)]
  exact inJ_of_mem hnE hm
theorem DW.c01k {E' : X → Heap} (hi : ops[i]? = some o) (hg : o.guard = none) (hd : o.dst = some d) (hN : Nat.blt d N = true) (hk : (lab i).1 = .keep) (hc : Turn I g args [] u E') (hbody : ∀ w, (callFunc g args).run Try.prog w = .ok (.enter g args) w) (ho : o.op = .call cl) (hcal : cl.callee = .value fo) (hf : ev S fo = some (.func (.func g) #[] #[])) (hargs : ∀ ρ, Val S ρ → cl.args.map ρ = args)
    (h : ∀ x, DD N w0 I ops lab ids Qn l ((d, u x) :: S) (E' x ++ H)) : DD N w0 I ops lab ids Qn (i :: l) S H :=
  DW.keep (fun x p hp => List.mem_append_right _ hp) hi hg hd hN hk (f_callX ho hcal hf hargs hbody (fun w hcl => hc.at w0 w hcl)) h
theorem DW.c22s {E1 E2 R : Heap} {E1' E2' : X → Heap} (hi : ops[i]? = some o) (hg : o.guard = none) (hd : o.dst = some d) (hN : Nat.blt d N = true) (hk : (lab i).1 = .actx) (hH : H = E2 ++ (E1 ++ R)) (hc : Turn I g args (E1 ++ E2) u (fun x => E1' x ++ E2' x)) (hbody : ∀ w, (callFunc g args).run Try.prog w = .ok (.enter g args) w) (ho : o.op = .call cl) (hcal : cl.callee = .value fo) (hf : ev S fo = some (.func (.func g) #[] #[])) (hargs : ∀ ρ, Val S ρ → cl.args.map ρ = args)
    (h : ∀ x, DD N w0 I ops lab ids Qn l ((d, u x) :: S) (E1' x ++ (E2' x ++ R))) : DD N w0 I ops lab ids Qn (i :: l) S H :=
  DW.actx (H' := fun x => E1' x ++ (E2' x ++ R)) hi hg hd hN hk (f_callX ho hcal hf hargs hbody (fun w hcl => by
    subst hH
    have hcl := hcl.perm perm1
    rw [← List.append_assoc] at hcl
    exact (hc.at w0 w hcl).mono fun e w' ⟨x, h1, h2⟩ => ⟨x, h1, by rw [← List.append_assoc]; exact h2⟩)) h
theorem elp_ptr (b off m c j : Nat) : elp (.slice (some ⟨b, off, none⟩) m c) j = ptr b (off + j) := by
  have e : (Addr.add ⟨b, off, none⟩ j) = ⟨b, off + j, none⟩ := by unfold Addr.add; split <;> simp_all
  show Value.pointer (some (Addr.add ⟨b, off, none⟩ j)) = _
  rw [e]
/-- an element's place in a slice that stays, its field -/
theorem p_fieldEl {t : TypeId} {x : Operand} {v : Value} {j f n : Nat} (hv : ∃ b off m c, v = .slice (some ⟨b, off, none⟩) m c) (hf : ∀ a w, (Instr.fieldAt t (.pointer (some a)) f).run Try.prog w = .ok (.pointer (some (a.add n))) w) (ho : o.op = .fieldAddr t x f) (hx : ev S x = some (elp v j)) : FPure Try.prog o S (elp v (j + n)) := by
  obtain ⟨b, off, m, c, rfl⟩ := hv
  have := p_fieldAddr (P := Try.prog) (S := S) hf ho (b := b) (off := off + j) (by rw [hx, elp_ptr])
  have e : ptr b (off + j + n) = elp (.slice (some ⟨b, off, none⟩) m c) (j + n) := by rw [Nat.add_assoc, elp_ptr]
  rw [← e]; exact this
theorem row_plain {α : Type} {s : Shape α} {M : Mem} {v : Value} {xs : List α} (h : RowS s M v xs) {k : Nat} (hk : k < xs.length) : ∃ b off m c, v = .slice (some ⟨b, off, none⟩) m c := by
  obtain ⟨cs, ⟨_, a, c, h1, _, h3⟩, _⟩ := h
  rcases h3 with h3 | ⟨b, off, arr, t, z, rfl, _⟩
  · omega
  · exact ⟨b, off, _, c, h1⟩
theorem p_ixS {α : Type} {s : Shape α} {xs : List α} (h : RowS s I v xs) {j : Nat} (hj : j < xs.length) {T e : Nat} {x z : Operand} {kk : IntKind} (hu : ∀ w, (underlying T).run Try.prog w = .ok (.slice e) w) (hs : ∀ w, (sizeOf e).run Try.prog w = .ok s.n w) (ho : o.op = .indexAddr T x z) (hx : ev S x = some v) (hy : ev S z = some (.int kk (j : Int))) : FPure Try.prog o S (elp v (j * s.n)) := by
  have := p_slIx (P := Try.prog) hu hs (RowS.some h (i := (j : Int)) (by omega) (by omega)) (by omega) (by omega) ho hx hy
  simpa using this
theorem i_ldS {xs : List Stp} (h : RowS ShStp I v xs) {j : Nat} {z : Stp} (hj : xs[j]? = some z) {pv : Value} (hpv : ∃ cs, RowV I v 5 xs.length cs ∧ chunk cs 5 j = stc z pv) {t : TypeId} {x : Operand} (ha : ∀ w, (isAgg t).run Try.prog w = .ok true w) (hs : ∀ w, (sizeOf t).run Try.prog w = .ok 5 w) (ho : o.op = .load t x) (hx : ev S x = some (elp v (j * 5))) : FImm Try.prog o I S (.agg (stc z pv).toArray) := by
  obtain ⟨cs, h1, h2⟩ := hpv
  exact i_loadElA h1 h2 (List.getElem?_eq_some_iff.1 hj).1 ha hs ho hx
theorem stp_at {xs : List Stp} (h : RowS ShStp I v xs) {j : Nat} {z : Stp} (hj : xs[j]? = some z) : ∃ pv, IntRow I .i64 pv z.picks ∧ ∃ cs, RowV I v 5 xs.length cs ∧ chunk cs 5 j = stc z pv := by
  obtain ⟨cs, h1, h2⟩ := h
  obtain ⟨pv, h3, h4⟩ := h2 j z hj
  exact ⟨pv, h4, cs, h1, h3⟩
theorem i_ldPk {xs : List Stp} {j : Nat} {z : Stp} (hj : xs[j]? = some z) {pv : Value} (hpv : ∃ cs, RowV I v 5 xs.length cs ∧ chunk cs 5 j = stc z pv) {t : TypeId} {x : Operand} (ha : ∀ w, (isAgg t).run Try.prog w = .ok false w) (ho : o.op = .load t x) (hx : ev S x = some (elp v (j * 5 + 4))) : FImm Try.prog o I S pv := by
  obtain ⟨cs, h1, h2⟩ := hpv
  exact i_loadEl h1 (by have : (chunk cs 5 j)[4]? = some pv := by rw [h2]; rfl
                        exact chunk_get this) ha ho hx
end
end Go.Proofs.Ytjomnicfcdkfdaa
end

section
namespace Go.Proofs.Ytjomnicfcdkfdaa
open Go Go.HW Go.RowKit
set_option linter.unusedVariables false
set_option linter.unusedSimpArgs false

theorem tf46_0 (a : Addr) (w : World) : (Instr.fieldAt 46 (.pointer (some a)) 0).run Try.prog w = .ok (.pointer (some (a.add 0))) w := by kernel_rfl
theorem tf46_1 (a : Addr) (w : World) : (Instr.fieldAt 46 (.pointer (some a)) 1).run Try.prog w = .ok (.pointer (some (a.add 1))) w := by kernel_rfl
theorem tf46_2 (a : Addr) (w : World) : (Instr.fieldAt 46 (.pointer (some a)) 2).run Try.prog w = .ok (.pointer (some (a.add 2))) w := by kernel_rfl
theorem tf46_3 (a : Addr) (w : World) : (Instr.fieldAt 46 (.pointer (some a)) 3).run Try.prog w = .ok (.pointer (some (a.add 3))) w := by kernel_rfl
theorem tf46_4 (a : Addr) (w : World) : (Instr.fieldAt 46 (.pointer (some a)) 4).run Try.prog w = .ok (.pointer (some (a.add 4))) w := by kernel_rfl
theorem ta22 (w : World) : (isAgg 22).run Try.prog w = .ok false w := by kernel_rfl
theorem ta46 (w : World) : (isAgg 46).run Try.prog w = .ok true w := by kernel_rfl
theorem ts46 (w : World) : (sizeOf 46).run Try.prog w = .ok 5 w := by kernel_rfl
theorem tu41 (w : World) : (underlying 41).run Try.prog w = .ok (.slice 46) w := by kernel_rfl

noncomputable def B23 : Code := bodyOf Try.f23
theorem en23 (args : Array Value) (w : World) : (callFunc 23 args).run Try.prog w = .ok (.enter 23 args) w := by kernel_rfl
theorem tDo {I : Mem} {b m : Nat} {s s2 : Dk} {e : Int} (x : Dx s) {z : Stp} {pv : Value} (hp : IntRow I .i64 pv z.picks) (hK : doK s z = (e, s2)) (hl : s.late.length ≤ 137438953471) : Turn I 23 #[ptr b 0, .agg (stc z pv).toArray] (dX b m x) (fun _ : Dx s2 => .int .i64 e) (fun x' => dX b m x') := fun I' he w0 w hc => by
  have hc : Cls w0 I' (dX b m x ++ []) w := by rw [List.append_nil]; exact hc
  refine calls_of_CW (N := 61) Try.func23 (show _ = some B23 by kernel_rfl) (by kernel_rfl) rfl (S := [(0, ptr b 0), (1, .agg (stc z pv).toArray)]) (by simp) hc ?_
  show CW _ _ _ (sub [] B23) _ _ _
  refine C.seq (x := sub [0] B23) (y := sub [1] B23) ?_
  refine C.region (id := 0) (m := 2) (ops := opsOf (sub [0] B23)) rfl ?_
  refine W.new rfl (wo rfl) rfl rfl (f_box rfl rfl) (nf rfl) ?_
  intro bx hbx
  refine W.pure rfl (wo rfl) rfl rfl (p_assign rfl rfl) (nf rfl) ?_
  refine W.doneQ (y := sub [1] B23) rfl ?_
  refine C.settleF (E := [(some bx, .cells (stc z pv).toArray 46 (0, 0))]) rfl ?_
  intro I2 he2 hI
  have hb := hI bx _ (List.mem_singleton.2 rfl)
  clear hI
  refine C.seq (x := sub [1, 0] B23) (y := sub [1, 1] B23) ?_
  refine C.seq (x := sub [1, 0, 0] B23) (y := sub [1, 0, 1] B23) ?_
  refine C.region (id := 1) (m := 2) (ops := opsOf (sub [1, 0, 0] B23)) rfl ?_
  refine W.pure rfl (wo rfl) rfl rfl (p_fieldAddr tf46_0 rfl rfl) (nf rfl) ?_
  refine W.imm rfl (wo rfl) rfl rfl (i_loadBoxO (off := 0) hb rfl ta3 rfl rfl) (nf rfl) ?_
  refine W.doneQ (y := sub [1, 0, 1] B23) rfl ?_
  refine C.block (id := 0) (c := sub [1, 0, 1, 0] B23) ?_
  refine C.seq (x := sub [1, 0, 1, 0, 0] B23) (y := sub [1, 0, 1, 0, 1] B23) ?_
  refine C.region (id := 2) (m := 2) (ops := opsOf (sub [1, 0, 1, 0, 0] B23)) rfl ?_
  by_cases k1 : z.kind = 1
  · refine W.pure rfl (wo rfl) rfl rfl (pT (by rw [k1]; rfl) (p_eql rfl rfl rfl)) (nf rfl) ?_
    refine W.pure rfl (wo rfl) rfl rfl (p_assign rfl rfl) (nf rfl) ?_
    refine W.doneQ (y := sub [1, 0, 1, 0, 1] B23) rfl ?_
    refine C.cond_true (x := sub [1, 0, 1, 0, 1, 0] B23) (y := sub [1, 0, 1, 0, 1, 1] B23) rfl rfl ?_
    refine C.seq (x := sub [1, 0, 1, 0, 1, 0, 0] B23) (y := sub [1, 0, 1, 0, 1, 0, 1] B23) ?_
    refine C.regionD (id := 3) (ops := opsOf (sub [1, 0, 1, 0, 1, 0, 0] B23)) [0, 1, 2, 3, 4, 5, 6, 7, 8] [0, 0, 2, 0, 8, 24, 63, 127, 255] [(.pure, none), (.pure, none), (.pure, none), (.pure, none), (.pure, none), (.keep, none), (.actx, none), (.quiet, none), (.pure, none)] (by kernel_rfl) ?_
    intro wD3 hl3
    refine DW.pure rfl rfl rfl rfl rfl (p_move rfl rfl) ?_
    refine DW.pure rfl rfl rfl rfl rfl (p_fieldAddr tf46_1 rfl rfl) ?_
    refine DW.imm rfl rfl rfl rfl rfl (i_loadBoxO (off := 1) hb rfl ta3 rfl rfl) ?_
    refine DW.pure rfl rfl rfl rfl rfl (p_fieldAddr tf46_3 rfl rfl) ?_
    refine DW.imm rfl rfl rfl rfl rfl (i_loadBoxO (off := 3) hb rfl ta5 rfl rfl) ?_
    refine DW.c01k rfl rfl rfl rfl rfl (tBlock _ (by decide)) (en39 _) rfl rfl rfl (args_val rfl) ?_
    intro y1
    have hK2 : writeK s z.n (blockL z.fill 512) = (e, s2) := by rw [← hK]; unfold doK; rw [if_pos k1]
    refine DW.c22s rfl rfl rfl rfl rfl rfl (tWrite x y1 _ (hK2) (hl)) (en15 _) rfl rfl rfl (args_val rfl) ?_
    intro x2
    refine DW.quiet rfl rfl rfl rfl rfl (f_callR rfl rfl (args_val rfl) (en12 _) (fun w2 hc2 => num_ok w2 _)) ?_
    refine DW.pure rfl rfl rfl rfl rfl (p_assign rfl rfl) ?_
    refine DW.doneQ (y := sub [1, 0, 1, 0, 1, 0, 1] B23) hl3 rfl ?_
    exact C.ret (R := fun e' w' => ∃ x' : Dx s2, e' = .returned (.int .i64 e) ∧ Cls w0 I' (dX b m x') w') (rs := [.tmp 4]) (vs := [.int .i64 e]) rfl Try.func23 rfl rfl rfl (res_cons (ResV.tmp rfl) res_nil) fun w1 hc1 => ⟨x2, rfl, (cls_less he2 hc1).fewer (List.sublist_append_left _ _)⟩
  · refine W.pure rfl (wo rfl) rfl rfl (pF (by simpa using k1) (p_eql rfl rfl rfl)) (nf rfl) ?_
    refine W.pure rfl (wo rfl) rfl rfl (p_assign rfl rfl) (nf rfl) ?_
    refine W.doneQ (y := sub [1, 0, 1, 0, 1] B23) rfl ?_
    refine C.cond_false (x := sub [1, 0, 1, 0, 1, 0] B23) (y := sub [1, 0, 1, 0, 1, 1] B23) rfl rfl ?_
    refine C.seq (x := sub [1, 0, 1, 0, 1, 1, 0] B23) (y := sub [1, 0, 1, 0, 1, 1, 1] B23) ?_
    refine C.region (id := 4) (m := 2) (ops := opsOf (sub [1, 0, 1, 0, 1, 1, 0] B23)) rfl ?_
    by_cases k2 : z.kind = 2
    · refine W.pure rfl (wo rfl) rfl rfl (pT (by rw [k2]; rfl) (p_eql rfl rfl rfl)) (nf rfl) ?_
      refine W.pure rfl (wo rfl) rfl rfl (p_assign rfl rfl) (nf rfl) ?_
      refine W.doneQ (y := sub [1, 0, 1, 0, 1, 1, 1] B23) rfl ?_
      refine C.cond_true (x := sub [1, 0, 1, 0, 1, 1, 1, 0] B23) (y := sub [1, 0, 1, 0, 1, 1, 1, 1] B23) rfl rfl ?_
      refine C.seq (x := sub [1, 0, 1, 0, 1, 1, 1, 0, 0] B23) (y := sub [1, 0, 1, 0, 1, 1, 1, 0, 1] B23) ?_
      refine C.region (id := 5) (m := 4) (ops := opsOf (sub [1, 0, 1, 0, 1, 1, 1, 0, 0] B23)) rfl ?_
      refine W.pure rfl (wo rfl) rfl rfl (p_move rfl rfl) (nf rfl) ?_
      have hK2 : syncK s = (e, s2) := by rw [← hK]; unfold doK; rw [if_neg k1]; rw [if_pos k2]
      refine W.c11 rfl (wo rfl) rfl rfl rfl (tSync x (hK2) (by omega)) (en14 _) rfl rfl rfl (args_val rfl) ?_
      intro x1
      refine W.quiet rfl (wo rfl) rfl rfl (f_callR rfl rfl (args_val rfl) (en12 _) (fun w2 hc2 => num_ok w2 _)) (nf rfl) ?_
      refine W.pure rfl (wo rfl) rfl rfl (p_assign rfl rfl) (nf rfl) ?_
      refine W.doneQ (y := sub [1, 0, 1, 0, 1, 1, 1, 0, 1] B23) rfl ?_
      exact C.ret (R := fun e' w' => ∃ x' : Dx s2, e' = .returned (.int .i64 e) ∧ Cls w0 I' (dX b m x') w') (rs := [.tmp 4]) (vs := [.int .i64 e]) rfl Try.func23 rfl rfl rfl (res_cons (ResV.tmp rfl) res_nil) fun w1 hc1 => ⟨x1, rfl, (cls_less he2 hc1).fewer (List.sublist_append_left _ _)⟩
    · refine W.pure rfl (wo rfl) rfl rfl (pF (by simpa using k2) (p_eql rfl rfl rfl)) (nf rfl) ?_
      refine W.pure rfl (wo rfl) rfl rfl (p_assign rfl rfl) (nf rfl) ?_
      refine W.doneQ (y := sub [1, 0, 1, 0, 1, 1, 1] B23) rfl ?_
      refine C.cond_false (x := sub [1, 0, 1, 0, 1, 1, 1, 0] B23) (y := sub [1, 0, 1, 0, 1, 1, 1, 1] B23) rfl rfl ?_
      refine C.seq (x := sub [1, 0, 1, 0, 1, 1, 1, 1, 0] B23) (y := sub [1, 0, 1, 0, 1, 1, 1, 1, 1] B23) ?_
      refine C.region (id := 6) (m := 2) (ops := opsOf (sub [1, 0, 1, 0, 1, 1, 1, 1, 0] B23)) rfl ?_
      by_cases k3 : z.kind = 3
      · refine W.pure rfl (wo rfl) rfl rfl (pT (by rw [k3]; rfl) (p_eql rfl rfl rfl)) (nf rfl) ?_
        refine W.pure rfl (wo rfl) rfl rfl (p_assign rfl rfl) (nf rfl) ?_
        refine W.doneQ (y := sub [1, 0, 1, 0, 1, 1, 1, 1, 1] B23) rfl ?_
        refine C.cond_true (x := sub [1, 0, 1, 0, 1, 1, 1, 1, 1, 0] B23) (y := sub [1, 0, 1, 0, 1, 1, 1, 1, 1, 1] B23) rfl rfl ?_
        refine C.seq (x := sub [1, 0, 1, 0, 1, 1, 1, 1, 1, 0, 0] B23) (y := sub [1, 0, 1, 0, 1, 1, 1, 1, 1, 0, 1] B23) ?_
        refine C.region (id := 7) (m := 6) (ops := opsOf (sub [1, 0, 1, 0, 1, 1, 1, 1, 1, 0, 0] B23)) rfl ?_
        refine W.pure rfl (wo rfl) rfl rfl (p_move rfl rfl) (nf rfl) ?_
        refine W.pure rfl (wo rfl) rfl rfl (p_fieldAddr tf46_1 rfl rfl) (nf rfl) ?_
        refine W.imm rfl (wo rfl) rfl rfl (i_loadBoxO (off := 1) hb rfl ta3 rfl rfl) (nf rfl) ?_
        have hK2 : setFuseK s z.n = (e, s2) := by rw [← hK]; unfold doK; rw [if_neg k1]; rw [if_neg k2]; rw [if_pos k3]
        refine W.c11 rfl (wo rfl) rfl rfl rfl (tFuse x _ (hK2)) (en13 _) rfl rfl rfl (args_val rfl) ?_
        intro x1
        refine W.quiet rfl (wo rfl) rfl rfl (f_callR rfl rfl (args_val rfl) (en12 _) (fun w2 hc2 => num_ok w2 _)) (nf rfl) ?_
        refine W.pure rfl (wo rfl) rfl rfl (p_assign rfl rfl) (nf rfl) ?_
        refine W.doneQ (y := sub [1, 0, 1, 0, 1, 1, 1, 1, 1, 0, 1] B23) rfl ?_
        exact C.ret (R := fun e' w' => ∃ x' : Dx s2, e' = .returned (.int .i64 e) ∧ Cls w0 I' (dX b m x') w') (rs := [.tmp 4]) (vs := [.int .i64 e]) rfl Try.func23 rfl rfl rfl (res_cons (ResV.tmp rfl) res_nil) fun w1 hc1 => ⟨x1, rfl, (cls_less he2 hc1).fewer (List.sublist_append_left _ _)⟩
      · refine W.pure rfl (wo rfl) rfl rfl (pF (by simpa using k3) (p_eql rfl rfl rfl)) (nf rfl) ?_
        refine W.pure rfl (wo rfl) rfl rfl (p_assign rfl rfl) (nf rfl) ?_
        refine W.doneQ (y := sub [1, 0, 1, 0, 1, 1, 1, 1, 1] B23) rfl ?_
        refine C.cond_false (x := sub [1, 0, 1, 0, 1, 1, 1, 1, 1, 0] B23) (y := sub [1, 0, 1, 0, 1, 1, 1, 1, 1, 1] B23) rfl rfl ?_
        refine C.seq (x := sub [1, 0, 1, 0, 1, 1, 1, 1, 1, 1, 0] B23) (y := sub [1, 0, 1, 0, 1, 1, 1, 1, 1, 1, 1] B23) ?_
        refine C.region (id := 8) (m := 2) (ops := opsOf (sub [1, 0, 1, 0, 1, 1, 1, 1, 1, 1, 0] B23)) rfl ?_
        by_cases k4 : z.kind = 4
        · refine W.pure rfl (wo rfl) rfl rfl (pT (by rw [k4]; rfl) (p_eql rfl rfl rfl)) (nf rfl) ?_
          refine W.pure rfl (wo rfl) rfl rfl (p_assign rfl rfl) (nf rfl) ?_
          refine W.doneQ (y := sub [1, 0, 1, 0, 1, 1, 1, 1, 1, 1, 1] B23) rfl ?_
          refine C.cond_true (x := sub [1, 0, 1, 0, 1, 1, 1, 1, 1, 1, 1, 0] B23) (y := sub [1, 0, 1, 0, 1, 1, 1, 1, 1, 1, 1, 1] B23) rfl rfl ?_
          refine C.seq (x := sub [1, 0, 1, 0, 1, 1, 1, 1, 1, 1, 1, 0, 0] B23) (y := sub [1, 0, 1, 0, 1, 1, 1, 1, 1, 1, 1, 0, 1] B23) ?_
          refine C.region (id := 9) (m := 6) (ops := opsOf (sub [1, 0, 1, 0, 1, 1, 1, 1, 1, 1, 1, 0, 0] B23)) rfl ?_
          refine W.pure rfl (wo rfl) rfl rfl (p_move rfl rfl) (nf rfl) ?_
          refine W.pure rfl (wo rfl) rfl rfl (p_fieldAddr tf46_4 rfl rfl) (nf rfl) ?_
          refine W.imm rfl (wo rfl) rfl rfl (i_loadBoxO (off := 4) hb rfl ta22 rfl rfl) (nf rfl) ?_
          have hK2 : ((0 : Int), crashK s z.picks) = (e, s2) := by rw [← hK]; unfold doK; rw [if_neg k1]; rw [if_neg k2]; rw [if_neg k3]; rw [if_pos k4]
          refine W.c11 rfl (wo rfl) rfl rfl rfl (tCrash x (hp.mono (he.trans he2)) (by omega)) (en18 _) rfl rfl rfl (args_val rfl) ?_
          intro x1
          refine W.quiet rfl (wo rfl) rfl rfl (f_callR rfl rfl (args_val rfl) (en12 _) (fun w2 hc2 => num_ok w2 _)) (nf rfl) ?_
          refine W.pure rfl (wo rfl) rfl rfl (p_assign rfl rfl) (nf rfl) ?_
          refine W.doneQ (y := sub [1, 0, 1, 0, 1, 1, 1, 1, 1, 1, 1, 0, 1] B23) rfl ?_
          obtain ⟨rfl, rfl⟩ := Prod.mk.inj hK2
          exact C.ret (R := fun e' w' => ∃ x' : Dx (crashK s z.picks), e' = .returned (.int .i64 0) ∧ Cls w0 I' (dX b m x') w') (rs := [.tmp 4]) (vs := [.int .i64 0]) rfl Try.func23 rfl rfl rfl (res_cons (ResV.tmp rfl) res_nil) fun w1 hc1 => ⟨x1, rfl, (cls_less he2 hc1).fewer (List.sublist_append_left _ _)⟩
        · refine W.pure rfl (wo rfl) rfl rfl (pF (by simpa using k4) (p_eql rfl rfl rfl)) (nf rfl) ?_
          refine W.pure rfl (wo rfl) rfl rfl (p_assign rfl rfl) (nf rfl) ?_
          refine W.doneQ (y := sub [1, 0, 1, 0, 1, 1, 1, 1, 1, 1, 1] B23) rfl ?_
          refine C.cond_false (x := sub [1, 0, 1, 0, 1, 1, 1, 1, 1, 1, 1, 0] B23) (y := sub [1, 0, 1, 0, 1, 1, 1, 1, 1, 1, 1, 1] B23) rfl rfl ?_
          refine C.seq (x := sub [1, 0, 1, 0, 1, 1, 1, 1, 1, 1, 1, 1, 0] B23) (y := sub [1, 0, 1, 0, 1, 1, 1, 1, 1, 1, 1, 1, 1] B23) ?_
          refine C.region (id := 10) (m := 2) (ops := opsOf (sub [1, 0, 1, 0, 1, 1, 1, 1, 1, 1, 1, 1, 0] B23)) rfl ?_
          by_cases k5 : z.kind = 5
          · refine W.pure rfl (wo rfl) rfl rfl (pT (by rw [k5]; rfl) (p_eql rfl rfl rfl)) (nf rfl) ?_
            refine W.pure rfl (wo rfl) rfl rfl (p_assign rfl rfl) (nf rfl) ?_
            refine W.doneQ (y := sub [1, 0, 1, 0, 1, 1, 1, 1, 1, 1, 1, 1, 1] B23) rfl ?_
            refine C.cond_true (x := sub [1, 0, 1, 0, 1, 1, 1, 1, 1, 1, 1, 1, 1, 0] B23) (y := sub [1, 0, 1, 0, 1, 1, 1, 1, 1, 1, 1, 1, 1, 1] B23) rfl rfl ?_
            refine C.seq (x := sub [1, 0, 1, 0, 1, 1, 1, 1, 1, 1, 1, 1, 1, 0, 0] B23) (y := sub [1, 0, 1, 0, 1, 1, 1, 1, 1, 1, 1, 1, 1, 0, 1] B23) ?_
            refine C.region (id := 11) (m := 10) (ops := opsOf (sub [1, 0, 1, 0, 1, 1, 1, 1, 1, 1, 1, 1, 1, 0, 0] B23)) rfl ?_
            refine W.pure rfl (wo rfl) rfl rfl (p_move rfl rfl) (nf rfl) ?_
            refine W.pure rfl (wo rfl) rfl rfl (p_fieldAddr tf46_1 rfl rfl) (nf rfl) ?_
            refine W.imm rfl (wo rfl) rfl rfl (i_loadBoxO (off := 1) hb rfl ta3 rfl rfl) (nf rfl) ?_
            refine W.pure rfl (wo rfl) rfl rfl (p_fieldAddr tf46_2 rfl rfl) (nf rfl) ?_
            refine W.imm rfl (wo rfl) rfl rfl (i_loadBoxO (off := 2) hb rfl ta3 rfl rfl) (nf rfl) ?_
            refine W.pure rfl (wo rfl) rfl rfl (p_fieldAddr tf46_3 rfl rfl) (nf rfl) ?_
            refine W.imm rfl (wo rfl) rfl rfl (i_loadBoxO (off := 3) hb rfl ta5 rfl rfl) (nf rfl) ?_
            have hK2 : editK s z.n z.m z.fill = (e, s2) := by rw [← hK]; unfold doK; rw [if_neg k1]; rw [if_neg k2]; rw [if_neg k3]; rw [if_neg k4]; rw [if_pos k5]
            refine W.c11 rfl (wo rfl) rfl rfl rfl (tEdit x _ _ _ (hK2) (hl)) (en30 _) rfl rfl rfl (args_val rfl) ?_
            intro x1
            refine W.quiet rfl (wo rfl) rfl rfl (f_callR rfl rfl (args_val rfl) (en12 _) (fun w2 hc2 => num_ok w2 _)) (nf rfl) ?_
            refine W.pure rfl (wo rfl) rfl rfl (p_assign rfl rfl) (nf rfl) ?_
            refine W.doneQ (y := sub [1, 0, 1, 0, 1, 1, 1, 1, 1, 1, 1, 1, 1, 0, 1] B23) rfl ?_
            exact C.ret (R := fun e' w' => ∃ x' : Dx s2, e' = .returned (.int .i64 e) ∧ Cls w0 I' (dX b m x') w') (rs := [.tmp 4]) (vs := [.int .i64 e]) rfl Try.func23 rfl rfl rfl (res_cons (ResV.tmp rfl) res_nil) fun w1 hc1 => ⟨x1, rfl, (cls_less he2 hc1).fewer (List.sublist_append_left _ _)⟩
          · refine W.pure rfl (wo rfl) rfl rfl (pF (by simpa using k5) (p_eql rfl rfl rfl)) (nf rfl) ?_
            refine W.pure rfl (wo rfl) rfl rfl (p_assign rfl rfl) (nf rfl) ?_
            refine W.doneQ (y := sub [1, 0, 1, 0, 1, 1, 1, 1, 1, 1, 1, 1, 1] B23) rfl ?_
            refine C.cond_false (x := sub [1, 0, 1, 0, 1, 1, 1, 1, 1, 1, 1, 1, 1, 0] B23) (y := sub [1, 0, 1, 0, 1, 1, 1, 1, 1, 1, 1, 1, 1, 1] B23) rfl rfl ?_
            refine C.seq (x := sub [1, 0, 1, 0, 1, 1, 1, 1, 1, 1, 1, 1, 1, 1, 0] B23) (y := sub [1, 0, 1, 0, 1, 1, 1, 1, 1, 1, 1, 1, 1, 1, 1] B23) ?_
            refine C.region (id := 12) (m := 2) (ops := opsOf (sub [1, 0, 1, 0, 1, 1, 1, 1, 1, 1, 1, 1, 1, 1, 0] B23)) rfl ?_
            by_cases k6 : z.kind = 6
            · refine W.pure rfl (wo rfl) rfl rfl (pT (by rw [k6]; rfl) (p_eql rfl rfl rfl)) (nf rfl) ?_
              refine W.pure rfl (wo rfl) rfl rfl (p_assign rfl rfl) (nf rfl) ?_
              refine W.doneQ (y := sub [1, 0, 1, 0, 1, 1, 1, 1, 1, 1, 1, 1, 1, 1, 1] B23) rfl ?_
              refine C.cond_true (x := sub [1, 0, 1, 0, 1, 1, 1, 1, 1, 1, 1, 1, 1, 1, 1, 0] B23) (y := sub [1, 0, 1, 0, 1, 1, 1, 1, 1, 1, 1, 1, 1, 1, 1, 1] B23) rfl rfl ?_
              refine C.seq (x := sub [1, 0, 1, 0, 1, 1, 1, 1, 1, 1, 1, 1, 1, 1, 1, 0, 0] B23) (y := sub [1, 0, 1, 0, 1, 1, 1, 1, 1, 1, 1, 1, 1, 1, 1, 0, 1] B23) ?_
              refine C.regionD (id := 13) (ops := opsOf (sub [1, 0, 1, 0, 1, 1, 1, 1, 1, 1, 1, 1, 1, 1, 1, 0, 0] B23)) [0, 1, 2, 3, 4, 5, 6, 7, 8, 9, 10, 11, 12] [0, 0, 2, 0, 8, 0, 32, 96, 224, 504, 1023, 2047, 4095] [(.pure, none), (.pure, none), (.pure, none), (.pure, none), (.pure, none), (.pure, none), (.pure, none), (.pure, none), (.pure, none), (.keep, none), (.actx, none), (.quiet, none), (.pure, none)] (by kernel_rfl) ?_
              intro wD13 hl13
              refine DW.pure rfl rfl rfl rfl rfl (p_move rfl rfl) ?_
              refine DW.pure rfl rfl rfl rfl rfl (p_fieldAddr tf46_1 rfl rfl) ?_
              refine DW.imm rfl rfl rfl rfl rfl (i_loadBoxO (off := 1) hb rfl ta3 rfl rfl) ?_
              refine DW.pure rfl rfl rfl rfl rfl (p_fieldAddr tf46_3 rfl rfl) ?_
              refine DW.imm rfl rfl rfl rfl rfl (i_loadBoxO (off := 3) hb rfl ta5 rfl rfl) ?_
              refine DW.pure rfl rfl rfl rfl rfl (p_fieldAddr tf46_2 rfl rfl) ?_
              refine DW.imm rfl rfl rfl rfl rfl (i_loadBoxO (off := 2) hb rfl ta3 rfl rfl) ?_
              refine DW.pure rfl rfl rfl rfl rfl (p_min2 rfl rfl rfl) ?_
              refine DW.pure rfl rfl rfl rfl rfl (pI (blkN_eq z.m) (p_max2 rfl rfl rfl)) ?_
              refine DW.c01k rfl rfl rfl rfl rfl (tBlock _ (Nat.le_trans (blkN_le z.m) (by decide))) (en39 _) rfl rfl rfl (args_val rfl) ?_
              intro y1
              have hK2 : writeK s z.n (blockL z.fill (blkN z.m)) = (e, s2) := by rw [← hK]; unfold doK; rw [if_neg k1]; rw [if_neg k2]; rw [if_neg k3]; rw [if_neg k4]; rw [if_neg k5]; rw [if_pos k6]
              refine DW.c22s rfl rfl rfl rfl rfl rfl (tWrite x y1 _ (hK2) (hl)) (en15 _) rfl rfl rfl (args_val rfl) ?_
              intro x2
              refine DW.quiet rfl rfl rfl rfl rfl (f_callR rfl rfl (args_val rfl) (en12 _) (fun w2 hc2 => num_ok w2 _)) ?_
              refine DW.pure rfl rfl rfl rfl rfl (p_assign rfl rfl) ?_
              refine DW.doneQ (y := sub [1, 0, 1, 0, 1, 1, 1, 1, 1, 1, 1, 1, 1, 1, 1, 0, 1] B23) hl13 rfl ?_
              exact C.ret (R := fun e' w' => ∃ x' : Dx s2, e' = .returned (.int .i64 e) ∧ Cls w0 I' (dX b m x') w') (rs := [.tmp 4]) (vs := [.int .i64 e]) rfl Try.func23 rfl rfl rfl (res_cons (ResV.tmp rfl) res_nil) fun w1 hc1 => ⟨x2, rfl, (cls_less he2 hc1).fewer (List.sublist_append_left _ _)⟩
            · refine W.pure rfl (wo rfl) rfl rfl (pF (by simpa using k6) (p_eql rfl rfl rfl)) (nf rfl) ?_
              refine W.pure rfl (wo rfl) rfl rfl (p_assign rfl rfl) (nf rfl) ?_
              refine W.doneQ (y := sub [1, 0, 1, 0, 1, 1, 1, 1, 1, 1, 1, 1, 1, 1, 1] B23) rfl ?_
              refine C.cond_false (x := sub [1, 0, 1, 0, 1, 1, 1, 1, 1, 1, 1, 1, 1, 1, 1, 0] B23) (y := sub [1, 0, 1, 0, 1, 1, 1, 1, 1, 1, 1, 1, 1, 1, 1, 1] B23) rfl rfl ?_
              refine C.skipQ (y := sub [1, 1] B23) rfl ?_
              refine C.seq (x := sub [1, 1, 0] B23) (y := sub [1, 1, 1] B23) ?_
              refine C.region (id := 14) (m := 1) (ops := opsOf (sub [1, 1, 0] B23)) rfl ?_
              refine W.pure rfl (wo rfl) rfl rfl (p_assign rfl rfl) (nf rfl) ?_
              refine W.doneQ (y := sub [1, 1, 1] B23) rfl ?_
              have hK2 : ((0 : Int), s) = (e, s2) := by rw [← hK]; unfold doK; rw [if_neg k1]; rw [if_neg k2]; rw [if_neg k3]; rw [if_neg k4]; rw [if_neg k5]; rw [if_neg k6]
              obtain ⟨rfl, rfl⟩ := Prod.mk.inj hK2
              exact C.ret (R := fun e' w' => ∃ x' : Dx s, e' = .returned (.int .i64 0) ∧ Cls w0 I' (dX b m x') w') (rs := [.tmp 4]) (vs := [.int .i64 0]) rfl Try.func23 rfl rfl rfl (res_cons (ResV.tmp rfl) res_nil) fun w1 hc1 => ⟨x, rfl, (cls_less he2 hc1).fewer (List.sublist_append_left _ _)⟩

noncomputable def B21 : Code := bodyOf Try.f21
theorem en21 (args : Array Value) (w : World) : (callFunc 21 args).run Try.prog w = .ok (.enter 21 args) w := by kernel_rfl
theorem much_ok {w : World} {M : Mem} (hM : Imm M w) {lv : Value} {l : List Stp} (hr : RowS ShStp M lv l) {most : Nat} (hm0 : most ≤ 1000) : Calls Try.prog 21 #[lv, .int .i64 (most : Int)] w (fun e w' => ∃ r : {r : Bool // r = false → l.length ≤ most}, e = .returned (.bool r.1) ∧ Below w.heap.size w w') := by
  have hr : RowS ShStp (heapOf w) lv l := hr.mono hM
  refine calls_of_CW (N := 35) Try.func21 (show _ = some B21 by kernel_rfl) (by kernel_rfl) rfl (S := [(0, lv), (1, .int .i64 (most : Int))]) (by simp) (clsStart w) ?_
  show CW _ _ _ (sub [] B21) _ _ _
  refine C.seq (x := sub [0] B21) (y := sub [1] B21) ?_
  refine C.region (id := 0) (m := 1) (ops := opsOf (sub [0] B21)) rfl ?_
  refine W.pure rfl (wo rfl) rfl rfl (p_assign rfl rfl) (nf rfl) ?_
  refine W.doneQ (y := sub [1] B21) rfl ?_
  refine C.seq (x := sub [1, 0] B21) (y := sub [1, 1] B21) ?_
  refine C.region (id := 1) (m := 1) (ops := opsOf (sub [1, 0] B21)) rfl ?_
  refine W.pure rfl (wo rfl) rfl rfl (p_assign rfl rfl) (nf rfl) ?_
  refine W.doneQ (y := sub [1, 1] B21) rfl ?_
  refine C.seq (x := sub [1, 1, 0] B21) (y := sub [1, 1, 1] B21) ?_
  refine C.seq (x := sub [1, 1, 0, 0] B21) (y := sub [1, 1, 0, 1] B21) ?_
  refine C.region (id := 2) (m := 1) (ops := opsOf (sub [1, 1, 0, 0] B21)) rfl ?_
  refine W.pure rfl (wo rfl) rfl rfl (p_assign rfl rfl) (nf rfl) ?_
  refine W.doneQ (y := sub [1, 1, 0, 1] B21) rfl ?_
  refine C.loopB (id := 0) (c := sub [1, 1, 0, 1, 0, 0] B21) (y := sub [1, 1, 1] B21) (α := Nat × Int) (fun q => l.length - q.1) (fun q => [(0, lv), (1, .int .i64 (most : Int)), (5, .int .i64 q.2), (6, .int .i64 (q.1 : Int))]) (fun q => []) (fun q => q.1 ≤ l.length) ⟨0, 0⟩ (Nat.zero_le _) (Sub.cons rfl (Sub.cons rfl (Sub.cons rfl (Sub.cons rfl (Sub.nil _))))) rfl rfl (fun q => True) ?_ ?_
  · rintro ⟨j, n⟩ (hj : j ≤ l.length) Q' hN hE hR
    show CW _ _ _ _ _ [(0, lv), (1, .int .i64 (most : Int)), (5, .int .i64 n), (6, .int .i64 (j : Int))] []
    refine C.seq (x := sub [1, 1, 0, 1, 0, 0, 0] B21) (y := sub [1, 1, 0, 1, 0, 0, 1] B21) ?_
    refine C.seq (x := sub [1, 1, 0, 1, 0, 0, 0, 0] B21) (y := sub [1, 1, 0, 1, 0, 0, 0, 1] B21) ?_
    refine C.region (id := 3) (m := 9) (ops := opsOf (sub [1, 1, 0, 1, 0, 0, 0, 0] B21)) rfl ?_
    refine W.pure rfl (wo rfl) rfl rfl (p_move rfl rfl) (nf rfl) ?_
    refine W.pure rfl (wo rfl) rfl rfl (p_move rfl rfl) (nf rfl) ?_
    refine W.pure rfl (wo rfl) rfl rfl (p_slLen tu41 (RowS.sl hr) rfl rfl) (nf rfl) ?_
    by_cases hlt : j < l.length
    · refine W.pure rfl (wo rfl) rfl rfl (pT (decide_eq_true (by omega)) (p_lss rfl rfl rfl)) (nf rfl) ?_
      refine W.pure rfl (wo rfl) rfl rfl (p_move rfl rfl) (nf rfl) ?_
      refine W.pure rfl (wo rfl) rfl rfl (p_move rfl rfl) (nf rfl) ?_
      refine W.pure rfl (wo rfl) rfl rfl (p_move rfl rfl) (nf rfl) ?_
      by_cases hm : j ≤ most
      · refine W.pure rfl (wo rfl) rfl rfl (pT (decide_eq_true (by omega)) (p_leq rfl rfl rfl)) (nf rfl) ?_
        refine W.pure rfl (wo rfl) rfl rfl (p_pick_true rfl rfl rfl) (nf rfl) ?_
        refine W.doneQ (y := sub [1, 1, 0, 1, 0, 0, 0, 1] B21) rfl ?_
        refine C.cond_true (x := sub [1, 1, 0, 1, 0, 0, 0, 1, 0] B21) (y := sub [1, 1, 0, 1, 0, 0, 0, 1, 1] B21) rfl rfl ?_
        refine C.skipQ (y := sub [1, 1, 0, 1, 0, 0, 1] B21) rfl ?_
        refine C.seq (x := sub [1, 1, 0, 1, 0, 0, 1, 0] B21) (y := sub [1, 1, 0, 1, 0, 0, 1, 1] B21) ?_
        refine C.block (id := 1) (c := sub [1, 1, 0, 1, 0, 0, 1, 0, 0] B21) ?_
        refine C.region (id := 5) (m := 10) (ops := opsOf (sub [1, 1, 0, 1, 0, 0, 1, 0, 0] B21)) rfl ?_
        obtain ⟨z, hz⟩ : ∃ z, l[j]? = some z := ⟨_, List.getElem?_eq_getElem hlt⟩
        obtain ⟨pv, hpv, hcs⟩ := stp_at hr hz
        refine W.pure rfl (wo rfl) rfl rfl (p_move rfl rfl) (nf rfl) ?_
        refine W.pure rfl (wo rfl) rfl rfl (p_move rfl rfl) (nf rfl) ?_
        refine W.pure rfl (wo rfl) rfl rfl (p_move rfl rfl) (nf rfl) ?_
        refine W.pure rfl (wo rfl) rfl rfl (p_ixS hr hlt tu41 ts46 rfl rfl rfl) (nf rfl) ?_
        refine W.pure rfl (wo rfl) rfl rfl (p_fieldEl (row_plain hr hlt) tf46_4 rfl rfl) (nf rfl) ?_
        refine W.imm rfl (wo rfl) rfl rfl (i_ldPk hz hcs ta22 rfl rfl) (nf rfl) ?_
        refine W.pure rfl (wo rfl) rfl rfl (p_slLen tu22 (row_sl hpv) rfl rfl) (nf rfl) ?_
        refine W.pure rfl (wo rfl) rfl rfl (p_min2 rfl rfl rfl) (nf rfl) ?_
        refine W.pure rfl (wo rfl) rfl rfl (p_add rfl rfl rfl) (nf rfl) ?_
        refine W.pure rfl (wo rfl) rfl rfl (p_assign rfl rfl) (nf rfl) ?_
        refine W.doneQ (y := sub [1, 1, 0, 1, 0, 0, 1, 1] B21) rfl ?_
        refine C.region (id := 4) (m := 3) (ops := opsOf (sub [1, 1, 0, 1, 0, 0, 1, 1] B21)) rfl ?_
        refine W.pure rfl (wo rfl) rfl rfl (p_move rfl rfl) (nf rfl) ?_
        refine W.pure rfl (wo rfl) rfl rfl (pI (wk (by omega)) (p_add rfl rfl rfl)) (nf rfl) ?_
        refine W.pure rfl (wo rfl) rfl rfl (p_assign rfl rfl) (nf rfl) ?_
        refine W.end' fun a1 w1 ha1 hc1 => hN ⟨j + 1, _⟩ (show j + 1 ≤ l.length by omega) (show l.length - (j + 1) < l.length - j by omega) a1 w1 (ha1.sub (Sub.cons rfl (Sub.cons rfl (Sub.cons rfl (Sub.cons rfl (Sub.nil _)))))) hc1
      · refine W.pure rfl (wo rfl) rfl rfl (pF (decide_eq_false (by omega)) (p_leq rfl rfl rfl)) (nf rfl) ?_
        refine W.pure rfl (wo rfl) rfl rfl (p_pick_true rfl rfl rfl) (nf rfl) ?_
        refine W.doneQ (y := sub [1, 1, 0, 1, 0, 0, 0, 1] B21) rfl ?_
        refine C.cond_false (x := sub [1, 1, 0, 1, 0, 0, 0, 1, 0] B21) (y := sub [1, 1, 0, 1, 0, 0, 0, 1, 1] B21) rfl rfl ?_
        exact C.exit fun a1 w1 ha1 hc1 => hE trivial a1 w1 (ha1.sub (Sub.cons rfl (Sub.cons rfl (Sub.cons rfl (Sub.cons rfl (Sub.nil _)))))) hc1
    · refine W.pure rfl (wo rfl) rfl rfl (pF (decide_eq_false (by omega)) (p_lss rfl rfl rfl)) (nf rfl) ?_
      refine W.pure rfl (wo rfl) rfl rfl (p_move rfl rfl) (nf rfl) ?_
      refine W.not rfl (wo rfl) rfl rfl ?_
      refine W.not rfl (wo rfl) rfl rfl ?_
      refine W.not rfl (wo rfl) rfl rfl ?_
      refine W.pure rfl (wo rfl) rfl rfl (p_pick_false rfl rfl rfl) (nf rfl) ?_
      refine W.doneQ (y := sub [1, 1, 0, 1, 0, 0, 0, 1] B21) rfl ?_
      refine C.cond_false (x := sub [1, 1, 0, 1, 0, 0, 0, 1, 0] B21) (y := sub [1, 1, 0, 1, 0, 0, 0, 1, 1] B21) rfl rfl ?_
      exact C.exit fun a1 w1 ha1 hc1 => hE trivial a1 w1 (ha1.sub (Sub.cons rfl (Sub.cons rfl (Sub.cons rfl (Sub.cons rfl (Sub.nil _)))))) hc1
  rintro ⟨j, n⟩ (hj : j ≤ l.length) _
  show CW _ _ _ _ _ [(0, lv), (1, .int .i64 (most : Int)), (5, .int .i64 n), (6, .int .i64 (j : Int))] []
  refine C.seq (x := sub [1, 1, 1, 0] B21) (y := sub [1, 1, 1, 1] B21) ?_
  refine C.region (id := 6) (m := 9) (ops := opsOf (sub [1, 1, 1, 0] B21)) rfl ?_
  refine W.pure rfl (wo rfl) rfl rfl (p_move rfl rfl) (nf rfl) ?_
  refine W.pure rfl (wo rfl) rfl rfl (p_slLen tu41 (RowS.sl hr) rfl rfl) (nf rfl) ?_
  refine W.pure rfl (wo rfl) rfl rfl (p_move rfl rfl) (nf rfl) ?_
  by_cases h1 : most < l.length
  · refine W.pure rfl (wo rfl) rfl rfl (pT (decide_eq_true (by omega)) (p_gtr rfl rfl rfl)) (nf rfl) ?_
    refine W.pure rfl (wo rfl) rfl rfl (p_move rfl rfl) (nf rfl) ?_
    refine W.not rfl (wo rfl) rfl rfl ?_
    refine W.not rfl (wo rfl) rfl rfl ?_
    refine W.pure rfl (wo rfl) rfl rfl (p_pick_true rfl rfl rfl) (nf rfl) ?_
    refine W.pure rfl (wo rfl) rfl rfl (p_assign rfl rfl) (nf rfl) ?_
    refine W.doneQ (y := sub [1, 1, 1, 1] B21) rfl ?_
    exact C.ret (R := fun e w' => ∃ r : {r : Bool // r = false → l.length ≤ most}, e = .returned (.bool r.1) ∧ Below w.heap.size w w') (rs := [.tmp 4]) (vs := [.bool true]) rfl Try.func21 rfl rfl rfl (res_cons (ResV.tmp rfl) res_nil) fun w1 hc1 => ⟨⟨_, fun h => by cases h⟩, rfl, hc1.toBelow⟩
  · refine W.pure rfl (wo rfl) rfl rfl (pF (decide_eq_false (by omega)) (p_gtr rfl rfl rfl)) (nf rfl) ?_
    refine W.pure rfl (wo rfl) rfl rfl (p_move rfl rfl) (nf rfl) ?_
    refine W.pure rfl (wo rfl) rfl rfl (p_move rfl rfl) (nf rfl) ?_
    refine W.pure rfl (wo rfl) rfl rfl (p_gtr rfl rfl rfl) (nf rfl) ?_
    refine W.pure rfl (wo rfl) rfl rfl (p_pick_false rfl rfl rfl) (nf rfl) ?_
    refine W.pure rfl (wo rfl) rfl rfl (p_assign rfl rfl) (nf rfl) ?_
    refine W.doneQ (y := sub [1, 1, 1, 1] B21) rfl ?_
    exact C.ret (R := fun e w' => ∃ r : {r : Bool // r = false → l.length ≤ most}, e = .returned (.bool r.1) ∧ Below w.heap.size w w') (rs := [.tmp 4]) (vs := [.bool _]) rfl Try.func21 rfl rfl rfl (res_cons (ResV.tmp rfl) res_nil) fun w1 hc1 => ⟨⟨_, fun _ => by omega⟩, rfl, hc1.toBelow⟩

end Go.Proofs.Ytjomnicfcdkfdaa
end

section
namespace Go.Proofs.Ytjomnicfcdkfdaa
open Go Go.HW Go.RowKit
set_option linter.unusedVariables false
set_option linter.unusedSimpArgs false
theorem W.heapIs {N : Nat} {S : Slots} {w0 : World} {I : Mem} {H H2 : Heap} {Q : Exit → Act → World → Prop} {ops : Array Oper} {l : List Nat} (hH : H = H2) (h : WW N w0 I ops l Q S H2) : WW N w0 I ops l Q S H := by subst hH; exact h
section
variable {N : Nat} {S : Slots} {w0 : World} {I : Mem} {H : Heap} {Q : Exit → Act → World → Prop} {ops : Array Oper} {l : List Nat} {i d : Nat} {o : Oper} {v : Value} {X : Type} {u : X → Value} {cl : Call} {fo : Operand} {g : FuncId} {args : Array Value}
theorem W.cq (hi : ops[i]? = some o) (hw : Wn ops S o true) (hd : o.dst = some d) (hN : Nat.blt d N = true) (hc : ∀ w, Cls w0 I H w → Calls Try.prog g args w fun e w' => ∃ x, e = .returned (u x) ∧ Below w.heap.size w w') (hbody : ∀ w, (callFunc g args).run Try.prog w = .ok (.enter g args) w) (ho : o.op = .call cl) (hcal : cl.callee = .value fo) (hf : ev S fo = some (.func (.func g) #[] #[])) (hargs : ∀ ρ, Val S ρ → cl.args.map ρ = args)
    (h : ∀ x, WW N w0 I ops l Q ((d, u x) :: S) H) : WW N w0 I ops (i :: l) Q S H :=
  W.callX (H' := fun _ => H) hi hw hd hN ho hcal hf hargs hbody (fun w hcl => (hc w hcl).mono fun e w' ⟨x, h1, h2⟩ => ⟨x, h1, hcl.below h2⟩) h
end
theorem hasD_in {s : Dk} {n : Int} (h0 : 0 ≤ n) (h1 : n < s.n) : hasD s n = true := by unfold hasD; exact decide_eq_true ⟨h0, h1⟩
theorem pairE {α β : Type} (p : α × β) : p = (p.1, p.2) := rfl
end Go.Proofs.Ytjomnicfcdkfdaa
end

section
namespace Go.Proofs.Ytjomnicfcdkfdaa
open Go Go.HW Go.RowKit
set_option linter.unusedVariables false
set_option linter.unusedSimpArgs false

/-! ### bytes stay bytes; a change and its undoing -/
def Byt (b : List Int) : Prop := ∀ x ∈ b, 0 ≤ x ∧ x ≤ 255
def BytL (l : List Wr) : Prop := ∀ p ∈ l, Byt p.2
structure BD (s : Dk) : Prop where
  set : BytL s.set
  late : BytL s.late
end Go.Proofs.Ytjomnicfcdkfdaa
end

section
namespace Go.Proofs.Ytjomnicfcdkfdaa
open Go Go.HW Go.RowKit
set_option linter.unusedVariables false
set_option linter.unusedSimpArgs false

/-! ### guarded operations in a region that draws its order; more rules -/
section
variable {N : Nat} {S : Slots} {w0 w1 : World} {I : Mem} {H : Heap} {Q : Exit → Act → World → Prop} {Qn : Act → Heap → Prop} {ops : Array Oper} {lab : Lab} {ids : Nat → Option Nat} {l : List Nat} {i d : Nat} {o : Oper} {v : Value} {X : Type} {u : X → Value} {cl : Call} {fo : Operand} {g : FuncId} {args : Array Value}
theorem DV.imm (hi : ops[i]? = some o) (hw : Wn ops S o true) (hd : o.dst = some d) (hN : Nat.blt d N = true) (hk : (lab i).1 = .pure) (hp : FImm Try.prog o I S v) (h : DD N w0 I ops lab ids Qn l ((d, v) :: S) H) : DD N w0 I ops lab ids Qn (i :: l) S H := fun a ha => by
  show stepD Try.prog ops w0 I lab ids i _ a H
  unfold stepD
  rw [hi]
  intro _
  exact ⟨.val v, .inl ⟨hw N a ha, .inl ⟨hk, hp _ ha.val⟩⟩, by show listD _ _ _ _ _ _ _ _ _ _; rw [hd]; exact h _ (ha.put (by simpa [Nat.blt_eq] using hN) v)⟩
theorem DV.pure (hi : ops[i]? = some o) (hw : Wn ops S o true) (hd : o.dst = some d) (hN : Nat.blt d N = true) (hk : (lab i).1 = .pure) (hp : FPure Try.prog o S v) (h : DD N w0 I ops lab ids Qn l ((d, v) :: S) H) : DD N w0 I ops lab ids Qn (i :: l) S H :=
  DV.imm hi hw hd hN hk (fun ρ hρ w _ => hp ρ hρ w) h
theorem DV.quiet (hi : ops[i]? = some o) (hw : Wn ops S o true) (hd : o.dst = some d) (hN : Nat.blt d N = true) (hk : (lab i).1 = .quiet) (hp : FQuiet Try.prog o w0 I S H v) (h : DD N w0 I ops lab ids Qn l ((d, v) :: S) H) : DD N w0 I ops lab ids Qn (i :: l) S H := fun a ha => by
  show stepD Try.prog ops w0 I lab ids i _ a H
  unfold stepD
  rw [hi]
  intro _
  exact ⟨.val v, .inl ⟨hw N a ha, .inr (.inl ⟨hk, fun w hc => hp _ ha.val w hc⟩)⟩, by show listD _ _ _ _ _ _ _ _ _ _; rw [hd]; exact h _ (ha.put (by simpa [Nat.blt_eq] using hN) v)⟩
theorem DV.not (hi : ops[i]? = some o) (hw : Wn ops S o false) (hd : o.dst = some d) (hN : Nat.blt d N = true) (h : DD N w0 I ops lab ids Qn l ((d, undef) :: S) H) : DD N w0 I ops lab ids Qn (i :: l) S H := fun a ha => by
  show stepD Try.prog ops w0 I lab ids i _ a H
  unfold stepD
  rw [hi]
  intro _
  exact ⟨.val undef, .inr ⟨hw N a ha, rfl⟩, by show listD _ _ _ _ _ _ _ _ _ _; rw [hd]; exact h _ (ha.put (by simpa [Nat.blt_eq] using hN) undef)⟩
theorem DV.keep {H' : X → Heap} (hkeep : ∀ x p, p ∈ H → p ∈ H' x) (hi : ops[i]? = some o) (hw : Wn ops S o true) (hd : o.dst = some d) (hN : Nat.blt d N = true) (hk : (lab i).1 = .keep) (hp : FAct Try.prog o w0 I S H X u H')
    (h : ∀ x, DD N w0 I ops lab ids Qn l ((d, u x) :: S) (H' x)) : DD N w0 I ops lab ids Qn (i :: l) S H := fun a ha => by
  show stepD Try.prog ops w0 I lab ids i _ a H
  unfold stepD
  rw [hi]
  intro _
  exact ⟨.act X u H', .inl ⟨hw N a ha, .inr (.inr (.inl ⟨hk, hkeep⟩)), fun w hc => hp _ ha.val w hc⟩, fun x => by show listD _ _ _ _ _ _ _ _ _ _; rw [hd]; exact h x _ (ha.put (by simpa [Nat.blt_eq] using hN) (u x))⟩
theorem DV.c01k {E' : X → Heap} (hi : ops[i]? = some o) (hw : Wn ops S o true) (hd : o.dst = some d) (hN : Nat.blt d N = true) (hk : (lab i).1 = .keep) (hc : Turn I g args [] u E') (hbody : ∀ w, (callFunc g args).run Try.prog w = .ok (.enter g args) w) (ho : o.op = .call cl) (hcal : cl.callee = .value fo) (hf : ev S fo = some (.func (.func g) #[] #[])) (hargs : ∀ ρ, Val S ρ → cl.args.map ρ = args)
    (h : ∀ x, DD N w0 I ops lab ids Qn l ((d, u x) :: S) (E' x ++ H)) : DD N w0 I ops lab ids Qn (i :: l) S H :=
  DV.keep (fun x p hp => List.mem_append_right _ hp) hi hw hd hN hk (f_callX ho hcal hf hargs hbody (fun w hcl => hc.at w0 w hcl)) h
theorem C.exitQ {id : Nat} {y : Code} {Q2 : Exit → Act → World → Prop} (hQ : Q (.exit id) = y.wpIn Fence.wide 3 Try.prog Q2) (h : CW N w0 I y Q2 S H) : CW N w0 I (.exit id) Q S H := fun a w ha hc => wpIn_exit (by rw [hQ]; exact h a w ha hc)
end

/-! ### what is read is what was written last -/
def ltS (nb : Int) (ws : List Wr) : Dk := { newK nb with late := ws }
structure LtJ (nb : Int) (ws : List Wr) (now : List Int) : Prop where
  len : now.length = 40
  rd : ∀ i : Nat, (i : Int) < nb → rd (ltS nb ws) i = fillL (now.getD i 0)
end Go.Proofs.Ytjomnicfcdkfdaa
end

section
namespace Go.Proofs.Ytjomnicfcdkfdaa
open Go Go.HW Go.RowKit
set_option linter.unusedVariables false
set_option linter.unusedSimpArgs false

/-! ### the document's disk: rows of bytes, each its own -/
structure Rk where
  B : List (List Int)
  L : List Wr
  fuse : Int
  dead : Bool
abbrev Rw := Value × Array Value × List Int
def rwE (r : Rw) : Option Nat × Obj := (r.1.ownBlock, .cells r.2.1 5 (0, 0))
structure Rg where
  vB : Value
  cB : Array Value
  vL : Value
  cL : Array Value
  Bs : List Rw
  Ls : List (Int × Rw)
def rwOk (r : Rw) : Prop := IntOwn .u8 r.1 r.2.1 r.2.2 ∧ r.2.2.length = 512
def lcells (l : List (Int × Rw)) : List Value := l.flatMap fun p => [.int .i64 p.1, p.2.1]
def rk0 (b : Nat) (g : Rg) (s : Rk) : Option Nat × Obj := (some b, .cells #[g.vB, g.vL, .int .i64 s.fuse, .bool s.dead] 73 (0, 0))
def rkT (g : Rg) : Heap := g.Bs.map rwE ++ g.Ls.map fun p => rwE p.2
def rkH (b : Nat) (g : Rg) (s : Rk) : Heap := rk0 b g s :: (g.vB.ownBlock, .cells g.cB 32 (0, 0)) :: (g.vL.ownBlock, .cells g.cL 80 (0, 0)) :: rkT g
structure RkO (g : Rg) (s : Rk) : Prop where
  hB : OwnV g.vB g.cB 1 g.Bs.length (g.Bs.map (·.1))
  hL : OwnV g.vL g.cL 2 g.Ls.length (lcells g.Ls)
  rB : ∀ r ∈ g.Bs, rwOk r
  rL : ∀ p ∈ g.Ls, rwOk p.2
  sB : s.B = g.Bs.map (·.2.2)
  sL : s.L = g.Ls.map fun p => (p.1, p.2.2.2)
  ok : ∀ p ∈ g.Ls, 0 ≤ p.1 ∧ p.1 < (g.Bs.length : Int)
abbrev Rx (s : Rk) := {g : Rg // RkO g s}
abbrev rX (b : Nat) {s : Rk} (x : Rx s) : Heap := rkH b x.1 s
theorem rk_B {b n : Nat} {g : Rg} {s : Rk} {r : Rw} (h : g.Bs[n]? = some r) : (rkH b g s)[n + 3]? = some (rwE r) := by
  show (rkT g)[n]? = _
  unfold rkT
  rw [List.getElem?_append_left (by rw [List.length_map]; exact (List.getElem?_eq_some_iff.1 h).1), List.getElem?_map, h]; rfl
theorem rk_L {b i : Nat} {g : Rg} {s : Rk} {p : Int × Rw} (h : g.Ls[i]? = some p) : (rkH b g s)[g.Bs.length + i + 3]? = some (rwE p.2) := by
  show (rkT g)[g.Bs.length + i]? = _
  unfold rkT
  rw [List.getElem?_append_right (by simp), List.length_map, Nat.add_sub_cancel_left, List.getElem?_map, h]; rfl
theorem mem_B {b : Nat} {g : Rg} {s : Rk} {r : Rw} (h : r ∈ g.Bs) : rwE r ∈ rkH b g s :=
  List.mem_cons_of_mem _ (List.mem_cons_of_mem _ (List.mem_cons_of_mem _ (List.mem_append_left _ (List.mem_map_of_mem h))))
theorem mem_L {b : Nat} {g : Rg} {s : Rk} {p : Int × Rw} (h : p ∈ g.Ls) : rwE p.2 ∈ rkH b g s :=
  List.mem_cons_of_mem _ (List.mem_cons_of_mem _ (List.mem_cons_of_mem _ (List.mem_append_right _ (List.mem_map.2 ⟨p, h, rfl⟩))))
theorem lcells_cons (p : Int × Rw) (l : List (Int × Rw)) : lcells (p :: l) = .int .i64 p.1 :: p.2.1 :: lcells l := rfl
theorem lcells_0 : ∀ {l : List (Int × Rw)} {i : Nat} {p : Int × Rw}, l[i]? = some p → (lcells l)[i * 2]? = some (.int .i64 p.1) ∧ (lcells l)[i * 2 + 1]? = some p.2.1
  | q :: l, 0, p, h => by simp at h; subst h; exact ⟨rfl, rfl⟩
  | q :: l, i + 1, p, h => by
    have := lcells_0 (l := l) (i := i) (by simpa using h)
    rw [lcells_cons, show (i + 1) * 2 = i * 2 + 1 + 1 by omega]
    simpa using this
  | [], i, p, h => by simp at h
theorem lcells_app (l : List (Int × Rw)) (p : Int × Rw) : lcells (l ++ [p]) = lcells l ++ [.int .i64 p.1, p.2.1] := by simp [lcells]
theorem lcells_set {l : List (Int × Rw)} {i : Nat} {p : Int × Rw} {r : Rw} (h : l[i]? = some p) (hv : r.1 = p.2.1) : lcells (l.set i (p.1, r)) = lcells l := by
  have e : l.set i (p.1, (p.2.1, r.2)) = l.set i (p.1, r) := by obtain ⟨v, c, xs⟩ := r; simp only at hv; subst hv; rfl
  induction l generalizing i with
  | nil => rfl
  | cons q l ih =>
    cases i with
    | zero =>
      simp at h; subst h
      rw [List.set_cons_zero, lcells_cons, lcells_cons, hv]
    | succ i =>
      rw [List.set_cons_succ, lcells_cons, lcells_cons, ih (by simpa using h)]
      rw [List.set_cons_succ, List.set_cons_succ] at e
      exact List.tail_eq_of_cons_eq e
/-- a row is put in another's place -/
theorem set_rows {b n : Nat} {g : Rg} {s : Rk} {r r' : Rw} (h : g.Bs[n]? = some r) (cB : Array Value) (s' : Rk) (hs : s'.fuse = s.fuse ∧ s'.dead = s.dead) :
    (rwE r' :: (rkH b g s).set 1 (g.vB.ownBlock, .cells cB 32 (0, 0))).Perm (rwE r :: rkH b { g with cB := cB, Bs := g.Bs.set n r' } s') := by
  have e0 : rk0 b { g with cB := cB, Bs := g.Bs.set n r' } s' = rk0 b g s := by unfold rk0; rw [hs.1, hs.2]
  have hn := (List.getElem?_eq_some_iff.1 h).1
  have key : (rwE r' :: g.Bs.map rwE).Perm (rwE r :: (g.Bs.set n r').map rwE) := by
    have e1 : g.Bs = g.Bs.take n ++ r :: g.Bs.drop (n + 1) := by
      have e2 := (List.getElem?_eq_some_iff.1 h).2
      rw [← e2, ← List.drop_eq_getElem_cons hn, List.take_append_drop]
    have e3 : g.Bs.set n r' = g.Bs.take n ++ r' :: g.Bs.drop (n + 1) := List.set_eq_take_append_cons_drop.trans (if_pos hn)
    rw [e3]
    conv => lhs; rw [e1]
    simp only [List.map_append, List.map_cons]
    refine ((List.perm_middle (l₁ := g.Bs.take n |>.map rwE)).cons _).trans ?_
    refine (List.Perm.swap _ _ _).trans ?_
    exact ((List.perm_middle (l₁ := g.Bs.take n |>.map rwE)).symm).cons _
  show (rwE r' :: rk0 b g s :: _ :: _ :: rkT g).Perm (rwE r :: rk0 b { g with cB := cB, Bs := g.Bs.set n r' } s' :: _)
  rw [e0]
  have k2 : (rwE r' :: rkT g).Perm (rwE r :: rkT { g with cB := cB, Bs := g.Bs.set n r' }) := by
    unfold rkT
    exact List.Perm.append_right _ key
  have mv : ∀ (x a b c : Option Nat × Obj) (t : Heap), (x :: a :: b :: c :: t).Perm (a :: b :: c :: x :: t) := fun x a b c t => by
    refine (List.Perm.swap _ _ _).trans (List.Perm.cons _ ?_)
    refine (List.Perm.swap _ _ _).trans (List.Perm.cons _ ?_)
    exact List.Perm.swap _ _ _
  exact (mv _ _ _ _ _).trans (((((k2.cons _).cons _).cons _)).trans (mv _ _ _ _ _).symm)
end Go.Proofs.Ytjomnicfcdkfdaa
end

section
namespace Go.Proofs.Ytjomnicfcdkfdaa
open Go Go.HW Go.RowKit
set_option linter.unusedVariables false
set_option linter.unusedSimpArgs false
theorem ta70 (w : World) : (isAgg 70).run Try.prog w = .ok false w := by kernel_rfl
theorem ta71 (w : World) : (isAgg 71).run Try.prog w = .ok false w := by kernel_rfl
theorem ta32 (w : World) : (isAgg 32).run Try.prog w = .ok false w := by kernel_rfl
theorem ta80 (w : World) : (isAgg 80).run Try.prog w = .ok true w := by kernel_rfl
theorem ts70 (w : World) : (sizeOf 70).run Try.prog w = .ok 1 w := by kernel_rfl
theorem ts71 (w : World) : (sizeOf 71).run Try.prog w = .ok 1 w := by kernel_rfl
theorem ts32 (w : World) : (sizeOf 32).run Try.prog w = .ok 1 w := by kernel_rfl
theorem ts80 (w : World) : (sizeOf 80).run Try.prog w = .ok 2 w := by kernel_rfl
theorem tu70 (w : World) : (underlying 70).run Try.prog w = .ok (.slice 32) w := by kernel_rfl
theorem tu71 (w : World) : (underlying 71).run Try.prog w = .ok (.slice 80) w := by kernel_rfl
theorem tf73_0 (a : Addr) (w : World) : (Instr.fieldAt 73 (.pointer (some a)) 0).run Try.prog w = .ok (.pointer (some (a.add 0))) w := by kernel_rfl
theorem tf73_1 (a : Addr) (w : World) : (Instr.fieldAt 73 (.pointer (some a)) 1).run Try.prog w = .ok (.pointer (some (a.add 1))) w := by kernel_rfl
theorem tf73_2 (a : Addr) (w : World) : (Instr.fieldAt 73 (.pointer (some a)) 2).run Try.prog w = .ok (.pointer (some (a.add 2))) w := by kernel_rfl
theorem tf73_3 (a : Addr) (w : World) : (Instr.fieldAt 73 (.pointer (some a)) 3).run Try.prog w = .ok (.pointer (some (a.add 3))) w := by kernel_rfl
theorem tf80_0 (a : Addr) (w : World) : (Instr.fieldAt 80 (.pointer (some a)) 0).run Try.prog w = .ok (.pointer (some (a.add 0))) w := by kernel_rfl
theorem tf80_1 (a : Addr) (w : World) : (Instr.fieldAt 80 (.pointer (some a)) 1).run Try.prog w = .ok (.pointer (some (a.add 1))) w := by kernel_rfl
theorem elem70 : Elem Try.prog 70 32 1 24 (.slice none 0 0) := Elem.of (by kernel_rfl) (by kernel_rfl) rfl (by decide)
theorem elem71 : Elem Try.prog 71 80 2 32 (.agg #[.int .i64 0, .slice none 0 0]) := Elem.of (by kernel_rfl) (by kernel_rfl) rfl (by decide)
section
variable {N : Nat} {S : Slots} {w0 w1 : World} {I : Mem} {H : Heap} {Q : Exit → Act → World → Prop} {Qn : Act → Heap → Prop} {ops : Array Oper} {lab : Lab} {ids : Nat → Option Nat} {l : List Nat} {i d : Nat} {o : Oper} {v : Value}
theorem p_ixV {cur : Array Value} {sz n : Nat} {cs : List Value} (h : OwnV v cur sz n cs) {j : Nat} (hj : j < n) {T e : Nat} {x z : Operand} {kk : IntKind} (hu : ∀ w, (underlying T).run Try.prog w = .ok (.slice e) w) (hs : ∀ w, (sizeOf e).run Try.prog w = .ok sz w) (ho : o.op = .indexAddr T x z) (hx : ev S x = some v) (hy : ev S z = some (.int kk (j : Int))) : FPure Try.prog o S (elp v (j * sz)) := by
  have := p_slIx (P := Try.prog) hu hs (OwnV.some h (i := (j : Int)) (by omega) (by omega)) (by omega) (by omega) ho hx hy
  simpa using this
theorem p_ixVI {cur : Array Value} {sz n : Nat} {cs : List Value} (h : OwnV v cur sz n cs) {j : Int} (h0 : 0 ≤ j) (hj : j < (n : Int)) {T e : Nat} {x z : Operand} {kk : IntKind} (hu : ∀ w, (underlying T).run Try.prog w = .ok (.slice e) w) (hs : ∀ w, (sizeOf e).run Try.prog w = .ok sz w) (ho : o.op = .indexAddr T x z) (hx : ev S x = some v) (hy : ev S z = some (.int kk j)) : FPure Try.prog o S (elp v (j.toNat * sz)) :=
  p_slIx (P := Try.prog) hu hs (OwnV.some h h0 hj) h0 hj ho hx hy
theorem own_plain {cur : Array Value} {sz n : Nat} {cs : List Value} (h : OwnV v cur sz n cs) {j : Nat} (hj : j < n) : ∃ b off m c, v = .slice (some ⟨b, off, none⟩) m c := by
  rcases h.2 with ⟨_, h2⟩ | ⟨g, cap, h2, _⟩
  · omega
  · exact ⟨g, 0, _, cap, h2⟩
theorem own_len {cur : Array Value} {sz n : Nat} {cs : List Value} (h : OwnV v cur sz n cs) : ∃ a c, v = .slice a n c := h.slice
/-- a new copy of a row: an append to nothing -/
theorem f_app0 {x y : Operand} {u : Value} {xs : List Int} (hb : xs.length ≤ 1099511627776) (hu : ∀ w, Cls w0 I H w → HW.Src w u xs.length 1 (encl .u8 xs)) (ho : o.op = .call { callee := .builtin .append, args := #[x, y], argTypes := #[32, 32] }) (hx : ev S x = some (.slice none 0 0)) (hy : ev S y = some u) :
    FAct Try.prog o w0 I S H {z : Value × Array Value // IntOwn .u8 z.1 z.2 xs} (fun z => z.1.1) (fun z => (z.1.1.ownBlock, .cells z.1.2 5 (0, 0)) :: H) := fun ρ hρ w hc => by
  have := f_appendInt (P := Try.prog) (w0 := w0) (I := I) (S := S) (H := (none, .cells #[] 5 (0, 0)) :: H) (j := 0) (v := .slice none 0 0) (cur := #[]) (xs := []) (ys := xs) (u := u) elem32 rfl (IntOwn.nil .u8) (by simpa using hb) (by decide) (fun w hc => hu w hc.tail) ho hx hy
  exact this ρ hρ w (cls_addNil hc)
theorem rw_src {r : Rw} (h : rwOk r) (hm : rwE r ∈ H) {w : World} (hc : Cls w0 I H w) : HW.Src w r.1 r.2.2.length 1 (encl .u8 r.2.2) := OwnV.src h.1 hc hm (encl_one .u8 r.2.2)
/-- a store into the disk itself -/
theorem f_st0 {b k : Nat} {c : Array Value} {T : Heap} {t : TypeId} {x y : Operand} {u : Value} (hs : ∀ w, (sizeOf t).run Try.prog w = .ok 1 w) (hn : u.cells = #[u]) (h1 : OneCell u) (hk : k < c.size) (ho : o.op = .store t x y) (hx : ev S x = some (ptr b k)) (hy : ev S y = some u) : FPut Try.prog o w0 I S ((some b, .cells c 73 (0, 0)) :: T) ((some b, .cells (c.setIfInBounds k u) 73 (0, 0)) :: T) :=
  f_store (j := 0) hs rfl hn hk h1 ho hx hy
end
/-! #### what it computes -/
def hasL (n : Nat) (i : Int) : Bool := decide (0 ≤ i ∧ i < (n : Int))
def rstepK (s : Rk) : Int × Rk := if s.dead = true then (14, s) else if s.fuse = 0 then (17, { s with dead := true }) else if 0 < s.fuse then (0, { s with fuse := IntKind.i64.wrap (s.fuse - 1) }) else (0, s)
def rwriteK (s : Rk) (n : Int) (xs : List Int) : Int × Rk := if hasL s.B.length n = false then (2, s) else if ¬ xs.length = 512 then (2, s) else if (rstepK s).1 = 14 then rstepK s else ((rstepK s).1, { (rstepK s).2 with L := (rstepK s).2.L ++ [(n, xs)] })
def rsetB (s : Rk) (k : Nat) : List (List Int) := (s.L.take k).foldl (fun B w => B.set w.1.toNat w.2) s.B
def rsyncK (s : Rk) : Int × Rk := if (rstepK s).1 = 0 then (0, { (rstepK s).2 with B := rsetB (rstepK s).2 (rstepK s).2.L.length, L := [] }) else rstepK s
def rfuseK (s : Rk) (n : Int) : Int × Rk := if n < 0 then (2, s) else (0, { s with fuse := n })
def divQ (n b : Int) : Int := if n < 0 ∧ ¬ n.tmod b = 0 then IntKind.i64.wrap (IntKind.i64.wrap (n.tdiv b) - 1) else IntKind.i64.wrap (n.tdiv b)
def divR (n b : Int) : Int := if n.tmod b < 0 then IntKind.i64.wrap (n.tmod b + b) else n.tmod b
def rtear (p : Int) (last : Bool) : Int := if divR p 3 = 2 ∧ last = true then divR (divQ p 3) 513 else 512
def rcrB (s : Rk) (picks : List Int) : Nat → List (List Int)
  | 0 => s.B
  | k + 1 => match s.L[k]? with
    | none => rcrB s picks k
    | some w => if divR (picks.getD k 0) 3 = 0 then rcrB s picks k else (rcrB s picks k).set w.1.toNat (w.2.take (rtear (picks.getD k 0) (decide (k + 1 = s.L.length))).toNat ++ ((rcrB s picks k).getD w.1.toNat []).drop (rtear (picks.getD k 0) (decide (k + 1 = s.L.length))).toNat)
def rcrashK (s : Rk) (picks : List Int) : Rk := ⟨rcrB s picks s.L.length, [], -1, false⟩
def reditK (s : Rk) (n at_ x : Int) : Int × Rk := if hasL s.B.length n = false then (2, s) else if at_ < 0 then (2, s) else if 512 ≤ at_ then (2, s) else (0, { s with B := s.B.set n.toNat (xorAt (s.B.getD n.toNat []) at_ x), L := s.L.map (edW n at_ x) })
def rnewK (n : Nat) : Rk := ⟨List.replicate n zeros, [], -1, false⟩
end Go.Proofs.Ytjomnicfcdkfdaa
end
