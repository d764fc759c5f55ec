import Derived.Test.YtjomnicfcdkfdaaDkL3
namespace Go.Proofs.Ytjomnicfcdkfdaa
open Go Go.HW Go.RowKit
set_option linter.unusedVariables false
set_option linter.unusedSimpArgs false

/-! ### steps -/
structure Stp where
  kind : Int
  n : Int
  m : Int
  fill : Int
  picks : List Int
def stc (z : Stp) (pv : Value) : List Value := [.int .i64 z.kind, .int .i64 z.n, .int .i64 z.m, .int .u8 z.fill, pv]
def ShStp : Shape Stp where
  n := 5
  pos := by decide
  rep := fun M l z => ∃ pv, l = stc z pv ∧ IntRow M .i64 pv z.picks
  len := fun ⟨pv, h, _⟩ => by subst h; rfl
  one := fun ⟨pv, h, h2⟩ v hv => by
    subst h
    simp only [stc, List.mem_cons, List.not_mem_nil, or_false] at hv
    rcases hv with rfl | rfl | rfl | rfl | rfl
    · rfl
    · rfl
    · rfl
    · rfl
    · exact RowV.one h2
  mono := fun he ⟨pv, h, h2⟩ => ⟨pv, h, h2.mono he⟩
def blkN (m : Int) : Nat := (max 0 (min m 2000)).toNat
theorem blkN_eq (m : Int) : (if 0 < (if 2000 < m then 2000 else m) then (if 2000 < m then 2000 else m) else 0) = ((blkN m : Nat) : Int) := by
  unfold blkN; split <;> split <;> omega
theorem blkN_le (m : Int) : blkN m ≤ 2000 := by unfold blkN; omega
def doK (s : Dk) (z : Stp) : Int × Dk :=
  if z.kind = 1 then writeK s z.n (blockL z.fill 512)
  else if z.kind = 2 then syncK s
  else if z.kind = 3 then setFuseK s z.n
  else if z.kind = 4 then (0, crashK s z.picks)
  else if z.kind = 5 then editK s z.n z.m z.fill
  else if z.kind = 6 then writeK s z.n (blockL z.fill (blkN z.m))
  else (0, s)
theorem writeK_late (s : Dk) (n : Int) (xs : List Int) : (writeK s n xs).2.late.length ≤ s.late.length + 1 := by
  unfold writeK
  by_cases h : hasD s n = false
  · rw [if_pos h]; simp
  · rw [if_neg h]
    by_cases h2 : ¬ xs.length = 512
    · rw [if_pos h2]; simp
    · rw [if_neg h2]
      by_cases h3 : (stepK s).1 = 14
      · rw [if_pos h3]; simp [stepK_late']
      · rw [if_neg h3]; simp [stepK_late']
theorem syncK_late (s : Dk) : (syncK s).2.late.length ≤ s.late.length := by
  unfold syncK
  by_cases h : (stepK s).1 = 0
  · rw [if_pos h]; simp
  · rw [if_neg h, stepK_late']; exact Nat.le_refl _
theorem setFuseK_late (s : Dk) (n : Int) : (setFuseK s n).2.late = s.late := by
  unfold setFuseK
  by_cases h : n < 0
  · rw [if_pos h]
  · rw [if_neg h]
theorem editK_late (s : Dk) (n a x : Int) : (editK s n a x).2.late.length = s.late.length := by
  unfold editK
  by_cases h : hasD s n = false
  · rw [if_pos h]
  · rw [if_neg h]
    by_cases h2 : a < 0
    · rw [if_pos h2]
    · rw [if_neg h2]
      by_cases h3 : 512 ≤ a
      · rw [if_pos h3]
      · rw [if_neg h3]; simp
theorem doK_late (s : Dk) (z : Stp) : (doK s z).2.late.length ≤ s.late.length + 1 := by
  unfold doK
  by_cases h1 : z.kind = 1
  · rw [if_pos h1]; exact writeK_late _ _ _
  rw [if_neg h1]
  by_cases h2 : z.kind = 2
  · rw [if_pos h2]; have := syncK_late s; omega
  rw [if_neg h2]
  by_cases h3 : z.kind = 3
  · rw [if_pos h3, setFuseK_late]; omega
  rw [if_neg h3]
  by_cases h4 : z.kind = 4
  · rw [if_pos h4]; simp [crashK]
  rw [if_neg h4]
  by_cases h5 : z.kind = 5
  · rw [if_pos h5, editK_late]; omega
  rw [if_neg h5]
  by_cases h6 : z.kind = 6
  · rw [if_pos h6]; exact writeK_late _ _ _
  rw [if_neg h6]; simp
theorem writeK_n (s : Dk) (n : Int) (xs : List Int) : (writeK s n xs).2.n = s.n := by
  unfold writeK
  by_cases h : hasD s n = false
  · rw [if_pos h]
  · rw [if_neg h]
    by_cases h2 : ¬ xs.length = 512
    · rw [if_pos h2]
    · rw [if_neg h2]
      by_cases h3 : (stepK s).1 = 14
      · rw [if_pos h3]; exact stepK_n s
      · rw [if_neg h3]; exact stepK_n s
theorem syncK_n (s : Dk) : (syncK s).2.n = s.n := by
  unfold syncK
  by_cases h : (stepK s).1 = 0
  · rw [if_pos h]; exact stepK_n s
  · rw [if_neg h]; exact stepK_n s
theorem setFuseK_n (s : Dk) (n : Int) : (setFuseK s n).2.n = s.n := by
  unfold setFuseK
  by_cases h : n < 0
  · rw [if_pos h]
  · rw [if_neg h]
theorem editK_n (s : Dk) (n a x : Int) : (editK s n a x).2.n = s.n := by
  unfold editK
  by_cases h : hasD s n = false
  · rw [if_pos h]
  · rw [if_neg h]
    by_cases h2 : a < 0
    · rw [if_pos h2]
    · rw [if_neg h2]
      by_cases h3 : 512 ≤ a
      · rw [if_pos h3]
      · rw [if_neg h3]
theorem doK_n (s : Dk) (z : Stp) : (doK s z).2.n = s.n := by
  unfold doK
  by_cases h1 : z.kind = 1
  · rw [if_pos h1]; exact writeK_n _ _ _
  rw [if_neg h1]
  by_cases h2 : z.kind = 2
  · rw [if_pos h2]; exact syncK_n s
  rw [if_neg h2]
  by_cases h3 : z.kind = 3
  · rw [if_pos h3]; exact setFuseK_n s _
  rw [if_neg h3]
  by_cases h4 : z.kind = 4
  · rw [if_pos h4]; rfl
  rw [if_neg h4]
  by_cases h5 : z.kind = 5
  · rw [if_pos h5]; exact editK_n _ _ _ _
  rw [if_neg h5]
  by_cases h6 : z.kind = 6
  · rw [if_pos h6]; exact writeK_n _ _ _
  rw [if_neg h6]
section
variable {N : Nat} {S : Slots} {w0 w1 : World} {I : Mem} {H : Heap} {Q : Exit → Act → World → Prop} {Qn : Act → Heap → Prop} {ops : Array Oper} {lab : Lab} {ids : Nat → Option Nat} {l : List Nat} {i d : Nat} {o : Oper} {v : Value} {X : Type} {u : X → Value} {cl : Call} {fo : Operand} {g : FuncId} {args : Array Value}
theorem cls_less {I' : Mem} {w : World} (he : Ext I I') (h : Cls w0 I' H w) : Cls w0 I H w := ⟨h.os, h.tape, h.output, h.size, fun b o e => h.imm b o (he b o e), h.own, (fun b o hm => by
  have := h.disj b o hm
  cases hI : I b with
  | none => rfl
  | some z => rw [he b z hI] at this; cases this), h.nodup⟩
/-- what is not turned any more stays -/
theorem C.settleF {c : Code} {E R : Heap} (hH : H = E ++ R) (h : ∀ I', Ext I I' → (∀ b o, (some b, o) ∈ E → I' b = some o) → CW N w0 I' c Q S R) : CW N w0 I c Q S H := fun a w ha hc => by
  subst hH
  have hnE : (E.filterMap Prod.fst).Nodup := hc.nodup.sublist ((List.sublist_append_left E R).filterMap _)
  refine h (addJ I E) (Ext.addJ _ _) (fun b o hm => ?_) a w ha ((hc.perm (List.perm_append_comm)).settle)
  unfold addJ
  rw [hc.disj b o (List.mem_append_left _ hm)]
  exact inJ_of_mem hnE hm
theorem DW.c01k {E' : X → Heap} (hi : ops[i]? = some o) (hg : o.guard = none) (hd : o.dst = some d) (hN : Nat.blt d N = true) (hk : (lab i).1 = .keep) (hc : Turn I g args [] u E') (hbody : ∀ w, (callFunc g args).run Try.prog w = .ok (.enter g args) w) (ho : o.op = .call cl) (hcal : cl.callee = .value fo) (hf : ev S fo = some (.func (.func g) #[] #[])) (hargs : ∀ ρ, Val S ρ → cl.args.map ρ = args)
    (h : ∀ x, DD N w0 I ops lab ids Qn l ((d, u x) :: S) (E' x ++ H)) : DD N w0 I ops lab ids Qn (i :: l) S H :=
  DW.keep (fun x p hp => List.mem_append_right _ hp) hi hg hd hN hk (f_callX ho hcal hf hargs hbody (fun w hcl => hc.at w0 w hcl)) h
theorem DW.c22s {E1 E2 R : Heap} {E1' E2' : X → Heap} (hi : ops[i]? = some o) (hg : o.guard = none) (hd : o.dst = some d) (hN : Nat.blt d N = true) (hk : (lab i).1 = .actx) (hH : H = E2 ++ (E1 ++ R)) (hc : Turn I g args (E1 ++ E2) u (fun x => E1' x ++ E2' x)) (hbody : ∀ w, (callFunc g args).run Try.prog w = .ok (.enter g args) w) (ho : o.op = .call cl) (hcal : cl.callee = .value fo) (hf : ev S fo = some (.func (.func g) #[] #[])) (hargs : ∀ ρ, Val S ρ → cl.args.map ρ = args)
    (h : ∀ x, DD N w0 I ops lab ids Qn l ((d, u x) :: S) (E1' x ++ (E2' x ++ R))) : DD N w0 I ops lab ids Qn (i :: l) S H :=
  DW.actx (H' := fun x => E1' x ++ (E2' x ++ R)) hi hg hd hN hk (f_callX ho hcal hf hargs hbody (fun w hcl => by
    subst hH
    have hcl := hcl.perm perm1
    rw [← List.append_assoc] at hcl
    exact (hc.at w0 w hcl).mono fun e w' ⟨x, h1, h2⟩ => ⟨x, h1, by rw [← List.append_assoc]; exact h2⟩)) h
theorem elp_ptr (b off m c j : Nat) : elp (.slice (some ⟨b, off, none⟩) m c) j = ptr b (off + j) := by
  have e : (Addr.add ⟨b, off, none⟩ j) = ⟨b, off + j, none⟩ := by unfold Addr.add; split <;> simp_all
  show Value.pointer (some (Addr.add ⟨b, off, none⟩ j)) = _
  rw [e]
/-- an element's place in a slice that stays, its field -/
theorem p_fieldEl {t : TypeId} {x : Operand} {v : Value} {j f n : Nat} (hv : ∃ b off m c, v = .slice (some ⟨b, off, none⟩) m c) (hf : ∀ a w, (Instr.fieldAt t (.pointer (some a)) f).run Try.prog w = .ok (.pointer (some (a.add n))) w) (ho : o.op = .fieldAddr t x f) (hx : ev S x = some (elp v j)) : FPure Try.prog o S (elp v (j + n)) := by
  obtain ⟨b, off, m, c, rfl⟩ := hv
  have := p_fieldAddr (P := Try.prog) (S := S) hf ho (b := b) (off := off + j) (by rw [hx, elp_ptr])
  have e : ptr b (off + j + n) = elp (.slice (some ⟨b, off, none⟩) m c) (j + n) := by rw [Nat.add_assoc, elp_ptr]
  rw [← e]; exact this
theorem row_plain {α : Type} {s : Shape α} {M : Mem} {v : Value} {xs : List α} (h : RowS s M v xs) {k : Nat} (hk : k < xs.length) : ∃ b off m c, v = .slice (some ⟨b, off, none⟩) m c := by
  obtain ⟨cs, ⟨_, a, c, h1, _, h3⟩, _⟩ := h
  rcases h3 with h3 | ⟨b, off, arr, t, z, rfl, _⟩
  · omega
  · exact ⟨b, off, _, c, h1⟩
theorem p_ixS {α : Type} {s : Shape α} {xs : List α} (h : RowS s I v xs) {j : Nat} (hj : j < xs.length) {T e : Nat} {x z : Operand} {kk : IntKind} (hu : ∀ w, (underlying T).run Try.prog w = .ok (.slice e) w) (hs : ∀ w, (sizeOf e).run Try.prog w = .ok s.n w) (ho : o.op = .indexAddr T x z) (hx : ev S x = some v) (hy : ev S z = some (.int kk (j : Int))) : FPure Try.prog o S (elp v (j * s.n)) := by
  have := p_slIx (P := Try.prog) hu hs (RowS.some h (i := (j : Int)) (by omega) (by omega)) (by omega) (by omega) ho hx hy
  simpa using this
theorem i_ldS {xs : List Stp} (h : RowS ShStp I v xs) {j : Nat} {z : Stp} (hj : xs[j]? = some z) {pv : Value} (hpv : ∃ cs, RowV I v 5 xs.length cs ∧ chunk cs 5 j = stc z pv) {t : TypeId} {x : Operand} (ha : ∀ w, (isAgg t).run Try.prog w = .ok true w) (hs : ∀ w, (sizeOf t).run Try.prog w = .ok 5 w) (ho : o.op = .load t x) (hx : ev S x = some (elp v (j * 5))) : FImm Try.prog o I S (.agg (stc z pv).toArray) := by
  obtain ⟨cs, h1, h2⟩ := hpv
  exact i_loadElA h1 h2 (List.getElem?_eq_some_iff.1 hj).1 ha hs ho hx
theorem stp_at {xs : List Stp} (h : RowS ShStp I v xs) {j : Nat} {z : Stp} (hj : xs[j]? = some z) : ∃ pv, IntRow I .i64 pv z.picks ∧ ∃ cs, RowV I v 5 xs.length cs ∧ chunk cs 5 j = stc z pv := by
  obtain ⟨cs, h1, h2⟩ := h
  obtain ⟨pv, h3, h4⟩ := h2 j z hj
  exact ⟨pv, h4, cs, h1, h3⟩
theorem i_ldPk {xs : List Stp} {j : Nat} {z : Stp} (hj : xs[j]? = some z) {pv : Value} (hpv : ∃ cs, RowV I v 5 xs.length cs ∧ chunk cs 5 j = stc z pv) {t : TypeId} {x : Operand} (ha : ∀ w, (isAgg t).run Try.prog w = .ok false w) (ho : o.op = .load t x) (hx : ev S x = some (elp v (j * 5 + 4))) : FImm Try.prog o I S pv := by
  obtain ⟨cs, h1, h2⟩ := hpv
  exact i_loadEl h1 (by have : (chunk cs 5 j)[4]? = some pv := by rw [h2]; rfl
                        exact chunk_get this) ha ho hx
end
end Go.Proofs.Ytjomnicfcdkfdaa
