import Derived.Test.YtjomnicfcdkfdaaDkL0
namespace Go.Proofs.Ytjomnicfcdkfdaa
open Go Go.HW Go.RowKit
set_option linter.unusedVariables false
set_option linter.unusedSimpArgs false

/-! ### the methods as calls that turn what stands in front of what is owned -/
abbrev Dx (s : Dk) := {p : Value × Array Value // DkO p.1 p.2 s}
abbrev dX (b m : Nat) {s : Dk} (x : Dx s) : Heap := dkH b m x.1.1 x.1.2 s
abbrev Ox (k : IntKind) (xs : List Int) := {p : Value × Array Value × Nat // IntOwn k p.1 p.2.1 xs}
abbrev oX {k : IntKind} {xs : List Int} (y : Ox k xs) : Heap := [(y.1.1.ownBlock, .cells y.1.2.1 y.1.2.2 (0, 0))]
def Turn (I : Mem) (f : FuncId) (args : Array Value) (E : Heap) {X : Type} (u : X → Value) (E' : X → Heap) : Prop :=
  ∀ (I' : Mem), Ext I I' → ∀ (w0 w : World), Cls w0 I' E w → Calls Try.prog f args w fun e w' => ∃ x, e = .returned (u x) ∧ Cls w0 I' (E' x) w'
def FrontTurn (I : Mem) (f : FuncId) (args : Array Value) (H : Heap) {X : Type} (u : X → Value) (H' : X → Heap) : Prop :=
  ∀ (w0 w : World), Cls w0 I H w → Calls Try.prog f args w fun e w' => ∃ x, e = .returned (u x) ∧ Cls w0 I (H' x) w'
theorem Turn.at {I : Mem} {f : FuncId} {args : Array Value} {E A : Heap} {X : Type} {u : X → Value} {E' : X → Heap} (h : Turn I f args E u E') : FrontTurn I f args (E ++ A) u (fun x => E' x ++ A) := fun w0 w hc =>
  frameI (fun I' he _ w0 w hc => h I' he w0 w hc) hc
section
variable {N : Nat} {S : Slots} {w0 : World} {I : Mem} {H : Heap} {Q : Exit → Act → World → Prop} {ops : Array Oper} {l : List Nat} {i d : Nat} {o : Oper} {v : Value} {X : Type} {u : X → Value} {cl : Call} {fo : Operand} {g : FuncId} {args : Array Value}
theorem W.c01 {E' : X → Heap} (hi : ops[i]? = some o) (hw : Wn ops S o true) (hd : o.dst = some d) (hN : Nat.blt d N = true) (hc : Turn I g args [] u E') (hbody : ∀ w, (callFunc g args).run Try.prog w = .ok (.enter g args) w) (ho : o.op = .call cl) (hcal : cl.callee = .value fo) (hf : ev S fo = some (.func (.func g) #[] #[])) (hargs : ∀ ρ, Val S ρ → cl.args.map ρ = args)
    (h : ∀ x, WW N w0 I ops l Q ((d, u x) :: S) (E' x ++ H)) : WW N w0 I ops (i :: l) Q S H :=
  W.callX hi hw hd hN ho hcal hf hargs hbody (fun w hcl => hc.at w0 w hcl) h
theorem W.c11 {E R : Heap} {E' : X → Heap} (hi : ops[i]? = some o) (hw : Wn ops S o true) (hd : o.dst = some d) (hN : Nat.blt d N = true) (hH : H = E ++ R) (hc : Turn I g args E u E') (hbody : ∀ w, (callFunc g args).run Try.prog w = .ok (.enter g args) w) (ho : o.op = .call cl) (hcal : cl.callee = .value fo) (hf : ev S fo = some (.func (.func g) #[] #[])) (hargs : ∀ ρ, Val S ρ → cl.args.map ρ = args)
    (h : ∀ x, WW N w0 I ops l Q ((d, u x) :: S) (E' x ++ R)) : WW N w0 I ops (i :: l) Q S H :=
  W.callX hi hw hd hN ho hcal hf hargs hbody (fun w hcl => by subst hH; exact hc.at w0 w hcl) h
theorem W.c22 {E1 E2 R : Heap} {E1' E2' : X → Heap} (hi : ops[i]? = some o) (hw : Wn ops S o true) (hd : o.dst = some d) (hN : Nat.blt d N = true) (hH : H = E1 ++ (E2 ++ R)) (hc : Turn I g args (E1 ++ E2) u (fun x => E1' x ++ E2' x)) (hbody : ∀ w, (callFunc g args).run Try.prog w = .ok (.enter g args) w) (ho : o.op = .call cl) (hcal : cl.callee = .value fo) (hf : ev S fo = some (.func (.func g) #[] #[])) (hargs : ∀ ρ, Val S ρ → cl.args.map ρ = args)
    (h : ∀ x, WW N w0 I ops l Q ((d, u x) :: S) (E1' x ++ (E2' x ++ R))) : WW N w0 I ops (i :: l) Q S H :=
  W.callX (H' := fun x => E1' x ++ (E2' x ++ R)) hi hw hd hN ho hcal hf hargs hbody (fun w hcl => by
    subst hH; rw [← List.append_assoc] at hcl
    exact (hc.at w0 w hcl).mono fun e w' ⟨x, h1, h2⟩ => ⟨x, h1, by rw [← List.append_assoc]; exact h2⟩) h
theorem W.c12 {E R : Heap} {E1' E2' : X → Heap} (hi : ops[i]? = some o) (hw : Wn ops S o true) (hd : o.dst = some d) (hN : Nat.blt d N = true) (hH : H = E ++ R) (hc : Turn I g args E u (fun x => E1' x ++ E2' x)) (hbody : ∀ w, (callFunc g args).run Try.prog w = .ok (.enter g args) w) (ho : o.op = .call cl) (hcal : cl.callee = .value fo) (hf : ev S fo = some (.func (.func g) #[] #[])) (hargs : ∀ ρ, Val S ρ → cl.args.map ρ = args)
    (h : ∀ x, WW N w0 I ops l Q ((d, u x) :: S) (E1' x ++ (E2' x ++ R))) : WW N w0 I ops (i :: l) Q S H :=
  W.callX (H' := fun x => E1' x ++ (E2' x ++ R)) hi hw hd hN ho hcal hf hargs hbody (fun w hcl => by
    subst hH
    exact (hc.at w0 w hcl).mono fun e w' ⟨x, h1, h2⟩ => ⟨x, h1, by rw [← List.append_assoc]; exact h2⟩) h
theorem W.perm {H' : Heap} (hp : H.Perm H') (h : WW N w0 I ops l Q S H') : WW N w0 I ops l Q S H := fun a w ha hc => h a w ha (hc.perm hp)
theorem W.fewer {H' : Heap} (hp : H'.Sublist H) (h : WW N w0 I ops l Q S H') : WW N w0 I ops l Q S H := fun a w ha hc => h a w ha (hc.fewer hp)
theorem perm1 {a b R : Heap} : (a ++ (b ++ R)).Perm (b ++ (a ++ R)) := by
  rw [← List.append_assoc, ← List.append_assoc]; exact List.perm_append_comm.append_right R
theorem perm2 {a b c R : Heap} : (a ++ (b ++ (c ++ R))).Perm (c ++ (a ++ (b ++ R))) := (perm1.append_left a).trans perm1
theorem perm3 {a b c d R : Heap} : (a ++ (b ++ (c ++ (d ++ R)))).Perm (d ++ (a ++ (b ++ (c ++ R)))) := (perm2.append_left a).trans perm1
theorem perm4 {a b c d e R : Heap} : (a ++ (b ++ (c ++ (d ++ (e ++ R))))).Perm (e ++ (a ++ (b ++ (c ++ (d ++ R))))) := (perm3.append_left a).trans perm1
theorem W.f1 {a b R : Heap} (hH : H = a ++ (b ++ R)) (h : WW N w0 I ops l Q S (b ++ (a ++ R))) : WW N w0 I ops l Q S H := W.perm (by rw [hH]; exact perm1) h
theorem W.f2 {a b c R : Heap} (hH : H = a ++ (b ++ (c ++ R))) (h : WW N w0 I ops l Q S (c ++ (a ++ (b ++ R)))) : WW N w0 I ops l Q S H := W.perm (by rw [hH]; exact perm2) h
theorem W.f3 {a b c d R : Heap} (hH : H = a ++ (b ++ (c ++ (d ++ R)))) (h : WW N w0 I ops l Q S (d ++ (a ++ (b ++ (c ++ R))))) : WW N w0 I ops l Q S H := W.perm (by rw [hH]; exact perm3) h
theorem W.f4 {a b c d e R : Heap} (hH : H = a ++ (b ++ (c ++ (d ++ (e ++ R))))) (h : WW N w0 I ops l Q S (e ++ (a ++ (b ++ (c ++ (d ++ R)))))) : WW N w0 I ops l Q S H := W.perm (by rw [hH]; exact perm4) h
theorem W.dr {a R : Heap} (hH : H = a ++ R) (h : WW N w0 I ops l Q S R) : WW N w0 I ops l Q S H := W.fewer (by rw [hH]; exact List.sublist_append_right _ _) h
theorem C.f1 {k : Code} {a b R : Heap} (hH : H = a ++ (b ++ R)) (h : CW N w0 I k Q S (b ++ (a ++ R))) : CW N w0 I k Q S H := C.perm h (by rw [hH]; exact perm1)
theorem C.f2 {k : Code} {a b c R : Heap} (hH : H = a ++ (b ++ (c ++ R))) (h : CW N w0 I k Q S (c ++ (a ++ (b ++ R)))) : CW N w0 I k Q S H := C.perm h (by rw [hH]; exact perm2)
theorem C.f3 {k : Code} {a b c d R : Heap} (hH : H = a ++ (b ++ (c ++ (d ++ R)))) (h : CW N w0 I k Q S (d ++ (a ++ (b ++ (c ++ R))))) : CW N w0 I k Q S H := C.perm h (by rw [hH]; exact perm3)
theorem C.f4 {k : Code} {a b c d e R : Heap} (hH : H = a ++ (b ++ (c ++ (d ++ (e ++ R))))) (h : CW N w0 I k Q S (e ++ (a ++ (b ++ (c ++ (d ++ R)))))) : CW N w0 I k Q S H := C.perm h (by rw [hH]; exact perm4)
theorem C.dr {k : Code} {a R : Heap} (hH : H = a ++ R) (h : CW N w0 I k Q S R) : CW N w0 I k Q S H := C.fewer h (by rw [hH]; exact List.sublist_append_right _ _)
end
/-- a call that turns nothing -/
theorem Turn.same {I : Mem} {f : FuncId} {args : Array Value} {E : Heap} {v : Value} (h : ∀ (I' : Mem), Ext I I' → ∀ (w0 w : World), Cls w0 I' E w → Calls Try.prog f args w fun e w' => e = .returned v ∧ Below w.heap.size w w') : Turn I f args E (fun _ : Unit => v) (fun _ => E) := fun I' he w0 w hc =>
  (h I' he w0 w hc).mono fun e w' ⟨h1, h2⟩ => ⟨(), h1, hc.below h2⟩
def x0 (n : Int) : Dx (newK n) := ⟨(.slice none 0 0, #[]), ⟨OwnS.nil _ _, fun p hp => by cases hp⟩⟩
def syncK (s : Dk) : Int × Dk := if (stepK s).1 = 0 then (0, { (stepK s).2 with set := setK (stepK s).2 (stepK s).2.late.length, late := [] }) else stepK s
theorem stepK_late' (s : Dk) : (stepK s).2.late = s.late := by 
  unfold stepK
  by_cases h : s.dead = true
  · rw [if_pos h]
  · rw [if_neg h]
    by_cases h2 : s.armed = false
    · rw [if_pos h2]
    · rw [if_neg h2]
      by_cases h3 : s.fuse = 0
      · rw [if_pos h3]
      · rw [if_neg h3]
section
variable {I : Mem} {b m : Nat} {s s' : Dk} {e : Int}
theorem nilD (he : Full s'.set) (hl : s'.late = []) : DkO (.slice none 0 0) #[] s' := ⟨by rw [hl]; exact OwnS.nil _ _, he⟩
theorem tNew (n : Int) (h : 1 ≤ n) (h2 : n ≤ 8192) : Turn I 11 #[.int .i64 n] [] (fun p : Nat × Nat => .tuple #[ptr p.1 0, .int .i64 0]) (fun p => dX p.1 p.2 (x0 n)) := fun I' he w0 w hc =>
  (new_ok hc n (by omega) (by omega)).mono fun e w' ⟨b, m, h1, h3⟩ => ⟨(b, m), h1, by rw [List.append_nil] at h3; exact h3⟩
theorem tFill (x : Int) : Turn I 16 #[.int .u8 x] [] (fun y : Ox .u8 (fillL x) => y.1.1) (fun y => oX y) := fun I' he w0 w hc =>
  (fill_ok hc x).mono fun e w' ⟨v, cur, h1, h2, h3⟩ => ⟨⟨(v, cur, 5), h2⟩, h1, h3⟩
theorem tWrite (x : Dx s) {xs : List Int} (y : Ox .u8 xs) (n : Int) (hK : writeK s n xs = (e, s')) (hl : s.late.length ≤ 137438953471) : Turn I 15 #[ptr b 0, .int .i64 n, y.1.1] (dX b m x ++ oX y) (fun _ : Dx s' => .int .i64 e) (fun x' => dX b m x' ++ oX y) := fun I' he w0 w hc =>
  (write_ok hc x.2 y.2 n hl).mono fun e' w' ⟨v, cur, h1, h2, h3⟩ => by
    rw [hK] at h1 h2 h3; exact ⟨⟨(v, cur), h2⟩, h1, h3⟩
theorem tSync (x : Dx s) (hK : syncK s = (e, s')) (hl : s.late.length ≤ 1099511627775) : Turn I 14 #[ptr b 0] (dX b m x) (fun _ : Dx s' => .int .i64 e) (fun x' => dX b m x') := fun I' he w0 w hc => by
  have ho1 : DkO x.1.1 x.1.2 (stepK s).2 := stepK_O x.2
  unfold syncK at hK
  by_cases h : (stepK s).1 = 0
  · rw [if_pos h] at hK
    have e1 := congrArg Prod.fst hK
    have e2 := congrArg Prod.snd hK
    simp only at e1 e2
    subst e1
    refine (sync_2 (s1 := (stepK s).2) (by rw [stepK_late']; exact hl) hc x.2 ho1 (fun w2 hc2 => by have := step_ok hc2; rw [h] at this; exact this)).mono fun e' w' ⟨h1, h2⟩ => ?_
    rw [e2] at h2
    refine ⟨⟨(.slice none 0 0, #[]), nilD ?_ (by rw [← e2])⟩, h1, h2⟩
    rw [← e2]
    exact setK_full ho1 _
  · rw [if_neg h] at hK
    have := sync_1 hc x.2 h
    rw [hK] at this ho1
    exact this.mono fun e' w' ⟨h1, h2⟩ => ⟨⟨x.1, ho1⟩, h1, h2⟩
def crashK (s : Dk) (picks : List Int) : Dk := { s with set := crK s picks s.late.length, late := [], armed := false, dead := false, fuse := 0 }
theorem late_full (x : Dx s) : Full s.late := fun p hp => by
  obtain ⟨i, hi, e⟩ := List.getElem_of_mem hp
  exact late_len x.2 (k := i) (by rw [List.getElem?_eq_getElem hi, e])
theorem tCrash (x : Dx s) {pv : Value} {picks : List Int} (hp : IntRow I .i64 pv picks) (hl : s.late.length ≤ 1099511627775) : Turn I 18 #[ptr b 0, pv] (dX b m x) (fun _ : Dx (crashK s picks) => .int .i64 0) (fun x' => dX b m x') := fun I' he w0 w hc =>
  (crash_ok hc x.2 (hp.mono he) hl).mono fun e' w' ⟨h1, h2⟩ => ⟨⟨(.slice none 0 0, #[]), nilD (crK_full x.2.hs (late_full x) _) rfl⟩, h1, h2⟩
theorem row_of_mem {k : IntKind} {xs : List Int} (y : Ox k xs) {M : Mem} (hM : ∀ b o, (some b, o) ∈ oX y → M b = some o) : IntRow M k y.1.1 xs := by
  obtain ⟨⟨v, cur, e⟩, h⟩ := y
  refine ⟨h.1, ?_⟩
  rcases h.2 with ⟨h1, h2⟩ | ⟨g, cap, h1, k1, k2, k3, k4⟩
  · simp only at h1; subst h1; exact ⟨none, 0, by rw [h2], by rw [h2]; exact Nat.le_refl _, .inl h2⟩
  · simp only at h1; subst h1
    refine ⟨_, cap, rfl, k1, .inr ⟨g, 0, cur, e, (0, 0), rfl, hM g _ (by simp [Value.ownBlock]), fun i q hq => ?_⟩⟩
    rw [Nat.zero_add]
    rw [← k4] at hq
    have hk : i < xs.length * 1 := by
      rcases Nat.lt_or_ge i (xs.length * 1) with hh | hh
      · exact hh
      · rw [List.getElem?_eq_none (by simp; omega)] at hq; cases hq
    rw [List.getElem?_take_of_lt hk] at hq
    simpa using hq
theorem tCrashO (x : Dx s) {picks : List Int} (y : Ox .i64 picks) (hl : s.late.length ≤ 1099511627775) : Turn I 18 #[ptr b 0, y.1.1] (dX b m x ++ oX y) (fun _ : Dx (crashK s picks) => .int .i64 0) (fun x' => dX b m x' ++ oX y) := fun I' he w0 w hc =>
  frameI (E := dX b m x) (A := oX y) (u := fun _ : Dx (crashK s picks) => .int .i64 0) (E' := fun x' => dX b m x') (fun I2 he2 hA w0 w hc => (tCrash (I := I2) x (row_of_mem y hA) hl) I2 (Ext.refl _) w0 w hc) hc
theorem tCopy (x : Dx s) (hl : s.late.length ≤ 137438953472) : Turn I 19 #[ptr b 0] (dX b m x) (fun p : (Nat × Nat) × Dx s => ptr p.1.1 0) (fun p => dX p.1.1 p.1.2 p.2 ++ dX b m x) := fun I' he w0 w hc =>
  (copy_ok hc x.2 hl).mono fun e' w' ⟨b2, m2, v2, cur2, h1, h2, h3⟩ => ⟨((b2, m2), ⟨(v2, cur2), h2⟩), h1, h3⟩
theorem tRead (x : Dx s) (n : Int) (h : hasD s n = true) (hl : s.late.length ≤ 1099511627776) : Turn I 20 #[ptr b 0, .int .i64 n] (dX b m x) (fun y : Ox .u8 (rd s n) => .tuple #[y.1.1, .int .i64 0]) (fun y => oX y ++ dX b m x) := fun I' he w0 w hc =>
  (readm_ok hc (b := b) (m := m) (fun w hc => x.2.M hc fun p hp => hp) hl n h).mono fun e' w' ⟨v2, cur2, h1, h2, h3⟩ => ⟨⟨(v2, cur2, 62), h2⟩, h1, h3⟩
end
end Go.Proofs.Ytjomnicfcdkfdaa
