import Derived.Test.YtjomnicfcdkfdaaDkRa
section
namespace Go.Proofs.Ytjomnicfcdkfdaa
open Go Go.HW Go.RowKit
set_option linter.unusedVariables false
set_option linter.unusedSimpArgs false

/-! ### the code's disk and the document's -/
structure Sim (s : Dk) (r : Rk) : Prop where
  n : s.n = (r.B.length : Int)
  B : ∀ i : Nat, i < r.B.length → r.B.getD i [] = mget s.set (i : Int)
  L : r.L = s.late
  ok : ∀ w ∈ s.late, 0 ≤ w.1 ∧ w.1 < s.n
  dead : r.dead = s.dead
  on : s.armed = true → r.fuse = s.fuse ∧ 0 ≤ s.fuse ∧ s.fuse ≤ 9223372036854775807
  off : s.armed = false → r.fuse = -1
theorem hasD_lt {s : Dk} {n : Int} (h : hasD s n = true) : 0 ≤ n ∧ n < s.n := of_decide_eq_true h
theorem sim_new (n : Nat) : Sim (newK (n : Int)) (rnewK n) := ⟨by simp [newK, rnewK], fun i hi => by
  have hi' : i < n := by simpa [rnewK] using hi
  show (List.replicate n zeros).getD i [] = zeros
  rw [List.getD_eq_getElem?_getD, List.getElem?_replicate, if_pos hi']; rfl, rfl, fun w hw => (by cases hw), rfl, fun h => (by cases h), fun _ => rfl⟩
theorem sim_has {s : Dk} {r : Rk} (h : Sim s r) (i : Int) : hasL r.B.length i = hasD s i := by unfold hasL hasD; rw [h.n]
theorem sim_rd {s : Dk} {r : Rk} (h : Sim s r) {i : Int} (hi : hasD s i = true) : rrd r i = rd s i := by
  have hi' : 0 ≤ i ∧ i < s.n := of_decide_eq_true hi
  have hn := h.n
  unfold rrd rd
  rw [h.L, h.B i.toNat (by omega), show ((i.toNat : Nat) : Int) = i by omega]
theorem sim_step {s : Dk} {r : Rk} (h : Sim s r) : (rstepK r).1 = (stepK s).1 ∧ Sim (stepK s).2 (rstepK r).2 := by
  unfold rstepK stepK
  by_cases a : s.dead = true
  · rw [if_pos a, if_pos (by rw [h.dead]; exact a)]; exact ⟨rfl, h⟩
  · rw [if_neg a, if_neg (by rw [h.dead]; exact a)]
    by_cases b : s.armed = false
    · rw [if_pos b]
      have hf := h.off b
      rw [if_neg (by omega), if_neg (by omega)]; exact ⟨rfl, h⟩
    · rw [if_neg b]
      have b' : s.armed = true := by simpa using b
      obtain ⟨f1, f2, f3⟩ := h.on b'
      rw [f1]
      by_cases c : s.fuse = 0
      · rw [if_pos c, if_pos c]
        exact ⟨rfl, ⟨h.n, h.B, h.L, h.ok, rfl, fun _ => ⟨rfl, f2, f3⟩, fun z => absurd z b⟩⟩
      · rw [if_neg c, if_neg c, if_pos (by omega)]
        refine ⟨rfl, ⟨h.n, h.B, h.L, h.ok, h.dead, fun _ => ?_, fun z => absurd z b⟩⟩
        show IntKind.i64.wrap (s.fuse - 1) = IntKind.i64.wrap (s.fuse - 1) ∧ 0 ≤ IntKind.i64.wrap (s.fuse - 1) ∧ IntKind.i64.wrap (s.fuse - 1) ≤ 9223372036854775807
        rw [w64 (by omega) (by omega)]
        exact ⟨rfl, by omega, by omega⟩
theorem sim_write {s : Dk} {r : Rk} (h : Sim s r) (n : Int) (xs : List Int) : (rwriteK r n xs).1 = (writeK s n xs).1 ∧ Sim (writeK s n xs).2 (rwriteK r n xs).2 := by
  unfold rwriteK writeK
  rw [sim_has h]
  by_cases a : hasD s n = false
  · rw [if_pos a, if_pos a]; exact ⟨rfl, h⟩
  rw [if_neg a, if_neg a]
  by_cases b : ¬ xs.length = 512
  · rw [if_pos b, if_pos b]; exact ⟨rfl, h⟩
  rw [if_neg b, if_neg b]
  obtain ⟨h1, h2⟩ := sim_step h
  rw [h1]
  by_cases c : (stepK s).1 = 14
  · rw [if_pos c, if_pos c]
    exact ⟨by rw [h1, c], h2⟩
  rw [if_neg c, if_neg c]
  have hn : 0 ≤ n ∧ n < s.n := hasD_lt (by simpa using a)
  refine ⟨rfl, ⟨h2.n, h2.B, ?_, fun w hw => ?_, h2.dead, h2.on, h2.off⟩⟩
  · show (rstepK r).2.L ++ _ = (stepK s).2.late ++ _
    rw [h2.L]
  · rcases List.mem_append.1 hw with hw | hw
    · exact h2.ok w hw
    · rw [List.mem_singleton.1 hw]
      show 0 ≤ n ∧ n < (stepK s).2.n
      rw [stepK_n]; exact hn
theorem set_getD {B : List (List Int)} {n i : Nat} {b : List Int} (hn : n < B.length) : (B.set n b).getD i [] = if i = n then b else B.getD i [] := by
  rw [List.getD_eq_getElem?_getD, List.getElem?_set]
  by_cases c : n = i
  · subst c; rw [if_pos rfl, if_pos hn, if_pos rfl]; rfl
  · rw [if_neg c, if_neg (fun h => c h.symm), List.getD_eq_getElem?_getD]
theorem sim_put {B : List (List Int)} {m : List Wr} (h : ∀ i : Nat, i < B.length → B.getD i [] = mget m (i : Int)) {n : Int} (hn : 0 ≤ n ∧ n < (B.length : Int)) (b : List Int) : ∀ i : Nat, i < (B.set n.toNat b).length → (B.set n.toNat b).getD i [] = mget (mput m n b) (i : Int) := fun i hi => by
  rw [List.length_set] at hi
  rw [set_getD (by omega), mget_mput]
  by_cases c : i = n.toNat
  · rw [if_pos c, if_pos (by omega)]
  · rw [if_neg c, if_neg (by omega), h i hi]
theorem sim_fold : ∀ (l : List Wr) {B : List (List Int)} {m : List Wr}, (∀ i : Nat, i < B.length → B.getD i [] = mget m (i : Int)) → (∀ w ∈ l, 0 ≤ w.1 ∧ w.1 < (B.length : Int)) →
    (l.foldl (fun B w => B.set w.1.toNat w.2) B).length = B.length ∧ ∀ i : Nat, i < B.length → (l.foldl (fun B w => B.set w.1.toNat w.2) B).getD i [] = mget (l.foldl (fun l w => mput l w.1 w.2) m) (i : Int)
  | [], B, m, h, _ => ⟨rfl, h⟩
  | w :: l, B, m, h, ho => by
    have h1 := sim_put h (ho w (by simp)) w.2
    obtain ⟨h2, h3⟩ := sim_fold l h1 (fun v hv => by rw [List.length_set]; exact ho v (by simp [hv]))
    rw [List.length_set] at h2 h3
    exact ⟨h2, h3⟩
theorem sim_sync {s : Dk} {r : Rk} (h : Sim s r) : (rsyncK r).1 = (syncK s).1 ∧ Sim (syncK s).2 (rsyncK r).2 := by
  obtain ⟨h1, h2⟩ := sim_step h
  unfold rsyncK syncK
  rw [h1]
  by_cases c : (stepK s).1 = 0
  · rw [if_pos c, if_pos c]
    have hr : rsetB (rstepK r).2 (rstepK r).2.L.length = (stepK s).2.late.foldl (fun B w => B.set w.1.toNat w.2) (rstepK r).2.B := by
      unfold rsetB; rw [List.take_length, h2.L]
    have hs : setK (stepK s).2 (stepK s).2.late.length = (stepK s).2.late.foldl (fun l w => mput l w.1 w.2) (stepK s).2.set := by
      unfold setK; rw [List.take_length]
    obtain ⟨k1, k2⟩ := sim_fold (stepK s).2.late h2.B (fun w hw => by have := h2.ok w hw; rw [h2.n] at this; exact this)
    refine ⟨rfl, ⟨?_, ?_, rfl, fun w hw => (by cases hw), h2.dead, h2.on, h2.off⟩⟩
    · show (stepK s).2.n = ((rsetB (rstepK r).2 (rstepK r).2.L.length).length : Int)
      rw [hr, k1]; exact h2.n
    · show ∀ i : Nat, i < (rsetB (rstepK r).2 (rstepK r).2.L.length).length → (rsetB (rstepK r).2 (rstepK r).2.L.length).getD i [] = mget (setK (stepK s).2 (stepK s).2.late.length) (i : Int)
      rw [hr, hs, k1]; exact k2
  · rw [if_neg c, if_neg c]; exact ⟨h1, h2⟩
theorem sim_fuse {s : Dk} {r : Rk} (h : Sim s r) {n : Int} (hn : n ≤ 9223372036854775807) : (rfuseK r n).1 = (setFuseK s n).1 ∧ Sim (setFuseK s n).2 (rfuseK r n).2 := by
  unfold rfuseK setFuseK
  by_cases c : n < 0
  · rw [if_pos c, if_pos c]; exact ⟨rfl, h⟩
  · rw [if_neg c, if_neg c]; exact ⟨rfl, ⟨h.n, h.B, h.L, h.ok, h.dead, fun _ => ⟨rfl, by show 0 ≤ n; omega, hn⟩, fun z => (by cases z)⟩⟩
theorem mod3 {p : Int} : p.tmod 3 = -2 ∨ p.tmod 3 = -1 ∨ p.tmod 3 = 0 ∨ p.tmod 3 = 1 ∨ p.tmod 3 = 2 := by
  have h1 := Int.tmod_lt_of_pos p (show (0 : Int) < 3 by decide)
  have h2 := Int.lt_tmod_of_pos p (show (0 : Int) < 3 by decide)
  omega
theorem how_eq (p : Int) : howK p = divR p 3 := by
  unfold howK divR
  rcases mod3 (p := p) with h | h | h | h | h <;> rw [h] <;> decide
theorem floor_eq (p : Int) : floorK p = divQ p 3 := by
  unfold floorK divQ
  by_cases hp : p < 0
  · have h1 : p.tmod 3 ≤ 0 := by
      have := Int.tmod_nonneg (a := -p) 3 (by omega)
      rw [Int.neg_tmod] at this; omega
    by_cases c : p.tmod 3 = 0
    · rw [if_neg (by omega), if_neg (fun z => z.2 c)]
    · rw [if_pos (by omega), if_pos ⟨hp, c⟩]
  · have := Int.tmod_nonneg (a := p) 3 (by omega)
    rw [if_neg (by omega), if_neg (fun z => hp z.1)]
theorem tear_eq (p : Int) (l : Bool) : tearK p l = rtear p l := by
  unfold tearK rtear
  rw [how_eq, floor_eq]; rfl
theorem sim_cr {s : Dk} {r : Rk} (h : Sim s r) (picks : List Int) : ∀ k, (rcrB r picks k).length = r.B.length ∧ ∀ i : Nat, i < r.B.length → (rcrB r picks k).getD i [] = mget (crK s picks k) (i : Int)
  | 0 => ⟨rfl, h.B⟩
  | k + 1 => by
    obtain ⟨h1, h2⟩ := sim_cr h picks k
    unfold rcrB crK
    rw [h.L]
    cases e : s.late[k]? with
    | none => exact ⟨h1, h2⟩
    | some w =>
      simp only
      rw [how_eq]
      by_cases c : divR (picks.getD k 0) 3 = 0
      · rw [if_pos c, if_pos c]; exact ⟨h1, h2⟩
      · rw [if_neg c, if_neg c, tear_eq]
        have ho := h.ok w (List.mem_of_getElem? e)
        have hn := h.n
        have e2 : (rcrB r picks k).getD w.1.toNat [] = mget (crK s picks k) w.1 := by
          rw [h2 w.1.toNat (by omega), show ((w.1.toNat : Nat) : Int) = w.1 by omega]
        rw [e2]
        have := sim_put (B := rcrB r picks k) (m := crK s picks k) (by rw [h1]; exact h2) (n := w.1) (by rw [h1]; omega)
          (w.2.take (rtear (picks.getD k 0) (decide (k + 1 = s.late.length))).toNat ++ (mget (crK s picks k) w.1).drop (rtear (picks.getD k 0) (decide (k + 1 = s.late.length))).toNat)
        rw [List.length_set, h1] at this
        exact ⟨by rw [List.length_set, h1], this⟩
theorem sim_crash {s : Dk} {r : Rk} (h : Sim s r) (picks : List Int) : Sim (crashK s picks) (rcrashK r picks) := by
  obtain ⟨h1, h2⟩ := sim_cr h picks s.late.length
  have e : r.L.length = s.late.length := by rw [h.L]
  refine ⟨?_, ?_, rfl, fun w hw => (by cases hw), rfl, fun z => (by cases z), fun _ => rfl⟩
  · show s.n = ((rcrB r picks r.L.length).length : Int)
    rw [e, h1]; exact h.n
  · show ∀ i : Nat, i < (rcrB r picks r.L.length).length → (rcrB r picks r.L.length).getD i [] = mget (crK s picks s.late.length) (i : Int)
    rw [e, h1]; exact h2
theorem sim_edit {s : Dk} {r : Rk} (h : Sim s r) (n a x : Int) : (reditK r n a x).1 = (editK s n a x).1 ∧ Sim (editK s n a x).2 (reditK r n a x).2 := by
  unfold reditK editK
  rw [sim_has h]
  by_cases c1 : hasD s n = false
  · rw [if_pos c1, if_pos c1]; exact ⟨rfl, h⟩
  rw [if_neg c1, if_neg c1]
  by_cases c2 : a < 0
  · rw [if_pos c2, if_pos c2]; exact ⟨rfl, h⟩
  rw [if_neg c2, if_neg c2]
  by_cases c3 : 512 ≤ a
  · rw [if_pos c3, if_pos c3]; exact ⟨rfl, h⟩
  rw [if_neg c3, if_neg c3]
  have hn : 0 ≤ n ∧ n < s.n := hasD_lt (by simpa using c1)
  have hn2 := h.n
  have e : r.B.getD n.toNat [] = mget s.set n := by rw [h.B n.toNat (by omega), show ((n.toNat : Nat) : Int) = n by omega]
  refine ⟨rfl, ⟨?_, ?_, ?_, fun w hw => ?_, h.dead, h.on, h.off⟩⟩
  · show s.n = ((r.B.set n.toNat _).length : Int)
    rw [List.length_set]; exact h.n
  · show ∀ i : Nat, i < (r.B.set n.toNat (xorAt (r.B.getD n.toNat []) a x)).length → _ = mget (mput s.set n (xorAt (mget s.set n) a x)) (i : Int)
    rw [e]
    exact sim_put h.B (by omega) _
  · show r.L.map (edW n a x) = s.late.map (edW n a x)
    rw [h.L]
  · obtain ⟨v, hv, rfl⟩ := List.mem_map.1 hw
    have := h.ok v hv
    show 0 ≤ (edW n a x v).1 ∧ (edW n a x v).1 < s.n
    unfold edW; split <;> exact this
def rdoK (s : Rk) (z : Stp) : Int × Rk :=
  if z.kind = 1 then rwriteK s z.n (blockL z.fill 512)
  else if z.kind = 2 then rsyncK s
  else if z.kind = 3 then rfuseK s z.n
  else if z.kind = 4 then (0, rcrashK s z.picks)
  else if z.kind = 5 then reditK s z.n z.m z.fill
  else if z.kind = 6 then rwriteK s z.n (blockL z.fill (blkN z.m))
  else (0, s)
theorem sim_do {s : Dk} {r : Rk} (h : Sim s r) (z : Stp) (hz : z.n ≤ 9223372036854775807) : (rdoK r z).1 = (doK s z).1 ∧ Sim (doK s z).2 (rdoK r z).2 := by
  unfold rdoK doK
  by_cases h1 : z.kind = 1
  · rw [if_pos h1, if_pos h1]; exact sim_write h _ _
  rw [if_neg h1, if_neg h1]
  by_cases h2 : z.kind = 2
  · rw [if_pos h2, if_pos h2]; exact sim_sync h
  rw [if_neg h2, if_neg h2]
  by_cases h3 : z.kind = 3
  · rw [if_pos h3, if_pos h3]; exact sim_fuse h hz
  rw [if_neg h3, if_neg h3]
  by_cases h4 : z.kind = 4
  · rw [if_pos h4, if_pos h4]; exact ⟨rfl, sim_crash h _⟩
  rw [if_neg h4, if_neg h4]
  by_cases h5 : z.kind = 5
  · rw [if_pos h5, if_pos h5]; exact sim_edit h _ _ _
  rw [if_neg h5, if_neg h5]
  by_cases h6 : z.kind = 6
  · rw [if_pos h6, if_pos h6]; exact sim_write h _ _
  rw [if_neg h6, if_neg h6]; exact ⟨rfl, h⟩
end Go.Proofs.Ytjomnicfcdkfdaa
end

section
namespace Go.Proofs.Ytjomnicfcdkfdaa
open Go Go.HW Go.RowKit
set_option linter.unusedVariables false
set_option linter.unusedSimpArgs false

section
variable {N : Nat} {S : Slots} {w0 w1 : World} {I : Mem} {H : Heap} {Q : Exit → Act → World → Prop} {Qn : Act → Heap → Prop} {ops : Array Oper} {lab : Lab} {ids : Nat → Option Nat} {l : List Nat} {i d : Nat} {o : Oper} {v : Value} {X : Type} {u : X → Value} {cl : Call} {fo : Operand} {g : FuncId} {args : Array Value}
theorem DV.actx {H' : X → Heap} (hi : ops[i]? = some o) (hw : Wn ops S o true) (hd : o.dst = some d) (hN : Nat.blt d N = true) (hk : (lab i).1 = .actx) (hp : FAct Try.prog o w0 I S H X u H')
    (h : ∀ x, DD N w0 I ops lab ids Qn l ((d, u x) :: S) (H' x)) : DD N w0 I ops lab ids Qn (i :: l) S H := fun a ha => by
  show stepD Try.prog ops w0 I lab ids i _ a H
  unfold stepD
  rw [hi]
  intro _
  exact ⟨.act X u H', .inl ⟨hw N a ha, .inr (.inl hk), fun w hc => hp _ ha.val w hc⟩, fun x => by show listD _ _ _ _ _ _ _ _ _ _; rw [hd]; exact h x _ (ha.put (by simpa [Nat.blt_eq] using hN) (u x))⟩
theorem DW.c11 {E R : Heap} {E' : X → Heap} (hi : ops[i]? = some o) (hg : o.guard = none) (hd : o.dst = some d) (hN : Nat.blt d N = true) (hk : (lab i).1 = .actx) (hH : H = E ++ R) (hc : Turn I g args E u E') (hbody : ∀ w, (callFunc g args).run Try.prog w = .ok (.enter g args) w) (ho : o.op = .call cl) (hcal : cl.callee = .value fo) (hf : ev S fo = some (.func (.func g) #[] #[])) (hargs : ∀ ρ, Val S ρ → cl.args.map ρ = args)
    (h : ∀ x, DD N w0 I ops lab ids Qn l ((d, u x) :: S) (E' x ++ R)) : DD N w0 I ops lab ids Qn (i :: l) S H :=
  DW.actx hi hg hd hN hk (f_callX ho hcal hf hargs hbody (fun w hcl => by subst hH; exact hc.at w0 w hcl)) h
theorem DW.c11b {A E R : Heap} {E' : X → Heap} (hi : ops[i]? = some o) (hg : o.guard = none) (hd : o.dst = some d) (hN : Nat.blt d N = true) (hk : (lab i).1 = .actx) (hH : H = A ++ (E ++ R)) (hc : Turn I g args E u E') (hbody : ∀ w, (callFunc g args).run Try.prog w = .ok (.enter g args) w) (ho : o.op = .call cl) (hcal : cl.callee = .value fo) (hf : ev S fo = some (.func (.func g) #[] #[])) (hargs : ∀ ρ, Val S ρ → cl.args.map ρ = args)
    (h : ∀ x, DD N w0 I ops lab ids Qn l ((d, u x) :: S) (A ++ (E' x ++ R))) : DD N w0 I ops lab ids Qn (i :: l) S H :=
  DW.actx (H' := fun x => A ++ (E' x ++ R)) hi hg hd hN hk (f_callX ho hcal hf hargs hbody (fun w hcl => by
    subst hH
    exact (hc.at w0 w (hcl.perm perm1)).mono fun e w' ⟨x, h1, h2⟩ => ⟨x, h1, h2.perm perm1⟩)) h
theorem DV.c22 {E1 E2 R : Heap} {E1' E2' : X → Heap} (hi : ops[i]? = some o) (hw : Wn ops S o true) (hd : o.dst = some d) (hN : Nat.blt d N = true) (hk : (lab i).1 = .actx) (hH : H = E1 ++ (E2 ++ R)) (hc : Turn I g args (E1 ++ E2) u (fun x => E1' x ++ E2' x)) (hbody : ∀ w, (callFunc g args).run Try.prog w = .ok (.enter g args) w) (ho : o.op = .call cl) (hcal : cl.callee = .value fo) (hf : ev S fo = some (.func (.func g) #[] #[])) (hargs : ∀ ρ, Val S ρ → cl.args.map ρ = args)
    (h : ∀ x, DD N w0 I ops lab ids Qn l ((d, u x) :: S) (E1' x ++ (E2' x ++ R))) : DD N w0 I ops lab ids Qn (i :: l) S H :=
  DV.actx (H' := fun x => E1' x ++ (E2' x ++ R)) hi hw hd hN hk (f_callX ho hcal hf hargs hbody (fun w hcl => by
    subst hH
    rw [← List.append_assoc] at hcl
    exact (hc.at w0 w hcl).mono fun e w' ⟨x, h1, h2⟩ => ⟨x, h1, by rw [← List.append_assoc]; exact h2⟩)) h
end

noncomputable def B24 : Code := bodyOf Try.f24
theorem en24 (args : Array Value) (w : World) : (callFunc 24 args).run Try.prog w = .ok (.enter 24 args) w := by kernel_rfl
theorem rDo {I : Mem} {b : Nat} {s s2 : Rk} {e : Int} (x : Rx s) {z : Stp} {pv : Value} (hp : IntRow I .i64 pv z.picks) (hK : rdoK s z = (e, s2)) (hl : s.L.length ≤ 1099511627775) : Turn I 24 #[ptr b 0, .agg (stc z pv).toArray] (rX b x) (fun _ : Rx s2 => .int .i64 e) (fun x' => rX b x') := fun I' he w0 w hc => by
  have hc : Cls w0 I' (rX b x ++ []) w := by rw [List.append_nil]; exact hc
  refine calls_of_CW (N := 55) Try.func24 (show _ = some B24 by kernel_rfl) (by kernel_rfl) rfl (S := [(0, ptr b 0), (1, .agg (stc z pv).toArray)]) (by simp) hc ?_
  show CW _ _ _ (sub [] B24) _ _ _
  refine C.seq (x := sub [0] B24) (y := sub [1] B24) ?_
  refine C.region (id := 0) (m := 2) (ops := opsOf (sub [0] B24)) rfl ?_
  refine W.new rfl (wo rfl) rfl rfl (f_box rfl rfl) (nf rfl) ?_
  intro bx hbx
  refine W.pure rfl (wo rfl) rfl rfl (p_assign rfl rfl) (nf rfl) ?_
  refine W.doneQ (y := sub [1] B24) rfl ?_
  refine C.settleF (E := [(some bx, .cells (stc z pv).toArray 46 (0, 0))]) rfl ?_
  intro I2 he2 hI
  have hb := hI bx _ (List.mem_singleton.2 rfl)
  clear hI
  refine C.seq (x := sub [1, 0] B24) (y := sub [1, 1] B24) ?_
  refine C.seq (x := sub [1, 0, 0] B24) (y := sub [1, 0, 1] B24) ?_
  refine C.region (id := 1) (m := 2) (ops := opsOf (sub [1, 0, 0] B24)) rfl ?_
  refine W.pure rfl (wo rfl) rfl rfl (p_fieldAddr tf46_0 rfl rfl) (nf rfl) ?_
  refine W.imm rfl (wo rfl) rfl rfl (i_loadBoxO (off := 0) hb rfl ta3 rfl rfl) (nf rfl) ?_
  refine W.doneQ (y := sub [1, 0, 1] B24) rfl ?_
  refine C.block (id := 0) (c := sub [1, 0, 1, 0] B24) ?_
  refine C.seq (x := sub [1, 0, 1, 0, 0] B24) (y := sub [1, 0, 1, 0, 1] B24) ?_
  refine C.region (id := 2) (m := 2) (ops := opsOf (sub [1, 0, 1, 0, 0] B24)) rfl ?_
  by_cases k1 : z.kind = 1
  · refine W.pure rfl (wo rfl) rfl rfl (pT (by rw [k1]; rfl) (p_eql rfl rfl rfl)) (nf rfl) ?_
    refine W.pure rfl (wo rfl) rfl rfl (p_assign rfl rfl) (nf rfl) ?_
    refine W.doneQ (y := sub [1, 0, 1, 0, 1] B24) rfl ?_
    refine C.cond_true (x := sub [1, 0, 1, 0, 1, 0] B24) (y := sub [1, 0, 1, 0, 1, 1] B24) rfl rfl ?_
    refine C.seq (x := sub [1, 0, 1, 0, 1, 0, 0] B24) (y := sub [1, 0, 1, 0, 1, 0, 1] B24) ?_
    refine C.regionD (id := 3) (ops := opsOf (sub [1, 0, 1, 0, 1, 0, 0] B24)) [0, 1, 2, 3, 4, 5, 6, 7] [0, 0, 2, 0, 8, 24, 63, 127] [(.pure, none), (.pure, none), (.pure, none), (.pure, none), (.pure, none), (.keep, none), (.actx, none), (.pure, none)] (by kernel_rfl) ?_
    intro wD3 hl3
    refine DW.pure rfl rfl rfl rfl rfl (p_move rfl rfl) ?_
    refine DW.pure rfl rfl rfl rfl rfl (p_fieldAddr tf46_1 rfl rfl) ?_
    refine DW.imm rfl rfl rfl rfl rfl (i_loadBoxO (off := 1) hb rfl ta3 rfl rfl) ?_
    refine DW.pure rfl rfl rfl rfl rfl (p_fieldAddr tf46_3 rfl rfl) ?_
    refine DW.imm rfl rfl rfl rfl rfl (i_loadBoxO (off := 3) hb rfl ta5 rfl rfl) ?_
    refine DW.c01k rfl rfl rfl rfl rfl (tBlock _ (by decide)) (en39 _) rfl rfl rfl (args_val rfl) ?_
    intro y1
    have hK2 : rwriteK s z.n (blockL z.fill 512) = (e, s2) := by rw [← hK]; unfold rdoK; rw [if_pos k1]
    refine DW.c22s rfl rfl rfl rfl rfl rfl (rWrite x y1 _ (hK2) (hl)) (en40 _) rfl rfl rfl (args_val rfl) ?_
    intro x2
    refine DW.pure rfl rfl rfl rfl rfl (p_assign rfl rfl) ?_
    refine DW.doneQ (y := sub [1, 0, 1, 0, 1, 0, 1] B24) hl3 rfl ?_
    exact C.ret (R := fun e' w' => ∃ x' : Rx s2, e' = .returned (.int .i64 e) ∧ Cls w0 I' (rX b x') w') (rs := [.tmp 4]) (vs := [.int .i64 e]) rfl Try.func24 rfl rfl rfl (res_cons (ResV.tmp rfl) res_nil) fun w1 hc1 => ⟨x2, rfl, (cls_less he2 hc1).fewer (List.sublist_append_left _ _)⟩
  · refine W.pure rfl (wo rfl) rfl rfl (pF (by simpa using k1) (p_eql rfl rfl rfl)) (nf rfl) ?_
    refine W.pure rfl (wo rfl) rfl rfl (p_assign rfl rfl) (nf rfl) ?_
    refine W.doneQ (y := sub [1, 0, 1, 0, 1] B24) rfl ?_
    refine C.cond_false (x := sub [1, 0, 1, 0, 1, 0] B24) (y := sub [1, 0, 1, 0, 1, 1] B24) rfl rfl ?_
    refine C.seq (x := sub [1, 0, 1, 0, 1, 1, 0] B24) (y := sub [1, 0, 1, 0, 1, 1, 1] B24) ?_
    refine C.region (id := 4) (m := 2) (ops := opsOf (sub [1, 0, 1, 0, 1, 1, 0] B24)) rfl ?_
    by_cases k2 : z.kind = 2
    · refine W.pure rfl (wo rfl) rfl rfl (pT (by rw [k2]; rfl) (p_eql rfl rfl rfl)) (nf rfl) ?_
      refine W.pure rfl (wo rfl) rfl rfl (p_assign rfl rfl) (nf rfl) ?_
      refine W.doneQ (y := sub [1, 0, 1, 0, 1, 1, 1] B24) rfl ?_
      refine C.cond_true (x := sub [1, 0, 1, 0, 1, 1, 1, 0] B24) (y := sub [1, 0, 1, 0, 1, 1, 1, 1] B24) rfl rfl ?_
      refine C.seq (x := sub [1, 0, 1, 0, 1, 1, 1, 0, 0] B24) (y := sub [1, 0, 1, 0, 1, 1, 1, 0, 1] B24) ?_
      refine C.region (id := 5) (m := 3) (ops := opsOf (sub [1, 0, 1, 0, 1, 1, 1, 0, 0] B24)) rfl ?_
      refine W.pure rfl (wo rfl) rfl rfl (p_move rfl rfl) (nf rfl) ?_
      have hK2 : rsyncK s = (e, s2) := by rw [← hK]; unfold rdoK; rw [if_neg k1]; rw [if_pos k2]
      refine W.c11 rfl (wo rfl) rfl rfl rfl (rSync x (hK2) (hl)) (en41 _) rfl rfl rfl (args_val rfl) ?_
      intro x1
      refine W.pure rfl (wo rfl) rfl rfl (p_assign rfl rfl) (nf rfl) ?_
      refine W.doneQ (y := sub [1, 0, 1, 0, 1, 1, 1, 0, 1] B24) rfl ?_
      exact C.ret (R := fun e' w' => ∃ x' : Rx s2, e' = .returned (.int .i64 e) ∧ Cls w0 I' (rX b x') w') (rs := [.tmp 4]) (vs := [.int .i64 e]) rfl Try.func24 rfl rfl rfl (res_cons (ResV.tmp rfl) res_nil) fun w1 hc1 => ⟨x1, rfl, (cls_less he2 hc1).fewer (List.sublist_append_left _ _)⟩
    · refine W.pure rfl (wo rfl) rfl rfl (pF (by simpa using k2) (p_eql rfl rfl rfl)) (nf rfl) ?_
      refine W.pure rfl (wo rfl) rfl rfl (p_assign rfl rfl) (nf rfl) ?_
      refine W.doneQ (y := sub [1, 0, 1, 0, 1, 1, 1] B24) rfl ?_
      refine C.cond_false (x := sub [1, 0, 1, 0, 1, 1, 1, 0] B24) (y := sub [1, 0, 1, 0, 1, 1, 1, 1] B24) rfl rfl ?_
      refine C.seq (x := sub [1, 0, 1, 0, 1, 1, 1, 1, 0] B24) (y := sub [1, 0, 1, 0, 1, 1, 1, 1, 1] B24) ?_
      refine C.region (id := 6) (m := 2) (ops := opsOf (sub [1, 0, 1, 0, 1, 1, 1, 1, 0] B24)) rfl ?_
      by_cases k3 : z.kind = 3
      · refine W.pure rfl (wo rfl) rfl rfl (pT (by rw [k3]; rfl) (p_eql rfl rfl rfl)) (nf rfl) ?_
        refine W.pure rfl (wo rfl) rfl rfl (p_assign rfl rfl) (nf rfl) ?_
        refine W.doneQ (y := sub [1, 0, 1, 0, 1, 1, 1, 1, 1] B24) rfl ?_
        refine C.cond_true (x := sub [1, 0, 1, 0, 1, 1, 1, 1, 1, 0] B24) (y := sub [1, 0, 1, 0, 1, 1, 1, 1, 1, 1] B24) rfl rfl ?_
        refine C.seq (x := sub [1, 0, 1, 0, 1, 1, 1, 1, 1, 0, 0] B24) (y := sub [1, 0, 1, 0, 1, 1, 1, 1, 1, 0, 1] B24) ?_
        refine C.region (id := 7) (m := 5) (ops := opsOf (sub [1, 0, 1, 0, 1, 1, 1, 1, 1, 0, 0] B24)) rfl ?_
        refine W.pure rfl (wo rfl) rfl rfl (p_move rfl rfl) (nf rfl) ?_
        refine W.pure rfl (wo rfl) rfl rfl (p_fieldAddr tf46_1 rfl rfl) (nf rfl) ?_
        refine W.imm rfl (wo rfl) rfl rfl (i_loadBoxO (off := 1) hb rfl ta3 rfl rfl) (nf rfl) ?_
        have hK2 : rfuseK s z.n = (e, s2) := by rw [← hK]; unfold rdoK; rw [if_neg k1]; rw [if_neg k2]; rw [if_pos k3]
        refine W.c11 rfl (wo rfl) rfl rfl rfl (rFuse x _ (hK2)) (en42 _) rfl rfl rfl (args_val rfl) ?_
        intro x1
        refine W.pure rfl (wo rfl) rfl rfl (p_assign rfl rfl) (nf rfl) ?_
        refine W.doneQ (y := sub [1, 0, 1, 0, 1, 1, 1, 1, 1, 0, 1] B24) rfl ?_
        exact C.ret (R := fun e' w' => ∃ x' : Rx s2, e' = .returned (.int .i64 e) ∧ Cls w0 I' (rX b x') w') (rs := [.tmp 4]) (vs := [.int .i64 e]) rfl Try.func24 rfl rfl rfl (res_cons (ResV.tmp rfl) res_nil) fun w1 hc1 => ⟨x1, rfl, (cls_less he2 hc1).fewer (List.sublist_append_left _ _)⟩
      · refine W.pure rfl (wo rfl) rfl rfl (pF (by simpa using k3) (p_eql rfl rfl rfl)) (nf rfl) ?_
        refine W.pure rfl (wo rfl) rfl rfl (p_assign rfl rfl) (nf rfl) ?_
        refine W.doneQ (y := sub [1, 0, 1, 0, 1, 1, 1, 1, 1] B24) rfl ?_
        refine C.cond_false (x := sub [1, 0, 1, 0, 1, 1, 1, 1, 1, 0] B24) (y := sub [1, 0, 1, 0, 1, 1, 1, 1, 1, 1] B24) rfl rfl ?_
        refine C.seq (x := sub [1, 0, 1, 0, 1, 1, 1, 1, 1, 1, 0] B24) (y := sub [1, 0, 1, 0, 1, 1, 1, 1, 1, 1, 1] B24) ?_
        refine C.region (id := 8) (m := 2) (ops := opsOf (sub [1, 0, 1, 0, 1, 1, 1, 1, 1, 1, 0] B24)) rfl ?_
        by_cases k4 : z.kind = 4
        · refine W.pure rfl (wo rfl) rfl rfl (pT (by rw [k4]; rfl) (p_eql rfl rfl rfl)) (nf rfl) ?_
          refine W.pure rfl (wo rfl) rfl rfl (p_assign rfl rfl) (nf rfl) ?_
          refine W.doneQ (y := sub [1, 0, 1, 0, 1, 1, 1, 1, 1, 1, 1] B24) rfl ?_
          refine C.cond_true (x := sub [1, 0, 1, 0, 1, 1, 1, 1, 1, 1, 1, 0] B24) (y := sub [1, 0, 1, 0, 1, 1, 1, 1, 1, 1, 1, 1] B24) rfl rfl ?_
          refine C.region (id := 9) (m := 4) (ops := opsOf (sub [1, 0, 1, 0, 1, 1, 1, 1, 1, 1, 1, 0] B24)) rfl ?_
          refine W.pure rfl (wo rfl) rfl rfl (p_move rfl rfl) (nf rfl) ?_
          refine W.pure rfl (wo rfl) rfl rfl (p_fieldAddr tf46_4 rfl rfl) (nf rfl) ?_
          refine W.imm rfl (wo rfl) rfl rfl (i_loadBoxO (off := 4) hb rfl ta22 rfl rfl) (nf rfl) ?_
          have hK2 : ((0 : Int), rcrashK s z.picks) = (e, s2) := by rw [← hK]; unfold rdoK; rw [if_neg k1]; rw [if_neg k2]; rw [if_neg k3]; rw [if_pos k4]
          refine W.c11 rfl (wo rfl) rfl rfl rfl (rCrash x (hp.mono (he.trans he2)) (hl)) (en43 _) rfl rfl rfl (args_val rfl) ?_
          intro x1
          refine W.doneQ (y := sub [1, 1] B24) rfl ?_
          refine C.seq (x := sub [1, 1, 0] B24) (y := sub [1, 1, 1] B24) ?_
          refine C.region (id := 14) (m := 1) (ops := opsOf (sub [1, 1, 0] B24)) rfl ?_
          refine W.pure rfl (wo rfl) rfl rfl (p_assign rfl rfl) (nf rfl) ?_
          refine W.doneQ (y := sub [1, 1, 1] B24) rfl ?_
          obtain ⟨rfl, rfl⟩ := Prod.mk.inj hK2
          exact C.ret (R := fun e' w' => ∃ x' : Rx (rcrashK s z.picks), e' = .returned (.int .i64 0) ∧ Cls w0 I' (rX b x') w') (rs := [.tmp 4]) (vs := [.int .i64 0]) rfl Try.func24 rfl rfl rfl (res_cons (ResV.tmp rfl) res_nil) fun w1 hc1 => ⟨x1, rfl, (cls_less he2 hc1).fewer (List.sublist_append_left _ _)⟩
        · refine W.pure rfl (wo rfl) rfl rfl (pF (by simpa using k4) (p_eql rfl rfl rfl)) (nf rfl) ?_
          refine W.pure rfl (wo rfl) rfl rfl (p_assign rfl rfl) (nf rfl) ?_
          refine W.doneQ (y := sub [1, 0, 1, 0, 1, 1, 1, 1, 1, 1, 1] B24) rfl ?_
          refine C.cond_false (x := sub [1, 0, 1, 0, 1, 1, 1, 1, 1, 1, 1, 0] B24) (y := sub [1, 0, 1, 0, 1, 1, 1, 1, 1, 1, 1, 1] B24) rfl rfl ?_
          refine C.seq (x := sub [1, 0, 1, 0, 1, 1, 1, 1, 1, 1, 1, 1, 0] B24) (y := sub [1, 0, 1, 0, 1, 1, 1, 1, 1, 1, 1, 1, 1] B24) ?_
          refine C.region (id := 10) (m := 2) (ops := opsOf (sub [1, 0, 1, 0, 1, 1, 1, 1, 1, 1, 1, 1, 0] B24)) rfl ?_
          by_cases k5 : z.kind = 5
          · refine W.pure rfl (wo rfl) rfl rfl (pT (by rw [k5]; rfl) (p_eql rfl rfl rfl)) (nf rfl) ?_
            refine W.pure rfl (wo rfl) rfl rfl (p_assign rfl rfl) (nf rfl) ?_
            refine W.doneQ (y := sub [1, 0, 1, 0, 1, 1, 1, 1, 1, 1, 1, 1, 1] B24) rfl ?_
            refine C.cond_true (x := sub [1, 0, 1, 0, 1, 1, 1, 1, 1, 1, 1, 1, 1, 0] B24) (y := sub [1, 0, 1, 0, 1, 1, 1, 1, 1, 1, 1, 1, 1, 1] B24) rfl rfl ?_
            refine C.seq (x := sub [1, 0, 1, 0, 1, 1, 1, 1, 1, 1, 1, 1, 1, 0, 0] B24) (y := sub [1, 0, 1, 0, 1, 1, 1, 1, 1, 1, 1, 1, 1, 0, 1] B24) ?_
            refine C.region (id := 11) (m := 9) (ops := opsOf (sub [1, 0, 1, 0, 1, 1, 1, 1, 1, 1, 1, 1, 1, 0, 0] B24)) rfl ?_
            refine W.pure rfl (wo rfl) rfl rfl (p_move rfl rfl) (nf rfl) ?_
            refine W.pure rfl (wo rfl) rfl rfl (p_fieldAddr tf46_1 rfl rfl) (nf rfl) ?_
            refine W.imm rfl (wo rfl) rfl rfl (i_loadBoxO (off := 1) hb rfl ta3 rfl rfl) (nf rfl) ?_
            refine W.pure rfl (wo rfl) rfl rfl (p_fieldAddr tf46_2 rfl rfl) (nf rfl) ?_
            refine W.imm rfl (wo rfl) rfl rfl (i_loadBoxO (off := 2) hb rfl ta3 rfl rfl) (nf rfl) ?_
            refine W.pure rfl (wo rfl) rfl rfl (p_fieldAddr tf46_3 rfl rfl) (nf rfl) ?_
            refine W.imm rfl (wo rfl) rfl rfl (i_loadBoxO (off := 3) hb rfl ta5 rfl rfl) (nf rfl) ?_
            have hK2 : reditK s z.n z.m z.fill = (e, s2) := by rw [← hK]; unfold rdoK; rw [if_neg k1]; rw [if_neg k2]; rw [if_neg k3]; rw [if_neg k4]; rw [if_pos k5]
            refine W.c11 rfl (wo rfl) rfl rfl rfl (rEdit x _ _ _ (hK2) (hl)) (en44 _) rfl rfl rfl (args_val rfl) ?_
            intro x1
            refine W.pure rfl (wo rfl) rfl rfl (p_assign rfl rfl) (nf rfl) ?_
            refine W.doneQ (y := sub [1, 0, 1, 0, 1, 1, 1, 1, 1, 1, 1, 1, 1, 0, 1] B24) rfl ?_
            exact C.ret (R := fun e' w' => ∃ x' : Rx s2, e' = .returned (.int .i64 e) ∧ Cls w0 I' (rX b x') w') (rs := [.tmp 4]) (vs := [.int .i64 e]) rfl Try.func24 rfl rfl rfl (res_cons (ResV.tmp rfl) res_nil) fun w1 hc1 => ⟨x1, rfl, (cls_less he2 hc1).fewer (List.sublist_append_left _ _)⟩
          · refine W.pure rfl (wo rfl) rfl rfl (pF (by simpa using k5) (p_eql rfl rfl rfl)) (nf rfl) ?_
            refine W.pure rfl (wo rfl) rfl rfl (p_assign rfl rfl) (nf rfl) ?_
            refine W.doneQ (y := sub [1, 0, 1, 0, 1, 1, 1, 1, 1, 1, 1, 1, 1] B24) rfl ?_
            refine C.cond_false (x := sub [1, 0, 1, 0, 1, 1, 1, 1, 1, 1, 1, 1, 1, 0] B24) (y := sub [1, 0, 1, 0, 1, 1, 1, 1, 1, 1, 1, 1, 1, 1] B24) rfl rfl ?_
            refine C.seq (x := sub [1, 0, 1, 0, 1, 1, 1, 1, 1, 1, 1, 1, 1, 1, 0] B24) (y := sub [1, 0, 1, 0, 1, 1, 1, 1, 1, 1, 1, 1, 1, 1, 1] B24) ?_
            refine C.region (id := 12) (m := 2) (ops := opsOf (sub [1, 0, 1, 0, 1, 1, 1, 1, 1, 1, 1, 1, 1, 1, 0] B24)) rfl ?_
            by_cases k6 : z.kind = 6
            · refine W.pure rfl (wo rfl) rfl rfl (pT (by rw [k6]; rfl) (p_eql rfl rfl rfl)) (nf rfl) ?_
              refine W.pure rfl (wo rfl) rfl rfl (p_assign rfl rfl) (nf rfl) ?_
              refine W.doneQ (y := sub [1, 0, 1, 0, 1, 1, 1, 1, 1, 1, 1, 1, 1, 1, 1] B24) rfl ?_
              refine C.cond_true (x := sub [1, 0, 1, 0, 1, 1, 1, 1, 1, 1, 1, 1, 1, 1, 1, 0] B24) (y := sub [1, 0, 1, 0, 1, 1, 1, 1, 1, 1, 1, 1, 1, 1, 1, 1] B24) rfl rfl ?_
              refine C.seq (x := sub [1, 0, 1, 0, 1, 1, 1, 1, 1, 1, 1, 1, 1, 1, 1, 0, 0] B24) (y := sub [1, 0, 1, 0, 1, 1, 1, 1, 1, 1, 1, 1, 1, 1, 1, 0, 1] B24) ?_
              refine C.regionD (id := 13) (ops := opsOf (sub [1, 0, 1, 0, 1, 1, 1, 1, 1, 1, 1, 1, 1, 1, 1, 0, 0] B24)) [0, 1, 2, 3, 4, 5, 6, 7, 8, 9, 10, 11] [0, 0, 2, 0, 8, 0, 32, 96, 224, 504, 1023, 2047] [(.pure, none), (.pure, none), (.pure, none), (.pure, none), (.pure, none), (.pure, none), (.pure, none), (.pure, none), (.pure, none), (.keep, none), (.actx, none), (.pure, none)] (by kernel_rfl) ?_
              intro wD13 hl13
              refine DW.pure rfl rfl rfl rfl rfl (p_move rfl rfl) ?_
              refine DW.pure rfl rfl rfl rfl rfl (p_fieldAddr tf46_1 rfl rfl) ?_
              refine DW.imm rfl rfl rfl rfl rfl (i_loadBoxO (off := 1) hb rfl ta3 rfl rfl) ?_
              refine DW.pure rfl rfl rfl rfl rfl (p_fieldAddr tf46_3 rfl rfl) ?_
              refine DW.imm rfl rfl rfl rfl rfl (i_loadBoxO (off := 3) hb rfl ta5 rfl rfl) ?_
              refine DW.pure rfl rfl rfl rfl rfl (p_fieldAddr tf46_2 rfl rfl) ?_
              refine DW.imm rfl rfl rfl rfl rfl (i_loadBoxO (off := 2) hb rfl ta3 rfl rfl) ?_
              refine DW.pure rfl rfl rfl rfl rfl (p_min2 rfl rfl rfl) ?_
              refine DW.pure rfl rfl rfl rfl rfl (pI (blkN_eq z.m) (p_max2 rfl rfl rfl)) ?_
              refine DW.c01k rfl rfl rfl rfl rfl (tBlock _ (Nat.le_trans (blkN_le z.m) (by decide))) (en39 _) rfl rfl rfl (args_val rfl) ?_
              intro y1
              have hK2 : rwriteK s z.n (blockL z.fill (blkN z.m)) = (e, s2) := by rw [← hK]; unfold rdoK; rw [if_neg k1]; rw [if_neg k2]; rw [if_neg k3]; rw [if_neg k4]; rw [if_neg k5]; rw [if_pos k6]
              refine DW.c22s rfl rfl rfl rfl rfl rfl (rWrite x y1 _ (hK2) (hl)) (en40 _) rfl rfl rfl (args_val rfl) ?_
              intro x2
              refine DW.pure rfl rfl rfl rfl rfl (p_assign rfl rfl) ?_
              refine DW.doneQ (y := sub [1, 0, 1, 0, 1, 1, 1, 1, 1, 1, 1, 1, 1, 1, 1, 0, 1] B24) hl13 rfl ?_
              exact C.ret (R := fun e' w' => ∃ x' : Rx s2, e' = .returned (.int .i64 e) ∧ Cls w0 I' (rX b x') w') (rs := [.tmp 4]) (vs := [.int .i64 e]) rfl Try.func24 rfl rfl rfl (res_cons (ResV.tmp rfl) res_nil) fun w1 hc1 => ⟨x2, rfl, (cls_less he2 hc1).fewer (List.sublist_append_left _ _)⟩
            · refine W.pure rfl (wo rfl) rfl rfl (pF (by simpa using k6) (p_eql rfl rfl rfl)) (nf rfl) ?_
              refine W.pure rfl (wo rfl) rfl rfl (p_assign rfl rfl) (nf rfl) ?_
              refine W.doneQ (y := sub [1, 0, 1, 0, 1, 1, 1, 1, 1, 1, 1, 1, 1, 1, 1] B24) rfl ?_
              refine C.cond_false (x := sub [1, 0, 1, 0, 1, 1, 1, 1, 1, 1, 1, 1, 1, 1, 1, 0] B24) (y := sub [1, 0, 1, 0, 1, 1, 1, 1, 1, 1, 1, 1, 1, 1, 1, 1] B24) rfl rfl ?_
              refine C.skipQ (y := sub [1, 1] B24) rfl ?_
              refine C.seq (x := sub [1, 1, 0] B24) (y := sub [1, 1, 1] B24) ?_
              refine C.region (id := 14) (m := 1) (ops := opsOf (sub [1, 1, 0] B24)) rfl ?_
              refine W.pure rfl (wo rfl) rfl rfl (p_assign rfl rfl) (nf rfl) ?_
              refine W.doneQ (y := sub [1, 1, 1] B24) rfl ?_
              have hK2 : ((0 : Int), s) = (e, s2) := by rw [← hK]; unfold rdoK; rw [if_neg k1]; rw [if_neg k2]; rw [if_neg k3]; rw [if_neg k4]; rw [if_neg k5]; rw [if_neg k6]
              obtain ⟨rfl, rfl⟩ := Prod.mk.inj hK2
              exact C.ret (R := fun e' w' => ∃ x' : Rx s, e' = .returned (.int .i64 0) ∧ Cls w0 I' (rX b x') w') (rs := [.tmp 4]) (vs := [.int .i64 0]) rfl Try.func24 rfl rfl rfl (res_cons (ResV.tmp rfl) res_nil) fun w1 hc1 => ⟨x, rfl, (cls_less he2 hc1).fewer (List.sublist_append_left _ _)⟩

theorem wkm {k : Nat} (h : k < 1099511627776) : IntKind.i64.wrap (((k : Int) - 1) + 1) = ((k + 1 : Nat) : Int) - 1 := by rw [w64 (by omega) (by omega)]; omega

noncomputable def B28 : Code := bodyOf Try.f28
theorem en28 (args : Array Value) (w : World) : (callFunc 28 args).run Try.prog w = .ok (.enter 28 args) w := by kernel_rfl
theorem tLooks {I : Mem} {b m b2 : Nat} {s : Dk} {r : Rk} (x : Dx s) (x2 : Rx r) (hs : Sim s r) (hl : s.late.length ≤ 1000000 ∧ s.n ≤ 1000000) : Turn I 28 #[ptr b 0, ptr b2 0] (dX b m x ++ rX b2 x2) (fun _ : Unit => .bool true) (fun _ => dX b m x ++ rX b2 x2) := fun I' he w0 w hc => by
  have hc : Cls w0 I' (dX b m x ++ (rX b2 x2 ++ [])) w := by rw [List.append_nil]; exact hc
  refine calls_of_CW (N := 69) Try.func28 (show _ = some B28 by kernel_rfl) (by kernel_rfl) rfl (S := [(0, ptr b 0), (1, ptr b2 0)]) (by simp) hc ?_
  show CW _ _ _ (sub [] B28) _ _ _
  refine C.seq (x := sub [0] B28) (y := sub [1] B28) ?_
  refine C.region (id := 0) (m := 1) (ops := opsOf (sub [0] B28)) rfl ?_
  refine W.pure rfl (wo rfl) rfl rfl (p_assign rfl rfl) (nf rfl) ?_
  refine W.doneQ (y := sub [1] B28) rfl ?_
  refine C.seq (x := sub [1, 0] B28) (y := sub [1, 1] B28) ?_
  refine C.seq (x := sub [1, 0, 0] B28) (y := sub [1, 0, 1] B28) ?_
  refine C.regionD (id := 1) (ops := opsOf (sub [1, 0, 0] B28)) [0, 1, 2, 3, 4, 5, 6, 7, 8, 9, 10, 11, 12, 13, 14, 15, 16, 17, 18, 19, 20, 21, 22, 23, 24, 25, 26] [0, 1, 0, 4, 12, 28, 60, 127, 255, 511, 1023, 511, 2559, 6655, 14847, 32767, 65535, 131071, 262143, 524287, 262143, 1310719, 3407871, 7602175, 15990783, 33554431, 67108863] [(.pure, none), (.quiet, none), (.pure, none), (.pure, none), (.pure, none), (.quiet, none), (.pure, none), (.pure, none), (.pure, none), (.pure, none), (.quiet, none), (.pure, none), (.pure, none), (.pure, none), (.quiet, none), (.pure, none), (.pure, none), (.pure, none), (.pure, none), (.quiet, none), (.pure, none), (.pure, none), (.pure, none), (.quiet, none), (.pure, none), (.pure, none), (.pure, none)] (by kernel_rfl) ?_
  intro wD1 hl1
  refine DW.pure rfl rfl rfl rfl rfl (p_move rfl rfl) ?_
  refine DW.quiet rfl rfl rfl rfl rfl (f_callR rfl rfl (args_val rfl) (en31 _) (fun w2 hc2 => blocks_ok (M := heapOf w2) (fun _ _ e => e) (x.2.M hc2 fun p hp => List.mem_append_left _ hp))) ?_
  refine DW.pure rfl rfl rfl rfl rfl (p_move rfl rfl) ?_
  refine DW.pure rfl rfl rfl rfl rfl (p_nilCheck rfl rfl) ?_
  refine DW.pure rfl rfl rfl rfl rfl (p_fieldAddr tf73_0 rfl rfl) ?_
  refine DW.quiet rfl rfl rfl rfl rfl (f_load (j := 3) ta70 rfl (off := 0) rfl rfl rfl) ?_
  refine DW.pure rfl rfl rfl rfl rfl (p_slLen tu70 (own_len x2.2.hB) rfl rfl) ?_
  refine DW.pure rfl rfl rfl rfl rfl (pF (by rw [hs.n, B_len x2.2]; simp) (p_neq rfl rfl rfl)) ?_
  refine DW.pure rfl rfl rfl rfl rfl (p_move rfl rfl) ?_
  refine DV.pure rfl (wo rfl) rfl rfl rfl (p_move rfl rfl) ?_
  refine DV.quiet rfl (wo rfl) rfl rfl rfl (f_callR rfl rfl (args_val rfl) (en17 _) (fun w2 hc2 => dead_ok (M := heapOf w2) (fun _ _ e => e) (x.2.M hc2 fun p hp => List.mem_append_left _ hp))) ?_
  refine DV.pure rfl (wo rfl) rfl rfl rfl (p_move rfl rfl) ?_
  refine DV.pure rfl (wo rfl) rfl rfl rfl (p_nilCheck rfl rfl) ?_
  refine DV.pure rfl (wo rfl) rfl rfl rfl (p_fieldAddr tf73_3 rfl rfl) ?_
  refine DV.quiet rfl (wo rfl) rfl rfl rfl (f_load (j := 3) ta4 rfl (off := 3) rfl rfl rfl) ?_
  refine DV.pure rfl (wo rfl) rfl rfl rfl (pF (by rw [hs.dead]; simp) (p_neb (fun w => by kernel_rfl) rfl rfl rfl)) ?_
  refine DW.pure rfl rfl rfl rfl rfl (p_pick_false rfl rfl rfl) ?_
  refine DW.pure rfl rfl rfl rfl rfl (p_move rfl rfl) ?_
  refine DV.pure rfl (wo rfl) rfl rfl rfl (p_move rfl rfl) ?_
  refine DV.quiet rfl (wo rfl) rfl rfl rfl (f_callR rfl rfl (args_val rfl) (en25 _) (fun w2 hc2 => unsynced_ok (M := heapOf w2) (fun _ _ e => e) (x.2.M hc2 fun p hp => List.mem_append_left _ hp))) ?_
  refine DV.pure rfl (wo rfl) rfl rfl rfl (p_move rfl rfl) ?_
  refine DV.pure rfl (wo rfl) rfl rfl rfl (p_nilCheck rfl rfl) ?_
  refine DV.pure rfl (wo rfl) rfl rfl rfl (p_fieldAddr tf73_1 rfl rfl) ?_
  refine DV.quiet rfl (wo rfl) rfl rfl rfl (f_load (j := 3) ta71 rfl (off := 1) rfl rfl rfl) ?_
  refine DV.pure rfl (wo rfl) rfl rfl rfl (p_slLen tu71 (own_len x2.2.hL) rfl rfl) ?_
  refine DV.pure rfl (wo rfl) rfl rfl rfl (pF (by rw [← L_len x2.2, hs.L]; simp) (p_neq rfl rfl rfl)) ?_
  refine DW.pure rfl rfl rfl rfl rfl (p_pick_false rfl rfl rfl) ?_
  refine DW.doneQ (y := sub [1, 0, 1] B28) hl1 rfl ?_
  refine C.cond_false (x := sub [1, 0, 1, 0] B28) (y := sub [1, 0, 1, 1] B28) rfl rfl ?_
  refine C.skipQ (y := sub [1, 1] B28) rfl ?_
  refine C.seq (x := sub [1, 1, 0] B28) (y := sub [1, 1, 1] B28) ?_
  refine C.seq (x := sub [1, 1, 0, 0] B28) (y := sub [1, 1, 0, 1] B28) ?_
  refine C.region (id := 3) (m := 1) (ops := opsOf (sub [1, 1, 0, 0] B28)) rfl ?_
  refine W.pure rfl (wo rfl) rfl rfl (p_assign rfl rfl) (nf rfl) ?_
  refine W.doneQ (y := sub [1, 1, 0, 1] B28) rfl ?_
  refine C.loopB (id := 0) (c := sub [1, 1, 0, 1, 0, 0] B28) (y := sub [1, 1, 1] B28) (fun k : Nat => (s.n + 2 - (k : Int)).toNat) (fun k => [(0, ptr b 0), (1, ptr b2 0), (5, .int .i64 ((k : Int) - 1))]) (fun k => dX b m x ++ (rX b2 x2 ++ [])) (fun k => (k : Int) ≤ s.n + 2) 0 (by have := hs.n; show (0 : Int) ≤ _; omega) (Sub.cons rfl (Sub.cons rfl (Sub.cons rfl (Sub.nil _)))) rfl rfl (fun k => True) ?_ ?_
  · intro k hk Q' hN hE hR
    have hn2 : s.n = (x2.1.Bs.length : Int) := by rw [hs.n, B_len x2.2]
    by_cases hlt : (k : Int) - 1 ≤ s.n
    · refine C.seq (x := sub [1, 1, 0, 1, 0, 0, 0] B28) (y := sub [1, 1, 0, 1, 0, 0, 1] B28) ?_
      refine C.seq (x := sub [1, 1, 0, 1, 0, 0, 0, 0] B28) (y := sub [1, 1, 0, 1, 0, 0, 0, 1] B28) ?_
      refine C.region (id := 4) (m := 7) (ops := opsOf (sub [1, 1, 0, 1, 0, 0, 0, 0] B28)) rfl ?_
      refine W.pure rfl (wo rfl) rfl rfl (p_move rfl rfl) (nf rfl) ?_
      refine W.pure rfl (wo rfl) rfl rfl (p_move rfl rfl) (nf rfl) ?_
      refine W.pure rfl (wo rfl) rfl rfl (p_nilCheck rfl rfl) (nf rfl) ?_
      refine W.pure rfl (wo rfl) rfl rfl (p_fieldAddr tf73_0 rfl rfl) (nf rfl) ?_
      refine W.quiet rfl (wo rfl) rfl rfl (f_load (j := 3) ta70 rfl (off := 0) rfl rfl rfl) (nf rfl) ?_
      refine W.pure rfl (wo rfl) rfl rfl (p_slLen tu70 (own_len x2.2.hB) rfl rfl) (nf rfl) ?_
      refine W.pure rfl (wo rfl) rfl rfl (pT (decide_eq_true (by omega)) (p_leq rfl rfl rfl)) (nf rfl) ?_
      refine W.doneQ (y := sub [1, 1, 0, 1, 0, 0, 0, 1] B28) rfl ?_
      refine C.cond_true (x := sub [1, 1, 0, 1, 0, 0, 0, 1, 0] B28) (y := sub [1, 1, 0, 1, 0, 0, 0, 1, 1] B28) rfl rfl ?_
      refine C.skipQ (y := sub [1, 1, 0, 1, 0, 0, 1] B28) rfl ?_
      refine C.seq (x := sub [1, 1, 0, 1, 0, 0, 1, 0] B28) (y := sub [1, 1, 0, 1, 0, 0, 1, 1] B28) ?_
      refine C.block (id := 1) (c := sub [1, 1, 0, 1, 0, 0, 1, 0, 0] B28) ?_
      refine C.seq (x := sub [1, 1, 0, 1, 0, 0, 1, 0, 0, 0] B28) (y := sub [1, 1, 0, 1, 0, 0, 1, 0, 0, 1] B28) ?_
      by_cases hin : hasD s ((k : Int) - 1) = true
      · refine C.region (id := 6) (m := 8) (ops := opsOf (sub [1, 1, 0, 1, 0, 0, 1, 0, 0, 0] B28)) rfl ?_
        refine W.pure rfl (wo rfl) rfl rfl (p_move rfl rfl) (nf rfl) ?_
        refine W.pure rfl (wo rfl) rfl rfl (p_move rfl rfl) (nf rfl) ?_
        refine W.c12 rfl (wo rfl) rfl rfl rfl (tRead x _ (hin) (by omega)) (en20 _) rfl rfl rfl (args_val rfl) ?_
        intro y1
        refine W.pure rfl (wo rfl) rfl rfl (p_move rfl rfl) (nf rfl) ?_
        refine W.pure rfl (wo rfl) rfl rfl (p_extract rfl rfl rfl) (nf rfl) ?_
        refine W.pure rfl (wo rfl) rfl rfl (p_extract rfl rfl rfl) (nf rfl) ?_
        refine W.pure rfl (wo rfl) rfl rfl (p_assign rfl rfl) (nf rfl) ?_
        refine W.pure rfl (wo rfl) rfl rfl (p_assign rfl rfl) (nf rfl) ?_
        refine W.doneQ (y := sub [1, 1, 0, 1, 0, 0, 1, 0, 0, 1] B28) rfl ?_
        refine C.seq (x := sub [1, 1, 0, 1, 0, 0, 1, 0, 0, 1, 0] B28) (y := sub [1, 1, 0, 1, 0, 0, 1, 0, 0, 1, 1] B28) ?_
        refine C.region (id := 7) (m := 8) (ops := opsOf (sub [1, 1, 0, 1, 0, 0, 1, 0, 0, 1, 0] B28)) rfl ?_
        refine W.pure rfl (wo rfl) rfl rfl (p_move rfl rfl) (nf rfl) ?_
        refine W.pure rfl (wo rfl) rfl rfl (p_move rfl rfl) (nf rfl) ?_
        refine W.f2 rfl ?_
        refine W.c12 rfl (wo rfl) rfl rfl rfl (rRead x2 _ ((sim_has hs _).trans hin) (by rw [hs.L]; omega)) (en45 _) rfl rfl rfl (args_val rfl) ?_
        intro y2
        refine W.pure rfl (wo rfl) rfl rfl (p_move rfl rfl) (nf rfl) ?_
        refine W.pure rfl (wo rfl) rfl rfl (p_extract rfl rfl rfl) (nf rfl) ?_
        refine W.pure rfl (wo rfl) rfl rfl (p_extract rfl rfl rfl) (nf rfl) ?_
        refine W.pure rfl (wo rfl) rfl rfl (p_assign rfl rfl) (nf rfl) ?_
        refine W.pure rfl (wo rfl) rfl rfl (p_assign rfl rfl) (nf rfl) ?_
        refine W.doneQ (y := sub [1, 1, 0, 1, 0, 0, 1, 0, 0, 1, 1] B28) rfl ?_
        refine C.seq (x := sub [1, 1, 0, 1, 0, 0, 1, 0, 0, 1, 1, 0] B28) (y := sub [1, 1, 0, 1, 0, 0, 1, 0, 0, 1, 1, 1] B28) ?_
        refine C.region (id := 8) (m := 11) (ops := opsOf (sub [1, 1, 0, 1, 0, 0, 1, 0, 0, 1, 1, 0] B28)) rfl ?_
        refine W.pure rfl (wo rfl) rfl rfl (p_move rfl rfl) (nf rfl) ?_
        refine W.f2 rfl ?_
        refine W.quiet rfl (wo rfl) rfl rfl (q_ownStr y1 rfl rfl rfl) (nf rfl) ?_
        refine W.pure rfl (wo rfl) rfl rfl (p_move rfl rfl) (nf rfl) ?_
        refine W.f1 rfl ?_
        refine W.quiet rfl (wo rfl) rfl rfl (q_ownStr y2 rfl rfl rfl) (nf rfl) ?_
        refine W.pure rfl (wo rfl) rfl rfl (pF (by rw [sim_rd hs hin]; simp) (p_strNe rfl rfl rfl)) (nf rfl) ?_
        refine W.pure rfl (wo rfl) rfl rfl (p_move rfl rfl) (nf rfl) ?_
        refine W.pure rfl (wo rfl) rfl rfl (p_move rfl rfl) (nf rfl) ?_
        refine W.quiet rfl (wo rfl) rfl rfl (f_callR rfl rfl (args_val rfl) (en12 _) (fun w2 hc2 => num_ok w2 _)) (nf rfl) ?_
        refine W.pure rfl (wo rfl) rfl rfl (p_move rfl rfl) (nf rfl) ?_
        refine W.pure rfl (wo rfl) rfl rfl (pF (by rfl) (p_neq rfl rfl rfl)) (nf rfl) ?_
        refine W.pure rfl (wo rfl) rfl rfl (p_pick_false rfl rfl rfl) (nf rfl) ?_
        refine W.doneQ (y := sub [1, 1, 0, 1, 0, 0, 1, 0, 0, 1, 1, 1] B28) rfl ?_
        refine C.cond_false (x := sub [1, 1, 0, 1, 0, 0, 1, 0, 0, 1, 1, 1, 0] B28) (y := sub [1, 1, 0, 1, 0, 0, 1, 0, 0, 1, 1, 1, 1] B28) rfl rfl ?_
        refine C.skipQ (y := sub [1, 1, 0, 1, 0, 0, 1, 1] B28) rfl ?_
        refine C.region (id := 5) (m := 3) (ops := opsOf (sub [1, 1, 0, 1, 0, 0, 1, 1] B28)) rfl ?_
        refine W.pure rfl (wo rfl) rfl rfl (p_move rfl rfl) (nf rfl) ?_
        refine W.pure rfl (wo rfl) rfl rfl (pI (wkm (by omega)) (p_add rfl rfl rfl)) (nf rfl) ?_
        refine W.pure rfl (wo rfl) rfl rfl (p_assign rfl rfl) (nf rfl) ?_
        refine W.dr rfl ?_
        refine W.dr rfl ?_
        refine W.f1 rfl ?_
        refine W.end' fun a1 w1 ha1 hc1 => hN (k + 1) (by show ((k + 1 : Nat) : Int) ≤ s.n + 2; omega) (by show (s.n + 2 - ((k + 1 : Nat) : Int)).toNat < _; omega) a1 w1 (ha1.sub (Sub.cons rfl (Sub.cons rfl (Sub.cons rfl (Sub.nil _))))) hc1
      · refine C.region (id := 6) (m := 8) (ops := opsOf (sub [1, 1, 0, 1, 0, 0, 1, 0, 0, 0] B28)) rfl ?_
        refine W.pure rfl (wo rfl) rfl rfl (p_move rfl rfl) (nf rfl) ?_
        refine W.pure rfl (wo rfl) rfl rfl (p_move rfl rfl) (nf rfl) ?_
        refine W.c11 rfl (wo rfl) rfl rfl rfl (tReadNo x _ (by simpa using hin)) (en20 _) rfl rfl rfl (args_val rfl) ?_
        intro _
        refine W.pure rfl (wo rfl) rfl rfl (p_move rfl rfl) (nf rfl) ?_
        refine W.pure rfl (wo rfl) rfl rfl (p_extract rfl rfl rfl) (nf rfl) ?_
        refine W.pure rfl (wo rfl) rfl rfl (p_extract rfl rfl rfl) (nf rfl) ?_
        refine W.pure rfl (wo rfl) rfl rfl (p_assign rfl rfl) (nf rfl) ?_
        refine W.pure rfl (wo rfl) rfl rfl (p_assign rfl rfl) (nf rfl) ?_
        refine W.doneQ (y := sub [1, 1, 0, 1, 0, 0, 1, 0, 0, 1] B28) rfl ?_
        refine C.seq (x := sub [1, 1, 0, 1, 0, 0, 1, 0, 0, 1, 0] B28) (y := sub [1, 1, 0, 1, 0, 0, 1, 0, 0, 1, 1] B28) ?_
        refine C.region (id := 7) (m := 8) (ops := opsOf (sub [1, 1, 0, 1, 0, 0, 1, 0, 0, 1, 0] B28)) rfl ?_
        refine W.pure rfl (wo rfl) rfl rfl (p_move rfl rfl) (nf rfl) ?_
        refine W.pure rfl (wo rfl) rfl rfl (p_move rfl rfl) (nf rfl) ?_
        refine W.f1 rfl ?_
        refine W.c11 rfl (wo rfl) rfl rfl rfl (rReadNo x2 _ ((sim_has hs _).trans (by simpa using hin))) (en45 _) rfl rfl rfl (args_val rfl) ?_
        intro _
        refine W.pure rfl (wo rfl) rfl rfl (p_move rfl rfl) (nf rfl) ?_
        refine W.pure rfl (wo rfl) rfl rfl (p_extract rfl rfl rfl) (nf rfl) ?_
        refine W.pure rfl (wo rfl) rfl rfl (p_extract rfl rfl rfl) (nf rfl) ?_
        refine W.pure rfl (wo rfl) rfl rfl (p_assign rfl rfl) (nf rfl) ?_
        refine W.pure rfl (wo rfl) rfl rfl (p_assign rfl rfl) (nf rfl) ?_
        refine W.doneQ (y := sub [1, 1, 0, 1, 0, 0, 1, 0, 0, 1, 1] B28) rfl ?_
        refine C.seq (x := sub [1, 1, 0, 1, 0, 0, 1, 0, 0, 1, 1, 0] B28) (y := sub [1, 1, 0, 1, 0, 0, 1, 0, 0, 1, 1, 1] B28) ?_
        refine C.region (id := 8) (m := 11) (ops := opsOf (sub [1, 1, 0, 1, 0, 0, 1, 0, 0, 1, 1, 0] B28)) rfl ?_
        refine W.pure rfl (wo rfl) rfl rfl (p_move rfl rfl) (nf rfl) ?_
        refine W.imm rfl (wo rfl) rfl rfl (i_rowStr (IntRow.nil _ _) rfl rfl) (nf rfl) ?_
        refine W.pure rfl (wo rfl) rfl rfl (p_move rfl rfl) (nf rfl) ?_
        refine W.imm rfl (wo rfl) rfl rfl (i_rowStr (IntRow.nil _ _) rfl rfl) (nf rfl) ?_
        refine W.pure rfl (wo rfl) rfl rfl (pF (by rfl) (p_strNe rfl rfl rfl)) (nf rfl) ?_
        refine W.pure rfl (wo rfl) rfl rfl (p_move rfl rfl) (nf rfl) ?_
        refine W.pure rfl (wo rfl) rfl rfl (p_move rfl rfl) (nf rfl) ?_
        refine W.quiet rfl (wo rfl) rfl rfl (f_callR rfl rfl (args_val rfl) (en12 _) (fun w2 hc2 => num_ok w2 _)) (nf rfl) ?_
        refine W.pure rfl (wo rfl) rfl rfl (p_move rfl rfl) (nf rfl) ?_
        refine W.pure rfl (wo rfl) rfl rfl (pF (by rfl) (p_neq rfl rfl rfl)) (nf rfl) ?_
        refine W.pure rfl (wo rfl) rfl rfl (p_pick_false rfl rfl rfl) (nf rfl) ?_
        refine W.doneQ (y := sub [1, 1, 0, 1, 0, 0, 1, 0, 0, 1, 1, 1] B28) rfl ?_
        refine C.cond_false (x := sub [1, 1, 0, 1, 0, 0, 1, 0, 0, 1, 1, 1, 0] B28) (y := sub [1, 1, 0, 1, 0, 0, 1, 0, 0, 1, 1, 1, 1] B28) rfl rfl ?_
        refine C.skipQ (y := sub [1, 1, 0, 1, 0, 0, 1, 1] B28) rfl ?_
        refine C.region (id := 5) (m := 3) (ops := opsOf (sub [1, 1, 0, 1, 0, 0, 1, 1] B28)) rfl ?_
        refine W.pure rfl (wo rfl) rfl rfl (p_move rfl rfl) (nf rfl) ?_
        refine W.pure rfl (wo rfl) rfl rfl (pI (wkm (by omega)) (p_add rfl rfl rfl)) (nf rfl) ?_
        refine W.pure rfl (wo rfl) rfl rfl (p_assign rfl rfl) (nf rfl) ?_
        refine W.f1 rfl ?_
        refine W.end' fun a1 w1 ha1 hc1 => hN (k + 1) (by show ((k + 1 : Nat) : Int) ≤ s.n + 2; omega) (by show (s.n + 2 - ((k + 1 : Nat) : Int)).toNat < _; omega) a1 w1 (ha1.sub (Sub.cons rfl (Sub.cons rfl (Sub.cons rfl (Sub.nil _))))) hc1
    · refine C.seq (x := sub [1, 1, 0, 1, 0, 0, 0] B28) (y := sub [1, 1, 0, 1, 0, 0, 1] B28) ?_
      refine C.seq (x := sub [1, 1, 0, 1, 0, 0, 0, 0] B28) (y := sub [1, 1, 0, 1, 0, 0, 0, 1] B28) ?_
      refine C.region (id := 4) (m := 7) (ops := opsOf (sub [1, 1, 0, 1, 0, 0, 0, 0] B28)) rfl ?_
      refine W.pure rfl (wo rfl) rfl rfl (p_move rfl rfl) (nf rfl) ?_
      refine W.pure rfl (wo rfl) rfl rfl (p_move rfl rfl) (nf rfl) ?_
      refine W.pure rfl (wo rfl) rfl rfl (p_nilCheck rfl rfl) (nf rfl) ?_
      refine W.pure rfl (wo rfl) rfl rfl (p_fieldAddr tf73_0 rfl rfl) (nf rfl) ?_
      refine W.quiet rfl (wo rfl) rfl rfl (f_load (j := 3) ta70 rfl (off := 0) rfl rfl rfl) (nf rfl) ?_
      refine W.pure rfl (wo rfl) rfl rfl (p_slLen tu70 (own_len x2.2.hB) rfl rfl) (nf rfl) ?_
      refine W.pure rfl (wo rfl) rfl rfl (pF (decide_eq_false (by omega)) (p_leq rfl rfl rfl)) (nf rfl) ?_
      refine W.doneQ (y := sub [1, 1, 0, 1, 0, 0, 0, 1] B28) rfl ?_
      refine C.cond_false (x := sub [1, 1, 0, 1, 0, 0, 0, 1, 0] B28) (y := sub [1, 1, 0, 1, 0, 0, 0, 1, 1] B28) rfl rfl ?_
      exact C.exit fun a1 w1 ha1 hc1 => hE trivial a1 w1 (ha1.sub (Sub.cons rfl (Sub.cons rfl (Sub.cons rfl (Sub.nil _))))) hc1
  intro k hk _
  refine C.seq (x := sub [1, 1, 1, 0] B28) (y := sub [1, 1, 1, 1] B28) ?_
  refine C.region (id := 10) (m := 1) (ops := opsOf (sub [1, 1, 1, 0] B28)) rfl ?_
  refine W.pure rfl (wo rfl) rfl rfl (p_assign rfl rfl) (nf rfl) ?_
  refine W.doneQ (y := sub [1, 1, 1, 1] B28) rfl ?_
  exact C.ret (R := fun e w' => ∃ _y : Unit, e = .returned (.bool true) ∧ Cls w0 I' (dX b m x ++ rX b2 x2) w') (rs := [.tmp 4]) (vs := [.bool true]) rfl Try.func28 rfl rfl rfl (res_cons (ResV.tmp rfl) res_nil) fun w1 hc1 => ⟨(), rfl, by rw [List.append_nil] at hc1; exact hc1⟩

end Go.Proofs.Ytjomnicfcdkfdaa
end
