import Derived.Test.YtjomnicfcdkfdaaDkRa
section
namespace Go.Proofs.Ytjomnicfcdkfdaa
open Go Go.HW Go.RowKit
set_option linter.unusedVariables false
set_option linter.unusedSimpArgs false

/-! ### the code's disk and the document's -/
structure Sim (s : Dk) (r : Rk) : Prop where
  n : s.n = (r.B.length : Int)
  B : ∀ i : Nat, i < r.B.length → r.B.getD i [] = mget s.set (i : Int)
  L : r.L = s.late
  ok : ∀ w ∈ s.late, 0 ≤ w.1 ∧ w.1 < s.n
  dead : r.dead = s.dead
  on : s.armed = true → r.fuse = s.fuse ∧ 0 ≤ s.fuse ∧ s.fuse ≤ 9223372036854775807
  off : s.armed = false → r.fuse = -1
theorem hasD_lt {s : Dk} {n : Int} (h : hasD s n = true) : 0 ≤ n ∧ n < s.n := of_decide_eq_true h
theorem sim_new (n : Nat) : Sim (newK (n : Int)) (rnewK n) := ⟨by simp [newK, rnewK], fun i hi => by
  have hi' : i < n := by simpa [rnewK] using hi
  show (List.replicate n zeros).getD i [] = zeros
  rw [List.getD_eq_getElem?_getD, List.getElem?_replicate, if_pos hi']; rfl, rfl, fun w hw => (by cases hw), rfl, fun h => (by cases h), fun _ => rfl⟩
theorem sim_has {s : Dk} {r : Rk} (h : Sim s r) (i : Int) : hasL r.B.length i = hasD s i := by unfold hasL hasD; rw [h.n]
theorem sim_step {s : Dk} {r : Rk} (h : Sim s r) : (rstepK r).1 = (stepK s).1 ∧ Sim (stepK s).2 (rstepK r).2 := by
  unfold rstepK stepK
  by_cases a : s.dead = true
  · rw [if_pos a, if_pos (by rw [h.dead]; exact a)]; exact ⟨rfl, h⟩
  · rw [if_neg a, if_neg (by rw [h.dead]; exact a)]
    by_cases b : s.armed = false
    · rw [if_pos b]
      have hf := h.off b
      rw [if_neg (by omega), if_neg (by omega)]; exact ⟨rfl, h⟩
    · rw [if_neg b]
      have b' : s.armed = true := by simpa using b
      obtain ⟨f1, f2, f3⟩ := h.on b'
      rw [f1]
      by_cases c : s.fuse = 0
      · rw [if_pos c, if_pos c]
        exact ⟨rfl, ⟨h.n, h.B, h.L, h.ok, rfl, fun _ => ⟨rfl, f2, f3⟩, fun z => absurd z b⟩⟩
      · rw [if_neg c, if_neg c, if_pos (by omega)]
        refine ⟨rfl, ⟨h.n, h.B, h.L, h.ok, h.dead, fun _ => ?_, fun z => absurd z b⟩⟩
        show IntKind.i64.wrap (s.fuse - 1) = IntKind.i64.wrap (s.fuse - 1) ∧ 0 ≤ IntKind.i64.wrap (s.fuse - 1) ∧ IntKind.i64.wrap (s.fuse - 1) ≤ 9223372036854775807
        rw [w64 (by omega) (by omega)]
        exact ⟨rfl, by omega, by omega⟩
theorem sim_write {s : Dk} {r : Rk} (h : Sim s r) (n : Int) (xs : List Int) : (rwriteK r n xs).1 = (writeK s n xs).1 ∧ Sim (writeK s n xs).2 (rwriteK r n xs).2 := by
  unfold rwriteK writeK
  rw [sim_has h]
  by_cases a : hasD s n = false
  · rw [if_pos a, if_pos a]; exact ⟨rfl, h⟩
  rw [if_neg a, if_neg a]
  by_cases b : ¬ xs.length = 512
  · rw [if_pos b, if_pos b]; exact ⟨rfl, h⟩
  rw [if_neg b, if_neg b]
  obtain ⟨h1, h2⟩ := sim_step h
  rw [h1]
  by_cases c : (stepK s).1 = 14
  · rw [if_pos c, if_pos c]
    exact ⟨by rw [h1, c], h2⟩
  rw [if_neg c, if_neg c]
  have hn : 0 ≤ n ∧ n < s.n := hasD_lt (by simpa using a)
  refine ⟨rfl, ⟨h2.n, h2.B, ?_, fun w hw => ?_, h2.dead, h2.on, h2.off⟩⟩
  · show (rstepK r).2.L ++ _ = (stepK s).2.late ++ _
    rw [h2.L]
  · rcases List.mem_append.1 hw with hw | hw
    · exact h2.ok w hw
    · rw [List.mem_singleton.1 hw]
      show 0 ≤ n ∧ n < (stepK s).2.n
      rw [stepK_n]; exact hn
theorem set_getD {B : List (List Int)} {n i : Nat} {b : List Int} (hn : n < B.length) : (B.set n b).getD i [] = if i = n then b else B.getD i [] := by
  rw [List.getD_eq_getElem?_getD, List.getElem?_set]
  by_cases c : n = i
  · subst c; rw [if_pos rfl, if_pos hn, if_pos rfl]; rfl
  · rw [if_neg c, if_neg (fun h => c h.symm), List.getD_eq_getElem?_getD]
theorem sim_put {B : List (List Int)} {m : List Wr} (h : ∀ i : Nat, i < B.length → B.getD i [] = mget m (i : Int)) {n : Int} (hn : 0 ≤ n ∧ n < (B.length : Int)) (b : List Int) : ∀ i : Nat, i < (B.set n.toNat b).length → (B.set n.toNat b).getD i [] = mget (mput m n b) (i : Int) := fun i hi => by
  rw [List.length_set] at hi
  rw [set_getD (by omega), mget_mput]
  by_cases c : i = n.toNat
  · rw [if_pos c, if_pos (by omega)]
  · rw [if_neg c, if_neg (by omega), h i hi]
theorem sim_fold : ∀ (l : List Wr) {B : List (List Int)} {m : List Wr}, (∀ i : Nat, i < B.length → B.getD i [] = mget m (i : Int)) → (∀ w ∈ l, 0 ≤ w.1 ∧ w.1 < (B.length : Int)) →
    (l.foldl (fun B w => B.set w.1.toNat w.2) B).length = B.length ∧ ∀ i : Nat, i < B.length → (l.foldl (fun B w => B.set w.1.toNat w.2) B).getD i [] = mget (l.foldl (fun l w => mput l w.1 w.2) m) (i : Int)
  | [], B, m, h, _ => ⟨rfl, h⟩
  | w :: l, B, m, h, ho => by
    have h1 := sim_put h (ho w (by simp)) w.2
    obtain ⟨h2, h3⟩ := sim_fold l h1 (fun v hv => by rw [List.length_set]; exact ho v (by simp [hv]))
    rw [List.length_set] at h2 h3
    exact ⟨h2, h3⟩
theorem sim_sync {s : Dk} {r : Rk} (h : Sim s r) : (rsyncK r).1 = (syncK s).1 ∧ Sim (syncK s).2 (rsyncK r).2 := by
  obtain ⟨h1, h2⟩ := sim_step h
  unfold rsyncK syncK
  rw [h1]
  by_cases c : (stepK s).1 = 0
  · rw [if_pos c, if_pos c]
    have hr : rsetB (rstepK r).2 (rstepK r).2.L.length = (stepK s).2.late.foldl (fun B w => B.set w.1.toNat w.2) (rstepK r).2.B := by
      unfold rsetB; rw [List.take_length, h2.L]
    have hs : setK (stepK s).2 (stepK s).2.late.length = (stepK s).2.late.foldl (fun l w => mput l w.1 w.2) (stepK s).2.set := by
      unfold setK; rw [List.take_length]
    obtain ⟨k1, k2⟩ := sim_fold (stepK s).2.late h2.B (fun w hw => by have := h2.ok w hw; rw [h2.n] at this; exact this)
    refine ⟨rfl, ⟨?_, ?_, rfl, fun w hw => (by cases hw), h2.dead, h2.on, h2.off⟩⟩
    · show (stepK s).2.n = ((rsetB (rstepK r).2 (rstepK r).2.L.length).length : Int)
      rw [hr, k1]; exact h2.n
    · show ∀ i : Nat, i < (rsetB (rstepK r).2 (rstepK r).2.L.length).length → (rsetB (rstepK r).2 (rstepK r).2.L.length).getD i [] = mget (setK (stepK s).2 (stepK s).2.late.length) (i : Int)
      rw [hr, hs, k1]; exact k2
  · rw [if_neg c, if_neg c]; exact ⟨h1, h2⟩
theorem sim_fuse {s : Dk} {r : Rk} (h : Sim s r) {n : Int} (hn : n ≤ 9223372036854775807) : (rfuseK r n).1 = (setFuseK s n).1 ∧ Sim (setFuseK s n).2 (rfuseK r n).2 := by
  unfold rfuseK setFuseK
  by_cases c : n < 0
  · rw [if_pos c, if_pos c]; exact ⟨rfl, h⟩
  · rw [if_neg c, if_neg c]; exact ⟨rfl, ⟨h.n, h.B, h.L, h.ok, h.dead, fun _ => ⟨rfl, by show 0 ≤ n; omega, hn⟩, fun z => (by cases z)⟩⟩
theorem mod3 {p : Int} : p.tmod 3 = -2 ∨ p.tmod 3 = -1 ∨ p.tmod 3 = 0 ∨ p.tmod 3 = 1 ∨ p.tmod 3 = 2 := by
  have h1 := Int.tmod_lt_of_pos p (show (0 : Int) < 3 by decide)
  have h2 := Int.lt_tmod_of_pos p (show (0 : Int) < 3 by decide)
  omega
theorem how_eq (p : Int) : howK p = divR p 3 := by
  unfold howK divR
  rcases mod3 (p := p) with h | h | h | h | h <;> rw [h] <;> decide
theorem floor_eq (p : Int) : floorK p = divQ p 3 := by
  unfold floorK divQ
  by_cases hp : p < 0
  · have h1 : p.tmod 3 ≤ 0 := by
      have := Int.tmod_nonneg (a := -p) 3 (by omega)
      rw [Int.neg_tmod] at this; omega
    by_cases c : p.tmod 3 = 0
    · rw [if_neg (by omega), if_neg (fun z => z.2 c)]
    · rw [if_pos (by omega), if_pos ⟨hp, c⟩]
  · have := Int.tmod_nonneg (a := p) 3 (by omega)
    rw [if_neg (by omega), if_neg (fun z => hp z.1)]
theorem tear_eq (p : Int) (l : Bool) : tearK p l = rtear p l := by
  unfold tearK rtear
  rw [how_eq, floor_eq]; rfl
theorem sim_cr {s : Dk} {r : Rk} (h : Sim s r) (picks : List Int) : ∀ k, (rcrB r picks k).length = r.B.length ∧ ∀ i : Nat, i < r.B.length → (rcrB r picks k).getD i [] = mget (crK s picks k) (i : Int)
  | 0 => ⟨rfl, h.B⟩
  | k + 1 => by
    obtain ⟨h1, h2⟩ := sim_cr h picks k
    unfold rcrB crK
    rw [h.L]
    cases e : s.late[k]? with
    | none => exact ⟨h1, h2⟩
    | some w =>
      simp only
      rw [how_eq]
      by_cases c : divR (picks.getD k 0) 3 = 0
      · rw [if_pos c, if_pos c]; exact ⟨h1, h2⟩
      · rw [if_neg c, if_neg c, tear_eq]
        have ho := h.ok w (List.mem_of_getElem? e)
        have hn := h.n
        have e2 : (rcrB r picks k).getD w.1.toNat [] = mget (crK s picks k) w.1 := by
          rw [h2 w.1.toNat (by omega), show ((w.1.toNat : Nat) : Int) = w.1 by omega]
        rw [e2]
        have := sim_put (B := rcrB r picks k) (m := crK s picks k) (by rw [h1]; exact h2) (n := w.1) (by rw [h1]; omega)
          (w.2.take (rtear (picks.getD k 0) (decide (k + 1 = s.late.length))).toNat ++ (mget (crK s picks k) w.1).drop (rtear (picks.getD k 0) (decide (k + 1 = s.late.length))).toNat)
        rw [List.length_set, h1] at this
        exact ⟨by rw [List.length_set, h1], this⟩
theorem sim_crash {s : Dk} {r : Rk} (h : Sim s r) (picks : List Int) : Sim (crashK s picks) (rcrashK r picks) := by
  obtain ⟨h1, h2⟩ := sim_cr h picks s.late.length
  have e : r.L.length = s.late.length := by rw [h.L]
  refine ⟨?_, ?_, rfl, fun w hw => (by cases hw), rfl, fun z => (by cases z), fun _ => rfl⟩
  · show s.n = ((rcrB r picks r.L.length).length : Int)
    rw [e, h1]; exact h.n
  · show ∀ i : Nat, i < (rcrB r picks r.L.length).length → (rcrB r picks r.L.length).getD i [] = mget (crK s picks s.late.length) (i : Int)
    rw [e, h1]; exact h2
theorem sim_edit {s : Dk} {r : Rk} (h : Sim s r) (n a x : Int) : (reditK r n a x).1 = (editK s n a x).1 ∧ Sim (editK s n a x).2 (reditK r n a x).2 := by
  unfold reditK editK
  rw [sim_has h]
  by_cases c1 : hasD s n = false
  · rw [if_pos c1, if_pos c1]; exact ⟨rfl, h⟩
  rw [if_neg c1, if_neg c1]
  by_cases c2 : a < 0
  · rw [if_pos c2, if_pos c2]; exact ⟨rfl, h⟩
  rw [if_neg c2, if_neg c2]
  by_cases c3 : 512 ≤ a
  · rw [if_pos c3, if_pos c3]; exact ⟨rfl, h⟩
  rw [if_neg c3, if_neg c3]
  have hn : 0 ≤ n ∧ n < s.n := hasD_lt (by simpa using c1)
  have hn2 := h.n
  have e : r.B.getD n.toNat [] = mget s.set n := by rw [h.B n.toNat (by omega), show ((n.toNat : Nat) : Int) = n by omega]
  refine ⟨rfl, ⟨?_, ?_, ?_, fun w hw => ?_, h.dead, h.on, h.off⟩⟩
  · show s.n = ((r.B.set n.toNat _).length : Int)
    rw [List.length_set]; exact h.n
  · show ∀ i : Nat, i < (r.B.set n.toNat (xorAt (r.B.getD n.toNat []) a x)).length → _ = mget (mput s.set n (xorAt (mget s.set n) a x)) (i : Int)
    rw [e]
    exact sim_put h.B (by omega) _
  · show r.L.map (edW n a x) = s.late.map (edW n a x)
    rw [h.L]
  · obtain ⟨v, hv, rfl⟩ := List.mem_map.1 hw
    have := h.ok v hv
    show 0 ≤ (edW n a x v).1 ∧ (edW n a x v).1 < s.n
    unfold edW; split <;> exact this
def rdoK (s : Rk) (z : Stp) : Int × Rk :=
  if z.kind = 1 then rwriteK s z.n (blockL z.fill 512)
  else if z.kind = 2 then rsyncK s
  else if z.kind = 3 then rfuseK s z.n
  else if z.kind = 4 then (0, rcrashK s z.picks)
  else if z.kind = 5 then reditK s z.n z.m z.fill
  else if z.kind = 6 then rwriteK s z.n (blockL z.fill (blkN z.m))
  else (0, s)
theorem sim_do {s : Dk} {r : Rk} (h : Sim s r) (z : Stp) (hz : z.n ≤ 9223372036854775807) : (rdoK r z).1 = (doK s z).1 ∧ Sim (doK s z).2 (rdoK r z).2 := by
  unfold rdoK doK
  by_cases h1 : z.kind = 1
  · rw [if_pos h1, if_pos h1]; exact sim_write h _ _
  rw [if_neg h1, if_neg h1]
  by_cases h2 : z.kind = 2
  · rw [if_pos h2, if_pos h2]; exact sim_sync h
  rw [if_neg h2, if_neg h2]
  by_cases h3 : z.kind = 3
  · rw [if_pos h3, if_pos h3]; exact sim_fuse h hz
  rw [if_neg h3, if_neg h3]
  by_cases h4 : z.kind = 4
  · rw [if_pos h4, if_pos h4]; exact ⟨rfl, sim_crash h _⟩
  rw [if_neg h4, if_neg h4]
  by_cases h5 : z.kind = 5
  · rw [if_pos h5, if_pos h5]; exact sim_edit h _ _ _
  rw [if_neg h5, if_neg h5]
  by_cases h6 : z.kind = 6
  · rw [if_pos h6, if_pos h6]; exact sim_write h _ _
  rw [if_neg h6, if_neg h6]; exact ⟨rfl, h⟩
end Go.Proofs.Ytjomnicfcdkfdaa
end

section
namespace Go.Proofs.Ytjomnicfcdkfdaa
open Go Go.HW Go.RowKit
set_option linter.unusedVariables false
set_option linter.unusedSimpArgs false

section
variable {N : Nat} {S : Slots} {w0 w1 : World} {I : Mem} {H : Heap} {Q : Exit → Act → World → Prop} {Qn : Act → Heap → Prop} {ops : Array Oper} {lab : Lab} {ids : Nat → Option Nat} {l : List Nat} {i d : Nat} {o : Oper} {v : Value} {X : Type} {u : X → Value} {cl : Call} {fo : Operand} {g : FuncId} {args : Array Value}
theorem DV.actx {H' : X → Heap} (hi : ops[i]? = some o) (hw : Wn ops S o true) (hd : o.dst = some d) (hN : Nat.blt d N = true) (hk : (lab i).1 = .actx) (hp : FAct Try.prog o w0 I S H X u H')
    (h : ∀ x, DD N w0 I ops lab ids Qn l ((d, u x) :: S) (H' x)) : DD N w0 I ops lab ids Qn (i :: l) S H := fun a ha => by
  show stepD Try.prog ops w0 I lab ids i _ a H
  unfold stepD
  rw [hi]
  intro _
  exact ⟨.act X u H', .inl ⟨hw N a ha, .inr (.inl hk), fun w hc => hp _ ha.val w hc⟩, fun x => by show listD _ _ _ _ _ _ _ _ _ _; rw [hd]; exact h x _ (ha.put (by simpa [Nat.blt_eq] using hN) (u x))⟩
theorem DW.c11 {E R : Heap} {E' : X → Heap} (hi : ops[i]? = some o) (hg : o.guard = none) (hd : o.dst = some d) (hN : Nat.blt d N = true) (hk : (lab i).1 = .actx) (hH : H = E ++ R) (hc : Turn I g args E u E') (hbody : ∀ w, (callFunc g args).run Try.prog w = .ok (.enter g args) w) (ho : o.op = .call cl) (hcal : cl.callee = .value fo) (hf : ev S fo = some (.func (.func g) #[] #[])) (hargs : ∀ ρ, Val S ρ → cl.args.map ρ = args)
    (h : ∀ x, DD N w0 I ops lab ids Qn l ((d, u x) :: S) (E' x ++ R)) : DD N w0 I ops lab ids Qn (i :: l) S H :=
  DW.actx hi hg hd hN hk (f_callX ho hcal hf hargs hbody (fun w hcl => by subst hH; exact hc.at w0 w hcl)) h
theorem DV.c22 {E1 E2 R : Heap} {E1' E2' : X → Heap} (hi : ops[i]? = some o) (hw : Wn ops S o true) (hd : o.dst = some d) (hN : Nat.blt d N = true) (hk : (lab i).1 = .actx) (hH : H = E1 ++ (E2 ++ R)) (hc : Turn I g args (E1 ++ E2) u (fun x => E1' x ++ E2' x)) (hbody : ∀ w, (callFunc g args).run Try.prog w = .ok (.enter g args) w) (ho : o.op = .call cl) (hcal : cl.callee = .value fo) (hf : ev S fo = some (.func (.func g) #[] #[])) (hargs : ∀ ρ, Val S ρ → cl.args.map ρ = args)
    (h : ∀ x, DD N w0 I ops lab ids Qn l ((d, u x) :: S) (E1' x ++ (E2' x ++ R))) : DD N w0 I ops lab ids Qn (i :: l) S H :=
  DV.actx (H' := fun x => E1' x ++ (E2' x ++ R)) hi hw hd hN hk (f_callX ho hcal hf hargs hbody (fun w hcl => by
    subst hH
    rw [← List.append_assoc] at hcl
    exact (hc.at w0 w hcl).mono fun e w' ⟨x, h1, h2⟩ => ⟨x, h1, by rw [← List.append_assoc]; exact h2⟩)) h
end

noncomputable def B24 : Code := bodyOf Try.f24
theorem en24 (args : Array Value) (w : World) : (callFunc 24 args).run Try.prog w = .ok (.enter 24 args) w := by kernel_rfl
theorem rDo {I : Mem} {b : Nat} {s s2 : Rk} {e : Int} (x : Rx s) {z : Stp} {pv : Value} (hp : IntRow I .i64 pv z.picks) (hK : rdoK s z = (e, s2)) (hl : s.L.length ≤ 1099511627775) : Turn I 24 #[ptr b 0, .agg (stc z pv).toArray] (rX b x) (fun _ : Rx s2 => .int .i64 e) (fun x' => rX b x') := fun I' he w0 w hc => by
  have hc : Cls w0 I' (rX b x ++ []) w := by rw [List.append_nil]; exact hc
  refine calls_of_CW (N := 55) Try.func24 (show _ = some B24 by kernel_rfl) (by kernel_rfl) rfl (S := [(0, ptr b 0), (1, .agg (stc z pv).toArray)]) (by simp) hc ?_
  show CW _ _ _ (sub [] B24) _ _ _
  refine C.seq (x := sub [0] B24) (y := sub [1] B24) ?_
  refine C.region (id := 0) (m := 2) (ops := opsOf (sub [0] B24)) rfl ?_
  refine W.new rfl (wo rfl) rfl rfl (f_box rfl rfl) (nf rfl) ?_
  intro bx hbx
  refine W.pure rfl (wo rfl) rfl rfl (p_assign rfl rfl) (nf rfl) ?_
  refine W.doneQ (y := sub [1] B24) rfl ?_
  refine C.settleF (E := [(some bx, .cells (stc z pv).toArray 46 (0, 0))]) rfl ?_
  intro I2 he2 hI
  have hb := hI bx _ (List.mem_singleton.2 rfl)
  clear hI
  refine C.seq (x := sub [1, 0] B24) (y := sub [1, 1] B24) ?_
  refine C.seq (x := sub [1, 0, 0] B24) (y := sub [1, 0, 1] B24) ?_
  refine C.region (id := 1) (m := 2) (ops := opsOf (sub [1, 0, 0] B24)) rfl ?_
  refine W.pure rfl (wo rfl) rfl rfl (p_fieldAddr tf46_0 rfl rfl) (nf rfl) ?_
  refine W.imm rfl (wo rfl) rfl rfl (i_loadBoxO (off := 0) hb rfl ta3 rfl rfl) (nf rfl) ?_
  refine W.doneQ (y := sub [1, 0, 1] B24) rfl ?_
  refine C.block (id := 0) (c := sub [1, 0, 1, 0] B24) ?_
  refine C.seq (x := sub [1, 0, 1, 0, 0] B24) (y := sub [1, 0, 1, 0, 1] B24) ?_
  refine C.region (id := 2) (m := 2) (ops := opsOf (sub [1, 0, 1, 0, 0] B24)) rfl ?_
  by_cases k1 : z.kind = 1
  · refine W.pure rfl (wo rfl) rfl rfl (pT (by rw [k1]; rfl) (p_eql rfl rfl rfl)) (nf rfl) ?_
    refine W.pure rfl (wo rfl) rfl rfl (p_assign rfl rfl) (nf rfl) ?_
    refine W.doneQ (y := sub [1, 0, 1, 0, 1] B24) rfl ?_
    refine C.cond_true (x := sub [1, 0, 1, 0, 1, 0] B24) (y := sub [1, 0, 1, 0, 1, 1] B24) rfl rfl ?_
    refine C.seq (x := sub [1, 0, 1, 0, 1, 0, 0] B24) (y := sub [1, 0, 1, 0, 1, 0, 1] B24) ?_
    refine C.regionD (id := 3) (ops := opsOf (sub [1, 0, 1, 0, 1, 0, 0] B24)) [0, 1, 2, 3, 4, 5, 6, 7] [0, 0, 2, 0, 8, 24, 63, 127] [(.pure, none), (.pure, none), (.pure, none), (.pure, none), (.pure, none), (.keep, none), (.actx, none), (.pure, none)] (by kernel_rfl) ?_
    intro wD3 hl3
    refine DW.pure rfl rfl rfl rfl rfl (p_move rfl rfl) ?_
    refine DW.pure rfl rfl rfl rfl rfl (p_fieldAddr tf46_1 rfl rfl) ?_
    refine DW.imm rfl rfl rfl rfl rfl (i_loadBoxO (off := 1) hb rfl ta3 rfl rfl) ?_
    refine DW.pure rfl rfl rfl rfl rfl (p_fieldAddr tf46_3 rfl rfl) ?_
    refine DW.imm rfl rfl rfl rfl rfl (i_loadBoxO (off := 3) hb rfl ta5 rfl rfl) ?_
    refine DW.c01k rfl rfl rfl rfl rfl (tBlock _ (by decide)) (en39 _) rfl rfl rfl (args_val rfl) ?_
    intro y1
    have hK2 : rwriteK s z.n (blockL z.fill 512) = (e, s2) := by rw [← hK]; unfold rdoK; rw [if_pos k1]
    refine DW.c22s rfl rfl rfl rfl rfl rfl (rWrite x y1 _ (hK2) (hl)) (en40 _) rfl rfl rfl (args_val rfl) ?_
    intro x2
    refine DW.pure rfl rfl rfl rfl rfl (p_assign rfl rfl) ?_
    refine DW.doneQ (y := sub [1, 0, 1, 0, 1, 0, 1] B24) hl3 rfl ?_
    exact C.ret (R := fun e' w' => ∃ x' : Rx s2, e' = .returned (.int .i64 e) ∧ Cls w0 I' (rX b x') w') (rs := [.tmp 4]) (vs := [.int .i64 e]) rfl Try.func24 rfl rfl rfl (res_cons (ResV.tmp rfl) res_nil) fun w1 hc1 => ⟨x2, rfl, (cls_less he2 hc1).fewer (List.sublist_append_left _ _)⟩
  · refine W.pure rfl (wo rfl) rfl rfl (pF (by simpa using k1) (p_eql rfl rfl rfl)) (nf rfl) ?_
    refine W.pure rfl (wo rfl) rfl rfl (p_assign rfl rfl) (nf rfl) ?_
    refine W.doneQ (y := sub [1, 0, 1, 0, 1] B24) rfl ?_
    refine C.cond_false (x := sub [1, 0, 1, 0, 1, 0] B24) (y := sub [1, 0, 1, 0, 1, 1] B24) rfl rfl ?_
    refine C.seq (x := sub [1, 0, 1, 0, 1, 1, 0] B24) (y := sub [1, 0, 1, 0, 1, 1, 1] B24) ?_
    refine C.region (id := 4) (m := 2) (ops := opsOf (sub [1, 0, 1, 0, 1, 1, 0] B24)) rfl ?_
    by_cases k2 : z.kind = 2
    · refine W.pure rfl (wo rfl) rfl rfl (pT (by rw [k2]; rfl) (p_eql rfl rfl rfl)) (nf rfl) ?_
      refine W.pure rfl (wo rfl) rfl rfl (p_assign rfl rfl) (nf rfl) ?_
      refine W.doneQ (y := sub [1, 0, 1, 0, 1, 1, 1] B24) rfl ?_
      refine C.cond_true (x := sub [1, 0, 1, 0, 1, 1, 1, 0] B24) (y := sub [1, 0, 1, 0, 1, 1, 1, 1] B24) rfl rfl ?_
      refine C.seq (x := sub [1, 0, 1, 0, 1, 1, 1, 0, 0] B24) (y := sub [1, 0, 1, 0, 1, 1, 1, 0, 1] B24) ?_
      refine C.region (id := 5) (m := 3) (ops := opsOf (sub [1, 0, 1, 0, 1, 1, 1, 0, 0] B24)) rfl ?_
      refine W.pure rfl (wo rfl) rfl rfl (p_move rfl rfl) (nf rfl) ?_
      have hK2 : rsyncK s = (e, s2) := by rw [← hK]; unfold rdoK; rw [if_neg k1]; rw [if_pos k2]
      refine W.c11 rfl (wo rfl) rfl rfl rfl (rSync x (hK2) (hl)) (en41 _) rfl rfl rfl (args_val rfl) ?_
      intro x1
      refine W.pure rfl (wo rfl) rfl rfl (p_assign rfl rfl) (nf rfl) ?_
      refine W.doneQ (y := sub [1, 0, 1, 0, 1, 1, 1, 0, 1] B24) rfl ?_
      exact C.ret (R := fun e' w' => ∃ x' : Rx s2, e' = .returned (.int .i64 e) ∧ Cls w0 I' (rX b x') w') (rs := [.tmp 4]) (vs := [.int .i64 e]) rfl Try.func24 rfl rfl rfl (res_cons (ResV.tmp rfl) res_nil) fun w1 hc1 => ⟨x1, rfl, (cls_less he2 hc1).fewer (List.sublist_append_left _ _)⟩
    · refine W.pure rfl (wo rfl) rfl rfl (pF (by simpa using k2) (p_eql rfl rfl rfl)) (nf rfl) ?_
      refine W.pure rfl (wo rfl) rfl rfl (p_assign rfl rfl) (nf rfl) ?_
      refine W.doneQ (y := sub [1, 0, 1, 0, 1, 1, 1] B24) rfl ?_
      refine C.cond_false (x := sub [1, 0, 1, 0, 1, 1, 1, 0] B24) (y := sub [1, 0, 1, 0, 1, 1, 1, 1] B24) rfl rfl ?_
      refine C.seq (x := sub [1, 0, 1, 0, 1, 1, 1, 1, 0] B24) (y := sub [1, 0, 1, 0, 1, 1, 1, 1, 1] B24) ?_
      refine C.region (id := 6) (m := 2) (ops := opsOf (sub [1, 0, 1, 0, 1, 1, 1, 1, 0] B24)) rfl ?_
      by_cases k3 : z.kind = 3
      · refine W.pure rfl (wo rfl) rfl rfl (pT (by rw [k3]; rfl) (p_eql rfl rfl rfl)) (nf rfl) ?_
        refine W.pure rfl (wo rfl) rfl rfl (p_assign rfl rfl) (nf rfl) ?_
        refine W.doneQ (y := sub [1, 0, 1, 0, 1, 1, 1, 1, 1] B24) rfl ?_
        refine C.cond_true (x := sub [1, 0, 1, 0, 1, 1, 1, 1, 1, 0] B24) (y := sub [1, 0, 1, 0, 1, 1, 1, 1, 1, 1] B24) rfl rfl ?_
        refine C.seq (x := sub [1, 0, 1, 0, 1, 1, 1, 1, 1, 0, 0] B24) (y := sub [1, 0, 1, 0, 1, 1, 1, 1, 1, 0, 1] B24) ?_
        refine C.region (id := 7) (m := 5) (ops := opsOf (sub [1, 0, 1, 0, 1, 1, 1, 1, 1, 0, 0] B24)) rfl ?_
        refine W.pure rfl (wo rfl) rfl rfl (p_move rfl rfl) (nf rfl) ?_
        refine W.pure rfl (wo rfl) rfl rfl (p_fieldAddr tf46_1 rfl rfl) (nf rfl) ?_
        refine W.imm rfl (wo rfl) rfl rfl (i_loadBoxO (off := 1) hb rfl ta3 rfl rfl) (nf rfl) ?_
        have hK2 : rfuseK s z.n = (e, s2) := by rw [← hK]; unfold rdoK; rw [if_neg k1]; rw [if_neg k2]; rw [if_pos k3]
        refine W.c11 rfl (wo rfl) rfl rfl rfl (rFuse x _ (hK2)) (en42 _) rfl rfl rfl (args_val rfl) ?_
        intro x1
        refine W.pure rfl (wo rfl) rfl rfl (p_assign rfl rfl) (nf rfl) ?_
        refine W.doneQ (y := sub [1, 0, 1, 0, 1, 1, 1, 1, 1, 0, 1] B24) rfl ?_
        exact C.ret (R := fun e' w' => ∃ x' : Rx s2, e' = .returned (.int .i64 e) ∧ Cls w0 I' (rX b x') w') (rs := [.tmp 4]) (vs := [.int .i64 e]) rfl Try.func24 rfl rfl rfl (res_cons (ResV.tmp rfl) res_nil) fun w1 hc1 => ⟨x1, rfl, (cls_less he2 hc1).fewer (List.sublist_append_left _ _)⟩
      · refine W.pure rfl (wo rfl) rfl rfl (pF (by simpa using k3) (p_eql rfl rfl rfl)) (nf rfl) ?_
        refine W.pure rfl (wo rfl) rfl rfl (p_assign rfl rfl) (nf rfl) ?_
        refine W.doneQ (y := sub [1, 0, 1, 0, 1, 1, 1, 1, 1] B24) rfl ?_
        refine C.cond_false (x := sub [1, 0, 1, 0, 1, 1, 1, 1, 1, 0] B24) (y := sub [1, 0, 1, 0, 1, 1, 1, 1, 1, 1] B24) rfl rfl ?_
        refine C.seq (x := sub [1, 0, 1, 0, 1, 1, 1, 1, 1, 1, 0] B24) (y := sub [1, 0, 1, 0, 1, 1, 1, 1, 1, 1, 1] B24) ?_
        refine C.region (id := 8) (m := 2) (ops := opsOf (sub [1, 0, 1, 0, 1, 1, 1, 1, 1, 1, 0] B24)) rfl ?_
        by_cases k4 : z.kind = 4
        · refine W.pure rfl (wo rfl) rfl rfl (pT (by rw [k4]; rfl) (p_eql rfl rfl rfl)) (nf rfl) ?_
          refine W.pure rfl (wo rfl) rfl rfl (p_assign rfl rfl) (nf rfl) ?_
          refine W.doneQ (y := sub [1, 0, 1, 0, 1, 1, 1, 1, 1, 1, 1] B24) rfl ?_
          refine C.cond_true (x := sub [1, 0, 1, 0, 1, 1, 1, 1, 1, 1, 1, 0] B24) (y := sub [1, 0, 1, 0, 1, 1, 1, 1, 1, 1, 1, 1] B24) rfl rfl ?_
          refine C.region (id := 9) (m := 4) (ops := opsOf (sub [1, 0, 1, 0, 1, 1, 1, 1, 1, 1, 1, 0] B24)) rfl ?_
          refine W.pure rfl (wo rfl) rfl rfl (p_move rfl rfl) (nf rfl) ?_
          refine W.pure rfl (wo rfl) rfl rfl (p_fieldAddr tf46_4 rfl rfl) (nf rfl) ?_
          refine W.imm rfl (wo rfl) rfl rfl (i_loadBoxO (off := 4) hb rfl ta22 rfl rfl) (nf rfl) ?_
          have hK2 : ((0 : Int), rcrashK s z.picks) = (e, s2) := by rw [← hK]; unfold rdoK; rw [if_neg k1]; rw [if_neg k2]; rw [if_neg k3]; rw [if_pos k4]
          refine W.c11 rfl (wo rfl) rfl rfl rfl (rCrash x (hp.mono (he.trans he2)) (hl)) (en43 _) rfl rfl rfl (args_val rfl) ?_
          intro x1
          refine W.doneQ (y := sub [1, 1] B24) rfl ?_
          refine C.seq (x := sub [1, 1, 0] B24) (y := sub [1, 1, 1] B24) ?_
          refine C.region (id := 14) (m := 1) (ops := opsOf (sub [1, 1, 0] B24)) rfl ?_
          refine W.pure rfl (wo rfl) rfl rfl (p_assign rfl rfl) (nf rfl) ?_
          refine W.doneQ (y := sub [1, 1, 1] B24) rfl ?_
          obtain ⟨rfl, rfl⟩ := Prod.mk.inj hK2
          exact C.ret (R := fun e' w' => ∃ x' : Rx (rcrashK s z.picks), e' = .returned (.int .i64 0) ∧ Cls w0 I' (rX b x') w') (rs := [.tmp 4]) (vs := [.int .i64 0]) rfl Try.func24 rfl rfl rfl (res_cons (ResV.tmp rfl) res_nil) fun w1 hc1 => ⟨x1, rfl, (cls_less he2 hc1).fewer (List.sublist_append_left _ _)⟩
        · refine W.pure rfl (wo rfl) rfl rfl (pF (by simpa using k4) (p_eql rfl rfl rfl)) (nf rfl) ?_
          refine W.pure rfl (wo rfl) rfl rfl (p_assign rfl rfl) (nf rfl) ?_
          refine W.doneQ (y := sub [1, 0, 1, 0, 1, 1, 1, 1, 1, 1, 1] B24) rfl ?_
          refine C.cond_false (x := sub [1, 0, 1, 0, 1, 1, 1, 1, 1, 1, 1, 0] B24) (y := sub [1, 0, 1, 0, 1, 1, 1, 1, 1, 1, 1, 1] B24) rfl rfl ?_
          refine C.seq (x := sub [1, 0, 1, 0, 1, 1, 1, 1, 1, 1, 1, 1, 0] B24) (y := sub [1, 0, 1, 0, 1, 1, 1, 1, 1, 1, 1, 1, 1] B24) ?_
          refine C.region (id := 10) (m := 2) (ops := opsOf (sub [1, 0, 1, 0, 1, 1, 1, 1, 1, 1, 1, 1, 0] B24)) rfl ?_
          by_cases k5 : z.kind = 5
          · refine W.pure rfl (wo rfl) rfl rfl (pT (by rw [k5]; rfl) (p_eql rfl rfl rfl)) (nf rfl) ?_
            refine W.pure rfl (wo rfl) rfl rfl (p_assign rfl rfl) (nf rfl) ?_
            refine W.doneQ (y := sub [1, 0, 1, 0, 1, 1, 1, 1, 1, 1, 1, 1, 1] B24) rfl ?_
            refine C.cond_true (x := sub [1, 0, 1, 0, 1, 1, 1, 1, 1, 1, 1, 1, 1, 0] B24) (y := sub [1, 0, 1, 0, 1, 1, 1, 1, 1, 1, 1, 1, 1, 1] B24) rfl rfl ?_
            refine C.seq (x := sub [1, 0, 1, 0, 1, 1, 1, 1, 1, 1, 1, 1, 1, 0, 0] B24) (y := sub [1, 0, 1, 0, 1, 1, 1, 1, 1, 1, 1, 1, 1, 0, 1] B24) ?_
            refine C.region (id := 11) (m := 9) (ops := opsOf (sub [1, 0, 1, 0, 1, 1, 1, 1, 1, 1, 1, 1, 1, 0, 0] B24)) rfl ?_
            refine W.pure rfl (wo rfl) rfl rfl (p_move rfl rfl) (nf rfl) ?_
            refine W.pure rfl (wo rfl) rfl rfl (p_fieldAddr tf46_1 rfl rfl) (nf rfl) ?_
            refine W.imm rfl (wo rfl) rfl rfl (i_loadBoxO (off := 1) hb rfl ta3 rfl rfl) (nf rfl) ?_
            refine W.pure rfl (wo rfl) rfl rfl (p_fieldAddr tf46_2 rfl rfl) (nf rfl) ?_
            refine W.imm rfl (wo rfl) rfl rfl (i_loadBoxO (off := 2) hb rfl ta3 rfl rfl) (nf rfl) ?_
            refine W.pure rfl (wo rfl) rfl rfl (p_fieldAddr tf46_3 rfl rfl) (nf rfl) ?_
            refine W.imm rfl (wo rfl) rfl rfl (i_loadBoxO (off := 3) hb rfl ta5 rfl rfl) (nf rfl) ?_
            have hK2 : reditK s z.n z.m z.fill = (e, s2) := by rw [← hK]; unfold rdoK; rw [if_neg k1]; rw [if_neg k2]; rw [if_neg k3]; rw [if_neg k4]; rw [if_pos k5]
            refine W.c11 rfl (wo rfl) rfl rfl rfl (rEdit x _ _ _ (hK2) (hl)) (en44 _) rfl rfl rfl (args_val rfl) ?_
            intro x1
            refine W.pure rfl (wo rfl) rfl rfl (p_assign rfl rfl) (nf rfl) ?_
            refine W.doneQ (y := sub [1, 0, 1, 0, 1, 1, 1, 1, 1, 1, 1, 1, 1, 0, 1] B24) rfl ?_
            exact C.ret (R := fun e' w' => ∃ x' : Rx s2, e' = .returned (.int .i64 e) ∧ Cls w0 I' (rX b x') w') (rs := [.tmp 4]) (vs := [.int .i64 e]) rfl Try.func24 rfl rfl rfl (res_cons (ResV.tmp rfl) res_nil) fun w1 hc1 => ⟨x1, rfl, (cls_less he2 hc1).fewer (List.sublist_append_left _ _)⟩
          · refine W.pure rfl (wo rfl) rfl rfl (pF (by simpa using k5) (p_eql rfl rfl rfl)) (nf rfl) ?_
            refine W.pure rfl (wo rfl) rfl rfl (p_assign rfl rfl) (nf rfl) ?_
            refine W.doneQ (y := sub [1, 0, 1, 0, 1, 1, 1, 1, 1, 1, 1, 1, 1] B24) rfl ?_
            refine C.cond_false (x := sub [1, 0, 1, 0, 1, 1, 1, 1, 1, 1, 1, 1, 1, 0] B24) (y := sub [1, 0, 1, 0, 1, 1, 1, 1, 1, 1, 1, 1, 1, 1] B24) rfl rfl ?_
            refine C.seq (x := sub [1, 0, 1, 0, 1, 1, 1, 1, 1, 1, 1, 1, 1, 1, 0] B24) (y := sub [1, 0, 1, 0, 1, 1, 1, 1, 1, 1, 1, 1, 1, 1, 1] B24) ?_
            refine C.region (id := 12) (m := 2) (ops := opsOf (sub [1, 0, 1, 0, 1, 1, 1, 1, 1, 1, 1, 1, 1, 1, 0] B24)) rfl ?_
            by_cases k6 : z.kind = 6
            · refine W.pure rfl (wo rfl) rfl rfl (pT (by rw [k6]; rfl) (p_eql rfl rfl rfl)) (nf rfl) ?_
              refine W.pure rfl (wo rfl) rfl rfl (p_assign rfl rfl) (nf rfl) ?_
              refine W.doneQ (y := sub [1, 0, 1, 0, 1, 1, 1, 1, 1, 1, 1, 1, 1, 1, 1] B24) rfl ?_
              refine C.cond_true (x := sub [1, 0, 1, 0, 1, 1, 1, 1, 1, 1, 1, 1, 1, 1, 1, 0] B24) (y := sub [1, 0, 1, 0, 1, 1, 1, 1, 1, 1, 1, 1, 1, 1, 1, 1] B24) rfl rfl ?_
              refine C.seq (x := sub [1, 0, 1, 0, 1, 1, 1, 1, 1, 1, 1, 1, 1, 1, 1, 0, 0] B24) (y := sub [1, 0, 1, 0, 1, 1, 1, 1, 1, 1, 1, 1, 1, 1, 1, 0, 1] B24) ?_
              refine C.regionD (id := 13) (ops := opsOf (sub [1, 0, 1, 0, 1, 1, 1, 1, 1, 1, 1, 1, 1, 1, 1, 0, 0] B24)) [0, 1, 2, 3, 4, 5, 6, 7, 8, 9, 10, 11] [0, 0, 2, 0, 8, 0, 32, 96, 224, 504, 1023, 2047] [(.pure, none), (.pure, none), (.pure, none), (.pure, none), (.pure, none), (.pure, none), (.pure, none), (.pure, none), (.pure, none), (.keep, none), (.actx, none), (.pure, none)] (by kernel_rfl) ?_
              intro wD13 hl13
              refine DW.pure rfl rfl rfl rfl rfl (p_move rfl rfl) ?_
              refine DW.pure rfl rfl rfl rfl rfl (p_fieldAddr tf46_1 rfl rfl) ?_
              refine DW.imm rfl rfl rfl rfl rfl (i_loadBoxO (off := 1) hb rfl ta3 rfl rfl) ?_
              refine DW.pure rfl rfl rfl rfl rfl (p_fieldAddr tf46_3 rfl rfl) ?_
              refine DW.imm rfl rfl rfl rfl rfl (i_loadBoxO (off := 3) hb rfl ta5 rfl rfl) ?_
              refine DW.pure rfl rfl rfl rfl rfl (p_fieldAddr tf46_2 rfl rfl) ?_
              refine DW.imm rfl rfl rfl rfl rfl (i_loadBoxO (off := 2) hb rfl ta3 rfl rfl) ?_
              refine DW.pure rfl rfl rfl rfl rfl (p_min2 rfl rfl rfl) ?_
              refine DW.pure rfl rfl rfl rfl rfl (pI (blkN_eq z.m) (p_max2 rfl rfl rfl)) ?_
              refine DW.c01k rfl rfl rfl rfl rfl (tBlock _ (Nat.le_trans (blkN_le z.m) (by decide))) (en39 _) rfl rfl rfl (args_val rfl) ?_
              intro y1
              have hK2 : rwriteK s z.n (blockL z.fill (blkN z.m)) = (e, s2) := by rw [← hK]; unfold rdoK; rw [if_neg k1]; rw [if_neg k2]; rw [if_neg k3]; rw [if_neg k4]; rw [if_neg k5]; rw [if_pos k6]
              refine DW.c22s rfl rfl rfl rfl rfl rfl (rWrite x y1 _ (hK2) (hl)) (en40 _) rfl rfl rfl (args_val rfl) ?_
              intro x2
              refine DW.pure rfl rfl rfl rfl rfl (p_assign rfl rfl) ?_
              refine DW.doneQ (y := sub [1, 0, 1, 0, 1, 1, 1, 1, 1, 1, 1, 1, 1, 1, 1, 0, 1] B24) hl13 rfl ?_
              exact C.ret (R := fun e' w' => ∃ x' : Rx s2, e' = .returned (.int .i64 e) ∧ Cls w0 I' (rX b x') w') (rs := [.tmp 4]) (vs := [.int .i64 e]) rfl Try.func24 rfl rfl rfl (res_cons (ResV.tmp rfl) res_nil) fun w1 hc1 => ⟨x2, rfl, (cls_less he2 hc1).fewer (List.sublist_append_left _ _)⟩
            · refine W.pure rfl (wo rfl) rfl rfl (pF (by simpa using k6) (p_eql rfl rfl rfl)) (nf rfl) ?_
              refine W.pure rfl (wo rfl) rfl rfl (p_assign rfl rfl) (nf rfl) ?_
              refine W.doneQ (y := sub [1, 0, 1, 0, 1, 1, 1, 1, 1, 1, 1, 1, 1, 1, 1] B24) rfl ?_
              refine C.cond_false (x := sub [1, 0, 1, 0, 1, 1, 1, 1, 1, 1, 1, 1, 1, 1, 1, 0] B24) (y := sub [1, 0, 1, 0, 1, 1, 1, 1, 1, 1, 1, 1, 1, 1, 1, 1] B24) rfl rfl ?_
              refine C.skipQ (y := sub [1, 1] B24) rfl ?_
              refine C.seq (x := sub [1, 1, 0] B24) (y := sub [1, 1, 1] B24) ?_
              refine C.region (id := 14) (m := 1) (ops := opsOf (sub [1, 1, 0] B24)) rfl ?_
              refine W.pure rfl (wo rfl) rfl rfl (p_assign rfl rfl) (nf rfl) ?_
              refine W.doneQ (y := sub [1, 1, 1] B24) rfl ?_
              have hK2 : ((0 : Int), s) = (e, s2) := by rw [← hK]; unfold rdoK; rw [if_neg k1]; rw [if_neg k2]; rw [if_neg k3]; rw [if_neg k4]; rw [if_neg k5]; rw [if_neg k6]
              obtain ⟨rfl, rfl⟩ := Prod.mk.inj hK2
              exact C.ret (R := fun e' w' => ∃ x' : Rx s, e' = .returned (.int .i64 0) ∧ Cls w0 I' (rX b x') w') (rs := [.tmp 4]) (vs := [.int .i64 0]) rfl Try.func24 rfl rfl rfl (res_cons (ResV.tmp rfl) res_nil) fun w1 hc1 => ⟨x, rfl, (cls_less he2 hc1).fewer (List.sublist_append_left _ _)⟩

end Go.Proofs.Ytjomnicfcdkfdaa
end

section
namespace Go.Proofs.Ytjomnicfcdkfdaa
open Go Go.HW Go.RowKit
set_option linter.unusedVariables false
set_option linter.unusedSimpArgs false

/-! ### behind a loss of power -/
/-- what a block may be: as it was settled, or as one of so many writes left it -/
def May1 (s : Dk) (k : Nat) (n : Int) (b : List Int) : Prop := b = mget s.set n ∨ ∃ w ∈ s.late.take k, w.1 = n ∧ b = w.2
theorem May1.up {s : Dk} {k : Nat} {n : Int} {b : List Int} (h : May1 s k n b) : May1 s (k + 1) n b := h.imp id fun ⟨w, hw, e⟩ => ⟨w, by
  rw [List.take_add_one]; exact List.mem_append_left _ hw, e⟩
theorem take_all (l : List Int) (h : l.length = 512) (m : List Int) (hm : m.length = 512) : l.take 512 ++ m.drop 512 = l := by
  rw [List.take_of_length_le (by omega), List.drop_of_length_le (by omega), List.append_nil]
theorem cr_may {s : Dk} (hs : Full s.set) (hl : Full s.late) (picks : List Int) : ∀ k, k < s.late.length → ∀ n, May1 s k n (mget (crK s picks k) n)
  | 0, _, n => .inl rfl
  | k + 1, hk, n => by
    have ih := cr_may hs hl picks k (by omega) n
    have e := List.getElem?_eq_getElem (show k < s.late.length by omega)
    by_cases c : howK (picks.getD k 0) = 0
    · rw [crK_skip e c]; exact ih.up
    · rw [crK_put e c, mget_mput]
      by_cases c2 : n = (s.late[k]'(by omega)).1
      · rw [if_pos c2]
        have ht : tearK (picks.getD k 0) (decide (k + 1 = s.late.length)) = 512 := by
          rw [show decide (k + 1 = s.late.length) = false from decide_eq_false (by omega)]; exact tear_2
        rw [ht]
        refine .inr ⟨_, by rw [List.take_add_one, e]; exact List.mem_append_right _ (by simp), c2.symm, ?_⟩
        exact take_all _ (hl _ (List.getElem_mem _)) _ (mget_len (crK_full hs hl _) _)
      · rw [if_neg c2]; exact ih.up
/-- a block that is none of these is the last write's, torn -/
structure TornAt (s : Dk) (n : Int) (b : List Int) (last : Wr) (t : Nat) (prev : List Int) : Prop where
  hl : s.late[s.late.length - 1]? = some last
  h0 : 0 < s.late.length
  hn : last.1 = n
  ht : t ≤ 512
  hb : b = last.2.take t ++ prev.drop t
  hp : prev = mget s.set n ∨ ∃ w ∈ s.late, w.1 = n ∧ prev = w.2
  len : last.2.length = 512 ∧ prev.length = 512
theorem cr_end {s : Dk} (hs : Full s.set) (hl : Full s.late) (picks : List Int) (n : Int) : May1 s s.late.length n (mget (crK s picks s.late.length) n) ∨ ∃ last t prev, TornAt s n (mget (crK s picks s.late.length) n) last t prev := by
  cases hk : s.late.length with
  | zero => exact .inl (.inl rfl)
  | succ k =>
    have hlt : k < s.late.length := by omega
    have e := List.getElem?_eq_getElem hlt
    have ih := cr_may hs hl picks k hlt n
    by_cases c : howK (picks.getD k 0) = 0
    · rw [crK_skip e c]; exact .inl ih.up
    · rw [crK_put e c, mget_mput]
      by_cases c2 : n = (s.late[k]).1
      · rw [if_pos c2]
        refine .inr ⟨s.late[k], (tearK (picks.getD k 0) (decide (k + 1 = s.late.length))).toNat, mget (crK s picks k) (s.late[k]).1, ?_, by omega, c2.symm, by have := tear_lt (picks.getD k 0) (decide (k + 1 = s.late.length)); omega, rfl, ?_, hl _ (List.getElem_mem _), mget_len (crK_full hs hl _) _⟩
        · rw [hk]; exact e
        · rw [← c2]
          exact ih.imp id fun ⟨w, hw, e1, e2⟩ => ⟨w, List.mem_of_mem_take hw, e1, e2⟩
      · rw [if_neg c2]; exact .inl ih.up
section
variable {N : Nat} {S : Slots} {w0 : World} {I : Mem} {H : Heap} {Q : Exit → Act → World → Prop} {o : Oper} {v : Value}
/-- a return out of a loop -/
theorem C.retL {f : FuncId} {fn : Func} {R : Ending → World → Prop} {rs : List ResultVar} {vs : List Value} {v : Value} (hQ : ∀ a w, bodyPost Try.prog fn R .ret a w → Q .ret a w) (hf : Try.prog.funcs[f]? = some fn) (hrs : fn.results = rs.toArray) (hl : rs.length = vs.length)
    (hv : (if h : vs.toArray.size = 1 then vs.toArray[0] else .tuple vs.toArray) = v) (hall : ∀ (i : Nat) (r : ResultVar) (u : Value), rs[i]? = some r → vs[i]? = some u → ResV Try.prog N w0 I S H r u) (hR : ∀ w, Cls w0 I H w → R (.returned v) w) :
    CW N w0 I .ret Q S H := fun a w ha hc => by
  refine wpIn_ret (hQ a w ?_)
  obtain ⟨hd, fn', v', hf', hr, hR'⟩ := fin_of (P := Try.prog) (f := f) (N := N) (R := R) v hf hrs hl hv hall (show Agree N S a from ha) hc (hR w hc)
  rw [hf] at hf'; cases hf'
  exact ⟨hd, v', hr, hR'⟩
/-- a row's text -/
theorem q_rwStr {r : Rw} (h : rwOk r) (hm : rwE r ∈ H) {x : Operand} (ho : o.op = .convert 32 9 x) (hx : ev S x = some r.1) : FQuiet Try.prog o w0 I S H (str (bytesL r.2.2)) :=
  q_bytesStr us32 us5 us9 (fun w hc => OwnV.row h.1 hc hm) ho hx
theorem q_rwTail {r : Rw} (h : rwOk r) (hm : rwE r ∈ H) {k : Nat} (hk : k ≤ 512) {x : Operand} (ho : o.op = .convert 32 9 x) (hx : ev S x = some (subsl r.1 1 k r.2.2.length)) : FQuiet Try.prog o w0 I S H (str (bytesL (r.2.2.drop k))) :=
  q_bytesStr us32 us5 us9 (fun w hc => IntRow.subL (OwnV.row h.1 hc hm) (by rw [h.2]; exact hk)) ho hx
theorem q_rwHead {r : Rw} (h : rwOk r) (hm : rwE r ∈ H) {k : Nat} (hk : k ≤ 512) {x : Operand} (ho : o.op = .convert 32 9 x) (hx : ev S x = some (subsl r.1 1 0 k)) : FQuiet Try.prog o w0 I S H (str (bytesL (r.2.2.take k))) :=
  q_bytesStr us32 us5 us9 (fun w hc => IntRow.subH (OwnV.row h.1 hc hm) (by rw [h.2]; exact hk)) ho hx
end
end Go.Proofs.Ytjomnicfcdkfdaa
end

section
namespace Go.Proofs.Ytjomnicfcdkfdaa
open Go Go.HW Go.RowKit
set_option linter.unusedVariables false
set_option linter.unusedSimpArgs false

section
variable {N : Nat} {S : Slots} {w0 : World} {I : Mem} {H : Heap} {o : Oper} {v : Value}
theorem q_oxStr {xs : List Int} (y : Ox .u8 xs) (hm : (y.1.1.ownBlock, Obj.cells y.1.2.1 y.1.2.2 (0, 0)) ∈ H) {x : Operand} (ho : o.op = .convert 32 9 x) (hx : ev S x = some y.1.1) : FQuiet Try.prog o w0 I S H (str (bytesL xs)) :=
  q_bytesStr us32 us5 us9 (fun w hc => OwnV.row y.2 hc hm) ho hx
theorem q_oxTail {xs : List Int} (y : Ox .u8 xs) (hm : (y.1.1.ownBlock, Obj.cells y.1.2.1 y.1.2.2 (0, 0)) ∈ H) {k : Nat} (hk : k ≤ xs.length) {x : Operand} (ho : o.op = .convert 32 9 x) (hx : ev S x = some (subsl y.1.1 1 k xs.length)) : FQuiet Try.prog o w0 I S H (str (bytesL (xs.drop k))) :=
  q_bytesStr us32 us5 us9 (fun w hc => IntRow.subL (OwnV.row y.2 hc hm) hk) ho hx
theorem q_oxHead {xs : List Int} (y : Ox .u8 xs) (hm : (y.1.1.ownBlock, Obj.cells y.1.2.1 y.1.2.2 (0, 0)) ∈ H) {k : Nat} (hk : k ≤ xs.length) {x : Operand} (ho : o.op = .convert 32 9 x) (hx : ev S x = some (subsl y.1.1 1 0 k)) : FQuiet Try.prog o w0 I S H (str (bytesL (xs.take k))) :=
  q_bytesStr us32 us5 us9 (fun w hc => IntRow.subH (OwnV.row y.2 hc hm) hk) ho hx
theorem ox_row {k : IntKind} {xs : List Int} (y : Ox k xs) : IntRow (fun _ => some (.cells y.1.2.1 y.1.2.2 (0, 0))) k y.1.1 xs :=
  row_of_mem y (fun b o hm => by
    simp only [oX, List.mem_singleton, Prod.mk.injEq] at hm
    rw [hm.2])
theorem wlast {n : Nat} (h : 0 < n) (h2 : n < 1099511627776) : IntKind.i64.wrap ((n : Int) - 1) = ((n - 1 : Nat) : Int) := by rw [w64 (by omega) (by omega)]; omega
end

theorem one_no {s : Dk} {g : Rg} {r : Rk} (h : RkO g r) (hs : Sim s r) {n : Int} {xs : List Int} (hno : ∀ j, j < g.Ls.length → ∀ q, g.Ls[j]? = some q → q.1 = n → ¬ bytesL q.2.2.2 = bytesL xs) (w : Wr) (hw : w ∈ s.late) (e : w.1 = n) : ¬ bytesL w.2 = bytesL xs := by
  rw [← hs.L, h.sL] at hw
  obtain ⟨p, hp, rfl⟩ := List.mem_map.1 hw
  obtain ⟨j, hj, he⟩ := List.getElem_of_mem hp
  exact hno j hj p (by rw [List.getElem?_eq_getElem hj, he]) e
theorem sim_row {s : Dk} {r : Rk} {g : Rg} (h : RkO g r) (hs : Sim s r) {n : Int} (hd : hasD s n = true) : (0 ≤ n ∧ n < (g.Bs.length : Int)) ∧ ∃ r0, g.Bs[n.toNat]? = some r0 ∧ r0 ∈ g.Bs ∧ r0.2.2 = mget s.set n := by
  have hn := hasD_lt hd
  have h1 := hs.n
  rw [B_len h] at h1
  have h2 : n.toNat < g.Bs.length := by omega
  refine ⟨by omega, _, List.getElem?_eq_getElem h2, List.getElem_mem h2, ?_⟩
  have h3 := B_at h (List.getElem?_eq_getElem h2)
  rw [← h3, hs.B n.toNat (by rw [B_len h]; exact h2), show ((n.toNat : Nat) : Int) = n by omega]

noncomputable def B26 : Code := bodyOf Try.f26
theorem en26 (args : Array Value) (w : World) : (callFunc 26 args).run Try.prog w = .ok (.enter 26 args) w := by kernel_rfl
theorem tOne {I : Mem} {b : Nat} {s : Dk} {r : Rk} {xs : List Int} (x : Rx r) (y : Ox .u8 xs) (hs : Sim s r) {n : Int} (hd : hasD s n = true) (hl : s.late.length ≤ 1000000) : Turn I 26 #[ptr b 0, .int .i64 n, y.1.1] (rX b x ++ oX y) (fun r : {r : Bool // r = false → ¬ bytesL (mget s.set n) = bytesL xs ∧ ∀ w ∈ s.late, w.1 = n → ¬ bytesL w.2 = bytesL xs} => .bool r.1) (fun _ => rX b x ++ oX y) := fun I' he w0 w hc => by
  have hc : Cls w0 I' (rX b x ++ (oX y ++ [])) w := by rw [List.append_nil]; exact hc
  obtain ⟨hn, r0, hr0, hm0, hbm⟩ := sim_row x.2 hs hd
  have hw0 := x.2.rB r0 hm0
  have hll : x.1.Ls.length ≤ 1000000 := by rw [← L_len x.2, hs.L]; exact hl
  refine calls_of_CW (N := 52) Try.func26 (show _ = some B26 by kernel_rfl) (by kernel_rfl) rfl (S := [(0, ptr b 0), (1, .int .i64 n), (2, y.1.1)]) (by simp) hc ?_
  show CW _ _ _ (sub [] B26) _ _ _
  refine C.seq (x := sub [0] B26) (y := sub [1] B26) ?_
  refine C.region (id := 0) (m := 1) (ops := opsOf (sub [0] B26)) rfl ?_
  refine W.pure rfl (wo rfl) rfl rfl (p_assign rfl rfl) (nf rfl) ?_
  refine W.doneQ (y := sub [1] B26) rfl ?_
  refine C.seq (x := sub [1, 0] B26) (y := sub [1, 1] B26) ?_
  refine C.seq (x := sub [1, 0, 0] B26) (y := sub [1, 0, 1] B26) ?_
  refine C.regionD (id := 1) (ops := opsOf (sub [1, 0, 0] B26)) [0, 1, 2, 3, 4, 5, 6, 7, 8, 9, 10] [0, 1, 3, 7, 0, 31, 63, 127, 0, 256, 1023] [(.pure, none), (.pure, none), (.pure, none), (.quiet, none), (.pure, none), (.pure, none), (.quiet, none), (.quiet, none), (.pure, none), (.quiet, none), (.pure, none)] (by kernel_rfl) ?_
  intro wD1 hl1
  refine DW.pure rfl rfl rfl rfl rfl (p_move rfl rfl) ?_
  refine DW.pure rfl rfl rfl rfl rfl (p_nilCheck rfl rfl) ?_
  refine DW.pure rfl rfl rfl rfl rfl (p_fieldAddr tf73_0 rfl rfl) ?_
  refine DW.quiet rfl rfl rfl rfl rfl (f_load (j := 0) ta70 rfl (off := 0) rfl rfl rfl) ?_
  refine DW.pure rfl rfl rfl rfl rfl (p_move rfl rfl) ?_
  refine DW.pure rfl rfl rfl rfl rfl (p_ixVI x.2.hB hn.1 hn.2 tu70 ts32 rfl rfl rfl) ?_
  refine DW.quiet rfl rfl rfl rfl rfl (f_loadEl (q := r0.1) (i := 1) rfl x.2.hB (by rw [Nat.mul_one, List.getElem?_map, hr0]; rfl) ta32 rfl rfl) ?_
  refine DW.quiet rfl rfl rfl rfl rfl (q_rwStr hw0 (List.mem_append_left _ (mem_B hm0)) rfl rfl) ?_
  refine DW.pure rfl rfl rfl rfl rfl (p_move rfl rfl) ?_
  refine DW.quiet rfl rfl rfl rfl rfl (q_oxStr y (List.mem_append_right _ (List.mem_append_left _ (List.mem_singleton.2 rfl))) rfl rfl) ?_
  by_cases h1 : bytesL r0.2.2 = bytesL xs
  · refine DW.pure rfl rfl rfl rfl rfl (pT (by simpa using h1) (p_strEq rfl rfl rfl)) ?_
    refine DW.doneQ (y := sub [1, 0, 1] B26) hl1 rfl ?_
    refine C.cond_true (x := sub [1, 0, 1, 0] B26) (y := sub [1, 0, 1, 1] B26) rfl rfl ?_
    refine C.seq (x := sub [1, 0, 1, 0, 0] B26) (y := sub [1, 0, 1, 0, 1] B26) ?_
    refine C.region (id := 2) (m := 1) (ops := opsOf (sub [1, 0, 1, 0, 0] B26)) rfl ?_
    refine W.pure rfl (wo rfl) rfl rfl (p_assign rfl rfl) (nf rfl) ?_
    refine W.doneQ (y := sub [1, 0, 1, 0, 1] B26) rfl ?_
    exact C.ret (R := fun e w' => ∃ r : {r : Bool // r = false → ¬ bytesL (mget s.set n) = bytesL xs ∧ ∀ w ∈ s.late, w.1 = n → ¬ bytesL w.2 = bytesL xs}, e = .returned (.bool r.1) ∧ Cls w0 I' (rX b x ++ oX y) w') (rs := [.tmp 6]) (vs := [.bool true]) rfl Try.func26 rfl rfl rfl (res_cons (ResV.tmp rfl) res_nil) fun w1 hc1 => ⟨⟨true, fun h => by cases h⟩, rfl, by rw [List.append_nil] at hc1; exact hc1⟩
  · refine DW.pure rfl rfl rfl rfl rfl (pF (by simpa using h1) (p_strEq rfl rfl rfl)) ?_
    refine DW.doneQ (y := sub [1, 0, 1] B26) hl1 rfl ?_
    refine C.cond_false (x := sub [1, 0, 1, 0] B26) (y := sub [1, 0, 1, 1] B26) rfl rfl ?_
    refine C.skipQ (y := sub [1, 1] B26) rfl ?_
    refine C.seq (x := sub [1, 1, 0] B26) (y := sub [1, 1, 1] B26) ?_
    refine C.seq (x := sub [1, 1, 0, 0] B26) (y := sub [1, 1, 0, 1] B26) ?_
    refine C.region (id := 3) (m := 1) (ops := opsOf (sub [1, 1, 0, 0] B26)) rfl ?_
    refine W.pure rfl (wo rfl) rfl rfl (p_assign rfl rfl) (nf rfl) ?_
    refine W.doneQ (y := sub [1, 1, 0, 1] B26) rfl ?_
    refine C.loopB (id := 0) (c := sub [1, 1, 0, 1, 0, 0] B26) (y := sub [1, 1, 1] B26) (fun k : Nat => x.1.Ls.length - k) (fun k => [(0, ptr b 0), (1, .int .i64 n), (2, y.1.1), (7, .int .i64 (k : Int))]) (fun k => rX b x ++ (oX y ++ [])) (fun k => k ≤ x.1.Ls.length ∧ ∀ j, j < k → ∀ q, x.1.Ls[j]? = some q → q.1 = n → ¬ bytesL q.2.2.2 = bytesL xs) 0 ⟨Nat.zero_le _, fun j hj => by omega⟩ (Sub.cons rfl (Sub.cons rfl (Sub.cons rfl (Sub.cons rfl (Sub.nil _))))) rfl rfl (fun k => k = x.1.Ls.length) ?_ ?_
    · rintro k ⟨hk, hno⟩ Q' hN hE hR
      by_cases hlt : k < x.1.Ls.length
      · obtain ⟨p, hp⟩ : ∃ p, x.1.Ls[k]? = some p := ⟨_, List.getElem?_eq_getElem hlt⟩
        have hm : p ∈ x.1.Ls := List.mem_of_getElem? hp
        have hrp := x.2.rL p hm
        refine C.seq (x := sub [1, 1, 0, 1, 0, 0, 0] B26) (y := sub [1, 1, 0, 1, 0, 0, 1] B26) ?_
        refine C.seq (x := sub [1, 1, 0, 1, 0, 0, 0, 0] B26) (y := sub [1, 1, 0, 1, 0, 0, 0, 1] B26) ?_
        refine C.region (id := 4) (m := 7) (ops := opsOf (sub [1, 1, 0, 1, 0, 0, 0, 0] B26)) rfl ?_
        refine W.pure rfl (wo rfl) rfl rfl (p_move rfl rfl) (nf rfl) ?_
        refine W.pure rfl (wo rfl) rfl rfl (p_move rfl rfl) (nf rfl) ?_
        refine W.pure rfl (wo rfl) rfl rfl (p_nilCheck rfl rfl) (nf rfl) ?_
        refine W.pure rfl (wo rfl) rfl rfl (p_fieldAddr tf73_1 rfl rfl) (nf rfl) ?_
        refine W.quiet rfl (wo rfl) rfl rfl (f_load (j := 0) ta71 rfl (off := 1) rfl rfl rfl) (nf rfl) ?_
        refine W.pure rfl (wo rfl) rfl rfl (p_slLen tu71 (own_len x.2.hL) rfl rfl) (nf rfl) ?_
        refine W.pure rfl (wo rfl) rfl rfl (pT (decide_eq_true (by omega)) (p_lss rfl rfl rfl)) (nf rfl) ?_
        refine W.doneQ (y := sub [1, 1, 0, 1, 0, 0, 0, 1] B26) rfl ?_
        refine C.cond_true (x := sub [1, 1, 0, 1, 0, 0, 0, 1, 0] B26) (y := sub [1, 1, 0, 1, 0, 0, 0, 1, 1] B26) rfl rfl ?_
        refine C.skipQ (y := sub [1, 1, 0, 1, 0, 0, 1] B26) rfl ?_
        refine C.seq (x := sub [1, 1, 0, 1, 0, 0, 1, 0] B26) (y := sub [1, 1, 0, 1, 0, 0, 1, 1] B26) ?_
        refine C.block (id := 1) (c := sub [1, 1, 0, 1, 0, 0, 1, 0, 0] B26) ?_
        refine C.seq (x := sub [1, 1, 0, 1, 0, 0, 1, 0, 0, 0] B26) (y := sub [1, 1, 0, 1, 0, 0, 1, 0, 0, 1] B26) ?_
        refine C.regionD (id := 6) (ops := opsOf (sub [1, 1, 0, 1, 0, 0, 1, 0, 0, 0] B26)) [0, 1, 2, 3, 4, 5, 6, 7, 8, 9, 10, 11, 12, 13, 14, 15, 16, 17, 18, 19, 20, 21, 22, 23] [0, 1, 3, 7, 0, 31, 63, 127, 0, 511, 1023, 2047, 4095, 8191, 16383, 2047, 65535, 131071, 262143, 524287, 2047, 1050623, 4194303, 8388607] [(.pure, none), (.pure, none), (.pure, none), (.quiet, none), (.pure, none), (.pure, none), (.pure, none), (.quiet, none), (.pure, none), (.pure, none), (.pure, none), (.pure, none), (.pure, none), (.pure, none), (.quiet, none), (.pure, none), (.pure, none), (.pure, none), (.quiet, none), (.quiet, none), (.pure, none), (.quiet, none), (.pure, none), (.pure, none)] (by kernel_rfl) ?_
        intro wD6 hl6
        refine DW.pure rfl rfl rfl rfl rfl (p_move rfl rfl) ?_
        refine DW.pure rfl rfl rfl rfl rfl (p_nilCheck rfl rfl) ?_
        refine DW.pure rfl rfl rfl rfl rfl (p_fieldAddr tf73_1 rfl rfl) ?_
        refine DW.quiet rfl rfl rfl rfl rfl (f_load (j := 0) ta71 rfl (off := 1) rfl rfl rfl) ?_
        refine DW.pure rfl rfl rfl rfl rfl (p_move rfl rfl) ?_
        refine DW.pure rfl rfl rfl rfl rfl (p_ixV x.2.hL hlt tu71 ts80 rfl rfl rfl) ?_
        refine DW.pure rfl rfl rfl rfl rfl (p_fieldEl (own_plain x.2.hL hlt) tf80_0 rfl rfl) ?_
        refine DW.quiet rfl rfl rfl rfl rfl (f_loadEl (i := 2) rfl x.2.hL (lcells_0 hp).1 ta3 rfl rfl) ?_
        refine DW.pure rfl rfl rfl rfl rfl (p_move rfl rfl) ?_
        by_cases he : p.1 = n
        · refine DW.pure rfl rfl rfl rfl rfl (pT (by simpa using he) (p_eql rfl rfl rfl)) ?_
          refine DW.pure rfl rfl rfl rfl rfl (p_move rfl rfl) ?_
          refine DV.pure rfl (wo rfl) rfl rfl rfl (p_move rfl rfl) ?_
          refine DV.pure rfl (wo rfl) rfl rfl rfl (p_nilCheck rfl rfl) ?_
          refine DV.pure rfl (wo rfl) rfl rfl rfl (p_fieldAddr tf73_1 rfl rfl) ?_
          refine DV.quiet rfl (wo rfl) rfl rfl rfl (f_load (j := 0) ta71 rfl (off := 1) rfl rfl rfl) ?_
          refine DV.pure rfl (wo rfl) rfl rfl rfl (p_move rfl rfl) ?_
          refine DV.pure rfl (wo rfl) rfl rfl rfl (p_ixV x.2.hL hlt tu71 ts80 rfl rfl rfl) ?_
          refine DV.pure rfl (wo rfl) rfl rfl rfl (p_fieldEl (own_plain x.2.hL hlt) tf80_1 rfl rfl) ?_
          refine DV.quiet rfl (wo rfl) rfl rfl rfl (f_loadEl (i := 2) rfl x.2.hL (lcells_0 hp).2 ta32 rfl rfl) ?_
          refine DV.quiet rfl (wo rfl) rfl rfl rfl (q_rwStr hrp (List.mem_append_left _ (mem_L hm)) rfl rfl) ?_
          refine DV.pure rfl (wo rfl) rfl rfl rfl (p_move rfl rfl) ?_
          refine DV.quiet rfl (wo rfl) rfl rfl rfl (q_oxStr y (List.mem_append_right _ (List.mem_append_left _ (List.mem_singleton.2 rfl))) rfl rfl) ?_
          by_cases h2 : bytesL p.2.2.2 = bytesL xs
          · refine DV.pure rfl (wo rfl) rfl rfl rfl (pT (by simpa using h2) (p_strEq rfl rfl rfl)) ?_
            refine DW.pure rfl rfl rfl rfl rfl (p_pick_true rfl rfl rfl) ?_
            refine DW.doneQ (y := sub [1, 1, 0, 1, 0, 0, 1, 0, 0, 1] B26) hl6 rfl ?_
            refine C.cond_true (x := sub [1, 1, 0, 1, 0, 0, 1, 0, 0, 1, 0] B26) (y := sub [1, 1, 0, 1, 0, 0, 1, 0, 0, 1, 1] B26) rfl rfl ?_
            refine C.seq (x := sub [1, 1, 0, 1, 0, 0, 1, 0, 0, 1, 0, 0] B26) (y := sub [1, 1, 0, 1, 0, 0, 1, 0, 0, 1, 0, 1] B26) ?_
            refine C.region (id := 7) (m := 1) (ops := opsOf (sub [1, 1, 0, 1, 0, 0, 1, 0, 0, 1, 0, 0] B26)) rfl ?_
            refine W.pure rfl (wo rfl) rfl rfl (p_assign rfl rfl) (nf rfl) ?_
            refine W.doneQ (y := sub [1, 1, 0, 1, 0, 0, 1, 0, 0, 1, 0, 1] B26) rfl ?_
            exact C.retL (R := fun e w' => ∃ r : {r : Bool // r = false → ¬ bytesL (mget s.set n) = bytesL xs ∧ ∀ w ∈ s.late, w.1 = n → ¬ bytesL w.2 = bytesL xs}, e = .returned (.bool r.1) ∧ Cls w0 I' (rX b x ++ oX y) w') (rs := [.tmp 6]) (vs := [.bool true]) (fun a w h => hR a w h) Try.func26 rfl rfl rfl (res_cons (ResV.tmp rfl) res_nil) fun w1 hc1 => ⟨⟨true, fun h => by cases h⟩, rfl, by rw [List.append_nil] at hc1; exact hc1⟩
          · refine DV.pure rfl (wo rfl) rfl rfl rfl (pF (by simpa using h2) (p_strEq rfl rfl rfl)) ?_
            refine DW.pure rfl rfl rfl rfl rfl (p_pick_true rfl rfl rfl) ?_
            refine DW.doneQ (y := sub [1, 1, 0, 1, 0, 0, 1, 0, 0, 1] B26) hl6 rfl ?_
            refine C.cond_false (x := sub [1, 1, 0, 1, 0, 0, 1, 0, 0, 1, 0] B26) (y := sub [1, 1, 0, 1, 0, 0, 1, 0, 0, 1, 1] B26) rfl rfl ?_
            refine C.skipQ (y := sub [1, 1, 0, 1, 0, 0, 1, 1] B26) rfl ?_
            refine C.region (id := 5) (m := 3) (ops := opsOf (sub [1, 1, 0, 1, 0, 0, 1, 1] B26)) rfl ?_
            refine W.pure rfl (wo rfl) rfl rfl (p_move rfl rfl) (nf rfl) ?_
            refine W.pure rfl (wo rfl) rfl rfl (pI (wk (by omega)) (p_add rfl rfl rfl)) (nf rfl) ?_
            refine W.pure rfl (wo rfl) rfl rfl (p_assign rfl rfl) (nf rfl) ?_
            refine W.end' fun a1 w1 ha1 hc1 => hN (k + 1) ⟨by omega, fun j hj q hq e1 => ?_⟩ (by omega) a1 w1 (ha1.sub (Sub.cons rfl (Sub.cons rfl (Sub.cons rfl (Sub.cons rfl (Sub.nil _)))))) hc1
            rcases Nat.lt_or_ge j k with h3 | h3
            · exact hno j h3 q hq e1
            · obtain rfl : j = k := by omega
              rw [hp] at hq; cases hq
              exact h2
        · refine DW.pure rfl rfl rfl rfl rfl (pF (by simpa using he) (p_eql rfl rfl rfl)) ?_
          refine DW.pure rfl rfl rfl rfl rfl (p_move rfl rfl) ?_
          refine DV.not rfl (wo rfl) rfl rfl ?_
          refine DV.not rfl (wo rfl) rfl rfl ?_
          refine DV.not rfl (wo rfl) rfl rfl ?_
          refine DV.not rfl (wo rfl) rfl rfl ?_
          refine DV.not rfl (wo rfl) rfl rfl ?_
          refine DV.not rfl (wo rfl) rfl rfl ?_
          refine DV.not rfl (wo rfl) rfl rfl ?_
          refine DV.not rfl (wo rfl) rfl rfl ?_
          refine DV.not rfl (wo rfl) rfl rfl ?_
          refine DV.not rfl (wo rfl) rfl rfl ?_
          refine DV.not rfl (wo rfl) rfl rfl ?_
          refine DV.not rfl (wo rfl) rfl rfl ?_
          refine DW.pure rfl rfl rfl rfl rfl (p_pick_false rfl rfl rfl) ?_
          refine DW.doneQ (y := sub [1, 1, 0, 1, 0, 0, 1, 0, 0, 1] B26) hl6 rfl ?_
          refine C.cond_false (x := sub [1, 1, 0, 1, 0, 0, 1, 0, 0, 1, 0] B26) (y := sub [1, 1, 0, 1, 0, 0, 1, 0, 0, 1, 1] B26) rfl rfl ?_
          refine C.skipQ (y := sub [1, 1, 0, 1, 0, 0, 1, 1] B26) rfl ?_
          refine C.region (id := 5) (m := 3) (ops := opsOf (sub [1, 1, 0, 1, 0, 0, 1, 1] B26)) rfl ?_
          refine W.pure rfl (wo rfl) rfl rfl (p_move rfl rfl) (nf rfl) ?_
          refine W.pure rfl (wo rfl) rfl rfl (pI (wk (by omega)) (p_add rfl rfl rfl)) (nf rfl) ?_
          refine W.pure rfl (wo rfl) rfl rfl (p_assign rfl rfl) (nf rfl) ?_
          refine W.end' fun a1 w1 ha1 hc1 => hN (k + 1) ⟨by omega, fun j hj q hq e1 => ?_⟩ (by omega) a1 w1 (ha1.sub (Sub.cons rfl (Sub.cons rfl (Sub.cons rfl (Sub.cons rfl (Sub.nil _)))))) hc1
          rcases Nat.lt_or_ge j k with h3 | h3
          · exact hno j h3 q hq e1
          · obtain rfl : j = k := by omega
            rw [hp] at hq; cases hq
            exact absurd e1 he
      · refine C.seq (x := sub [1, 1, 0, 1, 0, 0, 0] B26) (y := sub [1, 1, 0, 1, 0, 0, 1] B26) ?_
        refine C.seq (x := sub [1, 1, 0, 1, 0, 0, 0, 0] B26) (y := sub [1, 1, 0, 1, 0, 0, 0, 1] B26) ?_
        refine C.region (id := 4) (m := 7) (ops := opsOf (sub [1, 1, 0, 1, 0, 0, 0, 0] B26)) rfl ?_
        refine W.pure rfl (wo rfl) rfl rfl (p_move rfl rfl) (nf rfl) ?_
        refine W.pure rfl (wo rfl) rfl rfl (p_move rfl rfl) (nf rfl) ?_
        refine W.pure rfl (wo rfl) rfl rfl (p_nilCheck rfl rfl) (nf rfl) ?_
        refine W.pure rfl (wo rfl) rfl rfl (p_fieldAddr tf73_1 rfl rfl) (nf rfl) ?_
        refine W.quiet rfl (wo rfl) rfl rfl (f_load (j := 0) ta71 rfl (off := 1) rfl rfl rfl) (nf rfl) ?_
        refine W.pure rfl (wo rfl) rfl rfl (p_slLen tu71 (own_len x.2.hL) rfl rfl) (nf rfl) ?_
        refine W.pure rfl (wo rfl) rfl rfl (pF (decide_eq_false (by omega)) (p_lss rfl rfl rfl)) (nf rfl) ?_
        refine W.doneQ (y := sub [1, 1, 0, 1, 0, 0, 0, 1] B26) rfl ?_
        refine C.cond_false (x := sub [1, 1, 0, 1, 0, 0, 0, 1, 0] B26) (y := sub [1, 1, 0, 1, 0, 0, 0, 1, 1] B26) rfl rfl ?_
        exact C.exit fun a1 w1 ha1 hc1 => hE (show k = x.1.Ls.length by omega) a1 w1 (ha1.sub (Sub.cons rfl (Sub.cons rfl (Sub.cons rfl (Sub.cons rfl (Sub.nil _)))))) hc1
    rintro k ⟨hk, hno⟩ hke
    subst hke
    refine C.seq (x := sub [1, 1, 1, 0] B26) (y := sub [1, 1, 1, 1] B26) ?_
    refine C.region (id := 8) (m := 1) (ops := opsOf (sub [1, 1, 1, 0] B26)) rfl ?_
    refine W.pure rfl (wo rfl) rfl rfl (p_assign rfl rfl) (nf rfl) ?_
    refine W.doneQ (y := sub [1, 1, 1, 1] B26) rfl ?_
    exact C.ret (R := fun e w' => ∃ r : {r : Bool // r = false → ¬ bytesL (mget s.set n) = bytesL xs ∧ ∀ w ∈ s.late, w.1 = n → ¬ bytesL w.2 = bytesL xs}, e = .returned (.bool r.1) ∧ Cls w0 I' (rX b x ++ oX y) w') (rs := [.tmp 6]) (vs := [.bool false]) rfl Try.func26 rfl rfl rfl (res_cons (ResV.tmp rfl) res_nil) fun w1 hc1 => ⟨⟨false, fun _ => ⟨by rw [← hbm]; exact h1, fun w hw e1 => one_no x.2 hs hno w hw e1⟩⟩, rfl, by rw [List.append_nil] at hc1; exact hc1⟩

end Go.Proofs.Ytjomnicfcdkfdaa
end
