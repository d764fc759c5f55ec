import Derived.Test.YtjomnicfcdkfdaaDkL1
namespace Go.Proofs.Ytjomnicfcdkfdaa
open Go Go.HW Go.RowKit
set_option linter.unusedVariables false
set_option linter.unusedSimpArgs false

theorem row_sl {M : Mem} {k : IntKind} {v : Value} {xs : List Int} (h : IntRow M k v xs) : ∃ a c, v = .slice a xs.length c := by
  obtain ⟨_, a, c, h1, _⟩ := h; exact ⟨a, c, h1⟩
section
variable {N : Nat} {S : Slots} {w0 : World} {I : Mem} {o : Oper} {v : Value}
theorem p_ixR {k : IntKind} {xs : List Int} (h : IntRow I k v xs) {j : Nat} (hj : j < xs.length) {T e : Nat} {x z : Operand} {kk : IntKind} (hu : ∀ w, (underlying T).run Try.prog w = .ok (.slice e) w) (hs : ∀ w, (sizeOf e).run Try.prog w = .ok 1 w) (ho : o.op = .indexAddr T x z) (hx : ev S x = some v) (hy : ev S z = some (.int kk (j : Int))) : FPure Try.prog o S (elp v j) := by
  have := p_slIx1 (P := Try.prog) hu hs (RowV.some h (i := (j : Int)) (by omega) (by omega)) (by omega) (by omega) ho hx hy
  simpa using this
theorem i_ldR {k : IntKind} {xs : List Int} (h : IntRow I k v xs) {j : Nat} {q : Int} (hj : xs[j]? = some q) {t : TypeId} {x : Operand} (ha : ∀ w, (isAgg t).run Try.prog w = .ok false w) (ho : o.op = .load t x) (hx : ev S x = some (elp v j)) : FImm Try.prog o I S (.int k q) :=
  i_loadEl h (by simp [encl, hj]) ha ho hx
end
structure FInv (f : Int) (done : Nat) (s : Dk) (L : Nat) : Prop where
  n : s.n = 8
  ar : s.armed = true
  lt : s.late.length ≤ L
  lo : (done : Int) ≤ f → s.dead = false ∧ s.fuse = f - done
  hi : f < done → s.dead = true
theorem inv_step {f : Int} {done L : Nat} {s : Dk} (h0 : 0 ≤ f) (h1 : f ≤ 200) (h : FInv f done s L) : FInv f (done + 1) (stepK s).2 L ∧ ((done : Int) + 1 ≤ f → (stepK s).1 = 0) ∧ (f < done → (stepK s).1 = 14) ∧ (stepK s).2.late = s.late := by
  refine ⟨?_, ?_, ?_, stepK_late' s⟩
  · refine ⟨by rw [stepK_n, h.n], ?_, by rw [stepK_late']; exact h.lt, fun hd => ?_, fun hd => ?_⟩
    · unfold stepK; have := h.ar
      by_cases a : s.dead = true
      · rw [if_pos a]; exact this
      · rw [if_neg a, if_neg (by rw [this]; simp)]
        by_cases b : s.fuse = 0
        · rw [if_pos b]; exact this
        · rw [if_neg b]; exact this
    · obtain ⟨a, b⟩ := h.lo (by omega)
      unfold stepK
      rw [if_neg (by rw [a]; simp), if_neg (by rw [h.ar]; simp), if_neg (by omega)]
      refine ⟨a, ?_⟩
      show IntKind.i64.wrap (s.fuse - 1) = _
      rw [w64 (by omega) (by omega)]; omega
    · unfold stepK
      by_cases a : s.dead = true
      · rw [if_pos a]; exact a
      · rw [if_neg a, if_neg (by rw [h.ar]; simp)]
        rcases Int.lt_or_le f done with c | c
        · exact absurd (h.hi c) a
        · obtain ⟨_, b⟩ := h.lo c
          rw [if_pos (by omega)]
  · intro hd
    obtain ⟨a, b⟩ := h.lo (by omega)
    unfold stepK
    rw [if_neg (by rw [a]; simp), if_neg (by rw [h.ar]; simp), if_neg (by omega)]
  · intro hd
    unfold stepK
    rw [if_pos (h.hi hd)]
theorem inv_sync {f : Int} {done L : Nat} {s : Dk} (h0 : 0 ≤ f) (h1 : f ≤ 200) (h : FInv f done s L) : ∃ e s', syncK s = (e, s') ∧ FInv f (done + 1) s' L ∧ ((done : Int) + 1 ≤ f → e = 0) ∧ (f < done → e = 14) := by
  obtain ⟨g, a, b, c⟩ := inv_step h0 h1 h
  refine ⟨(syncK s).1, (syncK s).2, rfl, ?_, ?_, ?_⟩
  · unfold syncK
    by_cases z : (stepK s).1 = 0
    · rw [if_pos z]; exact ⟨g.n, g.ar, by simp, g.lo, g.hi⟩
    · rw [if_neg z]; exact g
  · intro hd; unfold syncK; rw [if_pos (a hd)]
  · intro hd; unfold syncK; rw [if_neg (by rw [b hd]; decide)]; exact b hd
theorem inv_write {f : Int} {done L : Nat} {s : Dk} {n : Int} {xs : List Int} (h0 : 0 ≤ f) (h1 : f ≤ 200) (h : FInv f done s L) (hn : 0 ≤ n ∧ n < 8) (hx : xs.length = 512) : ∃ e s', writeK s n xs = (e, s') ∧ FInv f (done + 1) s' (L + 1) ∧ ((done : Int) + 1 ≤ f → e = 0) ∧ (f < done → e = 14) := by
  obtain ⟨g, a, b, c⟩ := inv_step h0 h1 h
  have hh : hasD s n = true := by unfold hasD; rw [h.n]; exact decide_eq_true ⟨hn.1, hn.2⟩
  have hl := h.lt
  refine ⟨(writeK s n xs).1, (writeK s n xs).2, rfl, ?_, ?_, ?_⟩ <;> unfold writeK <;> rw [if_neg (by rw [hh]; simp), if_neg (by rw [hx]; simp)]
  · by_cases z : (stepK s).1 = 14
    · rw [if_pos z]; exact ⟨g.n, g.ar, by rw [c]; omega, g.lo, g.hi⟩
    · rw [if_neg z]; exact ⟨g.n, g.ar, by show ((stepK s).2.late ++ [(n, xs)]).length ≤ _; rw [c]; simp; omega, g.lo, g.hi⟩
  · intro hd
    rw [if_neg (by rw [a hd]; decide)]; exact a hd
  · intro hd
    rw [if_pos (b hd)]
structure FSt where
  k : Nat
  done : Nat
  s : Dk
  x : Dx s
def fu0 (f : Int) : Dk := { newK 8 with fuse := f, armed := true }
theorem fu0_eq {f : Int} (h : 0 ≤ f) : setFuseK (newK 8) f = (0, fu0 f) := by unfold setFuseK; rw [if_neg (by omega)]; rfl
theorem fu0_inv (f : Int) (h : 0 ≤ f) : FInv f 0 (fu0 f) 0 := ⟨rfl, rfl, by simp [fu0, newK], fun _ => ⟨rfl, by simp [fu0]⟩, fun h2 => by omega⟩
theorem crash_sync (s : Dk) : syncK (crashK s []) = (0, { crashK s [] with set := setK (crashK s []) 0 }) := rfl
theorem tmod9 (z : Int) : -9 < z.tmod 9 ∧ z.tmod 9 < 9 := ⟨Int.lt_tmod_of_pos z (by decide), Int.tmod_lt_of_pos z (by decide)⟩

noncomputable def B3 : Code := bodyOf Try.f3
theorem fuses_ok {w : World} {lv : Value} {l : List Int} (hl : IntRow (heapOf w) .i64 lv l) (f : Int) (hf0 : -9223372036854775808 ≤ f) (hf1 : f ≤ 9223372036854775807) : Calls Try.prog 3 #[.int .i64 f, lv] w (fun e w' => e = .returned (.bool true) ∧ Below w.heap.size w w') := by
  refine calls_of_CW (N := 133) Try.func3 (show _ = some B3 by kernel_rfl) (by kernel_rfl) rfl (S := [(0, .int .i64 f), (1, lv)]) (by simp) (clsStart w) ?_
  show CW _ _ _ (sub [] B3) _ _ _
  refine C.seq (x := sub [0] B3) (y := sub [1] B3) ?_
  refine C.region (id := 0) (m := 1) (ops := opsOf (sub [0] B3)) rfl ?_
  refine W.pure rfl (wo rfl) rfl rfl (p_assign rfl rfl) (nf rfl) ?_
  refine W.doneQ (y := sub [1] B3) rfl ?_
  refine C.seq (x := sub [1, 0] B3) (y := sub [1, 1] B3) ?_
  refine C.seq (x := sub [1, 0, 0] B3) (y := sub [1, 0, 1] B3) ?_
  refine C.region (id := 1) (m := 11) (ops := opsOf (sub [1, 0, 0] B3)) rfl ?_
  refine W.pure rfl (wo rfl) rfl rfl (p_move rfl rfl) (nf rfl) ?_
  by_cases h0 : f < 0
  · refine W.pure rfl (wo rfl) rfl rfl (pT (decide_eq_true h0) (p_lss rfl rfl rfl)) (nf rfl) ?_
    refine W.pure rfl (wo rfl) rfl rfl (p_move rfl rfl) (nf rfl) ?_
    refine W.not rfl (wo rfl) rfl rfl ?_
    refine W.not rfl (wo rfl) rfl rfl ?_
    refine W.pure rfl (wo rfl) rfl rfl (p_pick_true rfl rfl rfl) (nf rfl) ?_
    refine W.pure rfl (wo rfl) rfl rfl (p_move rfl rfl) (nf rfl) ?_
    refine W.not rfl (wo rfl) rfl rfl ?_
    refine W.not rfl (wo rfl) rfl rfl ?_
    refine W.not rfl (wo rfl) rfl rfl ?_
    refine W.pure rfl (wo rfl) rfl rfl (p_pick_true rfl rfl rfl) (nf rfl) ?_
    refine W.doneQ (y := sub [1, 0, 1] B3) rfl ?_
    refine C.cond_true (x := sub [1, 0, 1, 0] B3) (y := sub [1, 0, 1, 1] B3) rfl rfl ?_
    refine C.seq (x := sub [1, 0, 1, 0, 0] B3) (y := sub [1, 0, 1, 0, 1] B3) ?_
    refine C.region (id := 2) (m := 2) (ops := opsOf (sub [1, 0, 1, 0, 0] B3)) rfl ?_
    refine W.quiet rfl (wo rfl) rfl rfl (f_callR rfl rfl (args_val (vs := []) rfl) (en10 _) (fun w2 hc2 => known_ok w2)) (nf rfl) ?_
    refine W.pure rfl (wo rfl) rfl rfl (p_assign rfl rfl) (nf rfl) ?_
    refine W.doneQ (y := sub [1, 0, 1, 0, 1] B3) rfl ?_
    exact C.ret (R := fun e w' => e = .returned (.bool true) ∧ Below w.heap.size w w') (rs := [.tmp 4]) (vs := [.bool true]) rfl Try.func3 rfl rfl rfl (res_cons (ResV.tmp rfl) res_nil) fun w1 hc1 => ⟨rfl, hc1.toBelow⟩
  · refine W.pure rfl (wo rfl) rfl rfl (pF (decide_eq_false h0) (p_lss rfl rfl rfl)) (nf rfl) ?_
    refine W.pure rfl (wo rfl) rfl rfl (p_move rfl rfl) (nf rfl) ?_
    refine W.pure rfl (wo rfl) rfl rfl (p_move rfl rfl) (nf rfl) ?_
    by_cases h1 : 200 < f
    · refine W.pure rfl (wo rfl) rfl rfl (pT (decide_eq_true h1) (p_gtr rfl rfl rfl)) (nf rfl) ?_
      refine W.pure rfl (wo rfl) rfl rfl (p_pick_false rfl rfl rfl) (nf rfl) ?_
      refine W.pure rfl (wo rfl) rfl rfl (p_move rfl rfl) (nf rfl) ?_
      refine W.not rfl (wo rfl) rfl rfl ?_
      refine W.not rfl (wo rfl) rfl rfl ?_
      refine W.not rfl (wo rfl) rfl rfl ?_
      refine W.pure rfl (wo rfl) rfl rfl (p_pick_true rfl rfl rfl) (nf rfl) ?_
      refine W.doneQ (y := sub [1, 0, 1] B3) rfl ?_
      refine C.cond_true (x := sub [1, 0, 1, 0] B3) (y := sub [1, 0, 1, 1] B3) rfl rfl ?_
      refine C.seq (x := sub [1, 0, 1, 0, 0] B3) (y := sub [1, 0, 1, 0, 1] B3) ?_
      refine C.region (id := 2) (m := 2) (ops := opsOf (sub [1, 0, 1, 0, 0] B3)) rfl ?_
      refine W.quiet rfl (wo rfl) rfl rfl (f_callR rfl rfl (args_val (vs := []) rfl) (en10 _) (fun w2 hc2 => known_ok w2)) (nf rfl) ?_
      refine W.pure rfl (wo rfl) rfl rfl (p_assign rfl rfl) (nf rfl) ?_
      refine W.doneQ (y := sub [1, 0, 1, 0, 1] B3) rfl ?_
      exact C.ret (R := fun e w' => e = .returned (.bool true) ∧ Below w.heap.size w w') (rs := [.tmp 4]) (vs := [.bool true]) rfl Try.func3 rfl rfl rfl (res_cons (ResV.tmp rfl) res_nil) fun w1 hc1 => ⟨rfl, hc1.toBelow⟩
    · refine W.pure rfl (wo rfl) rfl rfl (pF (decide_eq_false h1) (p_gtr rfl rfl rfl)) (nf rfl) ?_
      refine W.pure rfl (wo rfl) rfl rfl (p_pick_false rfl rfl rfl) (nf rfl) ?_
      refine W.pure rfl (wo rfl) rfl rfl (p_move rfl rfl) (nf rfl) ?_
      refine W.pure rfl (wo rfl) rfl rfl (p_move rfl rfl) (nf rfl) ?_
      refine W.pure rfl (wo rfl) rfl rfl (p_slLen tu22 (row_sl hl) rfl rfl) (nf rfl) ?_
      by_cases h2 : 80 < (l.length : Int)
      · refine W.pure rfl (wo rfl) rfl rfl (pT (decide_eq_true h2) (p_gtr rfl rfl rfl)) (nf rfl) ?_
        refine W.pure rfl (wo rfl) rfl rfl (p_pick_false rfl rfl rfl) (nf rfl) ?_
        refine W.doneQ (y := sub [1, 0, 1] B3) rfl ?_
        refine C.cond_true (x := sub [1, 0, 1, 0] B3) (y := sub [1, 0, 1, 1] B3) rfl rfl ?_
        refine C.seq (x := sub [1, 0, 1, 0, 0] B3) (y := sub [1, 0, 1, 0, 1] B3) ?_
        refine C.region (id := 2) (m := 2) (ops := opsOf (sub [1, 0, 1, 0, 0] B3)) rfl ?_
        refine W.quiet rfl (wo rfl) rfl rfl (f_callR rfl rfl (args_val (vs := []) rfl) (en10 _) (fun w2 hc2 => known_ok w2)) (nf rfl) ?_
        refine W.pure rfl (wo rfl) rfl rfl (p_assign rfl rfl) (nf rfl) ?_
        refine W.doneQ (y := sub [1, 0, 1, 0, 1] B3) rfl ?_
        exact C.ret (R := fun e w' => e = .returned (.bool true) ∧ Below w.heap.size w w') (rs := [.tmp 4]) (vs := [.bool true]) rfl Try.func3 rfl rfl rfl (res_cons (ResV.tmp rfl) res_nil) fun w1 hc1 => ⟨rfl, hc1.toBelow⟩
      · refine W.pure rfl (wo rfl) rfl rfl (pF (decide_eq_false h2) (p_gtr rfl rfl rfl)) (nf rfl) ?_
        refine W.pure rfl (wo rfl) rfl rfl (p_pick_false rfl rfl rfl) (nf rfl) ?_
        refine W.doneQ (y := sub [1, 0, 1] B3) rfl ?_
        refine C.cond_false (x := sub [1, 0, 1, 0] B3) (y := sub [1, 0, 1, 1] B3) rfl rfl ?_
        refine C.skipQ (y := sub [1, 1] B3) rfl ?_
        refine C.seq (x := sub [1, 1, 0] B3) (y := sub [1, 1, 1] B3) ?_
        refine C.region (id := 3) (m := 6) (ops := opsOf (sub [1, 1, 0] B3)) rfl ?_
        refine W.c01 rfl (wo rfl) rfl rfl (tNew _ (by decide) (by decide)) (en11 _) rfl rfl rfl (args_val rfl) ?_
        intro p1
        refine W.pure rfl (wo rfl) rfl rfl (p_move rfl rfl) (nf rfl) ?_
        refine W.pure rfl (wo rfl) rfl rfl (p_extract rfl rfl rfl) (nf rfl) ?_
        refine W.pure rfl (wo rfl) rfl rfl (p_extract rfl rfl rfl) (nf rfl) ?_
        refine W.pure rfl (wo rfl) rfl rfl (p_assign rfl rfl) (nf rfl) ?_
        refine W.pure rfl (wo rfl) rfl rfl (p_assign rfl rfl) (nf rfl) ?_
        refine W.doneQ (y := sub [1, 1, 1] B3) rfl ?_
        refine C.seq (x := sub [1, 1, 1, 0] B3) (y := sub [1, 1, 1, 1] B3) ?_
        refine C.seq (x := sub [1, 1, 1, 0, 0] B3) (y := sub [1, 1, 1, 0, 1] B3) ?_
        refine C.region (id := 4) (m := 9) (ops := opsOf (sub [1, 1, 1, 0, 0] B3)) rfl ?_
        refine W.pure rfl (wo rfl) rfl rfl (p_move rfl rfl) (nf rfl) ?_
        refine W.pure rfl (wo rfl) rfl rfl (p_eqNilP (fun b w => by kernel_rfl) (fun b w => by kernel_rfl) rfl rfl rfl) (nf rfl) ?_
        refine W.pure rfl (wo rfl) rfl rfl (p_move rfl rfl) (nf rfl) ?_
        refine W.pure rfl (wo rfl) rfl rfl (p_move rfl rfl) (nf rfl) ?_
        refine W.pure rfl (wo rfl) rfl rfl (p_move rfl rfl) (nf rfl) ?_
        refine W.c11 rfl (wo rfl) rfl rfl rfl (tFuse (x0 _) _ (fu0_eq (by omega))) (en13 _) rfl rfl rfl (args_val rfl) ?_
        intro x3
        refine W.quiet rfl (wo rfl) rfl rfl (f_callR rfl rfl (args_val rfl) (en12 _) (fun w2 hc2 => num_ok w2 _)) (nf rfl) ?_
        refine W.pure rfl (wo rfl) rfl rfl (pF (by rfl) (p_neq rfl rfl rfl)) (nf rfl) ?_
        refine W.pure rfl (wo rfl) rfl rfl (p_pick_false rfl rfl rfl) (nf rfl) ?_
        refine W.doneQ (y := sub [1, 1, 1, 0, 1] B3) rfl ?_
        refine C.cond_false (x := sub [1, 1, 1, 0, 1, 0] B3) (y := sub [1, 1, 1, 0, 1, 1] B3) rfl rfl ?_
        refine C.skipQ (y := sub [1, 1, 1, 1] B3) rfl ?_
        refine C.seq (x := sub [1, 1, 1, 1, 0] B3) (y := sub [1, 1, 1, 1, 1] B3) ?_
        refine C.region (id := 6) (m := 1) (ops := opsOf (sub [1, 1, 1, 1, 0] B3)) rfl ?_
        refine W.pure rfl (wo rfl) rfl rfl (p_assign rfl rfl) (nf rfl) ?_
        refine W.doneQ (y := sub [1, 1, 1, 1, 1] B3) rfl ?_
        refine C.seq (x := sub [1, 1, 1, 1, 1, 0] B3) (y := sub [1, 1, 1, 1, 1, 1] B3) ?_
        refine C.seq (x := sub [1, 1, 1, 1, 1, 0, 0] B3) (y := sub [1, 1, 1, 1, 1, 0, 1] B3) ?_
        refine C.region (id := 7) (m := 1) (ops := opsOf (sub [1, 1, 1, 1, 1, 0, 0] B3)) rfl ?_
        refine W.pure rfl (wo rfl) rfl rfl (p_assign rfl rfl) (nf rfl) ?_
        refine W.doneQ (y := sub [1, 1, 1, 1, 1, 0, 1] B3) rfl ?_
        refine C.loopB (id := 0) (c := sub [1, 1, 1, 1, 1, 0, 1, 0, 0] B3) (y := sub [1, 1, 1, 1, 1, 1] B3) (α := FSt) (fun q => l.length - q.k) (fun q => [(0, .int .i64 f), (1, lv), (5, ptr p1.1 0), (7, .int .i64 (q.done : Int)), (8, .int .i64 (q.k : Int))]) (fun q => dX p1.1 p1.2 q.x ++ []) (fun q => q.k ≤ l.length ∧ FInv f q.done q.s q.k ∧ q.done ≤ 2 * q.k) ⟨0, 0, _, x3⟩ ⟨Nat.zero_le _, fu0_inv f (by omega), by simp⟩ (Sub.cons rfl (Sub.cons rfl (Sub.cons rfl (Sub.cons rfl (Sub.cons rfl (Sub.nil _)))))) rfl rfl (fun q => q.k = l.length) ?_ ?_
        · rintro ⟨k, done, s, x⟩ ⟨(hk : k ≤ l.length), (h : FInv f done s k), (hd : done ≤ 2 * k)⟩ Q' hN hE hR
          show CW _ _ _ _ _ [(0, .int .i64 f), (1, lv), (5, ptr p1.1 0), (7, .int .i64 (done : Int)), (8, .int .i64 (k : Int))] (dX p1.1 p1.2 x ++ [])
          by_cases hlt : k < l.length
          · obtain ⟨z, hz⟩ : ∃ z, l[k]? = some z := ⟨_, List.getElem?_eq_getElem hlt⟩
            have hz9 := tmod9 z
            refine C.seq (x := sub [1, 1, 1, 1, 1, 0, 1, 0, 0, 0] B3) (y := sub [1, 1, 1, 1, 1, 0, 1, 0, 0, 1] B3) ?_
            refine C.seq (x := sub [1, 1, 1, 1, 1, 0, 1, 0, 0, 0, 0] B3) (y := sub [1, 1, 1, 1, 1, 0, 1, 0, 0, 0, 1] B3) ?_
            refine C.region (id := 8) (m := 4) (ops := opsOf (sub [1, 1, 1, 1, 1, 0, 1, 0, 0, 0, 0] B3)) rfl ?_
            refine W.pure rfl (wo rfl) rfl rfl (p_move rfl rfl) (nf rfl) ?_
            refine W.pure rfl (wo rfl) rfl rfl (p_move rfl rfl) (nf rfl) ?_
            refine W.pure rfl (wo rfl) rfl rfl (p_slLen tu22 (row_sl hl) rfl rfl) (nf rfl) ?_
            refine W.pure rfl (wo rfl) rfl rfl (pT (decide_eq_true (by omega)) (p_lss rfl rfl rfl)) (nf rfl) ?_
            refine W.doneQ (y := sub [1, 1, 1, 1, 1, 0, 1, 0, 0, 0, 1] B3) rfl ?_
            refine C.cond_true (x := sub [1, 1, 1, 1, 1, 0, 1, 0, 0, 0, 1, 0] B3) (y := sub [1, 1, 1, 1, 1, 0, 1, 0, 0, 0, 1, 1] B3) rfl rfl ?_
            refine C.skipQ (y := sub [1, 1, 1, 1, 1, 0, 1, 0, 0, 1] B3) rfl ?_
            refine C.seq (x := sub [1, 1, 1, 1, 1, 0, 1, 0, 0, 1, 0] B3) (y := sub [1, 1, 1, 1, 1, 0, 1, 0, 0, 1, 1] B3) ?_
            refine C.block (id := 1) (c := sub [1, 1, 1, 1, 1, 0, 1, 0, 0, 1, 0, 0] B3) ?_
            refine C.seq (x := sub [1, 1, 1, 1, 1, 0, 1, 0, 0, 1, 0, 0, 0] B3) (y := sub [1, 1, 1, 1, 1, 0, 1, 0, 0, 1, 0, 0, 1] B3) ?_
            refine C.region (id := 10) (m := 6) (ops := opsOf (sub [1, 1, 1, 1, 1, 0, 1, 0, 0, 1, 0, 0, 0] B3)) rfl ?_
            refine W.pure rfl (wo rfl) rfl rfl (p_move rfl rfl) (nf rfl) ?_
            refine W.pure rfl (wo rfl) rfl rfl (p_move rfl rfl) (nf rfl) ?_
            refine W.pure rfl (wo rfl) rfl rfl (p_ixR hl hlt tu22 ts3 rfl rfl rfl) (nf rfl) ?_
            refine W.imm rfl (wo rfl) rfl rfl (i_ldR hl hz ta3 rfl rfl) (nf rfl) ?_
            refine W.pure rfl (wo rfl) rfl rfl (p_rem (by decide) rfl rfl rfl) (nf rfl) ?_
            refine W.pure rfl (wo rfl) rfl rfl (p_assign rfl rfl) (nf rfl) ?_
            refine W.doneQ (y := sub [1, 1, 1, 1, 1, 0, 1, 0, 0, 1, 0, 0, 1] B3) rfl ?_
            refine C.seq (x := sub [1, 1, 1, 1, 1, 0, 1, 0, 0, 1, 0, 0, 1, 0] B3) (y := sub [1, 1, 1, 1, 1, 0, 1, 0, 0, 1, 0, 0, 1, 1] B3) ?_
            refine C.seq (x := sub [1, 1, 1, 1, 1, 0, 1, 0, 0, 1, 0, 0, 1, 0, 0] B3) (y := sub [1, 1, 1, 1, 1, 0, 1, 0, 0, 1, 0, 0, 1, 0, 1] B3) ?_
            refine C.region (id := 11) (m := 2) (ops := opsOf (sub [1, 1, 1, 1, 1, 0, 1, 0, 0, 1, 0, 0, 1, 0, 0] B3)) rfl ?_
            refine W.pure rfl (wo rfl) rfl rfl (p_move rfl rfl) (nf rfl) ?_
            by_cases hneg : z.tmod 9 < 0
            · refine W.pure rfl (wo rfl) rfl rfl (pT (decide_eq_true hneg) (p_lss rfl rfl rfl)) (nf rfl) ?_
              refine W.doneQ (y := sub [1, 1, 1, 1, 1, 0, 1, 0, 0, 1, 0, 0, 1, 0, 1] B3) rfl ?_
              refine C.cond_true (x := sub [1, 1, 1, 1, 1, 0, 1, 0, 0, 1, 0, 0, 1, 0, 1, 0] B3) (y := sub [1, 1, 1, 1, 1, 0, 1, 0, 0, 1, 0, 0, 1, 0, 1, 1] B3) rfl rfl ?_
              refine C.region (id := 12) (m := 3) (ops := opsOf (sub [1, 1, 1, 1, 1, 0, 1, 0, 0, 1, 0, 0, 1, 0, 1, 0] B3)) rfl ?_
              refine W.pure rfl (wo rfl) rfl rfl (p_move rfl rfl) (nf rfl) ?_
              refine W.pure rfl (wo rfl) rfl rfl (p_neg rfl rfl) (nf rfl) ?_
              refine W.pure rfl (wo rfl) rfl rfl (p_assign rfl rfl) (nf rfl) ?_
              refine W.doneQ (y := sub [1, 1, 1, 1, 1, 0, 1, 0, 0, 1, 0, 0, 1, 1] B3) rfl ?_
              refine C.seq (x := sub [1, 1, 1, 1, 1, 0, 1, 0, 0, 1, 0, 0, 1, 1, 0] B3) (y := sub [1, 1, 1, 1, 1, 0, 1, 0, 0, 1, 0, 0, 1, 1, 1] B3) ?_
              refine C.region (id := 13) (m := 3) (ops := opsOf (sub [1, 1, 1, 1, 1, 0, 1, 0, 0, 1, 0, 0, 1, 1, 0] B3)) rfl ?_
              refine W.pure rfl (wo rfl) rfl rfl (p_move rfl rfl) (nf rfl) ?_
              obtain ⟨e1, s1, hK1, I1, e1a, e1b⟩ := inv_sync (by omega) (by omega) h
              refine W.c11 rfl (wo rfl) rfl rfl rfl (tSync x (hK1) (by have := h.lt; omega)) (en14 _) rfl rfl rfl (args_val rfl) ?_
              intro x4
              refine W.pure rfl (wo rfl) rfl rfl (p_assign rfl rfl) (nf rfl) ?_
              refine W.doneQ (y := sub [1, 1, 1, 1, 1, 0, 1, 0, 0, 1, 0, 0, 1, 1, 1] B3) rfl ?_
              refine C.seq (x := sub [1, 1, 1, 1, 1, 0, 1, 0, 0, 1, 0, 0, 1, 1, 1, 0] B3) (y := sub [1, 1, 1, 1, 1, 0, 1, 0, 0, 1, 0, 0, 1, 1, 1, 1] B3) ?_
              refine C.seq (x := sub [1, 1, 1, 1, 1, 0, 1, 0, 0, 1, 0, 0, 1, 1, 1, 0, 0] B3) (y := sub [1, 1, 1, 1, 1, 0, 1, 0, 0, 1, 0, 0, 1, 1, 1, 0, 1] B3) ?_
              refine C.region (id := 14) (m := 2) (ops := opsOf (sub [1, 1, 1, 1, 1, 0, 1, 0, 0, 1, 0, 0, 1, 1, 1, 0, 0] B3)) rfl ?_
              refine W.pure rfl (wo rfl) rfl rfl (p_move rfl rfl) (nf rfl) ?_
              by_cases hw : IntKind.i64.wrap (0 - z.tmod 9) < 8
              · refine W.pure rfl (wo rfl) rfl rfl (pT (decide_eq_true hw) (p_lss rfl rfl rfl)) (nf rfl) ?_
                refine W.doneQ (y := sub [1, 1, 1, 1, 1, 0, 1, 0, 0, 1, 0, 0, 1, 1, 1, 0, 1] B3) rfl ?_
                refine C.cond_true (x := sub [1, 1, 1, 1, 1, 0, 1, 0, 0, 1, 0, 0, 1, 1, 1, 0, 1, 0] B3) (y := sub [1, 1, 1, 1, 1, 0, 1, 0, 0, 1, 0, 0, 1, 1, 1, 0, 1, 1] B3) rfl rfl ?_
                refine C.seq (x := sub [1, 1, 1, 1, 1, 0, 1, 0, 0, 1, 0, 0, 1, 1, 1, 0, 1, 0, 0] B3) (y := sub [1, 1, 1, 1, 1, 0, 1, 0, 0, 1, 0, 0, 1, 1, 1, 0, 1, 0, 1] B3) ?_
                refine C.region (id := 15) (m := 7) (ops := opsOf (sub [1, 1, 1, 1, 1, 0, 1, 0, 0, 1, 0, 0, 1, 1, 1, 0, 1, 0, 0] B3)) rfl ?_
                refine W.pure rfl (wo rfl) rfl rfl (p_move rfl rfl) (nf rfl) ?_
                refine W.pure rfl (wo rfl) rfl rfl (p_move rfl rfl) (nf rfl) ?_
                refine W.pure rfl (wo rfl) rfl rfl (p_move rfl rfl) (nf rfl) ?_
                refine W.pure rfl (wo rfl) rfl rfl (p_conv tu3 tu5 ⟨_, rfl⟩ rfl rfl) (nf rfl) ?_
                refine W.c01 rfl (wo rfl) rfl rfl (tFill _) (en16 _) rfl rfl rfl (args_val rfl) ?_
                intro y5
                obtain ⟨e2, s2, hK2, I2, e2a, e2b⟩ := inv_write (n := IntKind.i64.wrap (0 - z.tmod 9)) (xs := fillL (IntKind.u8.wrap (k : Int))) (by omega) (by omega) I1 ⟨(by rw [w64 (by omega) (by omega)]; omega), hw⟩ (fillL_len _)
                refine W.f1 rfl ?_
                refine W.c22 rfl (wo rfl) rfl rfl rfl (tWrite x4 y5 _ (hK2) (by have := I1.lt; omega)) (en15 _) rfl rfl rfl (args_val rfl) ?_
                intro x6
                refine W.f1 rfl ?_
                refine W.dr rfl ?_
                refine W.pure rfl (wo rfl) rfl rfl (p_assign rfl rfl) (nf rfl) ?_
                refine W.doneQ (y := sub [1, 1, 1, 1, 1, 0, 1, 0, 0, 1, 0, 0, 1, 1, 1, 0, 1, 0, 1] B3) rfl ?_
                refine C.region (id := 16) (m := 3) (ops := opsOf (sub [1, 1, 1, 1, 1, 0, 1, 0, 0, 1, 0, 0, 1, 1, 1, 0, 1, 0, 1] B3)) rfl ?_
                refine W.pure rfl (wo rfl) rfl rfl (p_move rfl rfl) (nf rfl) ?_
                refine W.pure rfl (wo rfl) rfl rfl (pI (wk (by omega)) (p_add rfl rfl rfl)) (nf rfl) ?_
                refine W.pure rfl (wo rfl) rfl rfl (p_assign rfl rfl) (nf rfl) ?_
                refine W.doneQ (y := sub [1, 1, 1, 1, 1, 0, 1, 0, 0, 1, 0, 0, 1, 1, 1, 1] B3) rfl ?_
                refine C.seq (x := sub [1, 1, 1, 1, 1, 0, 1, 0, 0, 1, 0, 0, 1, 1, 1, 1, 0] B3) (y := sub [1, 1, 1, 1, 1, 0, 1, 0, 0, 1, 0, 0, 1, 1, 1, 1, 1] B3) ?_
                refine C.region (id := 17) (m := 3) (ops := opsOf (sub [1, 1, 1, 1, 1, 0, 1, 0, 0, 1, 0, 0, 1, 1, 1, 1, 0] B3)) rfl ?_
                refine W.pure rfl (wo rfl) rfl rfl (p_move rfl rfl) (nf rfl) ?_
                refine W.pure rfl (wo rfl) rfl rfl (pI (wk (by omega)) (p_add rfl rfl rfl)) (nf rfl) ?_
                refine W.pure rfl (wo rfl) rfl rfl (p_assign rfl rfl) (nf rfl) ?_
                refine W.doneQ (y := sub [1, 1, 1, 1, 1, 0, 1, 0, 0, 1, 0, 0, 1, 1, 1, 1, 1] B3) rfl ?_
                refine C.seq (x := sub [1, 1, 1, 1, 1, 0, 1, 0, 0, 1, 0, 0, 1, 1, 1, 1, 1, 0] B3) (y := sub [1, 1, 1, 1, 1, 0, 1, 0, 0, 1, 0, 0, 1, 1, 1, 1, 1, 1] B3) ?_
                refine C.region (id := 18) (m := 29) (ops := opsOf (sub [1, 1, 1, 1, 1, 0, 1, 0, 0, 1, 0, 0, 1, 1, 1, 1, 1, 0] B3)) rfl ?_
                refine W.pure rfl (wo rfl) rfl rfl (p_move rfl rfl) (nf rfl) ?_
                refine W.pure rfl (wo rfl) rfl rfl (p_move rfl rfl) (nf rfl) ?_
                by_cases hf : ((done + 1 + 1 : Nat) : Int) ≤ f
                · refine W.pure rfl (wo rfl) rfl rfl (pT (decide_eq_true hf) (p_leq rfl rfl rfl)) (nf rfl) ?_
                  refine W.pure rfl (wo rfl) rfl rfl (p_move rfl rfl) (nf rfl) ?_
                  refine W.pure rfl (wo rfl) rfl rfl (p_move rfl rfl) (nf rfl) ?_
                  refine W.quiet rfl (wo rfl) rfl rfl (f_callR rfl rfl (args_val rfl) (en12 _) (fun w2 hc2 => num_ok w2 _)) (nf rfl) ?_
                  refine W.pure rfl (wo rfl) rfl rfl (pF (by rw [e2a (by omega)]; rfl) (p_neq rfl rfl rfl)) (nf rfl) ?_
                  refine W.pure rfl (wo rfl) rfl rfl (p_pick_true rfl rfl rfl) (nf rfl) ?_
                  refine W.pure rfl (wo rfl) rfl rfl (p_move rfl rfl) (nf rfl) ?_
                  refine W.pure rfl (wo rfl) rfl rfl (p_move rfl rfl) (nf rfl) ?_
                  refine W.pure rfl (wo rfl) rfl rfl (p_move rfl rfl) (nf rfl) ?_
                  refine W.pure rfl (wo rfl) rfl rfl (p_add rfl rfl rfl) (nf rfl) ?_
                  refine W.pure rfl (wo rfl) rfl rfl (pF (decide_eq_false (by rw [w64 (by omega) (by omega)]; omega)) (p_gtr rfl rfl rfl)) (nf rfl) ?_
                  refine W.pure rfl (wo rfl) rfl rfl (p_move rfl rfl) (nf rfl) ?_
                  refine W.not rfl (wo rfl) rfl rfl ?_
                  refine W.not rfl (wo rfl) rfl rfl ?_
                  refine W.not rfl (wo rfl) rfl rfl ?_
                  refine W.pure rfl (wo rfl) rfl rfl (p_pick_false rfl rfl rfl) (nf rfl) ?_
                  refine W.pure rfl (wo rfl) rfl rfl (p_pick_false rfl rfl rfl) (nf rfl) ?_
                  refine W.pure rfl (wo rfl) rfl rfl (p_move rfl rfl) (nf rfl) ?_
                  refine W.pure rfl (wo rfl) rfl rfl (p_move rfl rfl) (nf rfl) ?_
                  refine W.pure rfl (wo rfl) rfl rfl (p_move rfl rfl) (nf rfl) ?_
                  refine W.pure rfl (wo rfl) rfl rfl (pF (decide_eq_false (by omega)) (p_gtr rfl rfl rfl)) (nf rfl) ?_
                  refine W.pure rfl (wo rfl) rfl rfl (p_move rfl rfl) (nf rfl) ?_
                  refine W.not rfl (wo rfl) rfl rfl ?_
                  refine W.not rfl (wo rfl) rfl rfl ?_
                  refine W.not rfl (wo rfl) rfl rfl ?_
                  refine W.pure rfl (wo rfl) rfl rfl (p_pick_false rfl rfl rfl) (nf rfl) ?_
                  refine W.pure rfl (wo rfl) rfl rfl (p_pick_false rfl rfl rfl) (nf rfl) ?_
                  refine W.doneQ (y := sub [1, 1, 1, 1, 1, 0, 1, 0, 0, 1, 0, 0, 1, 1, 1, 1, 1, 1] B3) rfl ?_
                  refine C.cond_false (x := sub [1, 1, 1, 1, 1, 0, 1, 0, 0, 1, 0, 0, 1, 1, 1, 1, 1, 1, 0] B3) (y := sub [1, 1, 1, 1, 1, 0, 1, 0, 0, 1, 0, 0, 1, 1, 1, 1, 1, 1, 1] B3) rfl rfl ?_
                  refine C.skipQ (y := sub [1, 1, 1, 1, 1, 0, 1, 0, 0, 1, 1] B3) rfl ?_
                  refine C.region (id := 9) (m := 3) (ops := opsOf (sub [1, 1, 1, 1, 1, 0, 1, 0, 0, 1, 1] B3)) rfl ?_
                  refine W.pure rfl (wo rfl) rfl rfl (p_move rfl rfl) (nf rfl) ?_
                  refine W.pure rfl (wo rfl) rfl rfl (pI (wk (by omega)) (p_add rfl rfl rfl)) (nf rfl) ?_
                  refine W.pure rfl (wo rfl) rfl rfl (p_assign rfl rfl) (nf rfl) ?_
                  refine W.end' fun a1 w1 ha1 hc1 => hN ⟨k + 1, done + 1 + 1, s2, x6⟩ ⟨(by show k + 1 ≤ _; omega), I2, (by show done + 1 + 1 ≤ 2 * (k + 1); omega)⟩ (show _ < _ by show l.length - (k + 1) < l.length - k; omega) a1 w1 (ha1.sub (Sub.cons rfl (Sub.cons rfl (Sub.cons rfl (Sub.cons rfl (Sub.cons rfl (Sub.nil _))))))) hc1
                · refine W.pure rfl (wo rfl) rfl rfl (pF (decide_eq_false hf) (p_leq rfl rfl rfl)) (nf rfl) ?_
                  refine W.pure rfl (wo rfl) rfl rfl (p_move rfl rfl) (nf rfl) ?_
                  refine W.not rfl (wo rfl) rfl rfl ?_
                  refine W.not rfl (wo rfl) rfl rfl ?_
                  refine W.not rfl (wo rfl) rfl rfl ?_
                  refine W.pure rfl (wo rfl) rfl rfl (p_pick_false rfl rfl rfl) (nf rfl) ?_
                  refine W.pure rfl (wo rfl) rfl rfl (p_move rfl rfl) (nf rfl) ?_
                  refine W.pure rfl (wo rfl) rfl rfl (p_move rfl rfl) (nf rfl) ?_
                  refine W.pure rfl (wo rfl) rfl rfl (p_move rfl rfl) (nf rfl) ?_
                  refine W.pure rfl (wo rfl) rfl rfl (p_add rfl rfl rfl) (nf rfl) ?_
                  by_cases hg : f + 2 < ((done + 1 + 1 : Nat) : Int)
                  · refine W.pure rfl (wo rfl) rfl rfl (pT (decide_eq_true (by rw [w64 (by omega) (by omega)]; exact hg)) (p_gtr rfl rfl rfl)) (nf rfl) ?_
                    refine W.pure rfl (wo rfl) rfl rfl (p_move rfl rfl) (nf rfl) ?_
                    refine W.pure rfl (wo rfl) rfl rfl (p_move rfl rfl) (nf rfl) ?_
                    refine W.quiet rfl (wo rfl) rfl rfl (f_callR rfl rfl (args_val rfl) (en12 _) (fun w2 hc2 => num_ok w2 _)) (nf rfl) ?_
                    refine W.pure rfl (wo rfl) rfl rfl (pF (by rw [e2b (by omega)]; rfl) (p_neq rfl rfl rfl)) (nf rfl) ?_
                    refine W.pure rfl (wo rfl) rfl rfl (p_pick_true rfl rfl rfl) (nf rfl) ?_
                    refine W.pure rfl (wo rfl) rfl rfl (p_pick_false rfl rfl rfl) (nf rfl) ?_
                    refine W.pure rfl (wo rfl) rfl rfl (p_move rfl rfl) (nf rfl) ?_
                    refine W.pure rfl (wo rfl) rfl rfl (p_move rfl rfl) (nf rfl) ?_
                    refine W.pure rfl (wo rfl) rfl rfl (p_move rfl rfl) (nf rfl) ?_
                    refine W.pure rfl (wo rfl) rfl rfl (pT (decide_eq_true (by omega)) (p_gtr rfl rfl rfl)) (nf rfl) ?_
                    refine W.pure rfl (wo rfl) rfl rfl (p_move rfl rfl) (nf rfl) ?_
                    refine W.pure rfl (wo rfl) rfl rfl (p_move rfl rfl) (nf rfl) ?_
                    refine W.c11 rfl (wo rfl) rfl rfl rfl (tDead x6 (r := true) (I2.hi (by omega))) (en17 _) rfl rfl rfl (args_val rfl) ?_
                    intro _
                    refine W.pure rfl (wo rfl) rfl rfl (p_not rfl rfl) (nf rfl) ?_
                    refine W.pure rfl (wo rfl) rfl rfl (p_pick_true rfl rfl rfl) (nf rfl) ?_
                    refine W.pure rfl (wo rfl) rfl rfl (p_pick_false rfl rfl rfl) (nf rfl) ?_
                    refine W.doneQ (y := sub [1, 1, 1, 1, 1, 0, 1, 0, 0, 1, 0, 0, 1, 1, 1, 1, 1, 1] B3) rfl ?_
                    refine C.cond_false (x := sub [1, 1, 1, 1, 1, 0, 1, 0, 0, 1, 0, 0, 1, 1, 1, 1, 1, 1, 0] B3) (y := sub [1, 1, 1, 1, 1, 0, 1, 0, 0, 1, 0, 0, 1, 1, 1, 1, 1, 1, 1] B3) rfl rfl ?_
                    refine C.skipQ (y := sub [1, 1, 1, 1, 1, 0, 1, 0, 0, 1, 1] B3) rfl ?_
                    refine C.region (id := 9) (m := 3) (ops := opsOf (sub [1, 1, 1, 1, 1, 0, 1, 0, 0, 1, 1] B3)) rfl ?_
                    refine W.pure rfl (wo rfl) rfl rfl (p_move rfl rfl) (nf rfl) ?_
                    refine W.pure rfl (wo rfl) rfl rfl (pI (wk (by omega)) (p_add rfl rfl rfl)) (nf rfl) ?_
                    refine W.pure rfl (wo rfl) rfl rfl (p_assign rfl rfl) (nf rfl) ?_
                    refine W.end' fun a1 w1 ha1 hc1 => hN ⟨k + 1, done + 1 + 1, s2, x6⟩ ⟨(by show k + 1 ≤ _; omega), I2, (by show done + 1 + 1 ≤ 2 * (k + 1); omega)⟩ (show _ < _ by show l.length - (k + 1) < l.length - k; omega) a1 w1 (ha1.sub (Sub.cons rfl (Sub.cons rfl (Sub.cons rfl (Sub.cons rfl (Sub.cons rfl (Sub.nil _))))))) hc1
                  · refine W.pure rfl (wo rfl) rfl rfl (pF (decide_eq_false (by rw [w64 (by omega) (by omega)]; exact hg)) (p_gtr rfl rfl rfl)) (nf rfl) ?_
                    refine W.pure rfl (wo rfl) rfl rfl (p_move rfl rfl) (nf rfl) ?_
                    refine W.not rfl (wo rfl) rfl rfl ?_
                    refine W.not rfl (wo rfl) rfl rfl ?_
                    refine W.not rfl (wo rfl) rfl rfl ?_
                    refine W.pure rfl (wo rfl) rfl rfl (p_pick_false rfl rfl rfl) (nf rfl) ?_
                    refine W.pure rfl (wo rfl) rfl rfl (p_pick_false rfl rfl rfl) (nf rfl) ?_
                    refine W.pure rfl (wo rfl) rfl rfl (p_move rfl rfl) (nf rfl) ?_
                    refine W.pure rfl (wo rfl) rfl rfl (p_move rfl rfl) (nf rfl) ?_
                    refine W.pure rfl (wo rfl) rfl rfl (p_move rfl rfl) (nf rfl) ?_
                    refine W.pure rfl (wo rfl) rfl rfl (pT (decide_eq_true (by omega)) (p_gtr rfl rfl rfl)) (nf rfl) ?_
                    refine W.pure rfl (wo rfl) rfl rfl (p_move rfl rfl) (nf rfl) ?_
                    refine W.pure rfl (wo rfl) rfl rfl (p_move rfl rfl) (nf rfl) ?_
                    refine W.c11 rfl (wo rfl) rfl rfl rfl (tDead x6 (r := true) (I2.hi (by omega))) (en17 _) rfl rfl rfl (args_val rfl) ?_
                    intro _
                    refine W.pure rfl (wo rfl) rfl rfl (p_not rfl rfl) (nf rfl) ?_
                    refine W.pure rfl (wo rfl) rfl rfl (p_pick_true rfl rfl rfl) (nf rfl) ?_
                    refine W.pure rfl (wo rfl) rfl rfl (p_pick_false rfl rfl rfl) (nf rfl) ?_
                    refine W.doneQ (y := sub [1, 1, 1, 1, 1, 0, 1, 0, 0, 1, 0, 0, 1, 1, 1, 1, 1, 1] B3) rfl ?_
                    refine C.cond_false (x := sub [1, 1, 1, 1, 1, 0, 1, 0, 0, 1, 0, 0, 1, 1, 1, 1, 1, 1, 0] B3) (y := sub [1, 1, 1, 1, 1, 0, 1, 0, 0, 1, 0, 0, 1, 1, 1, 1, 1, 1, 1] B3) rfl rfl ?_
                    refine C.skipQ (y := sub [1, 1, 1, 1, 1, 0, 1, 0, 0, 1, 1] B3) rfl ?_
                    refine C.region (id := 9) (m := 3) (ops := opsOf (sub [1, 1, 1, 1, 1, 0, 1, 0, 0, 1, 1] B3)) rfl ?_
                    refine W.pure rfl (wo rfl) rfl rfl (p_move rfl rfl) (nf rfl) ?_
                    refine W.pure rfl (wo rfl) rfl rfl (pI (wk (by omega)) (p_add rfl rfl rfl)) (nf rfl) ?_
                    refine W.pure rfl (wo rfl) rfl rfl (p_assign rfl rfl) (nf rfl) ?_
                    refine W.end' fun a1 w1 ha1 hc1 => hN ⟨k + 1, done + 1 + 1, s2, x6⟩ ⟨(by show k + 1 ≤ _; omega), I2, (by show done + 1 + 1 ≤ 2 * (k + 1); omega)⟩ (show _ < _ by show l.length - (k + 1) < l.length - k; omega) a1 w1 (ha1.sub (Sub.cons rfl (Sub.cons rfl (Sub.cons rfl (Sub.cons rfl (Sub.cons rfl (Sub.nil _))))))) hc1
              · refine W.pure rfl (wo rfl) rfl rfl (pF (decide_eq_false hw) (p_lss rfl rfl rfl)) (nf rfl) ?_
                refine W.doneQ (y := sub [1, 1, 1, 1, 1, 0, 1, 0, 0, 1, 0, 0, 1, 1, 1, 0, 1] B3) rfl ?_
                refine C.cond_false (x := sub [1, 1, 1, 1, 1, 0, 1, 0, 0, 1, 0, 0, 1, 1, 1, 0, 1, 0] B3) (y := sub [1, 1, 1, 1, 1, 0, 1, 0, 0, 1, 0, 0, 1, 1, 1, 0, 1, 1] B3) rfl rfl ?_
                refine C.skipQ (y := sub [1, 1, 1, 1, 1, 0, 1, 0, 0, 1, 0, 0, 1, 1, 1, 1] B3) rfl ?_
                refine C.seq (x := sub [1, 1, 1, 1, 1, 0, 1, 0, 0, 1, 0, 0, 1, 1, 1, 1, 0] B3) (y := sub [1, 1, 1, 1, 1, 0, 1, 0, 0, 1, 0, 0, 1, 1, 1, 1, 1] B3) ?_
                refine C.region (id := 17) (m := 3) (ops := opsOf (sub [1, 1, 1, 1, 1, 0, 1, 0, 0, 1, 0, 0, 1, 1, 1, 1, 0] B3)) rfl ?_
                refine W.pure rfl (wo rfl) rfl rfl (p_move rfl rfl) (nf rfl) ?_
                refine W.pure rfl (wo rfl) rfl rfl (pI (wk (by omega)) (p_add rfl rfl rfl)) (nf rfl) ?_
                refine W.pure rfl (wo rfl) rfl rfl (p_assign rfl rfl) (nf rfl) ?_
                refine W.doneQ (y := sub [1, 1, 1, 1, 1, 0, 1, 0, 0, 1, 0, 0, 1, 1, 1, 1, 1] B3) rfl ?_
                refine C.seq (x := sub [1, 1, 1, 1, 1, 0, 1, 0, 0, 1, 0, 0, 1, 1, 1, 1, 1, 0] B3) (y := sub [1, 1, 1, 1, 1, 0, 1, 0, 0, 1, 0, 0, 1, 1, 1, 1, 1, 1] B3) ?_
                refine C.region (id := 18) (m := 29) (ops := opsOf (sub [1, 1, 1, 1, 1, 0, 1, 0, 0, 1, 0, 0, 1, 1, 1, 1, 1, 0] B3)) rfl ?_
                refine W.pure rfl (wo rfl) rfl rfl (p_move rfl rfl) (nf rfl) ?_
                refine W.pure rfl (wo rfl) rfl rfl (p_move rfl rfl) (nf rfl) ?_
                by_cases hf : ((done + 1 : Nat) : Int) ≤ f
                · refine W.pure rfl (wo rfl) rfl rfl (pT (decide_eq_true hf) (p_leq rfl rfl rfl)) (nf rfl) ?_
                  refine W.pure rfl (wo rfl) rfl rfl (p_move rfl rfl) (nf rfl) ?_
                  refine W.pure rfl (wo rfl) rfl rfl (p_move rfl rfl) (nf rfl) ?_
                  refine W.quiet rfl (wo rfl) rfl rfl (f_callR rfl rfl (args_val rfl) (en12 _) (fun w2 hc2 => num_ok w2 _)) (nf rfl) ?_
                  refine W.pure rfl (wo rfl) rfl rfl (pF (by rw [e1a (by omega)]; rfl) (p_neq rfl rfl rfl)) (nf rfl) ?_
                  refine W.pure rfl (wo rfl) rfl rfl (p_pick_true rfl rfl rfl) (nf rfl) ?_
                  refine W.pure rfl (wo rfl) rfl rfl (p_move rfl rfl) (nf rfl) ?_
                  refine W.pure rfl (wo rfl) rfl rfl (p_move rfl rfl) (nf rfl) ?_
                  refine W.pure rfl (wo rfl) rfl rfl (p_move rfl rfl) (nf rfl) ?_
                  refine W.pure rfl (wo rfl) rfl rfl (p_add rfl rfl rfl) (nf rfl) ?_
                  refine W.pure rfl (wo rfl) rfl rfl (pF (decide_eq_false (by rw [w64 (by omega) (by omega)]; omega)) (p_gtr rfl rfl rfl)) (nf rfl) ?_
                  refine W.pure rfl (wo rfl) rfl rfl (p_move rfl rfl) (nf rfl) ?_
                  refine W.not rfl (wo rfl) rfl rfl ?_
                  refine W.not rfl (wo rfl) rfl rfl ?_
                  refine W.not rfl (wo rfl) rfl rfl ?_
                  refine W.pure rfl (wo rfl) rfl rfl (p_pick_false rfl rfl rfl) (nf rfl) ?_
                  refine W.pure rfl (wo rfl) rfl rfl (p_pick_false rfl rfl rfl) (nf rfl) ?_
                  refine W.pure rfl (wo rfl) rfl rfl (p_move rfl rfl) (nf rfl) ?_
                  refine W.pure rfl (wo rfl) rfl rfl (p_move rfl rfl) (nf rfl) ?_
                  refine W.pure rfl (wo rfl) rfl rfl (p_move rfl rfl) (nf rfl) ?_
                  refine W.pure rfl (wo rfl) rfl rfl (pF (decide_eq_false (by omega)) (p_gtr rfl rfl rfl)) (nf rfl) ?_
                  refine W.pure rfl (wo rfl) rfl rfl (p_move rfl rfl) (nf rfl) ?_
                  refine W.not rfl (wo rfl) rfl rfl ?_
                  refine W.not rfl (wo rfl) rfl rfl ?_
                  refine W.not rfl (wo rfl) rfl rfl ?_
                  refine W.pure rfl (wo rfl) rfl rfl (p_pick_false rfl rfl rfl) (nf rfl) ?_
                  refine W.pure rfl (wo rfl) rfl rfl (p_pick_false rfl rfl rfl) (nf rfl) ?_
                  refine W.doneQ (y := sub [1, 1, 1, 1, 1, 0, 1, 0, 0, 1, 0, 0, 1, 1, 1, 1, 1, 1] B3) rfl ?_
                  refine C.cond_false (x := sub [1, 1, 1, 1, 1, 0, 1, 0, 0, 1, 0, 0, 1, 1, 1, 1, 1, 1, 0] B3) (y := sub [1, 1, 1, 1, 1, 0, 1, 0, 0, 1, 0, 0, 1, 1, 1, 1, 1, 1, 1] B3) rfl rfl ?_
                  refine C.skipQ (y := sub [1, 1, 1, 1, 1, 0, 1, 0, 0, 1, 1] B3) rfl ?_
                  refine C.region (id := 9) (m := 3) (ops := opsOf (sub [1, 1, 1, 1, 1, 0, 1, 0, 0, 1, 1] B3)) rfl ?_
                  refine W.pure rfl (wo rfl) rfl rfl (p_move rfl rfl) (nf rfl) ?_
                  refine W.pure rfl (wo rfl) rfl rfl (pI (wk (by omega)) (p_add rfl rfl rfl)) (nf rfl) ?_
                  refine W.pure rfl (wo rfl) rfl rfl (p_assign rfl rfl) (nf rfl) ?_
                  refine W.end' fun a1 w1 ha1 hc1 => hN ⟨k + 1, done + 1, s1, x4⟩ ⟨(by show k + 1 ≤ _; omega), ⟨I1.n, I1.ar, by have := I1.lt; show s1.late.length ≤ k + 1; omega, I1.lo, I1.hi⟩, (by show done + 1 ≤ 2 * (k + 1); omega)⟩ (show _ < _ by show l.length - (k + 1) < l.length - k; omega) a1 w1 (ha1.sub (Sub.cons rfl (Sub.cons rfl (Sub.cons rfl (Sub.cons rfl (Sub.cons rfl (Sub.nil _))))))) hc1
                · refine W.pure rfl (wo rfl) rfl rfl (pF (decide_eq_false hf) (p_leq rfl rfl rfl)) (nf rfl) ?_
                  refine W.pure rfl (wo rfl) rfl rfl (p_move rfl rfl) (nf rfl) ?_
                  refine W.not rfl (wo rfl) rfl rfl ?_
                  refine W.not rfl (wo rfl) rfl rfl ?_
                  refine W.not rfl (wo rfl) rfl rfl ?_
                  refine W.pure rfl (wo rfl) rfl rfl (p_pick_false rfl rfl rfl) (nf rfl) ?_
                  refine W.pure rfl (wo rfl) rfl rfl (p_move rfl rfl) (nf rfl) ?_
                  refine W.pure rfl (wo rfl) rfl rfl (p_move rfl rfl) (nf rfl) ?_
                  refine W.pure rfl (wo rfl) rfl rfl (p_move rfl rfl) (nf rfl) ?_
                  refine W.pure rfl (wo rfl) rfl rfl (p_add rfl rfl rfl) (nf rfl) ?_
                  by_cases hg : f + 2 < ((done + 1 : Nat) : Int)
                  · refine W.pure rfl (wo rfl) rfl rfl (pT (decide_eq_true (by rw [w64 (by omega) (by omega)]; exact hg)) (p_gtr rfl rfl rfl)) (nf rfl) ?_
                    refine W.pure rfl (wo rfl) rfl rfl (p_move rfl rfl) (nf rfl) ?_
                    refine W.pure rfl (wo rfl) rfl rfl (p_move rfl rfl) (nf rfl) ?_
                    refine W.quiet rfl (wo rfl) rfl rfl (f_callR rfl rfl (args_val rfl) (en12 _) (fun w2 hc2 => num_ok w2 _)) (nf rfl) ?_
                    refine W.pure rfl (wo rfl) rfl rfl (pF (by rw [e1b (by omega)]; rfl) (p_neq rfl rfl rfl)) (nf rfl) ?_
                    refine W.pure rfl (wo rfl) rfl rfl (p_pick_true rfl rfl rfl) (nf rfl) ?_
                    refine W.pure rfl (wo rfl) rfl rfl (p_pick_false rfl rfl rfl) (nf rfl) ?_
                    refine W.pure rfl (wo rfl) rfl rfl (p_move rfl rfl) (nf rfl) ?_
                    refine W.pure rfl (wo rfl) rfl rfl (p_move rfl rfl) (nf rfl) ?_
                    refine W.pure rfl (wo rfl) rfl rfl (p_move rfl rfl) (nf rfl) ?_
                    refine W.pure rfl (wo rfl) rfl rfl (pT (decide_eq_true (by omega)) (p_gtr rfl rfl rfl)) (nf rfl) ?_
                    refine W.pure rfl (wo rfl) rfl rfl (p_move rfl rfl) (nf rfl) ?_
                    refine W.pure rfl (wo rfl) rfl rfl (p_move rfl rfl) (nf rfl) ?_
                    refine W.c11 rfl (wo rfl) rfl rfl rfl (tDead x4 (r := true) (I1.hi (by omega))) (en17 _) rfl rfl rfl (args_val rfl) ?_
                    intro _
                    refine W.pure rfl (wo rfl) rfl rfl (p_not rfl rfl) (nf rfl) ?_
                    refine W.pure rfl (wo rfl) rfl rfl (p_pick_true rfl rfl rfl) (nf rfl) ?_
                    refine W.pure rfl (wo rfl) rfl rfl (p_pick_false rfl rfl rfl) (nf rfl) ?_
                    refine W.doneQ (y := sub [1, 1, 1, 1, 1, 0, 1, 0, 0, 1, 0, 0, 1, 1, 1, 1, 1, 1] B3) rfl ?_
                    refine C.cond_false (x := sub [1, 1, 1, 1, 1, 0, 1, 0, 0, 1, 0, 0, 1, 1, 1, 1, 1, 1, 0] B3) (y := sub [1, 1, 1, 1, 1, 0, 1, 0, 0, 1, 0, 0, 1, 1, 1, 1, 1, 1, 1] B3) rfl rfl ?_
                    refine C.skipQ (y := sub [1, 1, 1, 1, 1, 0, 1, 0, 0, 1, 1] B3) rfl ?_
                    refine C.region (id := 9) (m := 3) (ops := opsOf (sub [1, 1, 1, 1, 1, 0, 1, 0, 0, 1, 1] B3)) rfl ?_
                    refine W.pure rfl (wo rfl) rfl rfl (p_move rfl rfl) (nf rfl) ?_
                    refine W.pure rfl (wo rfl) rfl rfl (pI (wk (by omega)) (p_add rfl rfl rfl)) (nf rfl) ?_
                    refine W.pure rfl (wo rfl) rfl rfl (p_assign rfl rfl) (nf rfl) ?_
                    refine W.end' fun a1 w1 ha1 hc1 => hN ⟨k + 1, done + 1, s1, x4⟩ ⟨(by show k + 1 ≤ _; omega), ⟨I1.n, I1.ar, by have := I1.lt; show s1.late.length ≤ k + 1; omega, I1.lo, I1.hi⟩, (by show done + 1 ≤ 2 * (k + 1); omega)⟩ (show _ < _ by show l.length - (k + 1) < l.length - k; omega) a1 w1 (ha1.sub (Sub.cons rfl (Sub.cons rfl (Sub.cons rfl (Sub.cons rfl (Sub.cons rfl (Sub.nil _))))))) hc1
                  · refine W.pure rfl (wo rfl) rfl rfl (pF (decide_eq_false (by rw [w64 (by omega) (by omega)]; exact hg)) (p_gtr rfl rfl rfl)) (nf rfl) ?_
                    refine W.pure rfl (wo rfl) rfl rfl (p_move rfl rfl) (nf rfl) ?_
                    refine W.not rfl (wo rfl) rfl rfl ?_
                    refine W.not rfl (wo rfl) rfl rfl ?_
                    refine W.not rfl (wo rfl) rfl rfl ?_
                    refine W.pure rfl (wo rfl) rfl rfl (p_pick_false rfl rfl rfl) (nf rfl) ?_
                    refine W.pure rfl (wo rfl) rfl rfl (p_pick_false rfl rfl rfl) (nf rfl) ?_
                    refine W.pure rfl (wo rfl) rfl rfl (p_move rfl rfl) (nf rfl) ?_
                    refine W.pure rfl (wo rfl) rfl rfl (p_move rfl rfl) (nf rfl) ?_
                    refine W.pure rfl (wo rfl) rfl rfl (p_move rfl rfl) (nf rfl) ?_
                    refine W.pure rfl (wo rfl) rfl rfl (pT (decide_eq_true (by omega)) (p_gtr rfl rfl rfl)) (nf rfl) ?_
                    refine W.pure rfl (wo rfl) rfl rfl (p_move rfl rfl) (nf rfl) ?_
                    refine W.pure rfl (wo rfl) rfl rfl (p_move rfl rfl) (nf rfl) ?_
                    refine W.c11 rfl (wo rfl) rfl rfl rfl (tDead x4 (r := true) (I1.hi (by omega))) (en17 _) rfl rfl rfl (args_val rfl) ?_
                    intro _
                    refine W.pure rfl (wo rfl) rfl rfl (p_not rfl rfl) (nf rfl) ?_
                    refine W.pure rfl (wo rfl) rfl rfl (p_pick_true rfl rfl rfl) (nf rfl) ?_
                    refine W.pure rfl (wo rfl) rfl rfl (p_pick_false rfl rfl rfl) (nf rfl) ?_
                    refine W.doneQ (y := sub [1, 1, 1, 1, 1, 0, 1, 0, 0, 1, 0, 0, 1, 1, 1, 1, 1, 1] B3) rfl ?_
                    refine C.cond_false (x := sub [1, 1, 1, 1, 1, 0, 1, 0, 0, 1, 0, 0, 1, 1, 1, 1, 1, 1, 0] B3) (y := sub [1, 1, 1, 1, 1, 0, 1, 0, 0, 1, 0, 0, 1, 1, 1, 1, 1, 1, 1] B3) rfl rfl ?_
                    refine C.skipQ (y := sub [1, 1, 1, 1, 1, 0, 1, 0, 0, 1, 1] B3) rfl ?_
                    refine C.region (id := 9) (m := 3) (ops := opsOf (sub [1, 1, 1, 1, 1, 0, 1, 0, 0, 1, 1] B3)) rfl ?_
                    refine W.pure rfl (wo rfl) rfl rfl (p_move rfl rfl) (nf rfl) ?_
                    refine W.pure rfl (wo rfl) rfl rfl (pI (wk (by omega)) (p_add rfl rfl rfl)) (nf rfl) ?_
                    refine W.pure rfl (wo rfl) rfl rfl (p_assign rfl rfl) (nf rfl) ?_
                    refine W.end' fun a1 w1 ha1 hc1 => hN ⟨k + 1, done + 1, s1, x4⟩ ⟨(by show k + 1 ≤ _; omega), ⟨I1.n, I1.ar, by have := I1.lt; show s1.late.length ≤ k + 1; omega, I1.lo, I1.hi⟩, (by show done + 1 ≤ 2 * (k + 1); omega)⟩ (show _ < _ by show l.length - (k + 1) < l.length - k; omega) a1 w1 (ha1.sub (Sub.cons rfl (Sub.cons rfl (Sub.cons rfl (Sub.cons rfl (Sub.cons rfl (Sub.nil _))))))) hc1
            · refine W.pure rfl (wo rfl) rfl rfl (pF (decide_eq_false hneg) (p_lss rfl rfl rfl)) (nf rfl) ?_
              refine W.doneQ (y := sub [1, 1, 1, 1, 1, 0, 1, 0, 0, 1, 0, 0, 1, 0, 1] B3) rfl ?_
              refine C.cond_false (x := sub [1, 1, 1, 1, 1, 0, 1, 0, 0, 1, 0, 0, 1, 0, 1, 0] B3) (y := sub [1, 1, 1, 1, 1, 0, 1, 0, 0, 1, 0, 0, 1, 0, 1, 1] B3) rfl rfl ?_
              refine C.skipQ (y := sub [1, 1, 1, 1, 1, 0, 1, 0, 0, 1, 0, 0, 1, 1] B3) rfl ?_
              refine C.seq (x := sub [1, 1, 1, 1, 1, 0, 1, 0, 0, 1, 0, 0, 1, 1, 0] B3) (y := sub [1, 1, 1, 1, 1, 0, 1, 0, 0, 1, 0, 0, 1, 1, 1] B3) ?_
              refine C.region (id := 13) (m := 3) (ops := opsOf (sub [1, 1, 1, 1, 1, 0, 1, 0, 0, 1, 0, 0, 1, 1, 0] B3)) rfl ?_
              refine W.pure rfl (wo rfl) rfl rfl (p_move rfl rfl) (nf rfl) ?_
              obtain ⟨e1, s1, hK1, I1, e1a, e1b⟩ := inv_sync (by omega) (by omega) h
              refine W.c11 rfl (wo rfl) rfl rfl rfl (tSync x (hK1) (by have := h.lt; omega)) (en14 _) rfl rfl rfl (args_val rfl) ?_
              intro x4
              refine W.pure rfl (wo rfl) rfl rfl (p_assign rfl rfl) (nf rfl) ?_
              refine W.doneQ (y := sub [1, 1, 1, 1, 1, 0, 1, 0, 0, 1, 0, 0, 1, 1, 1] B3) rfl ?_
              refine C.seq (x := sub [1, 1, 1, 1, 1, 0, 1, 0, 0, 1, 0, 0, 1, 1, 1, 0] B3) (y := sub [1, 1, 1, 1, 1, 0, 1, 0, 0, 1, 0, 0, 1, 1, 1, 1] B3) ?_
              refine C.seq (x := sub [1, 1, 1, 1, 1, 0, 1, 0, 0, 1, 0, 0, 1, 1, 1, 0, 0] B3) (y := sub [1, 1, 1, 1, 1, 0, 1, 0, 0, 1, 0, 0, 1, 1, 1, 0, 1] B3) ?_
              refine C.region (id := 14) (m := 2) (ops := opsOf (sub [1, 1, 1, 1, 1, 0, 1, 0, 0, 1, 0, 0, 1, 1, 1, 0, 0] B3)) rfl ?_
              refine W.pure rfl (wo rfl) rfl rfl (p_move rfl rfl) (nf rfl) ?_
              by_cases hw : z.tmod 9 < 8
              · refine W.pure rfl (wo rfl) rfl rfl (pT (decide_eq_true hw) (p_lss rfl rfl rfl)) (nf rfl) ?_
                refine W.doneQ (y := sub [1, 1, 1, 1, 1, 0, 1, 0, 0, 1, 0, 0, 1, 1, 1, 0, 1] B3) rfl ?_
                refine C.cond_true (x := sub [1, 1, 1, 1, 1, 0, 1, 0, 0, 1, 0, 0, 1, 1, 1, 0, 1, 0] B3) (y := sub [1, 1, 1, 1, 1, 0, 1, 0, 0, 1, 0, 0, 1, 1, 1, 0, 1, 1] B3) rfl rfl ?_
                refine C.seq (x := sub [1, 1, 1, 1, 1, 0, 1, 0, 0, 1, 0, 0, 1, 1, 1, 0, 1, 0, 0] B3) (y := sub [1, 1, 1, 1, 1, 0, 1, 0, 0, 1, 0, 0, 1, 1, 1, 0, 1, 0, 1] B3) ?_
                refine C.region (id := 15) (m := 7) (ops := opsOf (sub [1, 1, 1, 1, 1, 0, 1, 0, 0, 1, 0, 0, 1, 1, 1, 0, 1, 0, 0] B3)) rfl ?_
                refine W.pure rfl (wo rfl) rfl rfl (p_move rfl rfl) (nf rfl) ?_
                refine W.pure rfl (wo rfl) rfl rfl (p_move rfl rfl) (nf rfl) ?_
                refine W.pure rfl (wo rfl) rfl rfl (p_move rfl rfl) (nf rfl) ?_
                refine W.pure rfl (wo rfl) rfl rfl (p_conv tu3 tu5 ⟨_, rfl⟩ rfl rfl) (nf rfl) ?_
                refine W.c01 rfl (wo rfl) rfl rfl (tFill _) (en16 _) rfl rfl rfl (args_val rfl) ?_
                intro y5
                obtain ⟨e2, s2, hK2, I2, e2a, e2b⟩ := inv_write (n := z.tmod 9) (xs := fillL (IntKind.u8.wrap (k : Int))) (by omega) (by omega) I1 ⟨(by omega), hw⟩ (fillL_len _)
                refine W.f1 rfl ?_
                refine W.c22 rfl (wo rfl) rfl rfl rfl (tWrite x4 y5 _ (hK2) (by have := I1.lt; omega)) (en15 _) rfl rfl rfl (args_val rfl) ?_
                intro x6
                refine W.f1 rfl ?_
                refine W.dr rfl ?_
                refine W.pure rfl (wo rfl) rfl rfl (p_assign rfl rfl) (nf rfl) ?_
                refine W.doneQ (y := sub [1, 1, 1, 1, 1, 0, 1, 0, 0, 1, 0, 0, 1, 1, 1, 0, 1, 0, 1] B3) rfl ?_
                refine C.region (id := 16) (m := 3) (ops := opsOf (sub [1, 1, 1, 1, 1, 0, 1, 0, 0, 1, 0, 0, 1, 1, 1, 0, 1, 0, 1] B3)) rfl ?_
                refine W.pure rfl (wo rfl) rfl rfl (p_move rfl rfl) (nf rfl) ?_
                refine W.pure rfl (wo rfl) rfl rfl (pI (wk (by omega)) (p_add rfl rfl rfl)) (nf rfl) ?_
                refine W.pure rfl (wo rfl) rfl rfl (p_assign rfl rfl) (nf rfl) ?_
                refine W.doneQ (y := sub [1, 1, 1, 1, 1, 0, 1, 0, 0, 1, 0, 0, 1, 1, 1, 1] B3) rfl ?_
                refine C.seq (x := sub [1, 1, 1, 1, 1, 0, 1, 0, 0, 1, 0, 0, 1, 1, 1, 1, 0] B3) (y := sub [1, 1, 1, 1, 1, 0, 1, 0, 0, 1, 0, 0, 1, 1, 1, 1, 1] B3) ?_
                refine C.region (id := 17) (m := 3) (ops := opsOf (sub [1, 1, 1, 1, 1, 0, 1, 0, 0, 1, 0, 0, 1, 1, 1, 1, 0] B3)) rfl ?_
                refine W.pure rfl (wo rfl) rfl rfl (p_move rfl rfl) (nf rfl) ?_
                refine W.pure rfl (wo rfl) rfl rfl (pI (wk (by omega)) (p_add rfl rfl rfl)) (nf rfl) ?_
                refine W.pure rfl (wo rfl) rfl rfl (p_assign rfl rfl) (nf rfl) ?_
                refine W.doneQ (y := sub [1, 1, 1, 1, 1, 0, 1, 0, 0, 1, 0, 0, 1, 1, 1, 1, 1] B3) rfl ?_
                refine C.seq (x := sub [1, 1, 1, 1, 1, 0, 1, 0, 0, 1, 0, 0, 1, 1, 1, 1, 1, 0] B3) (y := sub [1, 1, 1, 1, 1, 0, 1, 0, 0, 1, 0, 0, 1, 1, 1, 1, 1, 1] B3) ?_
                refine C.region (id := 18) (m := 29) (ops := opsOf (sub [1, 1, 1, 1, 1, 0, 1, 0, 0, 1, 0, 0, 1, 1, 1, 1, 1, 0] B3)) rfl ?_
                refine W.pure rfl (wo rfl) rfl rfl (p_move rfl rfl) (nf rfl) ?_
                refine W.pure rfl (wo rfl) rfl rfl (p_move rfl rfl) (nf rfl) ?_
                by_cases hf : ((done + 1 + 1 : Nat) : Int) ≤ f
                · refine W.pure rfl (wo rfl) rfl rfl (pT (decide_eq_true hf) (p_leq rfl rfl rfl)) (nf rfl) ?_
                  refine W.pure rfl (wo rfl) rfl rfl (p_move rfl rfl) (nf rfl) ?_
                  refine W.pure rfl (wo rfl) rfl rfl (p_move rfl rfl) (nf rfl) ?_
                  refine W.quiet rfl (wo rfl) rfl rfl (f_callR rfl rfl (args_val rfl) (en12 _) (fun w2 hc2 => num_ok w2 _)) (nf rfl) ?_
                  refine W.pure rfl (wo rfl) rfl rfl (pF (by rw [e2a (by omega)]; rfl) (p_neq rfl rfl rfl)) (nf rfl) ?_
                  refine W.pure rfl (wo rfl) rfl rfl (p_pick_true rfl rfl rfl) (nf rfl) ?_
                  refine W.pure rfl (wo rfl) rfl rfl (p_move rfl rfl) (nf rfl) ?_
                  refine W.pure rfl (wo rfl) rfl rfl (p_move rfl rfl) (nf rfl) ?_
                  refine W.pure rfl (wo rfl) rfl rfl (p_move rfl rfl) (nf rfl) ?_
                  refine W.pure rfl (wo rfl) rfl rfl (p_add rfl rfl rfl) (nf rfl) ?_
                  refine W.pure rfl (wo rfl) rfl rfl (pF (decide_eq_false (by rw [w64 (by omega) (by omega)]; omega)) (p_gtr rfl rfl rfl)) (nf rfl) ?_
                  refine W.pure rfl (wo rfl) rfl rfl (p_move rfl rfl) (nf rfl) ?_
                  refine W.not rfl (wo rfl) rfl rfl ?_
                  refine W.not rfl (wo rfl) rfl rfl ?_
                  refine W.not rfl (wo rfl) rfl rfl ?_
                  refine W.pure rfl (wo rfl) rfl rfl (p_pick_false rfl rfl rfl) (nf rfl) ?_
                  refine W.pure rfl (wo rfl) rfl rfl (p_pick_false rfl rfl rfl) (nf rfl) ?_
                  refine W.pure rfl (wo rfl) rfl rfl (p_move rfl rfl) (nf rfl) ?_
                  refine W.pure rfl (wo rfl) rfl rfl (p_move rfl rfl) (nf rfl) ?_
                  refine W.pure rfl (wo rfl) rfl rfl (p_move rfl rfl) (nf rfl) ?_
                  refine W.pure rfl (wo rfl) rfl rfl (pF (decide_eq_false (by omega)) (p_gtr rfl rfl rfl)) (nf rfl) ?_
                  refine W.pure rfl (wo rfl) rfl rfl (p_move rfl rfl) (nf rfl) ?_
                  refine W.not rfl (wo rfl) rfl rfl ?_
                  refine W.not rfl (wo rfl) rfl rfl ?_
                  refine W.not rfl (wo rfl) rfl rfl ?_
                  refine W.pure rfl (wo rfl) rfl rfl (p_pick_false rfl rfl rfl) (nf rfl) ?_
                  refine W.pure rfl (wo rfl) rfl rfl (p_pick_false rfl rfl rfl) (nf rfl) ?_
                  refine W.doneQ (y := sub [1, 1, 1, 1, 1, 0, 1, 0, 0, 1, 0, 0, 1, 1, 1, 1, 1, 1] B3) rfl ?_
                  refine C.cond_false (x := sub [1, 1, 1, 1, 1, 0, 1, 0, 0, 1, 0, 0, 1, 1, 1, 1, 1, 1, 0] B3) (y := sub [1, 1, 1, 1, 1, 0, 1, 0, 0, 1, 0, 0, 1, 1, 1, 1, 1, 1, 1] B3) rfl rfl ?_
                  refine C.skipQ (y := sub [1, 1, 1, 1, 1, 0, 1, 0, 0, 1, 1] B3) rfl ?_
                  refine C.region (id := 9) (m := 3) (ops := opsOf (sub [1, 1, 1, 1, 1, 0, 1, 0, 0, 1, 1] B3)) rfl ?_
                  refine W.pure rfl (wo rfl) rfl rfl (p_move rfl rfl) (nf rfl) ?_
                  refine W.pure rfl (wo rfl) rfl rfl (pI (wk (by omega)) (p_add rfl rfl rfl)) (nf rfl) ?_
                  refine W.pure rfl (wo rfl) rfl rfl (p_assign rfl rfl) (nf rfl) ?_
                  refine W.end' fun a1 w1 ha1 hc1 => hN ⟨k + 1, done + 1 + 1, s2, x6⟩ ⟨(by show k + 1 ≤ _; omega), I2, (by show done + 1 + 1 ≤ 2 * (k + 1); omega)⟩ (show _ < _ by show l.length - (k + 1) < l.length - k; omega) a1 w1 (ha1.sub (Sub.cons rfl (Sub.cons rfl (Sub.cons rfl (Sub.cons rfl (Sub.cons rfl (Sub.nil _))))))) hc1
                · refine W.pure rfl (wo rfl) rfl rfl (pF (decide_eq_false hf) (p_leq rfl rfl rfl)) (nf rfl) ?_
                  refine W.pure rfl (wo rfl) rfl rfl (p_move rfl rfl) (nf rfl) ?_
                  refine W.not rfl (wo rfl) rfl rfl ?_
                  refine W.not rfl (wo rfl) rfl rfl ?_
                  refine W.not rfl (wo rfl) rfl rfl ?_
                  refine W.pure rfl (wo rfl) rfl rfl (p_pick_false rfl rfl rfl) (nf rfl) ?_
                  refine W.pure rfl (wo rfl) rfl rfl (p_move rfl rfl) (nf rfl) ?_
                  refine W.pure rfl (wo rfl) rfl rfl (p_move rfl rfl) (nf rfl) ?_
                  refine W.pure rfl (wo rfl) rfl rfl (p_move rfl rfl) (nf rfl) ?_
                  refine W.pure rfl (wo rfl) rfl rfl (p_add rfl rfl rfl) (nf rfl) ?_
                  by_cases hg : f + 2 < ((done + 1 + 1 : Nat) : Int)
                  · refine W.pure rfl (wo rfl) rfl rfl (pT (decide_eq_true (by rw [w64 (by omega) (by omega)]; exact hg)) (p_gtr rfl rfl rfl)) (nf rfl) ?_
                    refine W.pure rfl (wo rfl) rfl rfl (p_move rfl rfl) (nf rfl) ?_
                    refine W.pure rfl (wo rfl) rfl rfl (p_move rfl rfl) (nf rfl) ?_
                    refine W.quiet rfl (wo rfl) rfl rfl (f_callR rfl rfl (args_val rfl) (en12 _) (fun w2 hc2 => num_ok w2 _)) (nf rfl) ?_
                    refine W.pure rfl (wo rfl) rfl rfl (pF (by rw [e2b (by omega)]; rfl) (p_neq rfl rfl rfl)) (nf rfl) ?_
                    refine W.pure rfl (wo rfl) rfl rfl (p_pick_true rfl rfl rfl) (nf rfl) ?_
                    refine W.pure rfl (wo rfl) rfl rfl (p_pick_false rfl rfl rfl) (nf rfl) ?_
                    refine W.pure rfl (wo rfl) rfl rfl (p_move rfl rfl) (nf rfl) ?_
                    refine W.pure rfl (wo rfl) rfl rfl (p_move rfl rfl) (nf rfl) ?_
                    refine W.pure rfl (wo rfl) rfl rfl (p_move rfl rfl) (nf rfl) ?_
                    refine W.pure rfl (wo rfl) rfl rfl (pT (decide_eq_true (by omega)) (p_gtr rfl rfl rfl)) (nf rfl) ?_
                    refine W.pure rfl (wo rfl) rfl rfl (p_move rfl rfl) (nf rfl) ?_
                    refine W.pure rfl (wo rfl) rfl rfl (p_move rfl rfl) (nf rfl) ?_
                    refine W.c11 rfl (wo rfl) rfl rfl rfl (tDead x6 (r := true) (I2.hi (by omega))) (en17 _) rfl rfl rfl (args_val rfl) ?_
                    intro _
                    refine W.pure rfl (wo rfl) rfl rfl (p_not rfl rfl) (nf rfl) ?_
                    refine W.pure rfl (wo rfl) rfl rfl (p_pick_true rfl rfl rfl) (nf rfl) ?_
                    refine W.pure rfl (wo rfl) rfl rfl (p_pick_false rfl rfl rfl) (nf rfl) ?_
                    refine W.doneQ (y := sub [1, 1, 1, 1, 1, 0, 1, 0, 0, 1, 0, 0, 1, 1, 1, 1, 1, 1] B3) rfl ?_
                    refine C.cond_false (x := sub [1, 1, 1, 1, 1, 0, 1, 0, 0, 1, 0, 0, 1, 1, 1, 1, 1, 1, 0] B3) (y := sub [1, 1, 1, 1, 1, 0, 1, 0, 0, 1, 0, 0, 1, 1, 1, 1, 1, 1, 1] B3) rfl rfl ?_
                    refine C.skipQ (y := sub [1, 1, 1, 1, 1, 0, 1, 0, 0, 1, 1] B3) rfl ?_
                    refine C.region (id := 9) (m := 3) (ops := opsOf (sub [1, 1, 1, 1, 1, 0, 1, 0, 0, 1, 1] B3)) rfl ?_
                    refine W.pure rfl (wo rfl) rfl rfl (p_move rfl rfl) (nf rfl) ?_
                    refine W.pure rfl (wo rfl) rfl rfl (pI (wk (by omega)) (p_add rfl rfl rfl)) (nf rfl) ?_
                    refine W.pure rfl (wo rfl) rfl rfl (p_assign rfl rfl) (nf rfl) ?_
                    refine W.end' fun a1 w1 ha1 hc1 => hN ⟨k + 1, done + 1 + 1, s2, x6⟩ ⟨(by show k + 1 ≤ _; omega), I2, (by show done + 1 + 1 ≤ 2 * (k + 1); omega)⟩ (show _ < _ by show l.length - (k + 1) < l.length - k; omega) a1 w1 (ha1.sub (Sub.cons rfl (Sub.cons rfl (Sub.cons rfl (Sub.cons rfl (Sub.cons rfl (Sub.nil _))))))) hc1
                  · refine W.pure rfl (wo rfl) rfl rfl (pF (decide_eq_false (by rw [w64 (by omega) (by omega)]; exact hg)) (p_gtr rfl rfl rfl)) (nf rfl) ?_
                    refine W.pure rfl (wo rfl) rfl rfl (p_move rfl rfl) (nf rfl) ?_
                    refine W.not rfl (wo rfl) rfl rfl ?_
                    refine W.not rfl (wo rfl) rfl rfl ?_
                    refine W.not rfl (wo rfl) rfl rfl ?_
                    refine W.pure rfl (wo rfl) rfl rfl (p_pick_false rfl rfl rfl) (nf rfl) ?_
                    refine W.pure rfl (wo rfl) rfl rfl (p_pick_false rfl rfl rfl) (nf rfl) ?_
                    refine W.pure rfl (wo rfl) rfl rfl (p_move rfl rfl) (nf rfl) ?_
                    refine W.pure rfl (wo rfl) rfl rfl (p_move rfl rfl) (nf rfl) ?_
                    refine W.pure rfl (wo rfl) rfl rfl (p_move rfl rfl) (nf rfl) ?_
                    refine W.pure rfl (wo rfl) rfl rfl (pT (decide_eq_true (by omega)) (p_gtr rfl rfl rfl)) (nf rfl) ?_
                    refine W.pure rfl (wo rfl) rfl rfl (p_move rfl rfl) (nf rfl) ?_
                    refine W.pure rfl (wo rfl) rfl rfl (p_move rfl rfl) (nf rfl) ?_
                    refine W.c11 rfl (wo rfl) rfl rfl rfl (tDead x6 (r := true) (I2.hi (by omega))) (en17 _) rfl rfl rfl (args_val rfl) ?_
                    intro _
                    refine W.pure rfl (wo rfl) rfl rfl (p_not rfl rfl) (nf rfl) ?_
                    refine W.pure rfl (wo rfl) rfl rfl (p_pick_true rfl rfl rfl) (nf rfl) ?_
                    refine W.pure rfl (wo rfl) rfl rfl (p_pick_false rfl rfl rfl) (nf rfl) ?_
                    refine W.doneQ (y := sub [1, 1, 1, 1, 1, 0, 1, 0, 0, 1, 0, 0, 1, 1, 1, 1, 1, 1] B3) rfl ?_
                    refine C.cond_false (x := sub [1, 1, 1, 1, 1, 0, 1, 0, 0, 1, 0, 0, 1, 1, 1, 1, 1, 1, 0] B3) (y := sub [1, 1, 1, 1, 1, 0, 1, 0, 0, 1, 0, 0, 1, 1, 1, 1, 1, 1, 1] B3) rfl rfl ?_
                    refine C.skipQ (y := sub [1, 1, 1, 1, 1, 0, 1, 0, 0, 1, 1] B3) rfl ?_
                    refine C.region (id := 9) (m := 3) (ops := opsOf (sub [1, 1, 1, 1, 1, 0, 1, 0, 0, 1, 1] B3)) rfl ?_
                    refine W.pure rfl (wo rfl) rfl rfl (p_move rfl rfl) (nf rfl) ?_
                    refine W.pure rfl (wo rfl) rfl rfl (pI (wk (by omega)) (p_add rfl rfl rfl)) (nf rfl) ?_
                    refine W.pure rfl (wo rfl) rfl rfl (p_assign rfl rfl) (nf rfl) ?_
                    refine W.end' fun a1 w1 ha1 hc1 => hN ⟨k + 1, done + 1 + 1, s2, x6⟩ ⟨(by show k + 1 ≤ _; omega), I2, (by show done + 1 + 1 ≤ 2 * (k + 1); omega)⟩ (show _ < _ by show l.length - (k + 1) < l.length - k; omega) a1 w1 (ha1.sub (Sub.cons rfl (Sub.cons rfl (Sub.cons rfl (Sub.cons rfl (Sub.cons rfl (Sub.nil _))))))) hc1
              · refine W.pure rfl (wo rfl) rfl rfl (pF (decide_eq_false hw) (p_lss rfl rfl rfl)) (nf rfl) ?_
                refine W.doneQ (y := sub [1, 1, 1, 1, 1, 0, 1, 0, 0, 1, 0, 0, 1, 1, 1, 0, 1] B3) rfl ?_
                refine C.cond_false (x := sub [1, 1, 1, 1, 1, 0, 1, 0, 0, 1, 0, 0, 1, 1, 1, 0, 1, 0] B3) (y := sub [1, 1, 1, 1, 1, 0, 1, 0, 0, 1, 0, 0, 1, 1, 1, 0, 1, 1] B3) rfl rfl ?_
                refine C.skipQ (y := sub [1, 1, 1, 1, 1, 0, 1, 0, 0, 1, 0, 0, 1, 1, 1, 1] B3) rfl ?_
                refine C.seq (x := sub [1, 1, 1, 1, 1, 0, 1, 0, 0, 1, 0, 0, 1, 1, 1, 1, 0] B3) (y := sub [1, 1, 1, 1, 1, 0, 1, 0, 0, 1, 0, 0, 1, 1, 1, 1, 1] B3) ?_
                refine C.region (id := 17) (m := 3) (ops := opsOf (sub [1, 1, 1, 1, 1, 0, 1, 0, 0, 1, 0, 0, 1, 1, 1, 1, 0] B3)) rfl ?_
                refine W.pure rfl (wo rfl) rfl rfl (p_move rfl rfl) (nf rfl) ?_
                refine W.pure rfl (wo rfl) rfl rfl (pI (wk (by omega)) (p_add rfl rfl rfl)) (nf rfl) ?_
                refine W.pure rfl (wo rfl) rfl rfl (p_assign rfl rfl) (nf rfl) ?_
                refine W.doneQ (y := sub [1, 1, 1, 1, 1, 0, 1, 0, 0, 1, 0, 0, 1, 1, 1, 1, 1] B3) rfl ?_
                refine C.seq (x := sub [1, 1, 1, 1, 1, 0, 1, 0, 0, 1, 0, 0, 1, 1, 1, 1, 1, 0] B3) (y := sub [1, 1, 1, 1, 1, 0, 1, 0, 0, 1, 0, 0, 1, 1, 1, 1, 1, 1] B3) ?_
                refine C.region (id := 18) (m := 29) (ops := opsOf (sub [1, 1, 1, 1, 1, 0, 1, 0, 0, 1, 0, 0, 1, 1, 1, 1, 1, 0] B3)) rfl ?_
                refine W.pure rfl (wo rfl) rfl rfl (p_move rfl rfl) (nf rfl) ?_
                refine W.pure rfl (wo rfl) rfl rfl (p_move rfl rfl) (nf rfl) ?_
                by_cases hf : ((done + 1 : Nat) : Int) ≤ f
                · refine W.pure rfl (wo rfl) rfl rfl (pT (decide_eq_true hf) (p_leq rfl rfl rfl)) (nf rfl) ?_
                  refine W.pure rfl (wo rfl) rfl rfl (p_move rfl rfl) (nf rfl) ?_
                  refine W.pure rfl (wo rfl) rfl rfl (p_move rfl rfl) (nf rfl) ?_
                  refine W.quiet rfl (wo rfl) rfl rfl (f_callR rfl rfl (args_val rfl) (en12 _) (fun w2 hc2 => num_ok w2 _)) (nf rfl) ?_
                  refine W.pure rfl (wo rfl) rfl rfl (pF (by rw [e1a (by omega)]; rfl) (p_neq rfl rfl rfl)) (nf rfl) ?_
                  refine W.pure rfl (wo rfl) rfl rfl (p_pick_true rfl rfl rfl) (nf rfl) ?_
                  refine W.pure rfl (wo rfl) rfl rfl (p_move rfl rfl) (nf rfl) ?_
                  refine W.pure rfl (wo rfl) rfl rfl (p_move rfl rfl) (nf rfl) ?_
                  refine W.pure rfl (wo rfl) rfl rfl (p_move rfl rfl) (nf rfl) ?_
                  refine W.pure rfl (wo rfl) rfl rfl (p_add rfl rfl rfl) (nf rfl) ?_
                  refine W.pure rfl (wo rfl) rfl rfl (pF (decide_eq_false (by rw [w64 (by omega) (by omega)]; omega)) (p_gtr rfl rfl rfl)) (nf rfl) ?_
                  refine W.pure rfl (wo rfl) rfl rfl (p_move rfl rfl) (nf rfl) ?_
                  refine W.not rfl (wo rfl) rfl rfl ?_
                  refine W.not rfl (wo rfl) rfl rfl ?_
                  refine W.not rfl (wo rfl) rfl rfl ?_
                  refine W.pure rfl (wo rfl) rfl rfl (p_pick_false rfl rfl rfl) (nf rfl) ?_
                  refine W.pure rfl (wo rfl) rfl rfl (p_pick_false rfl rfl rfl) (nf rfl) ?_
                  refine W.pure rfl (wo rfl) rfl rfl (p_move rfl rfl) (nf rfl) ?_
                  refine W.pure rfl (wo rfl) rfl rfl (p_move rfl rfl) (nf rfl) ?_
                  refine W.pure rfl (wo rfl) rfl rfl (p_move rfl rfl) (nf rfl) ?_
                  refine W.pure rfl (wo rfl) rfl rfl (pF (decide_eq_false (by omega)) (p_gtr rfl rfl rfl)) (nf rfl) ?_
                  refine W.pure rfl (wo rfl) rfl rfl (p_move rfl rfl) (nf rfl) ?_
                  refine W.not rfl (wo rfl) rfl rfl ?_
                  refine W.not rfl (wo rfl) rfl rfl ?_
                  refine W.not rfl (wo rfl) rfl rfl ?_
                  refine W.pure rfl (wo rfl) rfl rfl (p_pick_false rfl rfl rfl) (nf rfl) ?_
                  refine W.pure rfl (wo rfl) rfl rfl (p_pick_false rfl rfl rfl) (nf rfl) ?_
                  refine W.doneQ (y := sub [1, 1, 1, 1, 1, 0, 1, 0, 0, 1, 0, 0, 1, 1, 1, 1, 1, 1] B3) rfl ?_
                  refine C.cond_false (x := sub [1, 1, 1, 1, 1, 0, 1, 0, 0, 1, 0, 0, 1, 1, 1, 1, 1, 1, 0] B3) (y := sub [1, 1, 1, 1, 1, 0, 1, 0, 0, 1, 0, 0, 1, 1, 1, 1, 1, 1, 1] B3) rfl rfl ?_
                  refine C.skipQ (y := sub [1, 1, 1, 1, 1, 0, 1, 0, 0, 1, 1] B3) rfl ?_
                  refine C.region (id := 9) (m := 3) (ops := opsOf (sub [1, 1, 1, 1, 1, 0, 1, 0, 0, 1, 1] B3)) rfl ?_
                  refine W.pure rfl (wo rfl) rfl rfl (p_move rfl rfl) (nf rfl) ?_
                  refine W.pure rfl (wo rfl) rfl rfl (pI (wk (by omega)) (p_add rfl rfl rfl)) (nf rfl) ?_
                  refine W.pure rfl (wo rfl) rfl rfl (p_assign rfl rfl) (nf rfl) ?_
                  refine W.end' fun a1 w1 ha1 hc1 => hN ⟨k + 1, done + 1, s1, x4⟩ ⟨(by show k + 1 ≤ _; omega), ⟨I1.n, I1.ar, by have := I1.lt; show s1.late.length ≤ k + 1; omega, I1.lo, I1.hi⟩, (by show done + 1 ≤ 2 * (k + 1); omega)⟩ (show _ < _ by show l.length - (k + 1) < l.length - k; omega) a1 w1 (ha1.sub (Sub.cons rfl (Sub.cons rfl (Sub.cons rfl (Sub.cons rfl (Sub.cons rfl (Sub.nil _))))))) hc1
                · refine W.pure rfl (wo rfl) rfl rfl (pF (decide_eq_false hf) (p_leq rfl rfl rfl)) (nf rfl) ?_
                  refine W.pure rfl (wo rfl) rfl rfl (p_move rfl rfl) (nf rfl) ?_
                  refine W.not rfl (wo rfl) rfl rfl ?_
                  refine W.not rfl (wo rfl) rfl rfl ?_
                  refine W.not rfl (wo rfl) rfl rfl ?_
                  refine W.pure rfl (wo rfl) rfl rfl (p_pick_false rfl rfl rfl) (nf rfl) ?_
                  refine W.pure rfl (wo rfl) rfl rfl (p_move rfl rfl) (nf rfl) ?_
                  refine W.pure rfl (wo rfl) rfl rfl (p_move rfl rfl) (nf rfl) ?_
                  refine W.pure rfl (wo rfl) rfl rfl (p_move rfl rfl) (nf rfl) ?_
                  refine W.pure rfl (wo rfl) rfl rfl (p_add rfl rfl rfl) (nf rfl) ?_
                  by_cases hg : f + 2 < ((done + 1 : Nat) : Int)
                  · refine W.pure rfl (wo rfl) rfl rfl (pT (decide_eq_true (by rw [w64 (by omega) (by omega)]; exact hg)) (p_gtr rfl rfl rfl)) (nf rfl) ?_
                    refine W.pure rfl (wo rfl) rfl rfl (p_move rfl rfl) (nf rfl) ?_
                    refine W.pure rfl (wo rfl) rfl rfl (p_move rfl rfl) (nf rfl) ?_
                    refine W.quiet rfl (wo rfl) rfl rfl (f_callR rfl rfl (args_val rfl) (en12 _) (fun w2 hc2 => num_ok w2 _)) (nf rfl) ?_
                    refine W.pure rfl (wo rfl) rfl rfl (pF (by rw [e1b (by omega)]; rfl) (p_neq rfl rfl rfl)) (nf rfl) ?_
                    refine W.pure rfl (wo rfl) rfl rfl (p_pick_true rfl rfl rfl) (nf rfl) ?_
                    refine W.pure rfl (wo rfl) rfl rfl (p_pick_false rfl rfl rfl) (nf rfl) ?_
                    refine W.pure rfl (wo rfl) rfl rfl (p_move rfl rfl) (nf rfl) ?_
                    refine W.pure rfl (wo rfl) rfl rfl (p_move rfl rfl) (nf rfl) ?_
                    refine W.pure rfl (wo rfl) rfl rfl (p_move rfl rfl) (nf rfl) ?_
                    refine W.pure rfl (wo rfl) rfl rfl (pT (decide_eq_true (by omega)) (p_gtr rfl rfl rfl)) (nf rfl) ?_
                    refine W.pure rfl (wo rfl) rfl rfl (p_move rfl rfl) (nf rfl) ?_
                    refine W.pure rfl (wo rfl) rfl rfl (p_move rfl rfl) (nf rfl) ?_
                    refine W.c11 rfl (wo rfl) rfl rfl rfl (tDead x4 (r := true) (I1.hi (by omega))) (en17 _) rfl rfl rfl (args_val rfl) ?_
                    intro _
                    refine W.pure rfl (wo rfl) rfl rfl (p_not rfl rfl) (nf rfl) ?_
                    refine W.pure rfl (wo rfl) rfl rfl (p_pick_true rfl rfl rfl) (nf rfl) ?_
                    refine W.pure rfl (wo rfl) rfl rfl (p_pick_false rfl rfl rfl) (nf rfl) ?_
                    refine W.doneQ (y := sub [1, 1, 1, 1, 1, 0, 1, 0, 0, 1, 0, 0, 1, 1, 1, 1, 1, 1] B3) rfl ?_
                    refine C.cond_false (x := sub [1, 1, 1, 1, 1, 0, 1, 0, 0, 1, 0, 0, 1, 1, 1, 1, 1, 1, 0] B3) (y := sub [1, 1, 1, 1, 1, 0, 1, 0, 0, 1, 0, 0, 1, 1, 1, 1, 1, 1, 1] B3) rfl rfl ?_
                    refine C.skipQ (y := sub [1, 1, 1, 1, 1, 0, 1, 0, 0, 1, 1] B3) rfl ?_
                    refine C.region (id := 9) (m := 3) (ops := opsOf (sub [1, 1, 1, 1, 1, 0, 1, 0, 0, 1, 1] B3)) rfl ?_
                    refine W.pure rfl (wo rfl) rfl rfl (p_move rfl rfl) (nf rfl) ?_
                    refine W.pure rfl (wo rfl) rfl rfl (pI (wk (by omega)) (p_add rfl rfl rfl)) (nf rfl) ?_
                    refine W.pure rfl (wo rfl) rfl rfl (p_assign rfl rfl) (nf rfl) ?_
                    refine W.end' fun a1 w1 ha1 hc1 => hN ⟨k + 1, done + 1, s1, x4⟩ ⟨(by show k + 1 ≤ _; omega), ⟨I1.n, I1.ar, by have := I1.lt; show s1.late.length ≤ k + 1; omega, I1.lo, I1.hi⟩, (by show done + 1 ≤ 2 * (k + 1); omega)⟩ (show _ < _ by show l.length - (k + 1) < l.length - k; omega) a1 w1 (ha1.sub (Sub.cons rfl (Sub.cons rfl (Sub.cons rfl (Sub.cons rfl (Sub.cons rfl (Sub.nil _))))))) hc1
                  · refine W.pure rfl (wo rfl) rfl rfl (pF (decide_eq_false (by rw [w64 (by omega) (by omega)]; exact hg)) (p_gtr rfl rfl rfl)) (nf rfl) ?_
                    refine W.pure rfl (wo rfl) rfl rfl (p_move rfl rfl) (nf rfl) ?_
                    refine W.not rfl (wo rfl) rfl rfl ?_
                    refine W.not rfl (wo rfl) rfl rfl ?_
                    refine W.not rfl (wo rfl) rfl rfl ?_
                    refine W.pure rfl (wo rfl) rfl rfl (p_pick_false rfl rfl rfl) (nf rfl) ?_
                    refine W.pure rfl (wo rfl) rfl rfl (p_pick_false rfl rfl rfl) (nf rfl) ?_
                    refine W.pure rfl (wo rfl) rfl rfl (p_move rfl rfl) (nf rfl) ?_
                    refine W.pure rfl (wo rfl) rfl rfl (p_move rfl rfl) (nf rfl) ?_
                    refine W.pure rfl (wo rfl) rfl rfl (p_move rfl rfl) (nf rfl) ?_
                    refine W.pure rfl (wo rfl) rfl rfl (pT (decide_eq_true (by omega)) (p_gtr rfl rfl rfl)) (nf rfl) ?_
                    refine W.pure rfl (wo rfl) rfl rfl (p_move rfl rfl) (nf rfl) ?_
                    refine W.pure rfl (wo rfl) rfl rfl (p_move rfl rfl) (nf rfl) ?_
                    refine W.c11 rfl (wo rfl) rfl rfl rfl (tDead x4 (r := true) (I1.hi (by omega))) (en17 _) rfl rfl rfl (args_val rfl) ?_
                    intro _
                    refine W.pure rfl (wo rfl) rfl rfl (p_not rfl rfl) (nf rfl) ?_
                    refine W.pure rfl (wo rfl) rfl rfl (p_pick_true rfl rfl rfl) (nf rfl) ?_
                    refine W.pure rfl (wo rfl) rfl rfl (p_pick_false rfl rfl rfl) (nf rfl) ?_
                    refine W.doneQ (y := sub [1, 1, 1, 1, 1, 0, 1, 0, 0, 1, 0, 0, 1, 1, 1, 1, 1, 1] B3) rfl ?_
                    refine C.cond_false (x := sub [1, 1, 1, 1, 1, 0, 1, 0, 0, 1, 0, 0, 1, 1, 1, 1, 1, 1, 0] B3) (y := sub [1, 1, 1, 1, 1, 0, 1, 0, 0, 1, 0, 0, 1, 1, 1, 1, 1, 1, 1] B3) rfl rfl ?_
                    refine C.skipQ (y := sub [1, 1, 1, 1, 1, 0, 1, 0, 0, 1, 1] B3) rfl ?_
                    refine C.region (id := 9) (m := 3) (ops := opsOf (sub [1, 1, 1, 1, 1, 0, 1, 0, 0, 1, 1] B3)) rfl ?_
                    refine W.pure rfl (wo rfl) rfl rfl (p_move rfl rfl) (nf rfl) ?_
                    refine W.pure rfl (wo rfl) rfl rfl (pI (wk (by omega)) (p_add rfl rfl rfl)) (nf rfl) ?_
                    refine W.pure rfl (wo rfl) rfl rfl (p_assign rfl rfl) (nf rfl) ?_
                    refine W.end' fun a1 w1 ha1 hc1 => hN ⟨k + 1, done + 1, s1, x4⟩ ⟨(by show k + 1 ≤ _; omega), ⟨I1.n, I1.ar, by have := I1.lt; show s1.late.length ≤ k + 1; omega, I1.lo, I1.hi⟩, (by show done + 1 ≤ 2 * (k + 1); omega)⟩ (show _ < _ by show l.length - (k + 1) < l.length - k; omega) a1 w1 (ha1.sub (Sub.cons rfl (Sub.cons rfl (Sub.cons rfl (Sub.cons rfl (Sub.cons rfl (Sub.nil _))))))) hc1
          · refine C.seq (x := sub [1, 1, 1, 1, 1, 0, 1, 0, 0, 0] B3) (y := sub [1, 1, 1, 1, 1, 0, 1, 0, 0, 1] B3) ?_
            refine C.seq (x := sub [1, 1, 1, 1, 1, 0, 1, 0, 0, 0, 0] B3) (y := sub [1, 1, 1, 1, 1, 0, 1, 0, 0, 0, 1] B3) ?_
            refine C.region (id := 8) (m := 4) (ops := opsOf (sub [1, 1, 1, 1, 1, 0, 1, 0, 0, 0, 0] B3)) rfl ?_
            refine W.pure rfl (wo rfl) rfl rfl (p_move rfl rfl) (nf rfl) ?_
            refine W.pure rfl (wo rfl) rfl rfl (p_move rfl rfl) (nf rfl) ?_
            refine W.pure rfl (wo rfl) rfl rfl (p_slLen tu22 (row_sl hl) rfl rfl) (nf rfl) ?_
            refine W.pure rfl (wo rfl) rfl rfl (pF (decide_eq_false (by omega)) (p_lss rfl rfl rfl)) (nf rfl) ?_
            refine W.doneQ (y := sub [1, 1, 1, 1, 1, 0, 1, 0, 0, 0, 1] B3) rfl ?_
            refine C.cond_false (x := sub [1, 1, 1, 1, 1, 0, 1, 0, 0, 0, 1, 0] B3) (y := sub [1, 1, 1, 1, 1, 0, 1, 0, 0, 0, 1, 1] B3) rfl rfl ?_
            exact C.exit fun a1 w1 ha1 hc1 => hE (show k = l.length by omega) a1 w1 (ha1.sub (Sub.cons rfl (Sub.cons rfl (Sub.cons rfl (Sub.cons rfl (Sub.cons rfl (Sub.nil _))))))) hc1
        rintro ⟨k, done, s, x⟩ ⟨(hk : k ≤ l.length), (h : FInv f done s k), (hd : done ≤ 2 * k)⟩ (hke : k = l.length)
        show CW _ _ _ _ _ [(0, .int .i64 f), (1, lv), (5, ptr p1.1 0), (7, .int .i64 (done : Int)), (8, .int .i64 (k : Int))] (dX p1.1 p1.2 x ++ [])
        refine C.seq (x := sub [1, 1, 1, 1, 1, 1, 0] B3) (y := sub [1, 1, 1, 1, 1, 1, 1] B3) ?_
        refine C.seq (x := sub [1, 1, 1, 1, 1, 1, 0, 0] B3) (y := sub [1, 1, 1, 1, 1, 1, 0, 1] B3) ?_
        refine C.region (id := 20) (m := 21) (ops := opsOf (sub [1, 1, 1, 1, 1, 1, 0, 0] B3)) rfl ?_
        refine W.pure rfl (wo rfl) rfl rfl (p_move rfl rfl) (nf rfl) ?_
        refine W.pure rfl (wo rfl) rfl rfl (p_slLen tu22 (row_sl hl) rfl rfl) (nf rfl) ?_
        by_cases h3 : 0 < (l.length : Int)
        · refine W.pure rfl (wo rfl) rfl rfl (pT (decide_eq_true h3) (p_gtr rfl rfl rfl)) (nf rfl) ?_
          refine W.pure rfl (wo rfl) rfl rfl (p_move rfl rfl) (nf rfl) ?_
          refine W.pure rfl (wo rfl) rfl rfl (p_move rfl rfl) (nf rfl) ?_
          refine W.pure rfl (wo rfl) rfl rfl (p_move rfl rfl) (nf rfl) ?_
          by_cases h4 : f < (done : Int)
          · refine W.pure rfl (wo rfl) rfl rfl (pT (decide_eq_true h4) (p_gtr rfl rfl rfl)) (nf rfl) ?_
            refine W.pure rfl (wo rfl) rfl rfl (p_pick_true rfl rfl rfl) (nf rfl) ?_
            refine W.pure rfl (wo rfl) rfl rfl (p_move rfl rfl) (nf rfl) ?_
            refine W.pure rfl (wo rfl) rfl rfl (p_move rfl rfl) (nf rfl) ?_
            obtain ⟨e5, s5, hK5, I5, e5a, e5b⟩ := inv_sync (by omega) (by omega) h
            refine W.c11 rfl (wo rfl) rfl rfl rfl (tSync x (hK5) (by have := h.lt; omega)) (en14 _) rfl rfl rfl (args_val rfl) ?_
            intro x5
            refine W.quiet rfl (wo rfl) rfl rfl (f_callR rfl rfl (args_val rfl) (en12 _) (fun w2 hc2 => num_ok w2 _)) (nf rfl) ?_
            refine W.pure rfl (wo rfl) rfl rfl (pF (by rw [e5b h4]; rfl) (p_neq rfl rfl rfl)) (nf rfl) ?_
            refine W.pure rfl (wo rfl) rfl rfl (p_move rfl rfl) (nf rfl) ?_
            refine W.pure rfl (wo rfl) rfl rfl (p_move rfl rfl) (nf rfl) ?_
            refine W.c01 rfl (wo rfl) rfl rfl (tFill _) (en16 _) rfl rfl rfl (args_val rfl) ?_
            intro y6
            obtain ⟨e6, s6, hK6, I6, e6a, e6b⟩ := inv_write (n := 0) (xs := fillL 1) (by omega) (by omega) I5 ⟨by omega, by omega⟩ (fillL_len _)
            refine W.f1 rfl ?_
            refine W.c22 rfl (wo rfl) rfl rfl rfl (tWrite x5 y6 _ (hK6) (by have := I5.lt; omega)) (en15 _) rfl rfl rfl (args_val rfl) ?_
            intro x7
            refine W.f1 rfl ?_
            refine W.dr rfl ?_
            refine W.quiet rfl (wo rfl) rfl rfl (f_callR rfl rfl (args_val rfl) (en12 _) (fun w2 hc2 => num_ok w2 _)) (nf rfl) ?_
            refine W.pure rfl (wo rfl) rfl rfl (pF (by rw [e6b (by omega)]; rfl) (p_neq rfl rfl rfl)) (nf rfl) ?_
            refine W.pure rfl (wo rfl) rfl rfl (p_pick_false rfl rfl rfl) (nf rfl) ?_
            refine W.pure rfl (wo rfl) rfl rfl (p_pick_true rfl rfl rfl) (nf rfl) ?_
            refine W.doneQ (y := sub [1, 1, 1, 1, 1, 1, 0, 1] B3) rfl ?_
            refine C.cond_false (x := sub [1, 1, 1, 1, 1, 1, 0, 1, 0] B3) (y := sub [1, 1, 1, 1, 1, 1, 0, 1, 1] B3) rfl rfl ?_
            refine C.skipQ (y := sub [1, 1, 1, 1, 1, 1, 1] B3) rfl ?_
            refine C.seq (x := sub [1, 1, 1, 1, 1, 1, 1, 0] B3) (y := sub [1, 1, 1, 1, 1, 1, 1, 1] B3) ?_
            refine C.region (id := 22) (m := 19) (ops := opsOf (sub [1, 1, 1, 1, 1, 1, 1, 0] B3)) rfl ?_
            refine W.pure rfl (wo rfl) rfl rfl (p_move rfl rfl) (nf rfl) ?_
            refine W.c11 rfl (wo rfl) rfl rfl rfl (tCrash x7 (IntRow.nil _ _) (by have := I6.lt; omega)) (en18 _) rfl rfl rfl (args_val rfl) ?_
            intro x8
            refine W.quiet rfl (wo rfl) rfl rfl (f_callR rfl rfl (args_val rfl) (en12 _) (fun w2 hc2 => num_ok w2 _)) (nf rfl) ?_
            refine W.pure rfl (wo rfl) rfl rfl (pT (by rfl) (p_eql rfl rfl rfl)) (nf rfl) ?_
            refine W.pure rfl (wo rfl) rfl rfl (p_move rfl rfl) (nf rfl) ?_
            refine W.pure rfl (wo rfl) rfl rfl (p_move rfl rfl) (nf rfl) ?_
            refine W.c11 rfl (wo rfl) rfl rfl rfl (tDead x8 (r := false) (rfl)) (en17 _) rfl rfl rfl (args_val rfl) ?_
            intro _
            refine W.pure rfl (wo rfl) rfl rfl (p_not rfl rfl) (nf rfl) ?_
            refine W.pure rfl (wo rfl) rfl rfl (p_pick_true rfl rfl rfl) (nf rfl) ?_
            refine W.pure rfl (wo rfl) rfl rfl (p_move rfl rfl) (nf rfl) ?_
            refine W.pure rfl (wo rfl) rfl rfl (p_move rfl rfl) (nf rfl) ?_
            refine W.c11 rfl (wo rfl) rfl rfl rfl (tSync x8 (crash_sync _) (by simp [crashK])) (en14 _) rfl rfl rfl (args_val rfl) ?_
            intro x9
            refine W.quiet rfl (wo rfl) rfl rfl (f_callR rfl rfl (args_val rfl) (en12 _) (fun w2 hc2 => num_ok w2 _)) (nf rfl) ?_
            refine W.pure rfl (wo rfl) rfl rfl (pT (by rfl) (p_eql rfl rfl rfl)) (nf rfl) ?_
            refine W.pure rfl (wo rfl) rfl rfl (p_pick_true rfl rfl rfl) (nf rfl) ?_
            refine W.pure rfl (wo rfl) rfl rfl (p_move rfl rfl) (nf rfl) ?_
            refine W.quiet rfl (wo rfl) rfl rfl (f_callR rfl rfl (args_val (vs := []) rfl) (en10 _) (fun w2 hc2 => known_ok w2)) (nf rfl) ?_
            refine W.pure rfl (wo rfl) rfl rfl (p_pick_true rfl rfl rfl) (nf rfl) ?_
            refine W.pure rfl (wo rfl) rfl rfl (p_assign rfl rfl) (nf rfl) ?_
            refine W.doneQ (y := sub [1, 1, 1, 1, 1, 1, 1, 1] B3) rfl ?_
            exact C.ret (R := fun e w' => e = .returned (.bool true) ∧ Below w.heap.size w w') (rs := [.tmp 4]) (vs := [.bool true]) rfl Try.func3 rfl rfl rfl (res_cons (ResV.tmp rfl) res_nil) fun w1 hc1 => ⟨rfl, hc1.toBelow⟩
          · refine W.pure rfl (wo rfl) rfl rfl (pF (decide_eq_false h4) (p_gtr rfl rfl rfl)) (nf rfl) ?_
            refine W.pure rfl (wo rfl) rfl rfl (p_pick_true rfl rfl rfl) (nf rfl) ?_
            refine W.pure rfl (wo rfl) rfl rfl (p_move rfl rfl) (nf rfl) ?_
            refine W.not rfl (wo rfl) rfl rfl ?_
            refine W.not rfl (wo rfl) rfl rfl ?_
            refine W.not rfl (wo rfl) rfl rfl ?_
            refine W.not rfl (wo rfl) rfl rfl ?_
            refine W.not rfl (wo rfl) rfl rfl ?_
            refine W.not rfl (Wn.undef rfl rfl rfl) rfl rfl ?_
            refine W.not rfl (Wn.undef rfl rfl rfl) rfl rfl ?_
            refine W.not rfl (Wn.undef rfl rfl rfl) rfl rfl ?_
            refine W.not rfl (Wn.undef rfl rfl rfl) rfl rfl ?_
            refine W.not rfl (Wn.undef rfl rfl rfl) rfl rfl ?_
            refine W.not rfl (wo rfl) rfl rfl ?_
            refine W.pure rfl (wo rfl) rfl rfl (p_pick_false rfl rfl rfl) (nf rfl) ?_
            refine W.doneQ (y := sub [1, 1, 1, 1, 1, 1, 0, 1] B3) rfl ?_
            refine C.cond_false (x := sub [1, 1, 1, 1, 1, 1, 0, 1, 0] B3) (y := sub [1, 1, 1, 1, 1, 1, 0, 1, 1] B3) rfl rfl ?_
            refine C.skipQ (y := sub [1, 1, 1, 1, 1, 1, 1] B3) rfl ?_
            refine C.seq (x := sub [1, 1, 1, 1, 1, 1, 1, 0] B3) (y := sub [1, 1, 1, 1, 1, 1, 1, 1] B3) ?_
            refine C.region (id := 22) (m := 19) (ops := opsOf (sub [1, 1, 1, 1, 1, 1, 1, 0] B3)) rfl ?_
            refine W.pure rfl (wo rfl) rfl rfl (p_move rfl rfl) (nf rfl) ?_
            refine W.c11 rfl (wo rfl) rfl rfl rfl (tCrash x (IntRow.nil _ _) (by have := h.lt; omega)) (en18 _) rfl rfl rfl (args_val rfl) ?_
            intro x5
            refine W.quiet rfl (wo rfl) rfl rfl (f_callR rfl rfl (args_val rfl) (en12 _) (fun w2 hc2 => num_ok w2 _)) (nf rfl) ?_
            refine W.pure rfl (wo rfl) rfl rfl (pT (by rfl) (p_eql rfl rfl rfl)) (nf rfl) ?_
            refine W.pure rfl (wo rfl) rfl rfl (p_move rfl rfl) (nf rfl) ?_
            refine W.pure rfl (wo rfl) rfl rfl (p_move rfl rfl) (nf rfl) ?_
            refine W.c11 rfl (wo rfl) rfl rfl rfl (tDead x5 (r := false) (rfl)) (en17 _) rfl rfl rfl (args_val rfl) ?_
            intro _
            refine W.pure rfl (wo rfl) rfl rfl (p_not rfl rfl) (nf rfl) ?_
            refine W.pure rfl (wo rfl) rfl rfl (p_pick_true rfl rfl rfl) (nf rfl) ?_
            refine W.pure rfl (wo rfl) rfl rfl (p_move rfl rfl) (nf rfl) ?_
            refine W.pure rfl (wo rfl) rfl rfl (p_move rfl rfl) (nf rfl) ?_
            refine W.c11 rfl (wo rfl) rfl rfl rfl (tSync x5 (crash_sync _) (by simp [crashK])) (en14 _) rfl rfl rfl (args_val rfl) ?_
            intro x6
            refine W.quiet rfl (wo rfl) rfl rfl (f_callR rfl rfl (args_val rfl) (en12 _) (fun w2 hc2 => num_ok w2 _)) (nf rfl) ?_
            refine W.pure rfl (wo rfl) rfl rfl (pT (by rfl) (p_eql rfl rfl rfl)) (nf rfl) ?_
            refine W.pure rfl (wo rfl) rfl rfl (p_pick_true rfl rfl rfl) (nf rfl) ?_
            refine W.pure rfl (wo rfl) rfl rfl (p_move rfl rfl) (nf rfl) ?_
            refine W.quiet rfl (wo rfl) rfl rfl (f_callR rfl rfl (args_val (vs := []) rfl) (en10 _) (fun w2 hc2 => known_ok w2)) (nf rfl) ?_
            refine W.pure rfl (wo rfl) rfl rfl (p_pick_true rfl rfl rfl) (nf rfl) ?_
            refine W.pure rfl (wo rfl) rfl rfl (p_assign rfl rfl) (nf rfl) ?_
            refine W.doneQ (y := sub [1, 1, 1, 1, 1, 1, 1, 1] B3) rfl ?_
            exact C.ret (R := fun e w' => e = .returned (.bool true) ∧ Below w.heap.size w w') (rs := [.tmp 4]) (vs := [.bool true]) rfl Try.func3 rfl rfl rfl (res_cons (ResV.tmp rfl) res_nil) fun w1 hc1 => ⟨rfl, hc1.toBelow⟩
        · refine W.pure rfl (wo rfl) rfl rfl (pF (decide_eq_false h3) (p_gtr rfl rfl rfl)) (nf rfl) ?_
          refine W.pure rfl (wo rfl) rfl rfl (p_move rfl rfl) (nf rfl) ?_
          refine W.not rfl (wo rfl) rfl rfl ?_
          refine W.not rfl (wo rfl) rfl rfl ?_
          refine W.not rfl (wo rfl) rfl rfl ?_
          refine W.pure rfl (wo rfl) rfl rfl (p_pick_false rfl rfl rfl) (nf rfl) ?_
          refine W.pure rfl (wo rfl) rfl rfl (p_move rfl rfl) (nf rfl) ?_
          refine W.not rfl (wo rfl) rfl rfl ?_
          refine W.not rfl (wo rfl) rfl rfl ?_
          refine W.not rfl (wo rfl) rfl rfl ?_
          refine W.not rfl (wo rfl) rfl rfl ?_
          refine W.not rfl (wo rfl) rfl rfl ?_
          refine W.not rfl (Wn.undef rfl rfl rfl) rfl rfl ?_
          refine W.not rfl (Wn.undef rfl rfl rfl) rfl rfl ?_
          refine W.not rfl (Wn.undef rfl rfl rfl) rfl rfl ?_
          refine W.not rfl (Wn.undef rfl rfl rfl) rfl rfl ?_
          refine W.not rfl (Wn.undef rfl rfl rfl) rfl rfl ?_
          refine W.not rfl (wo rfl) rfl rfl ?_
          refine W.pure rfl (wo rfl) rfl rfl (p_pick_false rfl rfl rfl) (nf rfl) ?_
          refine W.doneQ (y := sub [1, 1, 1, 1, 1, 1, 0, 1] B3) rfl ?_
          refine C.cond_false (x := sub [1, 1, 1, 1, 1, 1, 0, 1, 0] B3) (y := sub [1, 1, 1, 1, 1, 1, 0, 1, 1] B3) rfl rfl ?_
          refine C.skipQ (y := sub [1, 1, 1, 1, 1, 1, 1] B3) rfl ?_
          refine C.seq (x := sub [1, 1, 1, 1, 1, 1, 1, 0] B3) (y := sub [1, 1, 1, 1, 1, 1, 1, 1] B3) ?_
          refine C.region (id := 22) (m := 19) (ops := opsOf (sub [1, 1, 1, 1, 1, 1, 1, 0] B3)) rfl ?_
          refine W.pure rfl (wo rfl) rfl rfl (p_move rfl rfl) (nf rfl) ?_
          refine W.c11 rfl (wo rfl) rfl rfl rfl (tCrash x (IntRow.nil _ _) (by have := h.lt; omega)) (en18 _) rfl rfl rfl (args_val rfl) ?_
          intro x5
          refine W.quiet rfl (wo rfl) rfl rfl (f_callR rfl rfl (args_val rfl) (en12 _) (fun w2 hc2 => num_ok w2 _)) (nf rfl) ?_
          refine W.pure rfl (wo rfl) rfl rfl (pT (by rfl) (p_eql rfl rfl rfl)) (nf rfl) ?_
          refine W.pure rfl (wo rfl) rfl rfl (p_move rfl rfl) (nf rfl) ?_
          refine W.pure rfl (wo rfl) rfl rfl (p_move rfl rfl) (nf rfl) ?_
          refine W.c11 rfl (wo rfl) rfl rfl rfl (tDead x5 (r := false) (rfl)) (en17 _) rfl rfl rfl (args_val rfl) ?_
          intro _
          refine W.pure rfl (wo rfl) rfl rfl (p_not rfl rfl) (nf rfl) ?_
          refine W.pure rfl (wo rfl) rfl rfl (p_pick_true rfl rfl rfl) (nf rfl) ?_
          refine W.pure rfl (wo rfl) rfl rfl (p_move rfl rfl) (nf rfl) ?_
          refine W.pure rfl (wo rfl) rfl rfl (p_move rfl rfl) (nf rfl) ?_
          refine W.c11 rfl (wo rfl) rfl rfl rfl (tSync x5 (crash_sync _) (by simp [crashK])) (en14 _) rfl rfl rfl (args_val rfl) ?_
          intro x6
          refine W.quiet rfl (wo rfl) rfl rfl (f_callR rfl rfl (args_val rfl) (en12 _) (fun w2 hc2 => num_ok w2 _)) (nf rfl) ?_
          refine W.pure rfl (wo rfl) rfl rfl (pT (by rfl) (p_eql rfl rfl rfl)) (nf rfl) ?_
          refine W.pure rfl (wo rfl) rfl rfl (p_pick_true rfl rfl rfl) (nf rfl) ?_
          refine W.pure rfl (wo rfl) rfl rfl (p_move rfl rfl) (nf rfl) ?_
          refine W.quiet rfl (wo rfl) rfl rfl (f_callR rfl rfl (args_val (vs := []) rfl) (en10 _) (fun w2 hc2 => known_ok w2)) (nf rfl) ?_
          refine W.pure rfl (wo rfl) rfl rfl (p_pick_true rfl rfl rfl) (nf rfl) ?_
          refine W.pure rfl (wo rfl) rfl rfl (p_assign rfl rfl) (nf rfl) ?_
          refine W.doneQ (y := sub [1, 1, 1, 1, 1, 1, 1, 1] B3) rfl ?_
          exact C.ret (R := fun e w' => e = .returned (.bool true) ∧ Below w.heap.size w w') (rs := [.tmp 4]) (vs := [.bool true]) rfl Try.func3 rfl rfl rfl (res_cons (ResV.tmp rfl) res_nil) fun w1 hc1 => ⟨rfl, hc1.toBelow⟩

end Go.Proofs.Ytjomnicfcdkfdaa
