import Derived.Test.YtfbogkhgfaibbaaDoorTmRow
import Derived.Test.YtfbogkhgfaibbaaDoorTmY
namespace Go.Proofs.YtfbogkhgfaibbaaDoor
open Go Go.HW Go.RowKit Go.ChangeShapes Go.WideShapes Go.ChangeAt Go.Lib
set_option linter.unusedVariables false

theorem cell_plain {w : World} {a : Addr} {v : Value} (h : w.cell? (a.add 0) = some v) : a.spot = none := by
  obtain ⟨b, o, s⟩ := a
  cases s with
  | none => rfl
  | some q =>
    exfalso
    have e : (Addr.add ⟨b, o, some q⟩ 0) = ⟨b, o, some q⟩ := by unfold Addr.add; simp
    rw [e] at h
    unfold World.cell? at h
    split at h
    · simp at h
    · cases h
theorem cell_arr {w : World} {b o i : Nat} {v : Value} (h : w.cell? (Addr.add ⟨b, o, none⟩ i) = some v) : ∃ arr t z, w.heap[b]? = some (.cells arr t z) ∧ arr[o + i]? = some v := by
  have e : (Addr.add ⟨b, o, none⟩ i) = ⟨b, o + i, none⟩ := by unfold Addr.add; split <;> simp_all
  rw [e] at h
  unfold World.cell? at h
  simp only at h
  split at h
  · rename_i c t z hb
    simp at h
    exact ⟨c, t, z, hb, h⟩
  · cases h
def tfld (n : String) (t : TypeId) (o b : Nat) : Field := { name := n, type := t, offset := o, embedded := false, tag := "", pkgPath := "", byteOffset := b }
theorem under25 : Tryd.prog.underlying 25 = some (.struct #[tfld "Kind" 23 0 0, tfld "N" 3 1 8, tfld "Args" 22 2 16]) := by kernel_rfl
theorem under22 : Tryd.prog.underlying 22 = some (.slice 25) := by kernel_rfl
section
variable {H : Type} {enc : TypeId × Value → H} {w : World} {base : Nat} {held : Bool}
theorem add_none (b o n : Nat) : (Addr.add ⟨b, o, none⟩ n) = ⟨b, o + n, none⟩ := by unfold Addr.add; split <;> simp_all
theorem row_of_cells {a : Addr} {len cap m : Nat} {css : Nat → List Value} (hm : 0 < m) (hl : len ≤ cap) (h : ∀ i, i < len → w.cells? base (a.add (i * m)) m = some (css i)) :
    ∃ cs, RowV (heapOf w) (.slice (some a) len cap) m len cs ∧ ∀ i, i < len → chunk cs m i = css i := by
  rcases Nat.eq_zero_or_pos len with h0 | h0
  · subst h0
    exact ⟨[], ⟨by simp, some a, cap, rfl, Nat.zero_le _, Or.inl rfl⟩, fun i hi => by omega⟩
  · have hg : ∀ i j, i < len → j < m → ∃ q, (css i)[j]? = some q ∧ w.cell? ((a.add (i * m)).add j) = some q := fun i j hi hj => by
      obtain ⟨-, h2, h3⟩ := World.cells?_some (h i hi)
      have e := List.getElem?_eq_getElem (show j < (css i).length by omega)
      exact ⟨_, e, (h3 j hj).trans e⟩
    have hcl : ∀ i, i < len → (css i).length = m := fun i hi => (World.cells?_some (h i hi)).2.1
    obtain ⟨q0, -, hc0⟩ := hg 0 0 h0 hm
    have hs : a.spot = none := by
      have e : a.add (0 * m) = a := by rw [Nat.zero_mul]; unfold Addr.add; simp
      rw [e] at hc0
      exact cell_plain hc0
    obtain ⟨b, o, s⟩ := a
    simp only at hs
    subst hs
    have hg2 : ∀ i j, i < len → j < m → ∃ q, (css i)[j]? = some q ∧ ∃ arr t z, w.heap[b]? = some (.cells arr t z) ∧ arr[o + (i * m + j)]? = some q := fun i j hi hj => by
      obtain ⟨q, e1, e2⟩ := hg i j hi hj
      rw [add_none] at e2
      obtain ⟨arr, t, z, hb, hv⟩ := cell_arr e2
      exact ⟨q, e1, arr, t, z, hb, by rw [← Nat.add_assoc]; exact hv⟩
    obtain ⟨_, -, arr, t, z, hb, -⟩ := hg2 0 0 h0 hm
    have hg3 : ∀ i j, i < len → j < m → arr[o + (i * m + j)]? = (css i)[j]? := fun i j hi hj => by
      obtain ⟨q, e1, arr', t', z', hb', hv⟩ := hg2 i j hi hj
      have := hb.symm.trans hb'
      simp only [Option.some.injEq, Obj.cells.injEq] at this
      obtain ⟨rfl, -, -⟩ := this
      rw [hv, e1]
    have hsz : o + len * m ≤ arr.size := by
      obtain ⟨q, e1, -⟩ := hg2 (len - 1) (m - 1) (by omega) (by omega)
      have e2 := hg3 (len - 1) (m - 1) (by omega) (by omega)
      rw [e1] at e2
      have := (Array.getElem?_eq_some_iff.1 e2).1
      have e3 : (len - 1) * m + m = len * m := by
        rw [← Nat.succ_mul]; congr 1; omega
      omega
    have hget : ∀ i, i < len * m → ((arr.toList.drop o).take (len * m))[i]? = arr[o + i]? := fun i hi => by
      rw [List.getElem?_take, if_pos hi, List.getElem?_drop, Array.getElem?_toList]
    have hlen : ((arr.toList.drop o).take (len * m)).length = len * m := by
      rw [List.length_take, List.length_drop, Array.length_toList]; omega
    refine ⟨(arr.toList.drop o).take (len * m), ⟨hlen, some ⟨b, o, none⟩, cap, rfl, hl, Or.inr ⟨b, o, arr, t, z, rfl, hb, fun i q hi => ?_⟩⟩, fun i hi => ?_⟩
    · have hil : i < len * m := by
        have := (List.getElem?_eq_some_iff.1 hi).1
        omega
      rw [hget i hil] at hi
      exact hi
    · have him : i * m + m ≤ len * m := by
        rw [← Nat.succ_mul]; exact Nat.mul_le_mul_right _ hi
      apply List.ext_getElem?
      intro j
      unfold chunk
      rw [List.getElem?_take]
      by_cases hj : j < m
      · rw [if_pos hj, List.getElem?_drop, hget _ (by omega), hg3 i j hi hj]
      · rw [if_neg hj, List.getElem?_eq_none (by rw [hcl i hi]; omega)]
end
set_option maxRecDepth 100000 in
theorem open_tm_cells {H : Type} {enc : TypeId × Value → H} {w : World} {base : Nat} {held : Bool} : ∀ (fuel : Nat) (cs : List Value) (x : DataW H × List MemPlace),
    DataW.trod enc Tryd.prog w base (fun _ => true) held fuel 25 cs = some x → ∃ t : Tm, ShTm.rep (heapOf w) cs t ∧ TOk t := by
  intro fuel
  induction fuel using Nat.strongRecOn with
  | ind fuel ih =>
    intro cs x h
    obtain ⟨xs, n, rfl, rfl, hl, hlen, hf⟩ := DataW.trod_struct under25 h
    have c25 : Tryd.prog.cellsOf 25 = 3 := by kernel_rfl
    have c23 : Tryd.prog.cellsOf 23 = 1 := by kernel_rfl
    have c3 : Tryd.prog.cellsOf 3 = 1 := by kernel_rfl
    have c22 : Tryd.prog.cellsOf 22 = 1 := by kernel_rfl
    rw [c25] at hl
    match cs, hl, xs, hlen with
    | [q0, q1, q2], _, [y0, y1, y2], _ =>
      have g0 := hf 0 (tfld "Kind" 23 0 0) rfl
      have g1 := hf 1 (tfld "N" 3 1 8) rfl
      have g2 := hf 2 (tfld "Args" 22 2 16) rfl
      simp only [tfld, c23, c3, c22, List.drop_zero, List.drop_succ_cons, List.take_succ_cons, List.take_zero, List.getElem?_cons_zero, List.getElem?_cons_succ] at g0 g1 g2
      obtain ⟨k, e0, -, w0⟩ := DataW.trod_int (k := .i64) (by kernel_rfl) g0
      obtain ⟨m, e1, -, w1⟩ := DataW.trod_int (k := .i64) (by kernel_rfl) g1
      have hk : ∃ kids : List Tm, RowS ShTm (heapOf w) q2 kids ∧ ∀ t ∈ kids, TOk t := by
        rcases DataW.trod_slice under22 g2 with ⟨e2, -⟩ | ⟨ad, len, cap, elems, rest, n', rfl, e2, -, -, hlc, -, hel, hget, -⟩
        · simp only [List.cons.injEq, and_true] at e2
          subst e2
          exact ⟨[], RowS.nil _ _, fun t ht => by cases ht⟩
        · simp only [List.cons.injEq, and_true] at e2
          subst e2
          have hex : ∀ i, ∃ p : List Value × Tm, i < len → w.cells? base (ad.add (i * 3)) 3 = some p.1 ∧ ShTm.rep (heapOf w) p.1 p.2 ∧ TOk p.2 := fun i => by
            by_cases hi : i < len
            · have g := hget i hi
              rw [c25, List.getElem?_eq_getElem (by omega)] at g
              obtain ⟨css, u1, u2⟩ := Option.bind_eq_some_iff.1 g
              obtain ⟨t, u3, u4⟩ := ih n' (by omega) css _ u2
              exact ⟨(css, t), fun _ => ⟨u1, u3, u4⟩⟩
            · exact ⟨([], Tm.dflt), fun h => absurd h hi⟩
          obtain ⟨p, hp⟩ := Classical.axiomOfChoice hex
          obtain ⟨cs', h1, h2⟩ := row_of_cells (css := fun i => (p i).1) (by omega : 0 < 3) hlc (fun i hi => (hp i hi).1)
          refine ⟨(List.range len).map fun i => (p i).2, ⟨cs', ?_, fun i t ht => ?_⟩, fun t ht => ?_⟩
          · rw [List.length_map, List.length_range]; exact h1
          · rw [List.getElem?_map] at ht
            obtain ⟨j, hj, rfl⟩ := Option.map_eq_some_iff.1 ht
            have hj' := List.getElem?_eq_some_iff.1 hj
            obtain ⟨hil, hj'⟩ := hj'
            rw [List.length_range] at hil
            rw [List.getElem_range] at hj'
            subst hj'
            show ShTm.rep _ (chunk cs' 3 i) _
            rw [h2 i hil]
            exact (hp i hil).2.1
          · obtain ⟨i, hi, rfl⟩ := List.mem_map.1 ht
            exact (hp i (List.mem_range.1 hi)).2.2
      obtain ⟨kids, r2, w2⟩ := hk
      simp only [List.cons.injEq, and_true] at e0 e1
      subst e0; subst e1
      refine ⟨Tm.mk k m kids, Tm.cl (t := Tm.mk k m kids) r2, ?_⟩
      rw [TOk_iff]
      exact ⟨int_wf w0, int_wf w1, w2⟩
set_option maxRecDepth 100000 in
theorem open_tm {H : Type} {enc : TypeId × Value → H} {w : World} {r : Reach} {b0 base : Nat} {held : Bool} {v : Value} {d : DataW H} {p : List MemPlace}
    (hv : Value.okWide Tryd.prog w r b0 25 v) (h : DataW.Trod enc Tryd.prog w base (fun _ => true) held 25 v d p) :
    ∃ (t : Tm) (k : Value), v = .agg #[.int .i64 (Tm.kind t), .int .i64 (Tm.num t), k] ∧ RowS ShTm (heapOf w) k (Tree.kids t) ∧ TOk t := by
  obtain ⟨cs, rfl, -⟩ := okWide_struct under25 hv
  obtain ⟨fuel, hf⟩ := h
  obtain ⟨t, ht, hok⟩ := open_tm_cells _ _ _ hf
  obtain ⟨k, e, h1⟩ := Tm.op ht
  refine ⟨t, k, ?_, h1, hok⟩
  congr 1
  apply Array.toList_inj.1
  exact e
end Go.Proofs.YtfbogkhgfaibbaaDoor
