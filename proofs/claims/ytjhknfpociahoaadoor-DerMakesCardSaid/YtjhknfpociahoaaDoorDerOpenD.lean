import Derived.Test.YtjhknfpociahoaaDoorDerOpen
import Derived.Test.YtjhknfpociahoaaDoorDerL3
namespace Go.Proofs.YtjhknfpociahoaaDoor
open Go Go.HW Go.RowKit Go.ChangeShapes Go.WideShapes Go.ChangeAt Go.Lib Go.Shelf
set_option linter.unusedVariables false

def dfld (n : String) (t : TypeId) (o b : Nat) : Field := { name := n, type := t, offset := o, embedded := false, tag := "", pkgPath := "", byteOffset := b }
theorem under27 : Tryd.prog.underlying 27 = some (.struct #[dfld "Kind" 22 0 0, dfld "Flag" 4 1 8, dfld "N" 2 2 16, dfld "Bytes" 23 3 24, dfld "Text" 9 4 48, dfld "Arcs" 24 5 64, dfld "Kids" 25 6 88]) := by kernel_rfl
section
variable {H : Type} {enc : TypeId × Value → H} {w : World} {base : Nat} {held : Bool}
theorem nums_trod {t e : TypeId} {k : IntKind} {fuel : Nat} {cs : List Value} {x : DataW H × List MemPlace}
    (ht : Tryd.prog.underlying t = some (.slice e)) (he : Tryd.prog.underlying e = some (.int k)) (hc : Tryd.prog.cellsOf e = 1)
    (hf : DataW.trod enc Tryd.prog w base (fun _ => true) held fuel t cs = some x) : ∃ v xs, cs = [v] ∧ IntRow (heapOf w) k v xs ∧ (∀ x ∈ xs, (Lit.int k x).wf = true) := by
  rcases open_ints ht he hc hf with ⟨hcs, hx⟩ | ⟨a, len, cap, zs, hcs, _, hl, hm, hz, hx, hcell, hwz⟩
  · exact ⟨_, [], hcs, ⟨rfl, none, 0, rfl, Nat.le_refl _, Or.inl rfl⟩, fun x hx => by cases hx⟩
  · refine ⟨_, zs.take len, hcs, ?_, fun x hx => hwz x (List.mem_of_mem_take hx)⟩
    simp only [if_true] at hz
    have hlen : (zs.take len).length = len := by rw [List.length_take]; omega
    refine ⟨?_, some a, cap, by rw [hlen], by omega, ?_⟩
    · simp [encl]
    · rcases Nat.eq_zero_or_pos len with h0 | h0
      · left; rw [hlen]; exact h0
      · right
        have hs := cell_plain (hcell 0 (by omega))
        obtain ⟨b, o, s⟩ := a
        simp only at hs
        subst hs
        obtain ⟨arr, t', z, hb, hv⟩ := cell_arr (hcell 0 (by omega))
        refine ⟨b, o, arr, t', z, rfl, hb, fun i q hi => ?_⟩
        have hil : i < (zs.take len).length := by
          have := (List.getElem?_eq_some_iff.1 hi).1
          simpa [encl] using this
        obtain ⟨arr', t2, z2, hb', hv'⟩ := cell_arr (hcell i (by omega))
        have := hb.symm.trans hb'
        simp only [Option.some.injEq, Obj.cells.injEq] at this
        obtain ⟨rfl, -, -⟩ := this
        have eq : (encl k (zs.take len))[i]? = some (.int k (zs.getD i 0)) := by
          unfold encl
          rw [List.getElem?_map, List.getElem?_take, if_pos (by omega)]
          have hiz : i < zs.length := by omega
          simp [List.getElem?_eq_getElem hiz]
        rw [eq] at hi
        cases hi
        exact hv'
/-- A row of elements of so many cells: out of what each element's cells are. -/
theorem add_none (b o n : Nat) : (Addr.add ⟨b, o, none⟩ n) = ⟨b, o + n, none⟩ := by unfold Addr.add; split <;> simp_all
theorem row_of_cells {a : Addr} {len cap m : Nat} {css : Nat → List Value} (hm : 0 < m) (hl : len ≤ cap) (h : ∀ i, i < len → w.cells? base (a.add (i * m)) m = some (css i)) :
    ∃ cs, RowV (heapOf w) (.slice (some a) len cap) m len cs ∧ ∀ i, i < len → chunk cs m i = css i := by
  rcases Nat.eq_zero_or_pos len with h0 | h0
  · subst h0
    exact ⟨[], ⟨by simp, some a, cap, rfl, Nat.zero_le _, Or.inl rfl⟩, fun i hi => by omega⟩
  · have hg : ∀ i j, i < len → j < m → ∃ q, (css i)[j]? = some q ∧ w.cell? ((a.add (i * m)).add j) = some q := fun i j hi hj => by
      obtain ⟨-, h2, h3⟩ := World.cells?_some (h i hi)
      have e := List.getElem?_eq_getElem (show j < (css i).length by omega)
      exact ⟨_, e, (h3 j hj).trans e⟩
    have hcl : ∀ i, i < len → (css i).length = m := fun i hi => (World.cells?_some (h i hi)).2.1
    obtain ⟨q0, -, hc0⟩ := hg 0 0 h0 hm
    have hs : a.spot = none := by
      have e : a.add (0 * m) = a := by rw [Nat.zero_mul]; unfold Addr.add; simp
      rw [e] at hc0
      exact cell_plain hc0
    obtain ⟨b, o, s⟩ := a
    simp only at hs
    subst hs
    have hg2 : ∀ i j, i < len → j < m → ∃ q, (css i)[j]? = some q ∧ ∃ arr t z, w.heap[b]? = some (.cells arr t z) ∧ arr[o + (i * m + j)]? = some q := fun i j hi hj => by
      obtain ⟨q, e1, e2⟩ := hg i j hi hj
      rw [add_none] at e2
      obtain ⟨arr, t, z, hb, hv⟩ := cell_arr e2
      exact ⟨q, e1, arr, t, z, hb, by rw [← Nat.add_assoc]; exact hv⟩
    obtain ⟨_, -, arr, t, z, hb, -⟩ := hg2 0 0 h0 hm
    have hg3 : ∀ i j, i < len → j < m → arr[o + (i * m + j)]? = (css i)[j]? := fun i j hi hj => by
      obtain ⟨q, e1, arr', t', z', hb', hv⟩ := hg2 i j hi hj
      have := hb.symm.trans hb'
      simp only [Option.some.injEq, Obj.cells.injEq] at this
      obtain ⟨rfl, -, -⟩ := this
      rw [hv, e1]
    have hsz : o + len * m ≤ arr.size := by
      obtain ⟨q, e1, -⟩ := hg2 (len - 1) (m - 1) (by omega) (by omega)
      have e2 := hg3 (len - 1) (m - 1) (by omega) (by omega)
      rw [e1] at e2
      have := (Array.getElem?_eq_some_iff.1 e2).1
      have e3 : (len - 1) * m + m = len * m := by
        rw [← Nat.succ_mul]; congr 1; omega
      omega
    have hget : ∀ i, i < len * m → ((arr.toList.drop o).take (len * m))[i]? = arr[o + i]? := fun i hi => by
      rw [List.getElem?_take, if_pos hi, List.getElem?_drop, Array.getElem?_toList]
    have hlen : ((arr.toList.drop o).take (len * m)).length = len * m := by
      rw [List.length_take, List.length_drop, Array.length_toList]; omega
    refine ⟨(arr.toList.drop o).take (len * m), ⟨hlen, some ⟨b, o, none⟩, cap, rfl, hl, Or.inr ⟨b, o, arr, t, z, rfl, hb, fun i q hi => ?_⟩⟩, fun i hi => ?_⟩
    · have hil : i < len * m := by
        have := (List.getElem?_eq_some_iff.1 hi).1
        omega
      rw [hget i hil] at hi
      exact hi
    · have him : i * m + m ≤ len * m := by
        rw [← Nat.succ_mul]; exact Nat.mul_le_mul_right _ hi
      apply List.ext_getElem?
      intro j
      unfold chunk
      rw [List.getElem?_take]
      by_cases hj : j < m
      · rw [if_pos hj, List.getElem?_drop, hget _ (by omega), hg3 i j hi hj]
      · rw [if_neg hj, List.getElem?_eq_none (by rw [hcl i hi]; omega)]
end
theorem str_of (s : ByteArray) : Value.string s = str s.data.toList := by unfold str; congr 1
theorem under25 : Tryd.prog.underlying 25 = some (.slice 27) := by kernel_rfl
theorem open_der_cells {H : Type} {enc : TypeId × Value → H} {w : World} {base : Nat} {held : Bool} : ∀ (fuel : Nat) (cs : List Value) (x : DataW H × List MemPlace),
    DataW.trod enc Tryd.prog w base (fun _ => true) held fuel 27 cs = some x → ∃ t : Der, ShDer.rep (heapOf w) cs t ∧ DOk t := by
  intro fuel
  induction fuel using Nat.strongRecOn with
  | ind fuel ih =>
    intro cs x h
    obtain ⟨xs, n, rfl, rfl, hl, hlen, hf⟩ := DataW.trod_struct under27 h
    have c27 : Tryd.prog.cellsOf 27 = 7 := by kernel_rfl
    have c22 : Tryd.prog.cellsOf 22 = 1 := by kernel_rfl
    have c4 : Tryd.prog.cellsOf 4 = 1 := by kernel_rfl
    have c2 : Tryd.prog.cellsOf 2 = 1 := by kernel_rfl
    have c23 : Tryd.prog.cellsOf 23 = 1 := by kernel_rfl
    have c9 : Tryd.prog.cellsOf 9 = 1 := by kernel_rfl
    have c24 : Tryd.prog.cellsOf 24 = 1 := by kernel_rfl
    have c25 : Tryd.prog.cellsOf 25 = 1 := by kernel_rfl
    rw [c27] at hl
    match cs, hl, xs, hlen with
    | [q0, q1, q2, q3, q4, q5, q6], _, [y0, y1, y2, y3, y4, y5, y6], _ =>
      have g0 := hf 0 (dfld "Kind" 22 0 0) rfl
      have g1 := hf 1 (dfld "Flag" 4 1 8) rfl
      have g2 := hf 2 (dfld "N" 2 2 16) rfl
      have g3 := hf 3 (dfld "Bytes" 23 3 24) rfl
      have g4 := hf 4 (dfld "Text" 9 4 48) rfl
      have g5 := hf 5 (dfld "Arcs" 24 5 64) rfl
      have g6 := hf 6 (dfld "Kids" 25 6 88) rfl
      simp only [dfld, c22, c4, c2, c23, c9, c24, c25, List.drop_zero, List.drop_succ_cons, List.take_succ_cons, List.take_zero, List.getElem?_cons_zero, List.getElem?_cons_succ] at g0 g1 g2 g3 g4 g5 g6
      obtain ⟨k, e0, -, w0⟩ := DataW.trod_int (k := .i64) (by kernel_rfl) g0
      obtain ⟨f, e1, -⟩ := DataW.trod_bool (by kernel_rfl) g1
      obtain ⟨m, e2, -, w2⟩ := DataW.trod_int (k := .i64) (by kernel_rfl) g2
      obtain ⟨v3, b, e3, r3, w3⟩ := nums_trod (k := .u8) (by kernel_rfl) (by kernel_rfl : Tryd.prog.underlying 5 = some (.int .u8)) (by kernel_rfl) g3
      obtain ⟨s, e4, -⟩ := DataW.trod_string (by kernel_rfl) g4
      obtain ⟨v5, a, e5, r5, w5⟩ := nums_trod (k := .u64) (by kernel_rfl) (by kernel_rfl : Tryd.prog.underlying 50 = some (.int .u64)) (by kernel_rfl) g5
      have hk : ∃ kids : List Der, RowS ShDer (heapOf w) q6 kids ∧ ∀ t ∈ kids, DOk t := by
        rcases DataW.trod_slice under25 g6 with ⟨e6, -⟩ | ⟨ad, len, cap, elems, rest, n', rfl, e6, -, -, hlc, -, hel, hget, -⟩
        · simp only [List.cons.injEq, and_true] at e6
          subst e6
          exact ⟨[], RowS.nil _ _, fun t ht => by cases ht⟩
        · simp only [List.cons.injEq, and_true] at e6
          subst e6
          have hex : ∀ i, ∃ p : List Value × Der, i < len → w.cells? base (ad.add (i * 7)) 7 = some p.1 ∧ ShDer.rep (heapOf w) p.1 p.2 ∧ DOk p.2 := fun i => by
            by_cases hi : i < len
            · have g := hget i hi
              rw [c27, List.getElem?_eq_getElem (by omega)] at g
              obtain ⟨css, u1, u2⟩ := Option.bind_eq_some_iff.1 g
              obtain ⟨t, u3, u4⟩ := ih n' (by omega) css _ u2
              exact ⟨(css, t), fun _ => ⟨u1, u3, u4⟩⟩
            · exact ⟨([], Der.dflt), fun h => absurd h hi⟩
          obtain ⟨p, hp⟩ := Classical.axiomOfChoice hex
          obtain ⟨cs', h1, h2⟩ := row_of_cells (css := fun i => (p i).1) (by omega : 0 < 7) hlc (fun i hi => (hp i hi).1)
          refine ⟨(List.range len).map fun i => (p i).2, ⟨cs', ?_, fun i t ht => ?_⟩, fun t ht => ?_⟩
          · rw [List.length_map, List.length_range]; exact h1
          · rw [List.getElem?_map] at ht
            obtain ⟨j, hj, rfl⟩ := Option.map_eq_some_iff.1 ht
            have hj' := List.getElem?_eq_some_iff.1 hj
            obtain ⟨hil, hj'⟩ := hj'
            rw [List.length_range] at hil
            rw [List.getElem_range] at hj'
            subst hj'
            show ShDer.rep _ (chunk cs' 7 i) _
            rw [h2 i hil]
            exact (hp i hil).2.1
          · obtain ⟨i, hi, rfl⟩ := List.mem_map.1 ht
            exact (hp i (List.mem_range.1 hi)).2.2
      obtain ⟨kids, r6, w6⟩ := hk
      simp only [List.cons.injEq, and_true] at e0 e1 e2 e3 e4 e5
      subst e0; subst e1; subst e2; subst e3; subst e4; subst e5
      refine ⟨Der.mk k f m b s.data.toList a kids, ?_, ?_⟩
      · rw [str_of]
        exact Der.cl (t := Der.mk k f m b s.data.toList a kids) r3 r5 r6
      · rw [DOk_iff]
        exact ⟨int_wf w0, int_wf w2, fun x hx => int_wf (w3 x hx), fun x hx => int_wf (w5 x hx), w6⟩
end Go.Proofs.YtjhknfpociahoaaDoor
