import Derived.Test.YtjomnicfcdkfdaaDkRow
import Derived.Test.YtjomnicfcdkfdaaDkR2
namespace Go.Proofs.Ytjomnicfcdkfdaa
open Go Go.HW Go.RowKit Go.ChangeShapes Go.WideShapes Go.ChangeAt Go.Lib
set_option linter.unusedVariables false

def dfld (n : String) (t : TypeId) (o b : Nat) : Field := { name := n, type := t, offset := o, embedded := false, tag := "", pkgPath := "", byteOffset := b }
theorem under46 : Try.prog.underlying 46 = some (.struct #[dfld "Kind" 3 0 0, dfld "N" 3 1 8, dfld "M" 3 2 16, dfld "Fill" 5 3 24, dfld "Picks" 22 4 32]) := by kernel_rfl
theorem under41 : Try.prog.underlying 41 = some (.slice 46) := by kernel_rfl
section
variable {H : Type} {enc : TypeId × Value → H} {w : World} {base : Nat} {held : Bool}
theorem nums_trod {t e : TypeId} {k : IntKind} {fuel : Nat} {cs : List Value} {x : DataW H × List MemPlace}
    (ht : Try.prog.underlying t = some (.slice e)) (he : Try.prog.underlying e = some (.int k)) (hc : Try.prog.cellsOf e = 1)
    (hf : DataW.trod enc Try.prog w base (fun _ => true) held fuel t cs = some x) : ∃ v xs, cs = [v] ∧ IntRow (heapOf w) k v xs ∧ (∀ x ∈ xs, (Lit.int k x).wf = true) := by
  rcases open_ints ht he hc hf with ⟨hcs, hx⟩ | ⟨a, len, cap, zs, hcs, _, hl, hm, hz, hx, hcell, hwz⟩
  · exact ⟨_, [], hcs, ⟨rfl, none, 0, rfl, Nat.le_refl _, Or.inl rfl⟩, fun x hx => by cases hx⟩
  · refine ⟨_, zs.take len, hcs, ?_, fun x hx => hwz x (List.mem_of_mem_take hx)⟩
    simp only [if_true] at hz
    have hlen : (zs.take len).length = len := by rw [List.length_take]; omega
    refine ⟨?_, some a, cap, by rw [hlen], by omega, ?_⟩
    · simp [encl]
    · rcases Nat.eq_zero_or_pos len with h0 | h0
      · left; rw [hlen]; exact h0
      · right
        have hs := cell_plain (hcell 0 (by omega))
        obtain ⟨b, o, s⟩ := a
        simp only at hs
        subst hs
        obtain ⟨arr, t', z, hb, hv⟩ := cell_arr (hcell 0 (by omega))
        refine ⟨b, o, arr, t', z, rfl, hb, fun i q hi => ?_⟩
        have hil : i < (zs.take len).length := by
          have := (List.getElem?_eq_some_iff.1 hi).1
          simpa [encl] using this
        obtain ⟨arr', t2, z2, hb', hv'⟩ := cell_arr (hcell i (by omega))
        have := hb.symm.trans hb'
        simp only [Option.some.injEq, Obj.cells.injEq] at this
        obtain ⟨rfl, -, -⟩ := this
        have eq : (encl k (zs.take len))[i]? = some (.int k (zs.getD i 0)) := by
          unfold encl
          rw [List.getElem?_map, List.getElem?_take, if_pos (by omega)]
          have hiz : i < zs.length := by omega
          simp [List.getElem?_eq_getElem hiz]
        rw [eq] at hi
        cases hi
        exact hv'
/-- A row of elements of so many cells: out of what each element's cells are. -/
theorem add_none (b o n : Nat) : (Addr.add ⟨b, o, none⟩ n) = ⟨b, o + n, none⟩ := by unfold Addr.add; split <;> simp_all
theorem row_of_cells {a : Addr} {len cap m : Nat} {css : Nat → List Value} (hm : 0 < m) (hl : len ≤ cap) (h : ∀ i, i < len → w.cells? base (a.add (i * m)) m = some (css i)) :
    ∃ cs, RowV (heapOf w) (.slice (some a) len cap) m len cs ∧ ∀ i, i < len → chunk cs m i = css i := by
  rcases Nat.eq_zero_or_pos len with h0 | h0
  · subst h0
    exact ⟨[], ⟨by simp, some a, cap, rfl, Nat.zero_le _, Or.inl rfl⟩, fun i hi => by omega⟩
  · have hg : ∀ i j, i < len → j < m → ∃ q, (css i)[j]? = some q ∧ w.cell? ((a.add (i * m)).add j) = some q := fun i j hi hj => by
      obtain ⟨-, h2, h3⟩ := World.cells?_some (h i hi)
      have e := List.getElem?_eq_getElem (show j < (css i).length by omega)
      exact ⟨_, e, (h3 j hj).trans e⟩
    have hcl : ∀ i, i < len → (css i).length = m := fun i hi => (World.cells?_some (h i hi)).2.1
    obtain ⟨q0, -, hc0⟩ := hg 0 0 h0 hm
    have hs : a.spot = none := by
      have e : a.add (0 * m) = a := by rw [Nat.zero_mul]; unfold Addr.add; simp
      rw [e] at hc0
      exact cell_plain hc0
    obtain ⟨b, o, s⟩ := a
    simp only at hs
    subst hs
    have hg2 : ∀ i j, i < len → j < m → ∃ q, (css i)[j]? = some q ∧ ∃ arr t z, w.heap[b]? = some (.cells arr t z) ∧ arr[o + (i * m + j)]? = some q := fun i j hi hj => by
      obtain ⟨q, e1, e2⟩ := hg i j hi hj
      rw [add_none] at e2
      obtain ⟨arr, t, z, hb, hv⟩ := cell_arr e2
      exact ⟨q, e1, arr, t, z, hb, by rw [← Nat.add_assoc]; exact hv⟩
    obtain ⟨_, -, arr, t, z, hb, -⟩ := hg2 0 0 h0 hm
    have hg3 : ∀ i j, i < len → j < m → arr[o + (i * m + j)]? = (css i)[j]? := fun i j hi hj => by
      obtain ⟨q, e1, arr', t', z', hb', hv⟩ := hg2 i j hi hj
      have := hb.symm.trans hb'
      simp only [Option.some.injEq, Obj.cells.injEq] at this
      obtain ⟨rfl, -, -⟩ := this
      rw [hv, e1]
    have hsz : o + len * m ≤ arr.size := by
      obtain ⟨q, e1, -⟩ := hg2 (len - 1) (m - 1) (by omega) (by omega)
      have e2 := hg3 (len - 1) (m - 1) (by omega) (by omega)
      rw [e1] at e2
      have := (Array.getElem?_eq_some_iff.1 e2).1
      have e3 : (len - 1) * m + m = len * m := by
        rw [← Nat.succ_mul]; congr 1; omega
      omega
    have hget : ∀ i, i < len * m → ((arr.toList.drop o).take (len * m))[i]? = arr[o + i]? := fun i hi => by
      rw [List.getElem?_take, if_pos hi, List.getElem?_drop, Array.getElem?_toList]
    have hlen : ((arr.toList.drop o).take (len * m)).length = len * m := by
      rw [List.length_take, List.length_drop, Array.length_toList]; omega
    refine ⟨(arr.toList.drop o).take (len * m), ⟨hlen, some ⟨b, o, none⟩, cap, rfl, hl, Or.inr ⟨b, o, arr, t, z, rfl, hb, fun i q hi => ?_⟩⟩, fun i hi => ?_⟩
    · have hil : i < len * m := by
        have := (List.getElem?_eq_some_iff.1 hi).1
        omega
      rw [hget i hil] at hi
      exact hi
    · have him : i * m + m ≤ len * m := by
        rw [← Nat.succ_mul]; exact Nat.mul_le_mul_right _ hi
      apply List.ext_getElem?
      intro j
      unfold chunk
      rw [List.getElem?_take]
      by_cases hj : j < m
      · rw [if_pos hj, List.getElem?_drop, hget _ (by omega), hg3 i j hi hj]
      · rw [if_neg hj, List.getElem?_eq_none (by rw [hcl i hi]; omega)]
end
def StOk (z : Stp) : Prop := 0 ≤ z.fill ∧ z.fill ≤ 255 ∧ z.n ≤ 9223372036854775807 ∧ ∀ p ∈ z.picks, -9223372036854775808 ≤ p ∧ p ≤ 9223372036854775807
theorem step_cells {H : Type} {enc : TypeId × Value → H} {w : World} {base : Nat} {held : Bool} (fuel : Nat) (cs : List Value) (x : DataW H × List MemPlace)
    (h : DataW.trod enc Try.prog w base (fun _ => true) held fuel 46 cs = some x) : ∃ t : Stp, ShStp.rep (heapOf w) cs t ∧ StOk t := by
  obtain ⟨xs, n, rfl, rfl, hl, hlen, hf⟩ := DataW.trod_struct under46 h
  have c46 : Try.prog.cellsOf 46 = 5 := by kernel_rfl
  have c3 : Try.prog.cellsOf 3 = 1 := by kernel_rfl
  have c5 : Try.prog.cellsOf 5 = 1 := by kernel_rfl
  have c22 : Try.prog.cellsOf 22 = 1 := by kernel_rfl
  rw [c46] at hl
  match cs, hl, xs, hlen with
  | [q0, q1, q2, q3, q4], _, [y0, y1, y2, y3, y4], _ =>
    have g0 := hf 0 (dfld "Kind" 3 0 0) rfl
    have g1 := hf 1 (dfld "N" 3 1 8) rfl
    have g2 := hf 2 (dfld "M" 3 2 16) rfl
    have g3 := hf 3 (dfld "Fill" 5 3 24) rfl
    have g4 := hf 4 (dfld "Picks" 22 4 32) rfl
    simp only [dfld, c22, c3, c5, List.drop_zero, List.drop_succ_cons, List.take_succ_cons, List.take_zero, List.getElem?_cons_zero, List.getElem?_cons_succ] at g0 g1 g2 g3 g4
    obtain ⟨k, e0, -, w0⟩ := DataW.trod_int (k := .i64) (by kernel_rfl) g0
    obtain ⟨n', e1, -, w1⟩ := DataW.trod_int (k := .i64) (by kernel_rfl) g1
    obtain ⟨m, e2, -, w2⟩ := DataW.trod_int (k := .i64) (by kernel_rfl) g2
    obtain ⟨f, e3, -, w3⟩ := DataW.trod_int (k := .u8) (by kernel_rfl) g3
    obtain ⟨v4, b, e4, r4, w4⟩ := nums_trod (k := .i64) (by kernel_rfl) (by kernel_rfl : Try.prog.underlying 3 = some (.int .i64)) (by kernel_rfl) g4
    simp only [List.cons.injEq, and_true] at e0 e1 e2 e3 e4
    subst e0; subst e1; subst e2; subst e3; subst e4
    refine ⟨⟨k, n', m, f, b⟩, ⟨q4, rfl, r4⟩, ?_⟩
    exact ⟨(int_wf w3).1, (int_wf w3).2, (int_wf w1).2, fun p hp => int_wf (w4 p hp)⟩
theorem open_steps {H : Type} {enc : TypeId × Value → H} {w : World} {r : Reach} {b0 base : Nat} {held : Bool} {v : Value} {d : DataW H} {p : List MemPlace}
    (hv : Value.okWide Try.prog w r b0 41 v) (h : DataW.Trod enc Try.prog w base (fun _ => true) held 41 v d p) :
    ∃ ts : List Stp, RowS ShStp (heapOf w) v ts ∧ ∀ t ∈ ts, StOk t := by
  obtain ⟨a0, n0, k0, rfl⟩ := okWide_slice under41 hv
  obtain ⟨fuel, hf⟩ := h
  have c46 : Try.prog.cellsOf 46 = 5 := by kernel_rfl
  rcases DataW.trod_slice under41 hf with ⟨e6, -⟩ | ⟨ad, len, cap, elems, rest, n', rfl, e6, -, -, hlc, -, hel, hget, -⟩
  · simp [Value.cells] at e6
    obtain ⟨rfl, rfl, rfl⟩ := e6
    exact ⟨[], RowS.nil _ _, fun t ht => by cases ht⟩
  · simp [Value.cells] at e6
    obtain ⟨rfl, rfl, rfl⟩ := e6
    have hex : ∀ i, ∃ p : List Value × Stp, i < n0 → w.cells? base (ad.add (i * 5)) 5 = some p.1 ∧ ShStp.rep (heapOf w) p.1 p.2 ∧ StOk p.2 := fun i => by
      by_cases hi : i < n0
      · have g := hget i hi
        rw [c46, List.getElem?_eq_getElem (by omega)] at g
        obtain ⟨css, u1, u2⟩ := Option.bind_eq_some_iff.1 g
        obtain ⟨t, u3, u4⟩ := step_cells n' css _ u2
        exact ⟨(css, t), fun _ => ⟨u1, u3, u4⟩⟩
      · exact ⟨([], ⟨0, 0, 0, 0, []⟩), fun h => absurd h hi⟩
    obtain ⟨p, hp⟩ := Classical.axiomOfChoice hex
    obtain ⟨cs', h1, h2⟩ := row_of_cells (css := fun i => (p i).1) (by omega : 0 < 5) hlc (fun i hi => (hp i hi).1)
    refine ⟨(List.range n0).map fun i => (p i).2, ⟨cs', ?_, fun i t ht => ?_⟩, fun t ht => ?_⟩
    · rw [List.length_map, List.length_range]; exact h1
    · rw [List.getElem?_map] at ht
      obtain ⟨j, hj, rfl⟩ := Option.map_eq_some_iff.1 ht
      have hj' := List.getElem?_eq_some_iff.1 hj
      obtain ⟨hil, hj'⟩ := hj'
      rw [List.length_range] at hil
      rw [List.getElem_range] at hj'
      subst hj'
      show ShStp.rep _ (chunk cs' 5 i) _
      rw [h2 i hil]
      exact (hp i hil).2.1
    · obtain ⟨i, hi, rfl⟩ := List.mem_map.1 ht
      exact (hp i (List.mem_range.1 hi)).2.2
end Go.Proofs.Ytjomnicfcdkfdaa
