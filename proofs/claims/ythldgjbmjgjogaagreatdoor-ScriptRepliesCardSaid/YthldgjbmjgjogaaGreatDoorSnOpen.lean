import Derived.Test.YthldgjbmjgjogaaGreatDoorSnRow
import Derived.Test.YthldgjbmjgjogaaGreatDoorSnHx
namespace Go.Proofs.YthldgjbmjgjogaaGreatDoor
open Go Go.HW Go.RowKit Go.ChangeShapes Go.WideShapes Go.ChangeAt Go.Lib
set_option linter.unusedVariables false
set_option maxRecDepth 20000

theorem cell_plain {w : World} {a : Addr} {v : Value} (h : w.cell? (a.add 0) = some v) : a.spot = none := by
  obtain ⟨b, o, s⟩ := a
  cases s with
  | none => rfl
  | some q =>
    exfalso
    have e : (Addr.add ⟨b, o, some q⟩ 0) = ⟨b, o, some q⟩ := by unfold Addr.add; simp
    rw [e] at h
    unfold World.cell? at h
    split at h
    · simp at h
    · cases h
theorem cell_arr {w : World} {b o i : Nat} {v : Value} (h : w.cell? (Addr.add ⟨b, o, none⟩ i) = some v) : ∃ arr t z, w.heap[b]? = some (.cells arr t z) ∧ arr[o + i]? = some v := by
  have e : (Addr.add ⟨b, o, none⟩ i) = ⟨b, o + i, none⟩ := by unfold Addr.add; split <;> simp_all
  rw [e] at h
  unfold World.cell? at h
  simp only at h
  split at h
  · rename_i c t z hb
    simp at h
    exact ⟨c, t, z, hb, h⟩
  · cases h
def sfld (n : String) (t : TypeId) (o b : Nat) : Field := { name := n, type := t, offset := o, embedded := false, tag := "", pkgPath := "", byteOffset := b }
section
variable {H : Type} {enc : TypeId × Value → H} {w : World} {base : Nat} {held : Bool}
theorem nums_trod {t e : TypeId} {k : IntKind} {fuel : Nat} {cs : List Value} {x : DataW H × List MemPlace}
    (ht : Tryz.prog.underlying t = some (.slice e)) (he : Tryz.prog.underlying e = some (.int k)) (hc : Tryz.prog.cellsOf e = 1)
    (hf : DataW.trod enc Tryz.prog w base (fun _ => true) held fuel t cs = some x) : ∃ v xs, cs = [v] ∧ IntRow (heapOf w) k v xs ∧ (∀ x ∈ xs, (Lit.int k x).wf = true) := by
  rcases open_ints ht he hc hf with ⟨hcs, hx⟩ | ⟨a, len, cap, zs, hcs, _, hl, hm, hz, hx, hcell, hwz⟩
  · exact ⟨_, [], hcs, ⟨rfl, none, 0, rfl, Nat.le_refl _, Or.inl rfl⟩, fun x hx => by cases hx⟩
  · refine ⟨_, zs.take len, hcs, ?_, fun x hx => hwz x (List.mem_of_mem_take hx)⟩
    simp only [if_true] at hz
    have hlen : (zs.take len).length = len := by rw [List.length_take]; omega
    refine ⟨?_, some a, cap, by rw [hlen], by omega, ?_⟩
    · simp [encl]
    · rcases Nat.eq_zero_or_pos len with h0 | h0
      · left; rw [hlen]; exact h0
      · right
        have hs := cell_plain (hcell 0 (by omega))
        obtain ⟨b, o, s⟩ := a
        simp only at hs
        subst hs
        obtain ⟨arr, t', z, hb, hv⟩ := cell_arr (hcell 0 (by omega))
        refine ⟨b, o, arr, t', z, rfl, hb, fun i q hi => ?_⟩
        have hil : i < (zs.take len).length := by
          have := (List.getElem?_eq_some_iff.1 hi).1
          simpa [encl] using this
        obtain ⟨arr', t2, z2, hb', hv'⟩ := cell_arr (hcell i (by omega))
        have := hb.symm.trans hb'
        simp only [Option.some.injEq, Obj.cells.injEq] at this
        obtain ⟨rfl, -, -⟩ := this
        have eq : (encl k (zs.take len))[i]? = some (.int k (zs.getD i 0)) := by
          unfold encl
          rw [List.getElem?_map, List.getElem?_take, if_pos (by omega)]
          have hiz : i < zs.length := by omega
          simp [List.getElem?_eq_getElem hiz]
        rw [eq] at hi
        cases hi
        exact hv'
/-- A row of elements of so many cells: out of what each element's cells are. -/
theorem add_none (b o n : Nat) : (Addr.add ⟨b, o, none⟩ n) = ⟨b, o + n, none⟩ := by unfold Addr.add; split <;> simp_all
theorem row_of_cells {a : Addr} {len cap m : Nat} {css : Nat → List Value} (hm : 0 < m) (hl : len ≤ cap) (h : ∀ i, i < len → w.cells? base (a.add (i * m)) m = some (css i)) :
    ∃ cs, RowV (heapOf w) (.slice (some a) len cap) m len cs ∧ ∀ i, i < len → chunk cs m i = css i := by
  rcases Nat.eq_zero_or_pos len with h0 | h0
  · subst h0
    exact ⟨[], ⟨by simp, some a, cap, rfl, Nat.zero_le _, Or.inl rfl⟩, fun i hi => by omega⟩
  · have hg : ∀ i j, i < len → j < m → ∃ q, (css i)[j]? = some q ∧ w.cell? ((a.add (i * m)).add j) = some q := fun i j hi hj => by
      obtain ⟨-, h2, h3⟩ := World.cells?_some (h i hi)
      have e := List.getElem?_eq_getElem (show j < (css i).length by omega)
      exact ⟨_, e, (h3 j hj).trans e⟩
    have hcl : ∀ i, i < len → (css i).length = m := fun i hi => (World.cells?_some (h i hi)).2.1
    obtain ⟨q0, -, hc0⟩ := hg 0 0 h0 hm
    have hs : a.spot = none := by
      have e : a.add (0 * m) = a := by rw [Nat.zero_mul]; unfold Addr.add; simp
      rw [e] at hc0
      exact cell_plain hc0
    obtain ⟨b, o, s⟩ := a
    simp only at hs
    subst hs
    have hg2 : ∀ i j, i < len → j < m → ∃ q, (css i)[j]? = some q ∧ ∃ arr t z, w.heap[b]? = some (.cells arr t z) ∧ arr[o + (i * m + j)]? = some q := fun i j hi hj => by
      obtain ⟨q, e1, e2⟩ := hg i j hi hj
      rw [add_none] at e2
      obtain ⟨arr, t, z, hb, hv⟩ := cell_arr e2
      exact ⟨q, e1, arr, t, z, hb, by rw [← Nat.add_assoc]; exact hv⟩
    obtain ⟨_, -, arr, t, z, hb, -⟩ := hg2 0 0 h0 hm
    have hg3 : ∀ i j, i < len → j < m → arr[o + (i * m + j)]? = (css i)[j]? := fun i j hi hj => by
      obtain ⟨q, e1, arr', t', z', hb', hv⟩ := hg2 i j hi hj
      have := hb.symm.trans hb'
      simp only [Option.some.injEq, Obj.cells.injEq] at this
      obtain ⟨rfl, -, -⟩ := this
      rw [hv, e1]
    have hsz : o + len * m ≤ arr.size := by
      obtain ⟨q, e1, -⟩ := hg2 (len - 1) (m - 1) (by omega) (by omega)
      have e2 := hg3 (len - 1) (m - 1) (by omega) (by omega)
      rw [e1] at e2
      have := (Array.getElem?_eq_some_iff.1 e2).1
      have e3 : (len - 1) * m + m = len * m := by
        rw [← Nat.succ_mul]; congr 1; omega
      omega
    have hget : ∀ i, i < len * m → ((arr.toList.drop o).take (len * m))[i]? = arr[o + i]? := fun i hi => by
      rw [List.getElem?_take, if_pos hi, List.getElem?_drop, Array.getElem?_toList]
    have hlen : ((arr.toList.drop o).take (len * m)).length = len * m := by
      rw [List.length_take, List.length_drop, Array.length_toList]; omega
    refine ⟨(arr.toList.drop o).take (len * m), ⟨hlen, some ⟨b, o, none⟩, cap, rfl, hl, Or.inr ⟨b, o, arr, t, z, rfl, hb, fun i q hi => ?_⟩⟩, fun i hi => ?_⟩
    · have hil : i < len * m := by
        have := (List.getElem?_eq_some_iff.1 hi).1
        omega
      rw [hget i hil] at hi
      exact hi
    · have him : i * m + m ≤ len * m := by
        rw [← Nat.succ_mul]; exact Nat.mul_le_mul_right _ hi
      apply List.ext_getElem?
      intro j
      unfold chunk
      rw [List.getElem?_take]
      by_cases hj : j < m
      · rw [if_pos hj, List.getElem?_drop, hget _ (by omega), hg3 i j hi hj]
      · rw [if_neg hj, List.getElem?_eq_none (by rw [hcl i hi]; omega)]
end
theorem under62 : Tryz.prog.underlying 62 = some (.struct #[sfld "Num" 24 0 0, sfld "Code" 3 1 8, sfld "Handle" 28 2 16, sfld "Parts" 60 3 24]) := by kernel_rfl
theorem under60 : Tryz.prog.underlying 60 = some (.slice 31) := by kernel_rfl
/-- Rows of bytes. -/
theorem rows_trod {H : Type} {enc : TypeId × Value → H} {w : World} {base : Nat} {held : Bool} {fuel : Nat} {cs : List Value} {x : DataW H × List MemPlace}
    (hf : DataW.trod enc Tryz.prog w base (fun _ => true) held fuel 60 cs = some x) : ∃ v, ∃ ts : List (List Int), cs = [v] ∧ RowS (Sh.ints .u8) (heapOf w) v ts ∧ ∀ t ∈ ts, IsB t := by
  have c31 : Tryz.prog.cellsOf 31 = 1 := by kernel_rfl
  rcases DataW.trod_slice under60 hf with ⟨e6, -⟩ | ⟨ad, len, cap, elems, rest, n', rfl, e6, -, -, hlc, -, hel, hget, -⟩
  · exact ⟨_, [], e6, RowS.nil _ _, fun t ht => by cases ht⟩
  · have hex : ∀ i, ∃ p : List Value × List Int, i < len → w.cells? base (ad.add (i * 1)) 1 = some p.1 ∧ (Sh.ints .u8).rep (heapOf w) p.1 p.2 ∧ IsB p.2 := fun i => by
      by_cases hi : i < len
      · have g := hget i hi
        rw [c31, List.getElem?_eq_getElem (by omega)] at g
        obtain ⟨css, u1, u2⟩ := Option.bind_eq_some_iff.1 g
        obtain ⟨v, xs, rfl, r1, r2⟩ := nums_trod (k := .u8) (by kernel_rfl) (by kernel_rfl : Tryz.prog.underlying 5 = some (.int .u8)) (by kernel_rfl) u2
        exact ⟨([v], xs), fun _ => ⟨u1, ⟨v, rfl, r1⟩, fun y hy => by have := int_wf (r2 y hy); exact ⟨this.1, Int.lt_of_le_of_lt this.2 (by decide)⟩⟩⟩
      · exact ⟨([], []), fun h => absurd h hi⟩
    obtain ⟨p, hp⟩ := Classical.axiomOfChoice hex
    obtain ⟨cs', h1, h2⟩ := row_of_cells (css := fun i => (p i).1) (by omega : 0 < 1) hlc (fun i hi => (hp i hi).1)
    refine ⟨_, (List.range len).map fun i => (p i).2, e6, ⟨cs', by rw [List.length_map, List.length_range]; exact h1, fun i t ht => ?_⟩, fun t ht => ?_⟩
    · rw [List.getElem?_map] at ht
      obtain ⟨j, hj, rfl⟩ := Option.map_eq_some_iff.1 ht
      have hj2 := (List.getElem?_eq_some_iff.1 hj).1
      rw [List.length_range] at hj2
      rw [List.getElem?_range hj2] at hj
      cases hj
      show (Sh.ints .u8).rep (heapOf w) (chunk cs' 1 i) _
      rw [h2 i hj2]
      exact (hp i hj2).2.1
    · obtain ⟨i, hi, rfl⟩ := List.mem_map.1 ht
      rw [List.mem_range] at hi
      exact (hp i hi).2.2
theorem open_reply {H : Type} {enc : TypeId × Value → H} {w : World} {r : Reach} {b0 base : Nat} {held : Bool} {v : Value} {d : DataW H} {p : List MemPlace}
    (hv : Value.okWide Tryz.prog w r b0 62 v) (h : DataW.Trod enc Tryz.prog w base (fun _ => true) held 62 v d p) :
    ∃ (a : Reply) (pv : Value), v = .agg #[.int .u64 a.num, .int .i64 a.code, .int .u32 a.handle, pv] ∧ RowS (Sh.ints .u8) (heapOf w) pv a.parts ∧ a.Wf := by
  obtain ⟨cs0, rfl, -⟩ := okWide_struct under62 hv
  obtain ⟨fuel, hf0⟩ := h
  obtain ⟨xs, n, -, -, hl, hlen, hf⟩ := DataW.trod_struct under62 hf0
  have c62 : Tryz.prog.cellsOf 62 = 4 := by kernel_rfl
  have c24 : Tryz.prog.cellsOf 24 = 1 := by kernel_rfl
  have c3 : Tryz.prog.cellsOf 3 = 1 := by kernel_rfl
  have c28 : Tryz.prog.cellsOf 28 = 1 := by kernel_rfl
  have c60 : Tryz.prog.cellsOf 60 = 1 := by kernel_rfl
  rw [c62] at hl
  have hcs : ∃ cs, (Value.agg cs0).cells.toList = cs := ⟨_, rfl⟩
  obtain ⟨cs, hcs⟩ := hcs
  rw [hcs] at hl hf
  match cs, hl, xs, hlen with
  | [q0, q1, q2, q3], _, [y0, y1, y2, y3], _ =>
    have g0 := hf 0 (sfld "Num" 24 0 0) rfl
    have g1 := hf 1 (sfld "Code" 3 1 8) rfl
    have g2 := hf 2 (sfld "Handle" 28 2 16) rfl
    have g3 := hf 3 (sfld "Parts" 60 3 24) rfl
    simp only [sfld, c24, c3, c28, c60, List.drop_zero, List.drop_succ_cons, List.take_succ_cons, List.take_zero, List.getElem?_cons_zero, List.getElem?_cons_succ] at g0 g1 g2 g3
    obtain ⟨k, e0, -, w0⟩ := DataW.trod_int (k := .u64) (by kernel_rfl) g0
    obtain ⟨n', e1, -, w1⟩ := DataW.trod_int (k := .i64) (by kernel_rfl) g1
    obtain ⟨m, e2, -, w2⟩ := DataW.trod_int (k := .u32) (by kernel_rfl) g2
    obtain ⟨pv, ts, e3, r3, w3⟩ := rows_trod g3
    simp only [List.cons.injEq, and_true] at e0 e1 e2 e3
    subst e0; subst e1; subst e2; subst e3
    refine ⟨⟨k, n', m, ts⟩, q3, ?_, r3, ⟨?_, int_wf w1, ?_, w3⟩⟩
    · congr 1
      apply Array.toList_inj.1
      exact hcs
    · have := int_wf w0; exact ⟨this.1, Int.lt_of_le_of_lt this.2 (by decide)⟩
    · have := int_wf w2; exact ⟨this.1, Int.lt_of_le_of_lt this.2 (by decide)⟩
end Go.Proofs.YthldgjbmjgjogaaGreatDoor
