import Derived.Test.YtjhknfpociahoaaDoorDerOpenD
namespace Go.Proofs.YtjhknfpociahoaaDoor
open Go Go.HW Go.RowKit Go.ChangeShapes Go.WideShapes Go.ChangeAt Go.Lib Go.Shelf
set_option linter.unusedVariables false
theorem trodAll_six {H : Type} {enc : TypeId × Value → H} {P : Program} {w : World} {base : Nat} {spare : Nat → Bool} {held : Bool} {t0 t1 t2 t3 t4 t5 : TypeId} {args : Array Value} {ds : List (DataW H)} {ps : List MemPlace} (h : DataW.TrodAll enc P w base spare held [t0, t1, t2, t3, t4, t5] args.toList ds ps) :
    ∃ v0 v1 v2 v3 v4 v5 d0 d1 d2 d3 d4 d5 p0 p1 p2 p3 p4 p5, args = #[v0, v1, v2, v3, v4, v5] ∧ ds = [d0, d1, d2, d3, d4, d5] ∧ ps = p0 ++ p1 ++ p2 ++ p3 ++ p4 ++ p5 ∧ DataW.Trod enc P w base spare held t0 v0 d0 p0 ∧ DataW.Trod enc P w base spare held t1 v1 d1 p1 ∧ DataW.Trod enc P w base spare held t2 v2 d2 p2 ∧ DataW.Trod enc P w base spare held t3 v3 d3 p3 ∧ DataW.Trod enc P w base spare held t4 v4 d4 p4 ∧ DataW.Trod enc P w base spare held t5 v5 d5 p5 := by
  obtain ⟨v0, w0, d0, e0, p0, q0, hargs, rfl, rfl, g0, r0⟩ := trodAll_cons h
  obtain ⟨v1, w1, d1, e1, p1, q1, rfl, rfl, rfl, g1, r1⟩ := trodAll_cons r0
  obtain ⟨v2, w2, d2, e2, p2, q2, rfl, rfl, rfl, g2, r2⟩ := trodAll_cons r1
  obtain ⟨v3, w3, d3, e3, p3, q3, rfl, rfl, rfl, g3, r3⟩ := trodAll_cons r2
  obtain ⟨v4, w4, d4, e4, p4, q4, rfl, rfl, rfl, g4, r4⟩ := trodAll_cons r3
  obtain ⟨v5, w5, d5, e5, p5, q5, rfl, rfl, rfl, g5, r5⟩ := trodAll_cons r4
  obtain ⟨rfl, rfl, rfl⟩ := trodAll_nil r5
  exact ⟨v0, v1, v2, v3, v4, v5, d0, d1, d2, d3, d4, d5, p0, p1, p2, p3, p4, p5, by cases args; simp_all, rfl, by simp, g0, g1, g2, g3, g4, g5⟩
theorem under56 : Tryd.prog.underlying 56 = some (.array 2 27) := by kernel_rfl
theorem open_two {H : Type} {enc : TypeId × Value → H} {w : World} {r : Reach} {b0 base : Nat} {held : Bool} {v : Value} {d : DataW H} {p : List MemPlace}
    (hv : Value.okWide Tryd.prog w r b0 56 v) (h : DataW.Trod enc Tryd.prog w base (fun _ => true) held 56 v d p) :
    ∃ (t u : Der) (b a k b2 a2 k2 : Value), v = .agg #[.int .i64 (Der.kind t), .bool (Der.flag t), .int .i64 (Der.num t), b, str (Der.text t), a, k, .int .i64 (Der.kind u), .bool (Der.flag u), .int .i64 (Der.num u), b2, str (Der.text u), a2, k2] ∧ (IntRow (heapOf w) .u8 b (Der.bytes t) ∧ IntRow (heapOf w) .u64 a (Der.arcs t) ∧ RowS ShDer (heapOf w) k (Tree.kids t) ∧ DOk t) ∧
      IntRow (heapOf w) .u8 b2 (Der.bytes u) ∧ IntRow (heapOf w) .u64 a2 (Der.arcs u) ∧ RowS ShDer (heapOf w) k2 (Tree.kids u) ∧ DOk u := by
  simp only [Value.okWide, under56] at hv
  obtain ⟨cs, rfl, hsz, -⟩ := hv
  obtain ⟨fuel, hf⟩ := h
  have c27 : Tryd.prog.cellsOf 27 = 7 := by kernel_rfl
  have c56 : Tryd.prog.cellsOf 56 = 14 := by kernel_rfl
  rw [c56] at hsz
  obtain ⟨ys, m, -, -, -, hl, hall⟩ := DataW.trod_array under56 hf
  have h0 := hall 0 (by omega)
  have h1 := hall 1 (by omega)
  rw [List.getElem?_eq_getElem (by omega), c27] at h0 h1
  obtain ⟨t, r0, o0⟩ := open_der_cells _ _ _ h0
  obtain ⟨u, r1, o1⟩ := open_der_cells _ _ _ h1
  obtain ⟨b, a, k, e0, f1, f2, f3⟩ := Der.op r0
  obtain ⟨b2, a2, k2, e1, g1, g2, g3⟩ := Der.op r1
  refine ⟨t, u, b, a, k, b2, a2, k2, ?_, ⟨f1, f2, f3, o0⟩, g1, g2, g3, o1⟩
  congr 1
  apply Array.toList_inj.1
  simp only [Value.cells, Nat.zero_mul, List.drop_zero, Nat.one_mul] at e0 e1
  have e2 : cs.toList = cs.toList.take 7 ++ (cs.toList.drop 7).take 7 := by
    rw [List.take_of_length_le (l := cs.toList.drop 7) (by simp; omega), List.take_append_drop]
  rw [e2, e0, e1]
  rfl
theorem open_text {P : Program} {w : World} {r : Reach} {b0 : Nat} {ty : TypeId} {v : Value} (ht : P.underlying ty = some .string) (hv : Value.okWide P w r b0 ty v) : ∃ s : List UInt8, v = str s := by
  obtain ⟨s, rfl⟩ := okWide_string ht hv
  exact ⟨s.data.toList, str_of s⟩
theorem open_arcs {H : Type} {enc : TypeId × Value → H} {w : World} {r : Reach} {b0 base : Nat} {held : Bool} {v : Value} {d : DataW H} {p : List MemPlace}
    (hv : Value.okWide Tryd.prog w r b0 24 v) (h : DataW.Trod enc Tryd.prog w base (fun _ => true) held 24 v d p) : ∃ xs : List Int, IntRow (heapOf w) .u64 v xs ∧ U64L xs := by
  obtain ⟨xs, h1, h2⟩ := open_nums (by kernel_rfl) (by kernel_rfl : Tryd.prog.underlying 50 = some (.int .u64)) (by kernel_rfl) hv h
  exact ⟨xs, h1, fun x hx => int_wf (h2 x hx)⟩
end Go.Proofs.YtjhknfpociahoaaDoor
