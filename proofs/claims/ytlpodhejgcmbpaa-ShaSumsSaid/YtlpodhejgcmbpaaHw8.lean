import Derived.Test.YtlpodhejgcmbpaaHw7
import Derived.ProofKit
import Derived.Carry
import Derived.Lib.SmallJoins
namespace Go.HW
open Go Go.RowKit Go.ChangeShapes Go.WideShapes Go.ChangeAt Go.Joins Go.Deep

/-! ### the frame of a law's row -/
section
variable {H : Type} {enc : TypeId × Value → H} {P : Program}

theorem all_stays (hl : laidOutB P = true) {W W' : World} (hb : Below W.heap.size W W') {sp : Nat → Bool} :
    ∀ {ts : List TypeId} {vs : List Value} {ds : List (DataW H)} {ps : List MemPlace}, (ts.all fun t => P.readableRec t && Nat.blt t P.types.size) = true → (∀ p ∈ ps, p.block < W.heap.size) → (∀ p ∈ ps, sp p.block = true) →
      DataW.TrodAll enc P W 0 (fun _ => true) true ts vs ds ps → DataW.TrodAll enc P W' 0 sp true ts vs ds ps
  | [], vs, ds, ps, _, _, _, h => by
    obtain ⟨rfl, rfl, rfl⟩ := trodAll_nil h
    exact trodAll_mk0
  | t :: ts, vs, ds, ps, ht, hlt, hs, h => by
    obtain ⟨v, vs1, d, ds1, a, b, rfl, rfl, rfl, h1, h2⟩ := trodAll_cons h
    rw [List.all_cons, Bool.and_eq_true, Bool.and_eq_true] at ht
    refine ⟨a, b, WideElems.Trod_stays hl ht.1.1 (by simpa [Nat.blt_eq] using ht.1.2) h1 (fun x hx => hb.same (hlt x (by simp [hx]))) (fun x hx => hs x (by simp [hx])), ?_, rfl⟩
    exact all_stays hl hb ht.2 (fun x hx => hlt x (by simp [hx])) (fun x hx => hs x (by simp [hx])) h2

theorem post_law {fn : Func} {s : ChangeSpec} {W W' : World} {args : Array Value} {ds gs : List (DataW H)} {before : List MemPlace} {t : TypeId} {handsOn : Bool} (hl : laidOutB P = true)
    (hW : DataW.Whole enc P fn.params.toList s.vars false W args.toList ds gs before) (hv : s.vars = []) (hts : (fn.params.toList.all fun t => P.readableRec t && Nat.blt t P.types.size) = true)
    (hr : fn.resultTypes = #[t]) (ht : P.underlying t = some .bool) (hs : s.fn H ds = { results := [.lit (.bool true)], args := ds }) (hb : Below W.heap.size W W') :
    s.post enc P fn false true handsOn false W args (.bool true) W' := by
  have hlt := hW.lt
  have hW1 := hW
  obtain ⟨p, q, hA, hV, rfl, _, _⟩ := hW1
  rw [hv] at hV
  obtain ⟨rfl, rfl⟩ := trodVars_none hV
  have hs' : s.fn H (ds ++ []) = { results := [.lit (.bool true)], args := ds } := by rw [List.append_nil]; exact hs
  refine ⟨ds, [], p ++ [], [], p, [], hW, ?_, ?_, ?_, hb.frame _, fun h => by cases h⟩
  · rw [hs', hr]
    exact trodAll_mk1 (shut_bool ht true)
  · rw [hs']
    exact all_stays hl hb hts (fun x hx => hlt x (by simp [hx])) (fun x hx => by simpa using hlt x (by simp [hx])) hA
  · rw [hs', hv]
    rfl

theorem trodAll_five {spare : Nat → Bool} {held : Bool} {w : World} {base : Nat} {t t' t'' t3 t4 : TypeId} {args : Array Value} {ds : List (DataW H)} {ps : List MemPlace} (h : DataW.TrodAll enc P w base spare held [t, t', t'', t3, t4] args.toList ds ps) :
    ∃ v v' v'' v3 v4 d d' d'' d3 d4 p p' p'' p3 p4, args = #[v, v', v'', v3, v4] ∧ ds = [d, d', d'', d3, d4] ∧ ps = p ++ p' ++ p'' ++ p3 ++ p4 ∧ DataW.Trod enc P w base spare held t v d p ∧ DataW.Trod enc P w base spare held t' v' d' p' ∧ DataW.Trod enc P w base spare held t'' v'' d'' p'' ∧ DataW.Trod enc P w base spare held t3 v3 d3 p3 ∧ DataW.Trod enc P w base spare held t4 v4 d4 p4 := by
  obtain ⟨v, vs, d, ds', p, q, hargs, rfl, rfl, hd, hrest⟩ := trodAll_cons h
  obtain ⟨v', vs', d', ds'', p', q', rfl, rfl, rfl, hd', hrest'⟩ := trodAll_cons hrest
  obtain ⟨v'', vs'', d'', ds''', p'', q'', rfl, rfl, rfl, hd'', hrest''⟩ := trodAll_cons hrest'
  obtain ⟨v3, vs3, d3, ds3, p3, q3, rfl, rfl, rfl, hd3, hrest3⟩ := trodAll_cons hrest''
  obtain ⟨v4, vs4, d4, ds4, p4, q4, rfl, rfl, rfl, hd4, hrest4⟩ := trodAll_cons hrest3
  obtain ⟨rfl, rfl, rfl⟩ := trodAll_nil hrest4
  exact ⟨v, v', v'', v3, v4, d, d', d'', d3, d4, p, p', p'', p3, p4, by cases args; simp_all, rfl, by simp, hd, hd', hd'', hd3, hd4⟩

theorem int_wf {k : IntKind} {n : Int} (h : (Lit.int k n).wf = true) : k.min ≤ n ∧ n ≤ k.max := by
  simpa [Lit.wf] using h

/-- A struct of four numbers of one kind. -/
theorem open_ints4 {spare : Nat → Bool} {held : Bool} {w : World} {base b0 : Nat} {r : Reach} {t : TypeId} {f0 f1 f2 f3 : Field} {v : Value} {d : DataW H} {p : List MemPlace} (k : IntKind) (hs : P.underlying t = some (.struct #[f0, f1, f2, f3])) (hone : oneCellFields P #[f0, f1, f2, f3] = true) (hC : P.cellsOf t = 4)
    (u0 : P.underlying f0.type = some (.int k)) (u1 : P.underlying f1.type = some (.int k)) (u2 : P.underlying f2.type = some (.int k)) (u3 : P.underlying f3.type = some (.int k))
    (hv : Value.okWide P w r b0 t v) (h : DataW.Trod enc P w base spare held t v d p) :
    ∃ x0 x1 x2 x3 : Int, v = .agg #[.int k x0, .int k x1, .int k x2, .int k x3] ∧ (k.min ≤ x0 ∧ x0 ≤ k.max) ∧ (k.min ≤ x1 ∧ x1 ≤ k.max) ∧ (k.min ≤ x2 ∧ x2 ≤ k.max) ∧ k.min ≤ x3 ∧ x3 ≤ k.max := by
  obtain ⟨c0, c1, c2, c3, y0, y1, y2, y3, m, rfl, rfl, rfl, hy0, hy1, hy2, hy3⟩ := open_agg4 hs hone hC hv h
  obtain ⟨x, e0, -, w0⟩ := DataW.trod_int u0 hy0
  obtain ⟨y, e1, -, w1⟩ := DataW.trod_int u1 hy1
  obtain ⟨z, e2, -, w2⟩ := DataW.trod_int u2 hy2
  obtain ⟨u, e3, -, w3⟩ := DataW.trod_int u3 hy3
  simp at e0 e1 e2 e3
  subst e0 e1 e2 e3
  exact ⟨x, y, z, u, rfl, int_wf w0, int_wf w1, int_wf w2, int_wf w3⟩

def intOf : Value → Int
  | .int _ n => n
  | _ => 0
/-- A row of numbers of one kind, by value. -/
theorem open_intArr {spare : Nat → Bool} {held : Bool} {w : World} {base b0 : Nat} {r : Reach} {t e : TypeId} {n : Nat} {v : Value} {d : DataW H} {p : List MemPlace} {k : IntKind} (hu : P.underlying t = some (.array n e)) (he : P.underlying e = some (.int k)) (hce : P.cellsOf e = 1) (hct : P.cellsOf t = n)
    (hv : Value.okWide P w r b0 t v) (h : DataW.Trod enc P w base spare held t v d p) : ∃ xs : List Int, v = .agg (HW.enc k xs) ∧ xs.length = n ∧ ∀ x ∈ xs, k.min ≤ x ∧ x ≤ k.max := by
  simp only [Value.okWide, hu] at hv
  obtain ⟨cs, rfl, hsz, -⟩ := hv
  obtain ⟨fuel, hf⟩ := h
  obtain ⟨ys, m, -, -, -, hl, hall⟩ := DataW.trod_array hu hf
  have hget : ∀ (i : Nat) (hi : i < cs.size), ∃ z : Int, cs[i] = .int k z ∧ k.min ≤ z ∧ z ≤ k.max := fun i hi => by
    have hin : i < n := by rw [← hct, ← hsz]; exact hi
    have h1 := hall i hin
    rw [List.getElem?_eq_getElem (by omega)] at h1
    obtain ⟨z, hz, -, hw⟩ := DataW.trod_int he h1
    refine ⟨z, ?_, int_wf hw⟩
    have h2 : ((cs.toList.drop i).take 1) = [.int k z] := by
      have h3 := hz
      rw [hce, Nat.mul_one] at h3
      simpa [Value.cells] using h3
    have h4 : (cs.toList.drop i)[0]? = some (Value.int k z) := by
      have := congrArg (fun l => l[0]?) h2
      simpa using this
    simpa [hi] using h4
  refine ⟨cs.toList.map intOf, ?_, by simp [hsz, hct], fun x hx => ?_⟩
  · congr 1
    apply Array.ext
    · simp [HW.enc]
    · intro i h1 h2
      obtain ⟨z, hz, -⟩ := hget i h1
      simp [HW.enc, hz, intOf]
  · obtain ⟨u, hu, rfl⟩ := List.mem_map.1 hx
    obtain ⟨i, hi, rfl⟩ := List.getElem_of_mem hu
    obtain ⟨z, hz, hr⟩ := hget i (by simpa using hi)
    simp only [Array.getElem_toList, hz]
    exact hr
end
end Go.HW
