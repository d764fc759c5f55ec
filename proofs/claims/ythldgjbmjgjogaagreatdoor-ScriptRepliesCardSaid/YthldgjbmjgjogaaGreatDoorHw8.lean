import Derived.Test.YthldgjbmjgjogaaGreatDoorHw7
import Derived.ProofKit
import Derived.Carry
import Derived.Lib.SmallJoins
namespace Go.HW
open Go Go.RowKit Go.ChangeShapes Go.WideShapes Go.ChangeAt Go.Joins Go.Deep

/-! ### the frame of a law's row -/
section
variable {H : Type} {enc : TypeId × Value → H} {P : Program}

theorem all_stays (hl : laidOutB P = true) {W W' : World} (hb : Below W.heap.size W W') {sp : Nat → Bool} :
    ∀ {ts : List TypeId} {vs : List Value} {ds : List (DataW H)} {ps : List MemPlace}, (ts.all fun t => P.readableRec t && Nat.blt t P.types.size) = true → (∀ p ∈ ps, p.block < W.heap.size) → (∀ p ∈ ps, sp p.block = true) →
      DataW.TrodAll enc P W 0 (fun _ => true) true ts vs ds ps → DataW.TrodAll enc P W' 0 sp true ts vs ds ps
  | [], vs, ds, ps, _, _, _, h => by
    obtain ⟨rfl, rfl, rfl⟩ := trodAll_nil h
    exact trodAll_mk0
  | t :: ts, vs, ds, ps, ht, hlt, hs, h => by
    obtain ⟨v, vs1, d, ds1, a, b, rfl, rfl, rfl, h1, h2⟩ := trodAll_cons h
    rw [List.all_cons, Bool.and_eq_true, Bool.and_eq_true] at ht
    refine ⟨a, b, WideElems.Trod_stays hl ht.1.1 (by simpa [Nat.blt_eq] using ht.1.2) h1 (fun x hx => hb.same (hlt x (by simp [hx]))) (fun x hx => hs x (by simp [hx])), ?_, rfl⟩
    exact all_stays hl hb ht.2 (fun x hx => hlt x (by simp [hx])) (fun x hx => hs x (by simp [hx])) h2

theorem post_law {fn : Func} {s : ChangeSpec} {W W' : World} {args : Array Value} {ds gs : List (DataW H)} {before : List MemPlace} {t : TypeId} {handsOn : Bool} (hl : laidOutB P = true)
    (hW : DataW.Whole enc P fn.params.toList s.vars false W args.toList ds gs before) (hv : s.vars = []) (hts : (fn.params.toList.all fun t => P.readableRec t && Nat.blt t P.types.size) = true)
    (hr : fn.resultTypes = #[t]) (ht : P.underlying t = some .bool) (hs : s.fn H ds = { results := [.lit (.bool true)], args := ds }) (hb : Below W.heap.size W W') :
    s.post enc P fn false true handsOn false W args (.bool true) W' := by
  have hlt := hW.lt
  have hW1 := hW
  obtain ⟨p, q, hA, hV, rfl, _, _⟩ := hW1
  rw [hv] at hV
  obtain ⟨rfl, rfl⟩ := trodVars_none hV
  have hs' : s.fn H (ds ++ []) = { results := [.lit (.bool true)], args := ds } := by rw [List.append_nil]; exact hs
  refine ⟨ds, [], p ++ [], [], p, [], hW, ?_, ?_, ?_, hb.frame _, fun h => by cases h⟩
  · rw [hs', hr]
    exact trodAll_mk1 (shut_bool ht true)
  · rw [hs']
    exact all_stays hl hb hts (fun x hx => hlt x (by simp [hx])) (fun x hx => by simpa using hlt x (by simp [hx])) hA
  · rw [hs', hv]
    rfl

theorem int_wf {k : IntKind} {n : Int} (h : (Lit.int k n).wf = true) : k.min ≤ n ∧ n ≤ k.max := by
  simpa [Lit.wf] using h

end
end Go.HW
