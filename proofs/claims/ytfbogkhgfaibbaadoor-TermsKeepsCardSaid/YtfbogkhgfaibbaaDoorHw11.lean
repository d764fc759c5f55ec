import Derived.Test.YtfbogkhgfaibbaaDoorHw10
namespace Go.HW
open Go Go.RowKit
set_option linter.unusedVariables false
set_option linter.unusedSimpArgs false

/-! ### maps by numbers -/
/-- Entries by numbers: key, value, in the order of their making. -/
def ments (k : IntKind) (n : Nat) : List (Int × Value) → List MapEntry
  | [] => []
  | (a, v) :: r => { key := .int k a, val := v, born := n } :: ments k (n + 1) r
/-- A map's block. -/
def mobj (k : IntKind) (l : List (Int × Value)) : Obj := .map (ments k 0 l).toArray l.length
def mfind (a : Int) : List (Int × Value) → Option Value
  | [] => none
  | (b, v) :: r => if a == b then some v else mfind a r
theorem ments_append (k : IntKind) : ∀ (l : List (Int × Value)) (n : Nat) (a : Int) (v : Value), ments k n (l ++ [(a, v)]) = ments k n l ++ [{ key := .int k a, val := v, born := n + l.length }]
  | [], n, a, v => by simp [ments]
  | (b, u) :: l, n, a, v => by simp [ments, ments_append k l (n + 1) a v]; omega
theorem findNow_ments (k : IntKind) (a : Int) : ∀ (l : List (Int × Value)) (n i : Nat), ∃ r, Instr.findNow (.int k) (.int k a) (ments k n l) i = some r ∧ r.map (·.2) = mfind a l
  | [], n, i => ⟨none, rfl, rfl⟩
  | (b, u) :: l, n, i => by
    obtain ⟨r, h1, h2⟩ := findNow_ments k a l (n + 1) (i + 1)
    cases h : (a == b) with
    | true => exact ⟨some (i, u), by simp [ments, Instr.findNow, Instr.sameNow, h], by simp [mfind, h]⟩
    | false => exact ⟨r, by simpa [ments, Instr.findNow, Instr.sameNow, h] using h1, by simpa [mfind, h] using h2⟩
section
variable {Kc : Act → World → Prop} {P : Program} {o : Oper} {S : Slots} {w0 : World} {I : Nat → Option Obj} {H : Heap}
theorem run_findKey_int {t : TypeId} {k : IntKind} (hu : ∀ w, (underlying t).run P w = .ok (.int k) w) (a : Int) (l : List (Int × Value)) (w : World) : ∃ r, (Instr.findKey t (.int k a) (ments k 0 l)).run P w = .ok r w ∧ r.map (·.2) = mfind a l := by
  obtain ⟨r, h1, h2⟩ := findNow_ments k a l 0 0
  refine ⟨r, ?_, h2⟩
  unfold Instr.findKey
  refine (run_of_bind (hu w)).trans ?_
  rw [h1]; rfl
theorem run_checkKey_int {t : TypeId} {k : IntKind} (hu : ∀ w, (underlying t).run P w = .ok (.int k) w) (a : Int) (e : Bool) (w : World) : (Instr.checkKey e 10000 t (.int k a)).run P w = .ok () w := by
  unfold Instr.checkKey
  exact (run_of_bind (hu w)).trans rfl
theorem f_makeMap {t : TypeId} {k : IntKind} (ho : o.op = .makeMap t none) : FNew P o S (mobj k []) (fun b => .map (some b)) := fun ρ hρ w => by
  simp only [execOp, ho]
  rfl
theorem run_getObj {r : Nat} {es : Array MapEntry} {c : Nat} {w : World} (h : w.heap[r]? = some (.map es c)) : (getObj r).run P w = .ok (.map es c) w := by
  simp [getObj, Sem.run, h]
theorem f_lookup {t kt e : TypeId} {k : IntKind} {x y : Operand} {b j : Nat} {a : Int} {l : List (Int × Value)} {z : Value} (hm : ∀ w, (underlying t).run P w = .ok (.map kt e) w) (hk : ∀ w, (underlying kt).run P w = .ok (.int k) w) (hz : ∀ w, (zeroValue e).run P w = .ok z w)
    (hH : H[j]? = some (some b, mobj k l)) (ho : o.op = .lookup t x y false) (hx : ev S x = some (.map (some b))) (hy : ev S y = some (.int k a)) : FQuiet P o w0 I S H ((mfind a l).getD z) := fun ρ hρ w hc => .inl (by
  simp only [execOp, ho, hρ _ _ hx, hρ _ _ hy]
  refine val_run ?_
  have hb := hc.own b _ (List.mem_of_getElem? hH)
  obtain ⟨r, h1, h2⟩ := run_findKey_int (P := P) hk a l w
  unfold Instr.lookup
  refine (run_of_bind (hm w)).trans ?_
  refine (run_of_bind (run_getObj hb)).trans ?_
  refine (run_of_bind (x := Pure.pure (ments k 0 l).toArray) (a := (ments k 0 l).toArray) (w' := w) rfl).trans ?_
  refine (run_of_bind (run_checkKey_int hk a _ w)).trans ?_
  refine (run_of_bind h1).trans ?_
  rw [← h2]
  cases r with
  | none => exact (run_of_bind (hz w)).trans rfl
  | some p => rfl)
theorem run_setObj {r : Nat} {es es' : Array MapEntry} {c c' : Nat} {w : World} (h : w.heap[r]? = some (.map es c)) : ∃ w', (setObj r (.map es' c')).run P w = .ok () w' ∧ w'.os = w.os ∧ w'.tape = w.tape ∧ w'.output = w.output ∧ w'.heap.size = w.heap.size ∧ w'.heap[r]? = some (.map es' c') ∧ ∀ d, d ≠ r → w'.heap[d]? = w.heap[d]? := by
  have hlt := lt_of_get h
  refine ⟨{ w with heap := w.heap.setIfInBounds r (.map es' c') }, ?_, rfl, rfl, rfl, ?_, ?_, ?_⟩
  · simp only [setObj, Sem.run, h]
  · simp
  · simp [hlt]
  · intro d hd
    simp [Array.getElem?_setIfInBounds, Ne.symm hd]
/-- A new key. -/
theorem f_insert {t kt e : TypeId} {k : IntKind} {x y z : Operand} {b j : Nat} {a : Int} {v : Value} {l : List (Int × Value)} (hm : ∀ w, (underlying t).run P w = .ok (.map kt e) w) (hk : ∀ w, (underlying kt).run P w = .ok (.int k) w)
    (hH : H[j]? = some (some b, mobj k l)) (hnew : mfind a l = none) (ho : o.op = .insert t x y z) (hx : ev S x = some (.map (some b))) (hy : ev S y = some (.int k a)) (hz : ev S z = some v) : FPut P o w0 I S H (H.set j (some b, mobj k (l ++ [(a, v)]))) := fun ρ hρ w hc => by
  simp only [execOp, ho, hρ _ _ hx, hρ _ _ hy, hρ _ _ hz]
  have hb := hc.own b _ (List.mem_of_getElem? hH)
  obtain ⟨r, h1, h2⟩ := run_findKey_int (P := P) hk a l w
  rw [hnew] at h2
  have hr : r = none := by cases r with
    | none => rfl
    | some p => cases h2
  subst hr
  obtain ⟨w', g1, g2, g3, g4, g5, g6, g7⟩ := run_setObj (P := P) (es' := (ments k 0 l).toArray.push { key := .int k a, val := v, born := l.length }) (c' := l.length + 1) hb
  refine ⟨w', ?_, ?_⟩
  · refine (run_of_bind (a := ()) (w' := w') ?_).trans rfl
    unfold Instr.mapUpdate
    refine (run_of_bind (hm w)).trans ?_
    refine (run_of_bind (run_getObj hb)).trans ?_
    refine (run_of_bind (run_checkKey_int hk a _ w)).trans ?_
    exact (run_of_bind h1).trans g1
  · refine hc.setObj hH g2 g3 g4 g5 ?_ g7
    rw [g6]
    simp [mobj, ments_append]

/-! ### what a call hands out, with its blocks -/
theorem Cls.moreH {w w' : World} (hc : Cls w0 I H w) (hb : Below w.heap.size w w') {E : Heap} (hE : ∀ b o, (some b, o) ∈ E → w.heap.size ≤ b ∧ w'.heap[b]? = some o) (hn : (E.filterMap Prod.fst).Nodup) : Cls w0 I (E ++ H) w' := by
  have h1 := hc.below hb
  refine ⟨h1.os, h1.tape, h1.output, h1.size, h1.imm, fun c u hm => ?_, fun c u hm => ?_, ?_⟩
  · rcases List.mem_append.1 hm with hm | hm
    · exact (hE c u hm).2
    · exact h1.own c u hm
  · rcases List.mem_append.1 hm with hm | hm
    · cases hI : I c with
      | none => rfl
      | some z => have := lt_of_get (hc.imm c z hI); have := (hE c u hm).1; omega
    · exact h1.disj c u hm
  · rw [List.filterMap_append, List.nodup_append]
    refine ⟨hn, h1.nodup, fun a ha b hb e => ?_⟩
    subst e
    obtain ⟨u, hu⟩ := mem_ids.1 ha
    obtain ⟨z, hz⟩ := mem_ids.1 hb
    have := (hE a u hu).1
    have := lt_of_get (hc.own a z hz)
    omega
/-- A call of a closure, by value. -/
theorem f_callV {v : Value} {cl : Call} {f : Operand} {g : FuncId} {caps args all : Array Value} (he : args ++ caps = all) (ho : o.op = .call cl) (hcal : cl.callee = .value f) (hf : ev S f = some (.func (.func g) #[] caps)) (hargs : ∀ ρ, Val S ρ → cl.args.map ρ = args)
    (hbody : ∀ w, (callFunc g all).run P w = .ok (.enter g all) w) (hc : ∀ w, Cls w0 I H w → Calls P g all w fun e w' => e = .returned v ∧ Below w.heap.size w w') : FQuiet P o w0 I S H v := fun ρ hρ w hcl => .inr ⟨g, all, by
  subst he
  simp only [execOp, ho, resolve, hcal, hargs ρ hρ]
  rw [hρ _ _ hf]
  show (callFunc g (#[] ++ args ++ caps)).run P w = _
  simpa using hbody w, hc w hcl⟩
variable {R : Ending → World → Prop} {N : Nat} {f : FuncId} {K : List Item} {ops : Array Oper} {lab : Lab} {ids : Nat → Option Nat} {l : List Nat} {i d : Nat}
theorem p_makeFunc {fn : Fn} {cs : Array Operand} {caps : Array Value} (ho : o.op = .makeFunc fn #[] cs) (hc : ∀ ρ, Val S ρ → cs.map ρ = caps) : FPure P o S (.func fn #[] caps) := fun ρ hρ w => by
  simp only [execOp, ho, hc ρ hρ]
  refine val_run (v := .func fn #[] caps) ?_
  simp [Instr.makeFunc]
theorem i_loadBox {t t' : TypeId} {x : Operand} {b : Nat} {c : Array Value} {v : Value} {z : Nat × Nat} (hb : I b = some (.cells c t' z)) (hv : c[0]? = some v) (ha : ∀ w, (isAgg t).run P w = .ok false w) (ho : o.op = .load t x) (hx : ev S x = some (ptr b 0)) : FImm P o I S v := fun ρ hρ w hi => by
  simp only [execOp, ho, hρ _ _ hx]
  refine val_run ?_
  show ((isAgg t).bind _).run P w = _
  rw [run_of_bind (ha w)]
  exact run_load (by rw [cell_of (hi b _ hb), hv])
theorem box_own {b i : Nat} {ob : Obj} {w : World} (hc : Cls w0 I H w) (hH : H[i]? = some (some b, ob)) : heapOf w b = some ob := hc.own b _ (List.mem_of_getElem? hH)
end
end Go.HW
