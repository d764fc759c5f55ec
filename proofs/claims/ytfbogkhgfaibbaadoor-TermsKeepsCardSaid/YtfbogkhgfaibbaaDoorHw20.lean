import Derived.Test.YtfbogkhgfaibbaaDoorHw19
namespace Go.HW
open Go Go.RowKit
set_option linter.unusedVariables false
theorem splice_get : ∀ (vs : List Value) (c : Array Value) (off m : Nat), off + vs.length ≤ c.size → (splice c off vs)[m]? = if off ≤ m ∧ m < off + vs.length then vs[m - off]? else c[m]?
  | [], c, off, m, _ => by simp [splice]; omega
  | v :: vs, c, off, m, h => by
    simp only [List.length_cons] at h ⊢
    show (splice (c.setIfInBounds off v) (off + 1) vs)[m]? = _
    rw [splice_get vs _ (off + 1) m (by simp; omega)]
    by_cases h1 : off + 1 ≤ m ∧ m < off + 1 + vs.length
    · rw [if_pos h1, if_pos (by omega), show m - off = (m - (off + 1)) + 1 by omega, List.getElem?_cons_succ]
    · rw [if_neg h1]
      by_cases h2 : m = off
      · subst h2
        rw [if_pos (by omega), Nat.sub_self, List.getElem?_cons_zero, Array.getElem?_setIfInBounds_self_of_lt (by omega)]
      · rw [if_neg (by omega), Array.getElem?_setIfInBounds_ne (Ne.symm h2)]
/-- an element of an own row is turned -/
theorem OwnS.set {α : Type} {s : Shape α} {M : Mem} {v : Value} {cur : Array Value} {xs : List α} (h : OwnS s M v cur xs) {i : Nat} (hi : i < xs.length) {vs : List Value} {y : α} (hy : s.rep M vs y) (hl : vs.length = s.n) : OwnS s M v (splice cur (i * s.n) vs) (xs.set i y) := by
  obtain ⟨cs, ⟨h1, h2⟩, h3⟩ := h
  rcases h2 with ⟨rfl, h2⟩ | ⟨g, cap, rfl, k1, k2, k3, k4⟩
  · omega
  · have hle : (i + 1) * s.n ≤ xs.length * s.n := Nat.mul_le_mul_right _ hi
    have hle2 : xs.length * s.n ≤ cap * s.n := Nat.mul_le_mul_right _ k1
    rw [Nat.add_mul, Nat.one_mul] at hle
    refine ⟨(splice cur (i * s.n) vs).toList.take (xs.length * s.n), ⟨?_, .inr ⟨g, cap, by rw [List.length_set], by rw [List.length_set]; exact k1, k2, by rw [splice_size]; exact k3, by rw [List.length_set]⟩⟩, fun k x hx => ?_⟩
    · have e0 : (splice cur (i * s.n) vs).toList.length = cap * s.n := by rw [Array.length_toList, splice_size, k3]
      rw [List.length_set, List.length_take, e0]; omega
    · have hk : k < xs.length := by
        have := (List.getElem?_eq_some_iff.1 hx).1
        rwa [List.length_set] at this
      have hkl : (k + 1) * s.n ≤ xs.length * s.n := Nat.mul_le_mul_right _ hk
      rw [Nat.add_mul, Nat.one_mul] at hkl
      have e : ∀ m, (chunk ((splice cur (i * s.n) vs).toList.take (xs.length * s.n)) s.n k)[m]? = if k = i then vs[m]? else (chunk cs s.n k)[m]? := fun m => by
        unfold chunk
        by_cases hm : m < s.n
        · rw [List.getElem?_take_of_lt hm, List.getElem?_drop, List.getElem?_take_of_lt (by omega), Array.getElem?_toList, splice_get _ _ _ _ (by omega)]
          by_cases hki : k = i
          · subst hki
            rw [if_pos (by omega), if_pos rfl]; congr 1; omega
          · rw [if_neg hki, List.getElem?_take_of_lt hm, List.getElem?_drop, ← k4, List.getElem?_take_of_lt (by omega)]
            rcases Nat.lt_or_ge k i with hlt | hge
            · have : (k + 1) * s.n ≤ i * s.n := Nat.mul_le_mul_right _ hlt
              rw [Nat.add_mul, Nat.one_mul] at this
              rw [if_neg (by omega)]; exact Array.getElem?_toList.symm
            · have : (i + 1) * s.n ≤ k * s.n := Nat.mul_le_mul_right _ (by omega)
              rw [Nat.add_mul, Nat.one_mul] at this
              rw [if_neg (by omega)]; exact Array.getElem?_toList.symm
        · rw [List.getElem?_take_eq_none (by omega)]
          split
          · rw [List.getElem?_eq_none (by omega)]
          · rw [List.getElem?_take_eq_none (by omega)]
      by_cases hki : k = i
      · subst hki
        have e2 : chunk ((splice cur (k * s.n) vs).toList.take (xs.length * s.n)) s.n k = vs := List.ext_getElem? fun m => by rw [e m, if_pos rfl]
        rw [e2]
        rw [List.getElem?_set_self hi] at hx
        cases hx; exact hy
      · have e2 : chunk ((splice cur (i * s.n) vs).toList.take (xs.length * s.n)) s.n k = chunk cs s.n k := List.ext_getElem? fun m => by rw [e m, if_neg hki]
        rw [e2]
        rw [List.getElem?_set_ne (Ne.symm hki)] at hx
        exact h3 k x hx
/-- a store into an own row, whose block has a number -/
theorem keep_setO {H : Heap} {lab : Lab} {ids : Nat → Option Nat} {i j y : Nat} {q : Option Nat} {o1 o2 : Obj} (hinj : ∀ z y b, ids z = some b → ids y = some b → z = y) (h : (lab i).2 = some y) (hb : ids y = q) (hj : H[j]? = some (q, o1)) : ∀ x, (lab i).2 = some x → ∀ z c ob, z ≠ x → ids z = some c → (some c, ob) ∈ H → (some c, ob) ∈ H.set j (q, o2) := by
  cases q with
  | some b => exact keep_set hinj h hb hj
  | none =>
    intro x hx z c ob hz hc hm
    obtain ⟨k, hk⟩ := List.mem_iff_getElem?.1 hm
    by_cases hjk : j = k
    · subst hjk; rw [hj] at hk; cases hk
    · exact List.mem_of_getElem? (by rw [List.getElem?_set_ne hjk]; exact hk)
theorem add_add (a : Addr) (j n : Nat) : (a.add j).add n = a.add (j + n) := by
  unfold Addr.add
  by_cases hn : n = 0
  · subst hn; simp
  · by_cases hj : j = 0
    · subst hj; simp
    · rw [if_neg hn, if_neg hj, if_neg (by omega)]; simp [Nat.add_assoc]
/-- a field of an element -/
theorem p_fieldAddrE {P : Program} {o : Oper} {S : Slots} {t : TypeId} {x : Operand} {f j n m : Nat} {v : Value} (hv : ∃ a c, v = .slice (some a) m c) (hf : ∀ a w, (Instr.fieldAt t (.pointer (some a)) f).run P w = .ok (.pointer (some (a.add n))) w) (ho : o.op = .fieldAddr t x f) (hx : ev S x = some (elp v j)) : FPure P o S (elp v (j + n)) := fun ρ hρ w => by
  obtain ⟨a, c, rfl⟩ := hv
  simp only [execOp, ho, hρ _ _ hx]
  refine val_run ?_
  show (Instr.fieldAt t (.pointer (some (a.add j))) f).run P w = _
  rw [hf, add_add]; rfl
end Go.HW
