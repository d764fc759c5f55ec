import Derived.Test.YtjhknfpociahoaaDoorHw15
import Derived.Maps.RangeRun
namespace Go.HW
open Go Go.RowKit
set_option linter.unusedVariables false
set_option linter.unusedSimpArgs false

/-! ### going over a map of numbers, in whatever order -/
def mints (k : IntKind) (l : List (Int × Int)) : List (Int × Value) := l.map fun p => (p.1, Value.int k p.2)
/-- What is left of the entries. -/
def remOf (l : List (Int × Int)) (seen : Array Nat) : List (Int × Int) := (l.zipIdx.filter fun p => !seen.contains p.2).map (·.1)
theorem remOf_nil (l : List (Int × Int)) : remOf l #[] = l := by
  unfold remOf
  rw [List.filter_eq_self.2 (fun p _ => by simp)]
  simp
theorem filter_push : ∀ (l : List ((Int × Int) × Nat)) (seen : Array Nat) (i : Nat) (e : Int × Int), (l.map (·.2)).Nodup → (e, i) ∈ l → ¬ i ∈ seen →
    ((e, i) :: l.filter fun p => !(seen.push i).contains p.2).Perm (l.filter fun p => !seen.contains p.2)
  | [], _, _, _, _, h, _ => by cases h
  | (x, j) :: l, seen, i, e, hn, h, hs => by
    simp only [List.map_cons, List.nodup_cons] at hn
    by_cases hij : j = i
    · subst hij
      have hx : x = e := by
        cases h with
        | head => rfl
        | tail _ h => exact absurd (List.mem_map.2 ⟨_, h, rfl⟩) hn.1
      subst hx
      have h1 : (seen.push j).contains j = true := by simp
      have h2 : seen.contains j = false := by simpa using hs
      rw [List.filter_cons, List.filter_cons]
      simp only [h1, h2, Bool.not_true, Bool.not_false, Bool.false_eq_true, if_false, if_true]
      refine List.Perm.cons _ ?_
      have : (l.filter fun p => !(seen.push j).contains p.2) = l.filter fun p => !seen.contains p.2 := by
        refine List.filter_congr fun p hp => ?_
        have hne : p.2 ≠ j := fun hpj => hn.1 (List.mem_map.2 ⟨p, hp, hpj⟩)
        have : (seen.push j).contains p.2 = seen.contains p.2 := by
          rw [Bool.eq_iff_iff]
          simp [hne]
        rw [this]
      rw [this]
    · have hm : (e, i) ∈ l := by
        cases h with
        | head => exact absurd rfl hij
        | tail _ h => exact h
      have ih := filter_push l seen i e hn.2 hm hs
      have hc : (seen.push i).contains j = seen.contains j := by
        rw [Bool.eq_iff_iff]
        simp [hij]
      rw [List.filter_cons, List.filter_cons]
      simp only [hc]
      split
      · exact (List.Perm.swap _ _ _).trans (ih.cons _)
      · exact ih
theorem remOf_push {l : List (Int × Int)} {seen : Array Nat} {i : Nat} {e : Int × Int} (h : l[i]? = some e) (hs : ¬ i ∈ seen) : (e :: remOf l (seen.push i)).Perm (remOf l seen) := by
  unfold remOf
  have hm : (e, i) ∈ l.zipIdx := by
    rw [List.mem_zipIdx_iff_getElem?]; exact h
  have hn : (l.zipIdx.map (·.2)).Nodup := by
    rw [show (l.zipIdx.map (·.2)) = List.range' 0 l.length from by simp [List.zipIdx_map_snd]]
    exact List.nodup_range'
  exact (filter_push l.zipIdx seen i e hn hm hs).map (·.1)
theorem ments_mem {k : IntKind} {e : MapEntry} : ∀ {l : List (Int × Value)} {n : Nat}, e ∈ ments k n l → ∃ i a v, l[i]? = some (a, v) ∧ e = { key := .int k a, val := v, born := n + i }
  | (a, v) :: l, n, h => by
    unfold ments at h
    cases h with
    | head => exact ⟨0, a, v, rfl, rfl⟩
    | tail _ h =>
      obtain ⟨i, b, u, h1, h2⟩ := ments_mem h
      exact ⟨i + 1, b, u, h1, by rw [h2]; congr 1; omega⟩
theorem ments_get {k : IntKind} : ∀ {l : List (Int × Value)} {n i : Nat} {a : Int} {v : Value}, l[i]? = some (a, v) → ({ key := .int k a, val := v, born := n + i } : MapEntry) ∈ ments k n l
  | (b, u) :: l, n, 0, a, v, h => by
    simp only [List.getElem?_cons_zero, Option.some.injEq, Prod.mk.injEq] at h
    obtain ⟨rfl, rfl⟩ := h
    exact List.mem_cons_self
  | (b, u) :: l, n, i + 1, a, v, h => by
    have := ments_get (k := k) (l := l) (n := n + 1) (i := i) (a := a) (v := v) (by simpa using h)
    rw [show n + 1 + i = n + (i + 1) by omega] at this
    exact List.mem_cons_of_mem _ this
theorem ments_born (k : IntKind) : ∀ (l : List (Int × Value)) (n : Nat), (ments k n l).map (·.born) = List.range' n l.length
  | [], n => rfl
  | (a, v) :: l, n => by simp only [ments, List.map_cons, ments_born k l (n + 1), List.length_cons, List.range'_succ]
/-- The iterator's block. -/
def iobj (bm n : Nat) (seen : Array Nat) : Obj := .mapIter (some bm) n seen n

section
variable {P : Program} {o : Oper} {S : Slots} {w0 : World} {I : Mem} {H : Heap} {R : Ending → World → Prop} {N : Nat} {f : FuncId} {K : List Item} {ops : Array Oper} {lab : Lab} {ids : Nat → Option Nat} {l : List Nat} {i d : Nat}
theorem alloc_stays {M : Mem} {w : World} (hI : Imm M w) (ob : Obj) : Ext M (addJ M [(some w.heap.size, ob)]) ∧ (∀ b, M b = none → addJ M [(some w.heap.size, ob)] b ≠ none → w.heap.size ≤ b) ∧ Imm (addJ M [(some w.heap.size, ob)]) (w.alloc ob) ∧ Below w.heap.size w (w.alloc ob) ∧ addJ M [(some w.heap.size, ob)] w.heap.size = some ob := by
  have hnone : M w.heap.size = none := by
    cases hm : M w.heap.size with
    | none => rfl
    | some u => have := lt_of_get (hI _ _ hm); omega
  refine ⟨Ext.addJ _ _, fun b h1 h2 => ?_, fun b u hm => ?_, (Below.refl _ _).alloc (Nat.le_refl _) ob, ?_⟩
  · cases hm : addJ M [(some w.heap.size, ob)] b with
    | none => exact absurd hm h2
    | some u =>
      rcases addJ_cases hm with hm | ⟨_, hm⟩
      · rw [h1] at hm; cases hm
      · simp at hm; omega
  · rcases addJ_cases hm with hm | ⟨_, hm⟩
    · have := hI b u hm
      rw [Below.heap_alloc _ _ _ (lt_of_get this)]; exact this
    · simp only [List.mem_singleton, Prod.mk.injEq, Option.some.injEq] at hm
      obtain ⟨rfl, rfl⟩ := hm
      show (w.heap.push u)[w.heap.size]? = some u
      simp
  · unfold addJ; rw [hnone]; simp [inJ]
/-- A new row that stays. -/
theorem DL.newRowI {M M0 : Mem} {A J : Heap} {w1 : World} {k : IntKind} {zs : List Int} {e n : Nat} (H' : Heap → Heap) (hle : w1.heap.size ≤ w0.heap.size) (hE : Env w1 M0 M (addJ I J)) (hH : H = A ++ J) (hH' : ∀ J', A ++ J' = H' J') (hz : zs.length = n) (hm : n ≤ maxLen)
    (hi : ops[i]? = some o) (hw : Wn ops S o true) (hd : o.dst = some d) (hN : Nat.blt d N = true) (hk : (lab i).1 = .keep) (hp : FNew P o S (.cells (enc k zs) e) (fun b => .slice (some ⟨b, 0, none⟩) n n))
    (h : ∀ v M' J', Env w1 M0 M' (addJ I J') → Ext M M' → IntRow M' k v zs → DL P f R N w0 I K ops lab ids l ((d, v) :: S) (H' J')) : DL P f R N w0 I K ops lab ids (i :: l) S H :=
  DL.opF (G := Value) (u := fun v => v) (Q := fun v M' => IntRow M' k v zs) H' hle hE hH hH' hi hw hd hN hk (fun ρ hρ w hI => by
    obtain ⟨h1, h2, h3, h4, h5⟩ := alloc_stays hI (.cells (enc k zs) e)
    refine ⟨_, _, _, hp ρ hρ w, ?_, h1, h2, h3, h4⟩
    have ho : IntOwn k (.slice (some ⟨w.heap.size, 0, none⟩) n n) (enc k zs) zs := by
      subst hz
      exact OwnV.fresh (Nat.le_refl _) hm (by simp [enc_size]) (by simp only [enc, encl, Nat.mul_one]; rw [List.take_of_length_le (by simp)]) (by simp [encl])
    exact ho.stays (e := e) (fun b hb => by cases hb; exact h5)) h
theorem i_bytesStr {T T2 e : TypeId} {v : Value} {x : Operand} {xs : List Int} (hs : P.underlying T = some (.slice e)) (he : P.underlying e = some (.int .u8)) (hd : P.underlying T2 = some .string) (hr : IntRow I .u8 v xs) (ho : o.op = .convert T T2 x) (hx : ev S x = some v) : FImm P o I S (str (bytesL xs)) := fun ρ hρ w hi => by
  simp only [execOp, ho, hρ _ _ hx]
  exact val_run (run_bytesStr hs he hd (RowV.mono hr hi))
theorem DL.range {t kt et : TypeId} {x : Operand} {bm j : Nat} {k : IntKind} {m : List (Int × Value)} (hm : ∀ w, (underlying t).run P w = .ok (.map kt et) w) (hH : H[j]? = some (some bm, mobj k m)) (hi : ops[i]? = some o) (hw : Wn ops S o true) (hd : o.dst = some d) (hN : Nat.blt d N = true) (hk : (lab i).1 = .keep)
    (ho : o.op = .range t x) (hx : ev S x = some (.map (some bm))) (h : ∀ b, DL P f R N w0 I K ops lab ids l ((d, ptr b 0) :: S) ((some b, iobj bm m.length #[]) :: H)) : DL P f R N w0 I K ops lab ids (i :: l) S H :=
  DL.keep (X := Nat) (u := fun b => ptr b 0) (H' := fun b => (some b, iobj bm m.length #[]) :: H) (fun _ p hp => List.mem_cons_of_mem _ hp) hi hw hd hN hk (fun ρ hρ w hc => .inl ⟨w.heap.size, w.alloc (iobj bm m.length #[]), by
    simp only [execOp, ho, hρ _ _ hx]
    refine val_run ?_
    unfold Instr.range
    have hb := hc.own bm _ (List.mem_of_getElem? hH)
    refine (run_of_bind (hm w)).trans ?_
    refine (run_of_bind (run_getObj hb)).trans ?_
    rfl, hc.alloc _⟩) h
/-- What 'next' gives: nothing, or an entry that is left. -/
def NextX (l : List (Int × Int)) (seen : Array Nat) : Type := {x : Option (Nat × Int × Int) // match x with
  | none => remOf l seen = []
  | some (i, e) => l[i]? = some e ∧ ¬ i ∈ seen}
def nextV {l : List (Int × Int)} {seen : Array Nat} (k k2 : IntKind) (x : NextX l seen) : Value := match x.1 with
  | none => .tuple #[.bool false]
  | some (_, e) => .tuple #[.bool true, .int k e.1, .int k2 e.2]
def nextH {l : List (Int × Int)} {seen : Array Nat} (r bm j : Nat) (H : Heap) (x : NextX l seen) : Heap := match x.1 with
  | none => H
  | some (i, _) => H.set j (some r, iobj bm l.length (seen.push i))
theorem left_nil {k k2 : IntKind} {l : List (Int × Int)} {seen : Array Nat} (h : (leftOf (ments k 0 (mints k2 l)).toArray seen).size = 0) : remOf l seen = [] := by
  unfold remOf
  rw [List.map_eq_nil_iff, List.filter_eq_nil_iff]
  intro p hp hc
  obtain ⟨e, i⟩ := p
  rw [List.mem_zipIdx_iff_getElem?] at hp
  have h1 : (mints k2 l)[i]? = some (e.1, .int k2 e.2) := by
    unfold mints; rw [List.getElem?_map, show l[i]? = some e from hp]; rfl
  have h2 := ments_get (k := k) (n := 0) h1
  have h3 : leftOf (ments k 0 (mints k2 l)).toArray seen = #[] := Array.eq_empty_of_size_eq_zero h
  have : ({ key := .int k e.1, val := .int k2 e.2, born := 0 + i } : MapEntry) ∈ leftOf (ments k 0 (mints k2 l)).toArray seen := by
    unfold leftOf
    rw [Array.mem_filter]
    exact ⟨by simpa using h2, by simpa using hc⟩
  rw [h3] at this
  simp at this
theorem f_next {k k2 : IntKind} {m : List (Int × Int)} {seen : Array Nat} {r bm j j2 : Nat} {x : Operand} (hH : H[j]? = some (some r, iobj bm m.length seen)) (hM : H[j2]? = some (some bm, mobj k (mints k2 m))) (ho : o.op = .next x false) (hx : ev S x = some (ptr r 0)) :
    FAct P o w0 I S H (NextX m seen) (nextV k k2) (nextH r bm j H) := fun ρ hρ w hc => by
  have hr := hc.own r _ (List.mem_of_getElem? hH)
  have hb := hc.own bm _ (List.mem_of_getElem? hM)
  have hlen : (mints k2 m).length = m.length := by simp [mints]
  have hrun : (execOp ρ o).run P w = ((Instr.next (ptr r 0) false o.type).bind fun v => Sem.pure (Next.value v)).run P w := by
    simp only [execOp, ho, hρ _ _ hx]; rfl
  rcases run_next_at (P := P) w o.type r bm m.length m.length seen (ments k 0 (mints k2 m)).toArray (mints k2 m).length hr hb (fun e he => by
      obtain ⟨i, a, v, h1, rfl⟩ := ments_mem (by simpa using he)
      have : i < (mints k2 m).length := by
        rcases Nat.lt_or_ge i (mints k2 m).length with h | h
        · exact h
        · rw [List.getElem?_eq_none h] at h1; cases h1
      show 0 + i < m.length
      omega) (Nat.le_refl _) with ⟨h0, h1⟩ | ⟨e, he, w1, hw1, h1⟩
  · refine .inl ⟨⟨none, left_nil h0⟩, w, ?_, hc⟩
    rw [hrun]; exact val_run h1
  · have he' : e ∈ ments k 0 (mints k2 m) ∧ ¬ e.born ∈ seen := by
      unfold leftOf at he
      rw [Array.toList_filter, List.mem_filter] at he
      exact ⟨by simpa using he.1, by simpa using he.2⟩
    obtain ⟨⟨i, a, v, h2, rfl⟩, h3⟩ := And.intro (ments_mem he'.1) he'.2
    unfold mints at h2
    rw [List.getElem?_map] at h2
    cases h4 : m[i]? with
    | none => rw [h4] at h2; cases h2
    | some p =>
      rw [h4] at h2
      simp only [Option.map_some, Option.some.injEq, Prod.mk.injEq] at h2
      obtain ⟨rfl, rfl⟩ := h2
      simp only [Nat.zero_add] at h3 h1
      have hc1 : Cls w0 I H w1 := by
        rcases hw1 with h | h
        · rw [h]; exact hc
        · rw [h]; exact hc.drew _
      refine .inl ⟨⟨some (i, p), h4, h3⟩, _, by rw [hrun]; exact val_run h1, ?_⟩
      have hr1 := hc1.own r _ (List.mem_of_getElem? hH)
      have hlt := lt_of_get hr1
      show Cls w0 I (H.set j (some r, iobj bm m.length (seen.push i))) _
      refine hc1.setObj hH rfl rfl rfl (by simp [ChangeMaps.setBlock]) (by rw [hlen]; simp [ChangeMaps.setBlock, iobj, hlt]) (fun c hcne => by simp [ChangeMaps.setBlock, Array.getElem?_setIfInBounds, Ne.symm hcne])
theorem f_entry {k k2 : IntKind} {m : List (Int × Int)} {seen : Array Nat} {r bm j j2 i : Nat} {e : Int × Int} {x : Operand} (hH : H[j]? = some (some r, iobj bm m.length (seen.push i))) (hM : H[j2]? = some (some bm, mobj k (mints k2 m))) (he : m[i]? = some e) (ho : o.op = .entry x) (hx : ev S x = some (ptr r 0)) :
    FQuiet P o w0 I S H (.tuple #[.int k e.1, .int k2 e.2]) := fun ρ hρ w hc => .inl (by
  have hr := hc.own r _ (List.mem_of_getElem? hH)
  have hb := hc.own bm _ (List.mem_of_getElem? hM)
  have hlen : (mints k2 m).length = m.length := by simp [mints]
  have h1 : (mints k2 m)[i]? = some (e.1, .int k2 e.2) := by unfold mints; rw [List.getElem?_map, he]; rfl
  simp only [execOp, ho, hρ _ _ hx]
  refine val_run ?_
  have hr' : w.heap[r]? = some (.mapIter (some bm) m.length (seen.push ({ key := .int k e.1, val := .int k2 e.2, born := 0 + i } : MapEntry).born) (mints k2 m).length) := by
    rw [hlen]; simpa [iobj] using hr
  exact run_entry_at w r bm m.length seen (ments k 0 (mints k2 m)).toArray (mints k2 m).length { key := .int k e.1, val := .int k2 e.2, born := 0 + i } hr' hb (by simpa using ments_get (k := k) (n := 0) h1) (by
    simp only [ments_born]
    exact List.nodup_range'))
end

/-! ### shorter words -/
abbrev kp : Kd × Option Nat := (.pure, none)
abbrev kq : Kd × Option Nat := (.quiet, none)
abbrev kk : Kd × Option Nat := (.keep, none)
abbrev kx : Kd × Option Nat := (.actx, none)
section
variable {P : Program} {f : FuncId} {R : Ending → World → Prop} {N : Nat} {w0 : World} {I : Mem} {k : List Item} {S : Slots} {H : Heap}
theorem TT.rg {c : Code} {id : Nat} (l : List Nat) (ll : List (Kd × Option Nat)) (hc : c = .region id (opsOf c) false) (hl : List.range (opsOf c).size = l) (h : DL P f R N w0 I k (opsOf c) (labOf ll) (fun _ => none) l S H) : TT P f R N w0 I (.code c :: k) S H := by
  have h1 := TT.region (id := id) (n := (opsOf c).size) ll rfl (hl ▸ h)
  rwa [← hc] at h1
theorem TT.rgD {c : Code} {id : Nat} (l m : List Nat) (ll : List (Kd × Option Nat)) (hc : c = .region id (opsOf c) true) (hm : P.follows .mixedOrders = true) (hB : okP (opsOf c) (labOf ll) l m = true)
    (h : ∀ w1, Later w0 w1 → (∀ z y b, idsOf H z = some b → idsOf H y = some b → z = y) → (∀ z b, idsOf H z = some b → b < w1.heap.size) → DL P f R N w1 I k (opsOf c) (labOf ll) (idsOf H) l S H) : TT P f R N w0 I (.code c :: k) S H := by
  have h1 := TT.regionD (id := id) l m ll hm hB h
  rwa [← hc] at h1
theorem DL.mv {ops : Array Oper} {lab : Lab} {ids : Nat → Option Nat} {i : Nat} {l : List Nat} {x : Operand} (d : Nat) (v : Value) (hc : chk ops N lab isPure i d = true) (ho : (opAt ops i).op = .move x) (hx : ev S x = some v) (h : DL P f R N w0 I k ops lab ids l ((d, v) :: S) H) : DL P f R N w0 I k ops lab ids (i :: l) S H :=
  DL.pu d v hc (p_move ho hx) h
end
end Go.HW
