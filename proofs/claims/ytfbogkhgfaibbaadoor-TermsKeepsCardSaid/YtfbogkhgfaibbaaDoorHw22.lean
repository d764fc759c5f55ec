import Derived.Test.YtfbogkhgfaibbaaDoorHw21
namespace Go.HW
open Go Go.RowKit
set_option linter.unusedVariables false
set_option linter.unusedSimpArgs false

/-! ### maps by texts -/
/-- Entries by texts, in the order of their making. -/
def kents : Nat → List (List UInt8 × Value) → List MapEntry
  | _, [] => []
  | n, (s, v) :: r => { key := str s, val := v, born := n } :: kents (n + 1) r
/-- A map's block. -/
def kobj (l : List (List UInt8 × Value)) : Obj := .map (kents 0 l).toArray l.length
def vfind (s : List UInt8) : List (List UInt8 × Value) → Option Value
  | [] => none
  | (u, v) :: r => if s == u then some v else vfind s r
/-- .. with one entry more, or another value in its entry -/
def vset (s : List UInt8) (v : Value) : List (List UInt8 × Value) → List (List UInt8 × Value)
  | [] => [(s, v)]
  | (u, x) :: r => if s == u then (s, v) :: r else (u, x) :: vset s v r
theorem kents_append : ∀ (l : List (List UInt8 × Value)) (n : Nat) (s : List UInt8) (v : Value), kents n (l ++ [(s, v)]) = kents n l ++ [{ key := str s, val := v, born := n + l.length }]
  | [], n, s, v => by simp [kents]
  | (b, u) :: l, n, s, v => by simp [kents, kents_append l (n + 1) s v]; omega
theorem bytes_beq (s u : List UInt8) : ((⟨s.toArray⟩ : ByteArray) == ⟨u.toArray⟩) = (s == u) := by
  show (s.toArray == u.toArray) = _
  simp
theorem sameNow_str (s u : List UInt8) : Instr.sameNow .string (str s) (str u) = some (s == u) := by
  show some _ = _
  rw [bytes_beq]
theorem findNow_kents (s : List UInt8) : ∀ (l : List (List UInt8 × Value)) (n i : Nat), ∃ r, Instr.findNow .string (str s) (kents n l) i = some r ∧ r.map (·.2) = vfind s l ∧
    ((r = none ∧ ∀ v, vset s v l = l ++ [(s, v)]) ∨ ∃ k v, r = some (i + k, v) ∧ l[k]? = some (s, v) ∧ ∀ v', vset s v' l = l.set k (s, v'))
  | [], n, i => ⟨none, rfl, rfl, .inl ⟨rfl, fun _ => rfl⟩⟩
  | (u, x) :: l, n, i => by
    obtain ⟨r, h1, h2, h3⟩ := findNow_kents s l (n + 1) (i + 1)
    cases h : (s == u) with
    | true =>
      refine ⟨some (i, x), ?_, by simp [vfind, h], .inr ⟨0, x, rfl, ?_, fun v' => by simp [vset, h]⟩⟩
      · simp only [kents, Instr.findNow, sameNow_str, h]
      · have := eq_of_beq h
        subst this; rfl
    | false =>
      refine ⟨r, ?_, by simp [vfind, h, h2], ?_⟩
      · simp only [kents, Instr.findNow, sameNow_str, h]; exact h1
      · rcases h3 with ⟨h3, h4⟩ | ⟨k, v, h3, h4, h5⟩
        · exact .inl ⟨h3, fun v => by simp [vset, h, h4]⟩
        · exact .inr ⟨k + 1, v, by rw [h3, Nat.add_assoc, Nat.add_comm 1], by simpa using h4, fun v' => by simp [vset, h, h5]⟩
section
variable {P : Program} {o : Oper} {S : Slots} {w0 : World} {I : Nat → Option Obj} {H : Heap}
theorem run_findKey_str {t : TypeId} (hu : ∀ w, (underlying t).run P w = .ok .string w) (s : List UInt8) (l : List (List UInt8 × Value)) (w : World) : ∃ r, (Instr.findKey t (str s) (kents 0 l)).run P w = .ok r w ∧ r.map (·.2) = vfind s l ∧
    ((r = none ∧ ∀ v, vset s v l = l ++ [(s, v)]) ∨ ∃ k v, r = some (k, v) ∧ l[k]? = some (s, v) ∧ ∀ v', vset s v' l = l.set k (s, v')) := by
  obtain ⟨r, h1, h2, h3⟩ := findNow_kents s l 0 0
  refine ⟨r, ?_, h2, by simpa using h3⟩
  unfold Instr.findKey
  refine (run_of_bind (hu w)).trans ?_
  rw [h1]; rfl
theorem run_checkKey_str {t : TypeId} (hu : ∀ w, (underlying t).run P w = .ok .string w) (s : List UInt8) (e : Bool) (w : World) : (Instr.checkKey e 10000 t (str s)).run P w = .ok () w := by
  unfold Instr.checkKey
  exact (run_of_bind (hu w)).trans rfl
theorem run_lookupS {t kt e : TypeId} {z : Value} {b : Nat} {w : World} {l : List (List UInt8 × Value)} (hm : ∀ w, (underlying t).run P w = .ok (.map kt e) w) (hk : ∀ w, (underlying kt).run P w = .ok .string w) (hz : ∀ w, (zeroValue e).run P w = .ok z w) (hb : w.heap[b]? = some (kobj l)) (s : List UInt8) (ok : Bool) :
    (Instr.lookup t (.map (some b)) (str s) ok).run P w = .ok (if ok then .tuple #[(vfind s l).getD z, .bool (vfind s l).isSome] else (vfind s l).getD z) w := by
  obtain ⟨r, h1, h2, -⟩ := run_findKey_str (P := P) hk s l w
  unfold Instr.lookup
  refine (run_of_bind (hm w)).trans ?_
  refine (run_of_bind (run_getObj hb)).trans ?_
  refine (run_of_bind (x := Pure.pure (kents 0 l).toArray) (a := (kents 0 l).toArray) (w' := w) rfl).trans ?_
  refine (run_of_bind (run_checkKey_str hk s _ w)).trans ?_
  refine (run_of_bind h1).trans ?_
  rw [← h2]
  cases r with
  | none => exact (run_of_bind (hz w)).trans rfl
  | some p => rfl
theorem i_lookupS {t kt e : TypeId} {z v : Value} {x y : Operand} {b : Nat} {s : List UInt8} {l : List (List UInt8 × Value)} (hm : ∀ w, (underlying t).run P w = .ok (.map kt e) w) (hk : ∀ w, (underlying kt).run P w = .ok .string w) (hz : ∀ w, (zeroValue e).run P w = .ok z w) (hb : I b = some (kobj l)) (hv : (vfind s l).getD z = v) (ho : o.op = .lookup t x y false) (hx : ev S x = some (.map (some b))) (hy : ev S y = some (str s)) : FImm P o I S v := fun ρ hρ w hi => by
  simp only [execOp, ho, hρ _ _ hx, hρ _ _ hy]
  refine val_run ?_
  rw [run_lookupS hm hk hz (hi b _ hb), hv]; rfl
theorem i_lookupSOk {t kt e : TypeId} {z v : Value} {q : Bool} {x y : Operand} {b : Nat} {s : List UInt8} {l : List (List UInt8 × Value)} (hm : ∀ w, (underlying t).run P w = .ok (.map kt e) w) (hk : ∀ w, (underlying kt).run P w = .ok .string w) (hz : ∀ w, (zeroValue e).run P w = .ok z w) (hb : I b = some (kobj l)) (hv : (vfind s l).getD z = v) (hq : (vfind s l).isSome = q) (ho : o.op = .lookup t x y true) (hx : ev S x = some (.map (some b))) (hy : ev S y = some (str s)) : FImm P o I S (.tuple #[v, .bool q]) := fun ρ hρ w hi => by
  simp only [execOp, ho, hρ _ _ hx, hρ _ _ hy]
  refine val_run ?_
  rw [run_lookupS hm hk hz (hi b _ hb), hv, hq]; rfl
theorem FImm.quiet {M : Mem} {v : Value} (h : FImm P o M S v) (hM : ∀ w, Cls w0 I H w → Imm M w) : FQuiet P o w0 I S H v := fun ρ hρ w hc => .inl (h ρ hρ w (hM w hc))
/-- .. of a map by numbers that stays -/
theorem i_lookupM {t kt e : TypeId} {k : IntKind} {x y : Operand} {b : Nat} {a : Int} {l : List (Int × Value)} {z v : Value} (hm : ∀ w, (underlying t).run P w = .ok (.map kt e) w) (hk : ∀ w, (underlying kt).run P w = .ok (.int k) w) (hz : ∀ w, (zeroValue e).run P w = .ok z w)
    (hb : I b = some (mobj k l)) (hv : (mfind a l).getD z = v) (ho : o.op = .lookup t x y false) (hx : ev S x = some (.map (some b))) (hy : ev S y = some (.int k a)) : FImm P o I S v := fun ρ hρ w hi => by
  have h := f_lookup (P := P) (o := o) (S := S) (w0 := w) (I := fun _ => none) (H := [(some b, mobj k l)]) (j := 0) hm hk hz rfl ho hx hy ρ hρ w ⟨rfl, rfl, rfl, Nat.le_refl _, fun _ _ h => (by cases h), fun c u h => (by simp only [List.mem_singleton, Prod.mk.injEq, Option.some.injEq] at h; rw [h.1, h.2]; exact hi b _ hb), fun _ _ _ => rfl, by simp⟩
  rcases h with h | ⟨f, args, h, _⟩
  · rw [← hv]; exact h
  · simp only [execOp, ho, hρ _ _ hx, hρ _ _ hy] at h
    exfalso
    have h2 : ((Instr.lookup t (.map (some b)) (.int k a) false).bind fun v => Sem.pure (Next.value v)).run P w = .ok (.enter f args) w := h
    rw [Sem.run_bind'] at h2
    cases h3 : (Instr.lookup t (.map (some b)) (.int k a) false).run P w <;> rw [h3] at h2 <;> cases h2
theorem i_lookupMOk {t kt e : TypeId} {k : IntKind} {x y : Operand} {b : Nat} {a : Int} {l : List (Int × Value)} {z v : Value} {q : Bool} (hm : ∀ w, (underlying t).run P w = .ok (.map kt e) w) (hk : ∀ w, (underlying kt).run P w = .ok (.int k) w) (hz : ∀ w, (zeroValue e).run P w = .ok z w)
    (hb : I b = some (mobj k l)) (hv : (mfind a l).getD z = v) (hq : (mfind a l).isSome = q) (ho : o.op = .lookup t x y true) (hx : ev S x = some (.map (some b))) (hy : ev S y = some (.int k a)) : FImm P o I S (.tuple #[v, .bool q]) := fun ρ hρ w hi => by
  have h := f_lookupOk (P := P) (o := o) (S := S) (w0 := w) (I := fun _ => none) (H := [(some b, mobj k l)]) (j := 0) hm hk hz rfl ho hx hy ρ hρ w ⟨rfl, rfl, rfl, Nat.le_refl _, fun _ _ h => (by cases h), fun c u h => (by simp only [List.mem_singleton, Prod.mk.injEq, Option.some.injEq] at h; rw [h.1, h.2]; exact hi b _ hb), fun _ _ _ => rfl, by simp⟩
  rcases h with h | ⟨f, args, h, _⟩
  · rw [← hv, ← hq]; exact h
  · simp only [execOp, ho, hρ _ _ hx, hρ _ _ hy] at h
    exfalso
    have h2 : ((Instr.lookup t (.map (some b)) (.int k a) true).bind fun v => Sem.pure (Next.value v)).run P w = .ok (.enter f args) w := h
    rw [Sem.run_bind'] at h2
    cases h3 : (Instr.lookup t (.map (some b)) (.int k a) true).run P w <;> rw [h3] at h2 <;> cases h2

theorem set_kents : ∀ (l : List (List UInt8 × Value)) (n k : Nat) (s : List UInt8) (v v' : Value), l[k]? = some (s, v) → (kents n l).modify k (fun e => { e with key := str s, val := v' }) = kents n (l.set k (s, v'))
  | [], n, k, s, v, v', h => by simp at h
  | (u, x) :: l, n, 0, s, v, v', h => by simp [kents]
  | (u, x) :: l, n, k + 1, s, v, v', h => by
    simp only [kents, List.modify_succ_cons, List.set_cons_succ]
    rw [set_kents l (n + 1) k s v v' (by simpa using h)]
theorem kents_key : ∀ (l : List (List UInt8 × Value)) (n k : Nat) (s : List UInt8) (v : Value), l[k]? = some (s, v) → ((kents n l)[k]?).map (·.key) = some (str s)
  | [], n, k, s, v, h => by simp at h
  | (u, x) :: l, n, 0, s, v, h => by simp at h; simp [kents, h.1]
  | (u, x) :: l, n, k + 1, s, v, h => by
    simp only [kents, List.getElem?_cons_succ]
    exact kents_key l (n + 1) k s v (by simpa using h)
theorem run_updateS {t kt e : TypeId} {v : Value} {b : Nat} {w : World} {l : List (List UInt8 × Value)} (hm : ∀ w, (underlying t).run P w = .ok (.map kt e) w) (hk : ∀ w, (underlying kt).run P w = .ok .string w) (hb : w.heap[b]? = some (kobj l)) (s : List UInt8) :
    ∃ w', (Instr.mapUpdate t (.map (some b)) (str s) v).run P w = .ok () w' ∧ w'.os = w.os ∧ w'.tape = w.tape ∧ w'.output = w.output ∧ w'.heap.size = w.heap.size ∧ w'.heap[b]? = some (kobj (vset s v l)) ∧ ∀ d, d ≠ b → w'.heap[d]? = w.heap[d]? := by
  obtain ⟨r, h1, h2, h3⟩ := run_findKey_str (P := P) hk s l w
  rcases h3 with ⟨rfl, h4⟩ | ⟨k, u, rfl, h4, h5⟩
  · obtain ⟨w', g1, g2, g3, g4, g5, g6, g7⟩ := run_setObj (P := P) (es' := (kents 0 l).toArray.push { key := str s, val := v, born := l.length }) (c' := l.length + 1) hb
    refine ⟨w', ?_, g2, g3, g4, g5, ?_, g7⟩
    · unfold Instr.mapUpdate
      refine (run_of_bind (hm w)).trans ?_
      refine (run_of_bind (run_getObj hb)).trans ?_
      refine (run_of_bind (run_checkKey_str hk s _ w)).trans ?_
      exact (run_of_bind h1).trans g1
    · rw [g6, h4]
      simp [kobj, kents_append]
  · obtain ⟨w', g1, g2, g3, g4, g5, g6, g7⟩ := run_setObj (P := P) (es' := (kents 0 l).toArray.modify k (fun e => { e with key := str s, val := v })) (c' := l.length) hb
    refine ⟨w', ?_, g2, g3, g4, g5, ?_, g7⟩
    · unfold Instr.mapUpdate
      refine (run_of_bind (hm w)).trans ?_
      refine (run_of_bind (run_getObj hb)).trans ?_
      refine (run_of_bind (run_checkKey_str hk s _ w)).trans ?_
      refine (run_of_bind h1).trans ?_
      have hkey : (((kents 0 l).toArray[k]?).map (·.key)).getD (str s) = str s := by
        have := kents_key l 0 k s u h4
        simp only [List.getElem?_toArray, this, Option.getD_some]
      have hst : (Instr.keyThatStays ((((kents 0 l).toArray[k]?).map (·.key)).getD (str s)) (str s)).run P w = .ok (str s) w := by
        rw [hkey]
        unfold Instr.keyThatStays
        have : Instr.sameBits 10000 (str s) (str s) = true := by
          show ((⟨s.toArray⟩ : ByteArray) == ⟨s.toArray⟩) = true
          rw [bytes_beq]; simp
        rw [this]; rfl
      exact (run_of_bind hst).trans g1
    · rw [g6, h5]
      have := set_kents l 0 k s u v h4
      simp [kobj, ← this]
/-- An own map is turned. -/
theorem f_updateS {t kt e : TypeId} {x y z : Operand} {b j : Nat} {s : List UInt8} {v : Value} {l : List (List UInt8 × Value)} (hm : ∀ w, (underlying t).run P w = .ok (.map kt e) w) (hk : ∀ w, (underlying kt).run P w = .ok .string w)
    (hH : H[j]? = some (some b, kobj l)) (ho : o.op = .mapUpdate t x y z) (hx : ev S x = some (.map (some b))) (hy : ev S y = some (str s)) (hz : ev S z = some v) : FPut P o w0 I S H (H.set j (some b, kobj (vset s v l))) := fun ρ hρ w hc => by
  simp only [execOp, ho, hρ _ _ hx, hρ _ _ hy, hρ _ _ hz]
  have hb := hc.own b _ (List.mem_of_getElem? hH)
  obtain ⟨w', g1, g2, g3, g4, g5, g6, g7⟩ := run_updateS (P := P) (v := v) hm hk hb s
  exact ⟨w', (run_of_bind (a := ()) (w' := w') g1).trans rfl, hc.setObj hH g2 g3 g4 g5 g6 g7⟩
theorem f_makeMapS {t : TypeId} (ho : o.op = .makeMap t none) : FNew P o S (kobj []) (fun b => .map (some b)) := fun ρ hρ w => by
  simp only [execOp, ho]
  rfl
theorem p_field {T : TypeId} {x : Operand} {vs : Array Value} {i : Nat} {v : Value} (h : ∀ w, (Instr.field T (.agg vs) i).run P w = .ok v w) (ho : o.op = .field T x i) (hx : ev S x = some (.agg vs)) : FPure P o S v := fun ρ hρ w => by
  simp only [execOp, ho, hρ _ _ hx]
  exact val_run (h w)
end

/-! #### what they stand for -/
/-- Entries, and what they stand for, one by one. -/
def KRep {α : Type} (sh : Shape α) (M : Mem) : List (List UInt8 × Value) → List (List UInt8 × α) → Prop
  | [], [] => True
  | p :: l, q :: K => p.1 = q.1 ∧ (∃ cs : List Value, p.2 = .agg cs.toArray ∧ sh.rep M cs q.2) ∧ KRep sh M l K
  | _, _ => False
theorem KRep.mono {α : Type} {sh : Shape α} {M M' : Mem} (he : Ext M M') : ∀ {l : List (List UInt8 × Value)} {K : List (List UInt8 × α)}, KRep sh M l K → KRep sh M' l K
  | [], [], _ => trivial
  | _ :: _, _ :: _, ⟨h1, ⟨cs, h2, h3⟩, h4⟩ => ⟨h1, ⟨cs, h2, sh.mono he h3⟩, h4.mono he⟩
  | [], _ :: _, h => h.elim
  | _ :: _, [], h => h.elim
theorem KRep.len {α : Type} {sh : Shape α} {M : Mem} : ∀ {l : List (List UInt8 × Value)} {K : List (List UInt8 × α)}, KRep sh M l K → l.length = K.length
  | [], [], _ => rfl
  | _ :: _, _ :: _, ⟨_, _, h4⟩ => by simp [h4.len]
  | [], _ :: _, h => h.elim
  | _ :: _, [], h => h.elim
theorem KRep.get {α : Type} {sh : Shape α} {M : Mem} : ∀ {l : List (List UInt8 × Value)} {K : List (List UInt8 × α)} {i : Nat} {q : List UInt8 × α}, KRep sh M l K → K[i]? = some q → ∃ cs : List Value, l[i]? = some (q.1, .agg cs.toArray) ∧ sh.rep M cs q.2
  | [], [], i, q, _, h => by simp at h
  | (s, v) :: _, _ :: _, 0, q, ⟨h1, ⟨cs, h2, h3⟩, _⟩, h => by
    simp at h; subst h
    simp only at h1 h2
    subst h1; subst h2
    exact ⟨cs, rfl, h3⟩
  | _ :: _, _ :: _, i + 1, q, ⟨_, _, h4⟩, h => by simpa using h4.get (by simpa using h)
  | [], _ :: _, _, _, h, _ => h.elim
  | _ :: _, [], _, _, h, _ => h.elim
def kfind {α : Type} (s : List UInt8) : List (List UInt8 × α) → Option α
  | [] => none
  | (u, t) :: r => if s == u then some t else kfind s r
def kset {α : Type} (s : List UInt8) (t : α) : List (List UInt8 × α) → List (List UInt8 × α)
  | [] => [(s, t)]
  | (u, x) :: r => if s == u then (s, t) :: r else (u, x) :: kset s t r
theorem KRep.find {α : Type} {sh : Shape α} {M : Mem} (s : List UInt8) : ∀ {l : List (List UInt8 × Value)} {K : List (List UInt8 × α)}, KRep sh M l K → (vfind s l = none ∧ kfind s K = none) ∨ ∃ (cs : List Value) (t : α), vfind s l = some (.agg cs.toArray) ∧ kfind s K = some t ∧ sh.rep M cs t
  | [], [], _ => .inl ⟨rfl, rfl⟩
  | (u, v) :: _, (u', t) :: _, ⟨h1, ⟨cs, h2, h3⟩, h4⟩ => by
    simp only at h1 h2 h3
    subst h1; subst h2
    unfold vfind kfind
    cases h : (s == u) with
    | true => exact .inr ⟨cs, t, rfl, rfl, h3⟩
    | false => exact h4.find s
  | [], _ :: _, h => h.elim
  | _ :: _, [], h => h.elim
theorem KRep.set {α : Type} {sh : Shape α} {M : Mem} {cs : List Value} {t : α} (s : List UInt8) (hr : sh.rep M cs t) : ∀ {l : List (List UInt8 × Value)} {K : List (List UInt8 × α)}, KRep sh M l K → KRep sh M (vset s (.agg cs.toArray) l) (kset s t K)
  | [], [], _ => ⟨rfl, ⟨cs, rfl, hr⟩, trivial⟩
  | (u, v) :: _, (u', x) :: _, ⟨h1, h2, h4⟩ => by
    simp only at h1 h2
    subst h1
    unfold vset kset
    cases h : (s == u) with
    | true => exact ⟨rfl, ⟨cs, rfl, hr⟩, h4⟩
    | false => exact ⟨rfl, h2, h4.set s hr⟩
  | [], _ :: _, h => h.elim
  | _ :: _, [], h => h.elim
/-- This block's object stands for just this map, in this order. -/
def KE {α : Type} (sh : Shape α) (M : Mem) (o : Obj) (K : List (List UInt8 × α)) : Prop := ∃ l, o = kobj l ∧ KRep sh M l K
theorem KE.mono {α : Type} {sh : Shape α} {M M' : Mem} {o : Obj} {K : List (List UInt8 × α)} (h : KE sh M o K) (he : Ext M M') : KE sh M' o K := by
  obtain ⟨l, h1, h2⟩ := h; exact ⟨l, h1, h2.mono he⟩
/-- In this block lies this map, in whatever order. -/
def KMap {α : Type} (sh : Shape α) (M : Mem) (b : Nat) (K : List (List UInt8 × α)) : Prop := ∃ o K', M b = some o ∧ KE sh M o K' ∧ (K'.map Prod.fst).Nodup ∧ K'.Perm K
theorem KMap.mono {α : Type} {sh : Shape α} {M M' : Mem} {b : Nat} {K : List (List UInt8 × α)} (h : KMap sh M b K) (he : Ext M M') : KMap sh M' b K := by
  obtain ⟨o, K', h1, h2, h3, h4⟩ := h
  exact ⟨o, K', he b o h1, h2.mono he, h3, h4⟩
theorem kfind_mem {α : Type} {s : List UInt8} {t : α} : ∀ {K : List (List UInt8 × α)}, (K.map Prod.fst).Nodup → (kfind s K = some t ↔ (s, t) ∈ K)
  | [], _ => by simp [kfind]
  | (u, x) :: K, hn => by
    simp only [List.map_cons, List.nodup_cons] at hn
    unfold kfind
    by_cases h : s = u
    · subst h
      simp only [beq_self_eq_true, if_true, Option.some.injEq, List.mem_cons, Prod.mk.injEq, true_and]
      refine ⟨fun e => .inl e.symm, fun e => ?_⟩
      rcases e with e | e
      · exact e.symm
      · exact absurd (List.mem_map.2 ⟨_, e, rfl⟩) hn.1
    · have : (s == u) = false := by simpa using h
      rw [this]
      simp only [Bool.false_eq_true, if_false, List.mem_cons, Prod.mk.injEq, h, false_and, false_or]
      exact kfind_mem hn.2
theorem kfind_perm {α : Type} {K K' : List (List UInt8 × α)} (hn : (K'.map Prod.fst).Nodup) (hp : K'.Perm K) (s : List UInt8) : kfind s K' = kfind s K := by
  have hn2 : (K.map Prod.fst).Nodup := (hp.map Prod.fst).nodup_iff.1 hn
  cases h : kfind s K with
  | some t => rw [kfind_mem hn2] at h; rw [kfind_mem hn]; exact hp.mem_iff.2 h
  | none =>
    cases h' : kfind s K' with
    | none => rfl
    | some t =>
      rw [kfind_mem hn] at h'
      have := (kfind_mem hn2).2 (hp.mem_iff.1 h')
      rw [h] at this; cases this
end Go.HW
