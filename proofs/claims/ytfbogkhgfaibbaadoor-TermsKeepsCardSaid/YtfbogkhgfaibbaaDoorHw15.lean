import Derived.Test.YtfbogkhgfaibbaaDoorHw14
import Derived.Lib.SliceRun
import Derived.Scope
namespace Go.HW
open Go Go.RowKit
set_option linter.unusedVariables false
set_option linter.unusedSimpArgs false

section
variable {Kc : Act → World → Prop} {xh : Option Nat} {P : Program} {o : Oper} {S : Slots} {w0 : World} {I M M0 : Mem} {H A J : Heap} {R : Ending → World → Prop} {N : Nat} {f : FuncId} {K : List Item} {ops : Array Oper} {lab : Lab} {ids : Nat → Option Nat} {l : List Nat} {i d : Nat}

theorem toNat_le {j : Int} {n : Nat} (h : j ≤ (n : Int)) : j.toNat ≤ n := by omega
theorem toNat_le2 {i j : Int} (h : i ≤ j) : i.toNat ≤ j.toNat := by omega
theorem chunk1 {cs : List Value} {i : Nat} {v : Value} (h : chunk cs 1 i = [v]) : cs[i]? = some v := by
  have := chunk_get (cs := cs) (n := 1) (i := i) (j := 0) (q := v) (by rw [h]; rfl)
  simpa using this
theorem RowS.srcC {α : Type} {s : Shape α} {v : Value} {xs : List α} (h : RowS s M v xs) (hM : ∀ w, Cls w0 I H w → Imm M w) : ∃ ds, (∀ i x, xs[i]? = Option.some x → s.rep M (chunk ds s.n i) x) ∧ ∀ w, Cls w0 I H w → Src w v xs.length s.n ds := by
  obtain ⟨cs, h1, h2⟩ := h.src
  exact ⟨cs, h1, fun w hc => h2 w (hM w hc)⟩
theorem OwnS.row {α : Type} {s : Shape α} {v : Value} {cur : Array Value} {xs : List α} {e i : Nat} (h : OwnS s M v cur xs) {w : World} (he : Ext M (heapOf w)) (hc : Cls w0 I H w) (hH : H[i]? = Option.some (v.ownBlock, .cells cur e (0, 0))) : RowS s (heapOf w) v xs := by
  obtain ⟨cs, h1, h2⟩ := h
  exact ⟨cs, h1.row hc (List.mem_of_getElem? hH), fun i x hx => s.mono he (h2 i x hx)⟩
theorem OwnS.strs {v : Value} {cur : Array Value} {xs : List (List UInt8)} (h : OwnS Sh.str M v cur xs) : OwnV v cur 1 xs.length (xs.map str) := by
  obtain ⟨cs, h1, h2⟩ := h
  have : cs = xs.map str := by
    apply List.ext_getElem?
    intro i
    rw [List.getElem?_map]
    cases hx : xs[i]? with
    | none =>
      have h3 : cs.length = xs.length * 1 := h1.1
      simp only [List.getElem?_eq_none_iff] at hx
      simp; omega
    | some s =>
      have h3 : chunk cs 1 i = [str s] := h2 i s hx
      simpa using chunk1 h3
  rw [← this]; exact h1
theorem Cls.none_tail {e : Nat} {w : World} (hc : Cls w0 I H w) : Cls w0 I ((none, .cells #[] e (0, 0)) :: H) w := hc.nothing _

theorem FAct.nilTail {o : Oper} {X : Type} {u : X → Value} {H' : X → Heap} {e : Nat} (h : FAct P o w0 I S ((none, .cells #[] e (0, 0)) :: H) X u H') : FAct P o w0 I S H X u H' := fun ρ hρ w hc => h ρ hρ w hc.none_tail
/-- A new row of such elements. -/
theorem DL.newS {α : Type} {s : Shape α} {zs : List α} {cells : List Value} {e n : Nat} (hz : zs.length = n) (hm : n ≤ maxLen) (hl : cells.length = n * s.n) (hr : ∀ i x, zs[i]? = some x → s.rep M (chunk cells s.n i) x) (hi : ops[i]? = some o) (hw : Wn ops S o true) (hd : o.dst = some d) (hN : Nat.blt d N = true) (hk : (lab i).1 = .alloc)
    (hp : FNew P o S (.cells cells.toArray e) (fun b => .slice (some ⟨b, 0, none⟩) n n)) (h : ∀ v cur, OwnS s M v cur zs → DK P N w0 I Kc ops lab ids l ((d, v) :: S) ((v.ownBlock, .cells cur e (0, 0)) :: H)) : DK P N w0 I Kc ops lab ids (i :: l) S H :=
  DL.new hi hw hd hN hk hp fun b hb => h (.slice (some ⟨b, 0, none⟩) n n) cells.toArray ⟨cells, by
    subst hz
    exact OwnV.fresh (Nat.le_refl _) hm (by simpa using hl) (by rw [List.take_of_length_le]; simp [hl]) hl, hr⟩
theorem f_buildS {t e bytes n sz : Nat} {z : Value} {cells : Array Value} {parts : Array (Nat × Operand)} {vs : List (Nat × Value)} (E : Elem P t e sz bytes z) (hn : Nat.ble (n * sz) 16777216 = true) (h0 : Nat.blt 0 n = true)
    (hf : Instr.fill (fun i => some (i * sz, sz)) ((Array.range (n * sz)).map (z.cells[· % z.cells.size]!)) vs = some cells) (ho : o.op = .buildSlice t n parts) (hp : ∀ ρ, Val S ρ → (parts.map fun p => (p.1, ρ p.2)).toList = vs) :
    FNew P o S (.cells cells e) (fun b => .slice (some ⟨b, 0, none⟩) n n) := fun ρ hρ w => by
  obtain ⟨i, hi, hz, hs, hbb⟩ := E.hi
  have h1 := Nat.le_of_ble_eq_true hn
  have h2 : 0 < n := by simpa [Nat.blt_eq] using h0
  simp only [execOp, ho]
  refine val_run ?_
  refine run_buildSlice w t e n _ _ i _ E.ht hi hz (by rw [hs]; omega) (by rw [hs]; have := Nat.mul_pos h2 E.hs; omega) ?_
  rw [hs, ← hf, ← hp ρ hρ]

/-- Some of what is owned, in another order. -/
def pick (is : List Nat) (H : Heap) : Heap := is.filterMap fun i => H[i]?
theorem pick_nodup {H : Heap} (hn : (H.filterMap Prod.fst).Nodup) : ∀ {is : List Nat}, is.Nodup → ((pick is H).filterMap Prod.fst).Nodup
  | [], _ => List.nodup_nil
  | i :: is, h => by
    obtain ⟨h1, h2⟩ := List.nodup_cons.1 h
    have ih := pick_nodup hn h2
    unfold pick at ih ⊢
    rw [List.filterMap_cons]
    cases hi : H[i]? with
    | none => exact ih
    | some p =>
      obtain ⟨r, o⟩ := p
      cases r with
      | none => simpa using ih
      | some b =>
        simp only [List.filterMap_cons]
        refine List.nodup_cons.2 ⟨fun hm => ?_, ih⟩
        obtain ⟨u, hu⟩ := mem_ids.1 hm
        obtain ⟨j, hj, he⟩ := List.mem_filterMap.1 hu
        have := ids_unique hn hi he
        subst this
        exact h1 hj
theorem Cls.pick {w : World} (is : List Nat) (hn : is.Nodup) (hc : Cls w0 I H w) : Cls w0 I (HW.pick is H) w :=
  ⟨hc.os, hc.tape, hc.output, hc.size, hc.imm, fun b o hm => by
    obtain ⟨i, _, he⟩ := List.mem_filterMap.1 hm
    exact hc.own b o (List.mem_of_getElem? he), fun b o hm => by
    obtain ⟨i, _, he⟩ := List.mem_filterMap.1 hm
    exact hc.disj b o (List.mem_of_getElem? he), pick_nodup hc.nodup hn⟩
theorem TT.pick (is : List Nat) (hn : is.Nodup) (h : TT P f R N w0 I K S (HW.pick is H)) : TT P f R N w0 I K S H := fun a w ha hc => h a w ha (hc.pick is hn)
theorem TT.goto {l : Nat} {K' : List Item} (he : gotoIn l K = some K') (h : TT P f R N w0 I K' S H) : TT P f R N w0 I (.code (.goto l) :: K) S H := fun a w ha hc => T.goto he (h a w ha hc)
theorem TT.scope {c : Code} (h : TT P f R N w0 I (.code c :: .inScope c :: K) S H) : TT P f R N w0 I (.code (.scope c) :: K) S H := fun a w ha hc => T.scope (fun b cs => step_scope) (h a w ha hc)
theorem DL.cutJ {w1 : World} {I2 M2 : Mem} (A : Heap) (M : Mem) (hE : EnvX xh w1 M0 M2 I2) (S' : Slots) (l2 : List Nat) (h1 : ∀ M' J', EnvX xh w1 M0 M' (addJ I J') → Ext M M' → DK P N w0 I Kc ops lab ids l2 S' (A ++ J'))
    (h2 : (∀ M' J', EnvX xh w1 M0 M' (addJ I J') → Ext M M' → DK P N w0 I Kc ops lab ids l2 S' (A ++ J')) → DK P N w0 I Kc ops lab ids l S H) : DK P N w0 I Kc ops lab ids l S H := h2 h1
end
end Go.HW
