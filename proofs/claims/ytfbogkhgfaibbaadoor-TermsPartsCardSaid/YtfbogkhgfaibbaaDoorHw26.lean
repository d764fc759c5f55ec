import Derived.Test.YtfbogkhgfaibbaaDoorHw25
namespace Go.HW
open Go Go.RowKit
set_option linter.unusedVariables false
set_option linter.unusedSimpArgs false
section
variable {Kc : Act → World → Prop} {P : Program} {o : Oper} {S : Slots} {w0 : World} {I : Mem} {M : Mem} {H : Heap} {N : Nat} {ops : Array Oper} {lab : Lab} {ids : Nat → Option Nat} {l : List Nat} {i d : Nat}
/-- To an empty row something is appended, and nothing that is owned is looked at. -/
theorem DL.appendS0f {α : Type} {s : Shape α} {t e bytes : Nat} {z : Value} {x y : Operand} {u : Value} {ys : List α} (H' : Value → Array Value → Heap) (E : Elem P t e s.n bytes z)
    (hb : ys.length ≤ 1099511627776) (hby : bytes ≤ 128) (hu : ∃ ds, (∀ i x, ys[i]? = some x → s.rep M (chunk ds s.n i) x) ∧ ∀ w, Cls w0 I ((none, .cells #[] e (0, 0)) :: H) w → Src w u ys.length s.n ds) (hi : ops[i]? = some o) (hw : Wn ops S o true) (hd : o.dst = some d) (hN : Nat.blt d N = true) (hk : (lab i).1 = .free)
    (ho : o.op = .call { callee := .builtin .append, args := #[x, y], argTypes := #[t, t] }) (hx : ev S x = some (.slice none 0 0)) (hy : ev S y = some u) (hH' : ∀ v cur, (v.ownBlock, .cells cur e (0, 0)) :: H = H' v cur)
    (h : ∀ v cur, OwnS s M v cur ys → DK P N w0 I Kc ops lab ids l ((d, v) :: S) (H' v cur)) : DK P N w0 I Kc ops lab ids (i :: l) S H := by
  obtain ⟨ds, g1, g2⟩ := hu
  let X : Type := {q : Value × Array Value // OwnV q.1 q.2 s.n ys.length ds}
  refine DL.free (X := X) (u := fun q => q.1.1) (H' := fun q => (q.1.1.ownBlock, .cells q.1.2 e (0, 0)) :: H) (fun _ p hp => List.mem_cons_of_mem _ hp) hi hw hd hN hk (fun G => ?_) fun q => ?_
  · have hf := f_append (w0 := w0) (I := I) (S := S) (H := (none, .cells #[] e (0, 0)) :: (G ++ H)) (j := 0) E rfl (OwnV.nil s.n) (by simpa using hb) hby (fun w hc => g2 w (hc.fewer (List.Sublist.cons_cons _ (List.sublist_append_right G H)))) ho hx hy
    intro ρ hρ w hc
    rcases FAct.nilTail hf ρ hρ w hc with ⟨q, w', h1, h2⟩ | ⟨q, w', h1, h2, h3⟩ | ⟨f, args, w1, h1, h2⟩
    · exact .inl ⟨⟨q.1, by simpa using q.2⟩, w', h1, h2.perm List.perm_middle.symm⟩
    · exact .inr (.inl ⟨⟨q.1, by simpa using q.2⟩, w', h1, h2, h3.perm List.perm_middle.symm⟩)
    · exact .inr (.inr ⟨f, args, w1, h1, h2.mono fun en w' ⟨q, h3, h4⟩ => ⟨⟨q.1, by simpa using q.2⟩, h3, h4.perm List.perm_middle.symm⟩⟩)
  · show DK P N w0 I Kc ops lab ids l ((d, q.1.1) :: S) ((q.1.1.ownBlock, .cells q.1.2 e (0, 0)) :: H)
    rw [hH']
    exact h q.1.1 q.1.2 ⟨ds, q.2, g1⟩
end
end Go.HW
