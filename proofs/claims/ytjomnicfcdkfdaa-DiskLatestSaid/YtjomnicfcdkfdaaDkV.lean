import Derived.Test.YtjomnicfcdkfdaaDkU
namespace Go.Proofs.Ytjomnicfcdkfdaa
open Go Go.HW Go.RowKit
set_option linter.unusedVariables false
set_option linter.unusedSimpArgs false

/-! ### guarded operations in a region that draws its order; more rules -/
section
variable {N : Nat} {S : Slots} {w0 w1 : World} {I : Mem} {H : Heap} {Q : Exit → Act → World → Prop} {Qn : Act → Heap → Prop} {ops : Array Oper} {lab : Lab} {ids : Nat → Option Nat} {l : List Nat} {i d : Nat} {o : Oper} {v : Value} {X : Type} {u : X → Value} {cl : Call} {fo : Operand} {g : FuncId} {args : Array Value}
theorem DV.imm (hi : ops[i]? = some o) (hw : Wn ops S o true) (hd : o.dst = some d) (hN : Nat.blt d N = true) (hk : (lab i).1 = .pure) (hp : FImm Try.prog o I S v) (h : DD N w0 I ops lab ids Qn l ((d, v) :: S) H) : DD N w0 I ops lab ids Qn (i :: l) S H := fun a ha => by
  show stepD Try.prog ops w0 I lab ids i _ a H
  unfold stepD
  rw [hi]
  intro _
  exact ⟨.val v, .inl ⟨hw N a ha, .inl ⟨hk, hp _ ha.val⟩⟩, by show listD _ _ _ _ _ _ _ _ _ _; rw [hd]; exact h _ (ha.put (by simpa [Nat.blt_eq] using hN) v)⟩
theorem DV.pure (hi : ops[i]? = some o) (hw : Wn ops S o true) (hd : o.dst = some d) (hN : Nat.blt d N = true) (hk : (lab i).1 = .pure) (hp : FPure Try.prog o S v) (h : DD N w0 I ops lab ids Qn l ((d, v) :: S) H) : DD N w0 I ops lab ids Qn (i :: l) S H :=
  DV.imm hi hw hd hN hk (fun ρ hρ w _ => hp ρ hρ w) h
theorem DV.quiet (hi : ops[i]? = some o) (hw : Wn ops S o true) (hd : o.dst = some d) (hN : Nat.blt d N = true) (hk : (lab i).1 = .quiet) (hp : FQuiet Try.prog o w0 I S H v) (h : DD N w0 I ops lab ids Qn l ((d, v) :: S) H) : DD N w0 I ops lab ids Qn (i :: l) S H := fun a ha => by
  show stepD Try.prog ops w0 I lab ids i _ a H
  unfold stepD
  rw [hi]
  intro _
  exact ⟨.val v, .inl ⟨hw N a ha, .inr (.inl ⟨hk, fun w hc => hp _ ha.val w hc⟩)⟩, by show listD _ _ _ _ _ _ _ _ _ _; rw [hd]; exact h _ (ha.put (by simpa [Nat.blt_eq] using hN) v)⟩
theorem DV.not (hi : ops[i]? = some o) (hw : Wn ops S o false) (hd : o.dst = some d) (hN : Nat.blt d N = true) (h : DD N w0 I ops lab ids Qn l ((d, undef) :: S) H) : DD N w0 I ops lab ids Qn (i :: l) S H := fun a ha => by
  show stepD Try.prog ops w0 I lab ids i _ a H
  unfold stepD
  rw [hi]
  intro _
  exact ⟨.val undef, .inr ⟨hw N a ha, rfl⟩, by show listD _ _ _ _ _ _ _ _ _ _; rw [hd]; exact h _ (ha.put (by simpa [Nat.blt_eq] using hN) undef)⟩
theorem DV.keep {H' : X → Heap} (hkeep : ∀ x p, p ∈ H → p ∈ H' x) (hi : ops[i]? = some o) (hw : Wn ops S o true) (hd : o.dst = some d) (hN : Nat.blt d N = true) (hk : (lab i).1 = .keep) (hp : FAct Try.prog o w0 I S H X u H')
    (h : ∀ x, DD N w0 I ops lab ids Qn l ((d, u x) :: S) (H' x)) : DD N w0 I ops lab ids Qn (i :: l) S H := fun a ha => by
  show stepD Try.prog ops w0 I lab ids i _ a H
  unfold stepD
  rw [hi]
  intro _
  exact ⟨.act X u H', .inl ⟨hw N a ha, .inr (.inr (.inl ⟨hk, hkeep⟩)), fun w hc => hp _ ha.val w hc⟩, fun x => by show listD _ _ _ _ _ _ _ _ _ _; rw [hd]; exact h x _ (ha.put (by simpa [Nat.blt_eq] using hN) (u x))⟩
theorem DV.c01k {E' : X → Heap} (hi : ops[i]? = some o) (hw : Wn ops S o true) (hd : o.dst = some d) (hN : Nat.blt d N = true) (hk : (lab i).1 = .keep) (hc : Turn I g args [] u E') (hbody : ∀ w, (callFunc g args).run Try.prog w = .ok (.enter g args) w) (ho : o.op = .call cl) (hcal : cl.callee = .value fo) (hf : ev S fo = some (.func (.func g) #[] #[])) (hargs : ∀ ρ, Val S ρ → cl.args.map ρ = args)
    (h : ∀ x, DD N w0 I ops lab ids Qn l ((d, u x) :: S) (E' x ++ H)) : DD N w0 I ops lab ids Qn (i :: l) S H :=
  DV.keep (fun x p hp => List.mem_append_right _ hp) hi hw hd hN hk (f_callX ho hcal hf hargs hbody (fun w hcl => hc.at w0 w hcl)) h
theorem C.exitQ {id : Nat} {y : Code} {Q2 : Exit → Act → World → Prop} (hQ : Q (.exit id) = y.wpIn Fence.wide 3 Try.prog Q2) (h : CW N w0 I y Q2 S H) : CW N w0 I (.exit id) Q S H := fun a w ha hc => wpIn_exit (by rw [hQ]; exact h a w ha hc)
/-- an append to an own slice -/
theorem W.apO {k : IntKind} {t e bytes : Nat} {x y : Operand} {xs ys : List Int} {p : Ox k xs} {q : Ox k ys} {R : Heap} (hi : ops[i]? = some o) (hw : Wn ops S o true) (hd : o.dst = some d) (hN : Nat.blt d N = true) (E : Elem Try.prog t p.1.2.2 1 bytes (.int k 0)) (hH : H = oX p ++ (oX q ++ R)) (hb : xs.length + ys.length ≤ 1099511627776) (hby : bytes ≤ 128)
    (ho : o.op = .call { callee := .builtin .append, args := #[x, y], argTypes := #[t, t] }) (hx : ev S x = some p.1.1) (hy : ev S y = some q.1.1) (he : e = p.1.2.2)
    (h : ∀ z : {z : Ox k (xs ++ ys) // z.1.2.2 = e}, WW N w0 I ops l Q ((d, z.1.1.1) :: S) (oX z.1 ++ (oX q ++ R))) : WW N w0 I ops (i :: l) Q S H := by
  subst hH; subst he
  refine W.act (X := {x : Value × Array Value // IntOwn k x.1 x.2 (xs ++ ys)}) (u := fun x => x.1.1) (H' := fun x => ((x.1.1.ownBlock, .cells x.1.2 p.1.2.2 (0, 0)) :: (oX q ++ R))) hi hw hd hN (f_appendInt (j := 0) E rfl p.2 hb hby (fun w hc => q.2.src (i := 1) (e := q.1.2.2) hc rfl) ho hx hy) (fun c hx => by rw [ho] at hx; cases hx) fun z => ?_
  exact h ⟨⟨(z.1.1, z.1.2, p.1.2.2), z.2⟩, rfl⟩
end

/-! ### what is read is what was written last -/
def ltS (nb : Int) (ws : List Wr) : Dk := { newK nb with late := ws }
theorem lt_write {nb : Int} {ws : List Wr} {n : Int} {xs : List Int} (h0 : 0 ≤ n) (h1 : n < nb) (hx : xs.length = 512) : writeK (ltS nb ws) n xs = (0, ltS nb (ws ++ [(n, xs)])) := by
  unfold writeK
  rw [if_neg (by rw [hasD_in h0 (by exact h1)]; simp), if_neg (by rw [hx]; simp)]
  have e : stepK (ltS nb ws) = (0, ltS nb ws) := rfl
  rw [e, if_neg (show ¬ (0 : Int) = 14 by decide)]; rfl
theorem lt_no {nb : Int} {ws : List Wr} {n : Int} {xs : List Int} (h : n < 0 ∨ nb ≤ n) : writeK (ltS nb ws) n xs = (2, ltS nb ws) := by
  unfold writeK
  rw [if_pos (by unfold hasD; exact decide_eq_false (by show ¬ (0 ≤ n ∧ n < nb); omega))]
theorem rd_write {nb : Int} {ws : List Wr} {n : Int} {xs : List Int} (i : Int) : rd (ltS nb (ws ++ [(n, xs)])) i = if i = n then xs else rd (ltS nb ws) i := by
  unfold rd
  show (lfind (ws ++ [(n, xs)]).reverse i).getD zeros = if i = n then xs else (lfind ws.reverse i).getD zeros
  rw [List.reverse_append, List.reverse_singleton, List.singleton_append]
  show (if (n == i) = true then some xs else lfind ws.reverse i).getD zeros = _
  by_cases c : n = i
  · subst c; simp
  · rw [if_neg (by simpa using c), if_neg (fun h => c h.symm)]
theorem mget_fold (i : Int) : ∀ (ws : List Wr) (m : List Wr), mget (ws.foldl (fun l w => mput l w.1 w.2) m) i = (lfind ws.reverse i).getD (mget m i)
  | [], m => rfl
  | (n, b) :: ws, m => by
    rw [List.foldl_cons, mget_fold i ws, List.reverse_cons]
    have : ∀ (l : List Wr), lfind (l ++ [(n, b)]) i = (lfind l i).or (if n = i then some b else none) := fun l => by
      induction l with
      | nil => by_cases c : n = i <;> simp [lfind, c]
      | cons p r ih =>
        obtain ⟨a, c⟩ := p
        by_cases e : a = i
        · simp [lfind, e]
        · simp [lfind, e, ih]
    rw [this, mget_mput]
    by_cases c : n = i
    · subst c
      cases lfind ws.reverse n <;> simp
    · rw [if_neg (fun h => c h.symm)]
      cases lfind ws.reverse i <;> simp [c]
def ltY (nb : Int) (ws : List Wr) : Dk := { newK nb with set := ws.foldl (fun l w => mput l w.1 w.2) [], late := [] }
theorem lt_sync (nb : Int) (ws : List Wr) : syncK (ltS nb ws) = (0, ltY nb ws) := by
  unfold syncK
  have e : stepK (ltS nb ws) = (0, ltS nb ws) := rfl
  rw [e, if_pos rfl]
  have : setK (ltS nb ws) (ltS nb ws).late.length = ws.foldl (fun l w => mput l w.1 w.2) [] := by
    unfold setK
    show (ws.take ws.length).foldl _ [] = _
    rw [List.take_length]
  rw [this]; rfl
theorem rd_sync (nb : Int) (ws : List Wr) (i : Int) (picks : List Int) : rd (crashK (ltY nb ws) picks) i = rd (ltS nb ws) i := by
  show mget (ws.foldl (fun l w => mput l w.1 w.2) []) i = (lfind ws.reverse i).getD zeros
  rw [mget_fold]; rfl
theorem crK_none {s : Dk} : ∀ k, crK s [] k = s.set
  | 0 => rfl
  | k + 1 => by
    unfold crK
    cases s.late[k]? with
    | none => exact crK_none k
    | some w => simp only; rw [if_pos (show howK (([] : List Int).getD k 0) = 0 from rfl)]; exact crK_none k
theorem rd_none (nb : Int) (ws : List Wr) (i : Int) : rd (crashK (ltS nb ws) []) i = fillL 0 := by
  show mget (crK (ltS nb ws) [] (ltS nb ws).late.length) i = _
  rw [crK_none, fillL_rep]; rfl
theorem fold_full : ∀ {l m : List Wr}, Full l → Full m → Full (l.foldl (fun l w => mput l w.1 w.2) m)
  | [], _, _, hm => hm
  | p :: l, m, hl, hm => fold_full (l := l) (fun q hq => hl q (by simp [hq])) (mput_full hm (hl p (by simp)))
theorem crK_all {s : Dk} (hl : Full s.late) (hs : Full s.set) {c : Nat} : ∀ k, k ≤ c → crK s (List.replicate c 1) k = (s.late.take k).foldl (fun l w => mput l w.1 w.2) s.set
  | 0, _ => rfl
  | k + 1, h => by
    have ih := crK_all hl hs (c := c) k (by omega)
    cases e : s.late[k]? with
    | none =>
      have : crK s (List.replicate c 1) (k + 1) = crK s (List.replicate c 1) k := by simp only [crK, e]
      rw [this, ih, List.take_add_one, e]; simp
    | some w =>
      have e1 : (List.replicate c (1 : Int)).getD k 0 = 1 := by
        rw [List.getD_eq_getElem?_getD, List.getElem?_replicate, if_pos (by omega)]; rfl
      have et : ∀ l : Bool, tearK 1 l = 512 := fun l => tear_1 (by decide)
      rw [crK_put e (by rw [e1]; decide), e1, et, List.take_add_one, e, List.foldl_append, ← ih]
      have hw : w.2.length = 512 := hl w (List.mem_of_getElem? e)
      show mput _ _ (w.2.take 512 ++ (mget _ _).drop 512) = mput _ _ w.2
      rw [List.take_of_length_le (by omega), List.drop_of_length_le (by rw [mget_len (by rw [ih]; exact fold_full (fun p hp => hl p (List.mem_of_mem_take hp)) hs)]; omega), List.append_nil]
theorem rd_all {nb : Int} {ws : List Wr} (x : Dx (ltS nb ws)) (i : Int) : rd (crashK (ltS nb ws) (List.replicate ws.length 1)) i = rd (ltS nb ws) i := by
  show mget (crK (ltS nb ws) (List.replicate ws.length 1) ws.length) i = (lfind ws.reverse i).getD zeros
  rw [crK_all (late_full x) x.2.hs _ (Nat.le_refl _)]
  show mget ((ws.take ws.length).foldl _ []) i = _
  rw [List.take_length, mget_fold]; rfl
structure LtJ (nb : Int) (ws : List Wr) (now : List Int) : Prop where
  len : now.length = 40
  rd : ∀ i : Nat, (i : Int) < nb → rd (ltS nb ws) i = fillL (now.getD i 0)
theorem ltJ_0 (nb : Int) : LtJ nb [] (List.replicate 40 0) := ⟨by simp, fun i hi => by
  have e : (List.replicate 40 (0 : Int)).getD i 0 = 0 := by
    rw [List.getD_eq_getElem?_getD, List.getElem?_replicate]; split <;> rfl
  rw [e, fillL_rep]; rfl⟩
theorem ltJ_write {nb : Int} {ws : List Wr} {now : List Int} (h : LtJ nb ws now) {n : Int} (h0 : 0 ≤ n) (h1 : n < nb) (h2 : nb ≤ 40) (f : Int) : LtJ nb (ws ++ [(n, fillL f)]) (now.set n.toNat f) := ⟨by rw [List.length_set]; exact h.len, fun i hi => by
  rw [rd_write]
  have hl := h.len
  rw [List.getD_eq_getElem?_getD, List.getElem?_set]
  by_cases c : (i : Int) = n
  · rw [if_pos c, if_pos (by omega), if_pos (by omega)]; rfl
  · rw [if_neg c, if_neg (by omega), h.rd i hi, List.getD_eq_getElem?_getD]⟩
end Go.Proofs.Ytjomnicfcdkfdaa
