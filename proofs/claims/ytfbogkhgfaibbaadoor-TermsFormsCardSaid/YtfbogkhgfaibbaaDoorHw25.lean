import Derived.Test.YtfbogkhgfaibbaaDoorHw24
namespace Go.HW
open Go Go.RowKit
set_option linter.unusedVariables false
set_option linter.unusedSimpArgs false

/-! ### rounds, and the statement that ranges over a function -/
theorem roundFR {r : Option Nat} {n m : Nat} {P : Program} {l : Nat} {f : FuncId} {tmps : Array Value} {assign body : Code} {w : World} {R : Ending → World → Prop} (h : RoundIn (FR r) n P l f tmps assign body w R) : RoundIn (FR r) m P l f tmps assign body w R :=
  ⟨h.1, fun c cs _ => h.2 c cs (fun d hd => by cases hd)⟩
section
variable {P : Program} {N : Nat} {w0 w : World} {I : Mem} {Q : Exit → Act → World → Prop} {S : Slots} {H : Heap} {l j : Nat} {rec : Loop} {R : Ending → World → Prop} {body : Code}
theorem Cls.putObj {b : Nat} {o o' : Obj} (hc : Cls w0 I H w) (hj : H[j]? = some (some b, o)) : Cls w0 I (H.set j (some b, o')) (w.putObj b o') := by
  have hb := hc.own b o (List.mem_of_getElem? hj)
  exact hc.setObj hj rfl rfl rfl World.putObj_size (World.putObj_heap_same (lt_of_get hb)) (fun c hne => World.putObj_heap_other hne)
theorem begin_body (hj : H[j]? = some (some l, .loop rec)) (hst : rec.state = .ready) (hb : CI (some l) P [] N w0 I body Q S (H.set j (some l, .loop { rec with state := .busy }))) :
    ∀ a w, Agree N S a → Cls w0 I H w → ∃ w₂, (Instr.beginRound l).run P w = .ok () w₂ ∧ body.wpIn (FR (some l)) 3 P Q (wd [] a) w₂ := fun a w ha hc =>
  ⟨_, run_beginRound (hc.own l _ (List.mem_of_getElem? hj)) hst, hb a _ ha (hc.putObj hj)⟩
theorem end_round (hj : H[j]? = some (some l, .loop rec)) (hR : ∀ w', Cls w0 I (H.set j (some l, .loop { rec with state := .ready, pending := none })) w' → R (.returned (.bool true)) w') : ∀ a w, Cls w0 I H w → roundPost P l R .normal a w := fun a w hc =>
  ⟨_, _, run_endRound none (hc.own l _ (List.mem_of_getElem? hj)), hR _ (hc.putObj hj)⟩
/-- a round, out of its two codes -/
theorem round_of_CI {x : Value} {p : Nat} (hps : rec.params = #[p]) (hl : w.heap[l]? = some (.loop rec)) (ht : Agree N S { tmps := rec.tmps.setIfInBounds p x, defers := [] }) (hc : Cls w0 I H w)
    (h : CI (some l) P [] N w0 I rec.assign (Exit.then (fun a₁ w₁ => ∃ w₂, (Instr.beginRound l).run P w₁ = .ok () w₂ ∧ rec.body.wpIn (FR (some l)) 3 P (roundPost P l R) a₁ w₂) (fun _ _ _ => False)) S H) :
    ∃ fn tmps assign body, (Instr.yield l #[x]).run P w = .ok (.round l fn tmps assign body) w ∧ RoundIn (FR none) 2 P l fn tmps assign body w R := by
  refine ⟨rec.fn, _, rec.assign, rec.body, run_yield hl (by rw [hps]; rfl), ?_⟩
  rw [hps]
  refine roundFR (n := 3) (roundIn_of_wpIn (F := FR none) trivial ?_)
  have := h _ w ht hc
  rw [wd_nil ht] at this
  have hz : ((#[p] : Array Tmp).zip #[x]).foldl (fun tmps (t, a) => tmps.setIfInBounds t a) rec.tmps = rec.tmps.setIfInBounds p x := by simp
  rw [hz]
  exact this
end

abbrev markD (D : Nat) : List Deferred := [{ target := .collected D, args := #[] }]
section
variable {P : Program} {N : Nat} {w0 : World} {I : Mem} {Q : Exit → Act → World → Prop} {S : Slots} {H : Heap}
/-- for .. := range g: 'jump x' is what a round has left to do; 'H' x' what is owned behind it. -/
theorem CI.rangeFunc {X : Type} {g : Operand} {ps : Array Tmp} {assign body : Code} {gf : Nat} {lb : Array Value} {jump : X → Option Code} {H' : X → Heap} (hg : ev S g = some (.func (.func gf) #[] lb)) (eg : ∀ args w, (callFunc gf args).run P w = .ok (.enter gf args) w)
    (hc : ∀ (l D : Nat) (rec : Loop), rec.state = .ready → rec.pending = none → rec.params = ps → rec.assign = assign → rec.body = body → Agree N S { tmps := rec.tmps, defers := [] } → ∀ W1, Cls w0 I ((some l, .loop rec) :: (some D, .deferred (some [])) :: H) W1 →
      Calls P gf (#[.func (.yield l) #[] #[]] ++ lb) W1 fun e w' => ∃ x : X, (∃ v, e = .returned v) ∧ ∃ rec' : Loop, rec'.state ≠ .busy ∧ rec'.pending = jump x ∧ Cls w0 I ((some l, .loop rec') :: (some D, .deferred (some [])) :: H' x) w')
    (h : ∀ (D : Nat) (x : X), match jump x with
      | none => ∀ a w, Agree N S a → Cls w0 I ((some D, .deferred (some [])) :: H' x) w → Q .normal (wd (markD D) a) w
      | some c => CI none P (markD D) N w0 I c Q S ((some D, .deferred (some [])) :: H' x)) :
    CI none P [] N w0 I (.rangeFunc g ps assign body) Q S H := fun a w ha hcl => by
  rw [wd_nil ha]
  refine wpIn_rangeFunc fun fn hfn => ?_
  obtain ⟨rec, hrec⟩ : ∃ rec : Loop, rec = { state := .ready, pending := none, fn, tmps := a.tmps, params := ps, assign, body, defers := w.heap.size } := ⟨_, rfl⟩
  obtain ⟨W1, hW1⟩ : ∃ W1, (w.alloc (.deferred (some []))).alloc (.loop rec) = W1 := ⟨_, rfl⟩
  have hC1 : Cls w0 I ((some (w.heap.size + 1), .loop rec) :: (some w.heap.size, .deferred (some [])) :: H) W1 := by
    rw [← hW1]
    have := (hcl.alloc (.deferred (some []))).alloc (.loop rec)
    rwa [World.size_alloc] at this
  refine ⟨w.heap.size + 1, markD w.heap.size, W1, { target := .fn (.func gf) lb, args := #[.func (.yield (w.heap.size + 1)) #[] #[]] }, W1, gf, #[.func (.yield (w.heap.size + 1)) #[] #[]] ++ lb, W1, ?_, ?_, fun _ _ => trivial, ?_, fun _ => by decide, ?_⟩
  · rw [← hW1, hrec]; exact run_enterLoop_outer _ _ _ _ _
  · simp only [resolve, ha.val _ _ hg]
    simp [go_sem]
  · simp [invoke, go_sem, eg]
  · have hag : Agree N S { tmps := rec.tmps, defers := [] } := by rw [hrec]; exact ⟨rfl, ha.2.1, ha.2.2⟩
    refine (callsFR (hc (w.heap.size + 1) w.heap.size rec (by rw [hrec]) (by rw [hrec]) (by rw [hrec]) (by rw [hrec]) (by rw [hrec]) hag W1 hC1)).mono ?_
    rintro e w2 ⟨x, ⟨v, rfl⟩, rec', hb, hp, hc2⟩
    have hl := hc2.own _ _ List.mem_cons_self
    have h4 : Cls w0 I ((some w.heap.size, .deferred (some [])) :: H' x) (w2.putObj (w.heap.size + 1) (.loop { rec' with state := .exhausted })) := (hc2.putObj (j := 0) rfl).tail
    have hD := h w.heap.size x
    have hwd : ({ a with defers := markD w.heap.size ++ a.defers } : Act) = wd (markD w.heap.size) a := by rw [ha.1]; rfl
    refine ⟨jump x, _, by rw [← hp]; exact run_endLoop hl hb, ?_⟩
    rw [hwd]
    cases hj : jump x with
    | none => rw [hj] at hD; exact hD a _ ha h4
    | some c => rw [hj] at hD; exact hD a _ ha h4
theorem calls_of_CIM {f : FuncId} {fn : Func} {c : Code} {args : Array Value} {w : World} {R : Ending → World → Prop} (hf : P.funcs[f]? = some fn) (hb : fn.body = some c) (hN : fn.ntmps = N) (hsz : Nat.ble args.size N = true) (hS : ∀ p ∈ S, args[p.1]? = some p.2)
    (hc : Cls w0 I H w) (h : CI none P [] N w0 I c (bodyPostM (FR none) 3 P fn R) S H) : Calls P f args w R := by
  have hag : Agree N S { tmps := args ++ Array.replicate (fn.ntmps - args.size) undef, defers := [] } := by
    refine ⟨rfl, ?_, fun i v hi => ?_⟩
    · have := Nat.le_of_ble_eq_true hsz
      simp; omega
    · have := hS (i, v) (get_mem hi)
      simp only at this ⊢
      rw [Array.getElem?_append_left (lt_of_get this)]; exact this
  have h1 := h _ w hag hc
  rw [wd_nil hag] at h1
  exact callsIn_wide.1 (callsIn_of_wp_marks (F := FR none) hf hb trivial h1 rfl)
/-- the return of a function that holds such a statement -/
theorem CI.retM {f : FuncId} {fn : Func} {R : Ending → World → Prop} {rs : List ResultVar} {vs : List Value} {v : Value} {D : Nat} {G : Heap} (hQ : Q .ret = bodyPostM (FR none) 3 P fn R .ret) (hf : P.funcs[f]? = some fn) (hrs : fn.results = rs.toArray) (hl : rs.length = vs.length)
    (hv : (if h : vs.toArray.size = 1 then vs.toArray[0] else .tuple vs.toArray) = v) (hall : ∀ (i : Nat) (r : ResultVar) (u : Value), rs[i]? = some r → vs[i]? = some u → ResV P N w0 I S G r u) (hp : H.Perm ((some D, .deferred (some [])) :: G)) (hR : ∀ w, Cls w0 I G w → R (.returned v) w) :
    CI none P (markD D) N w0 I .ret Q S H := fun a w ha hc => by
  refine wpIn_ret ?_
  rw [hQ]
  have hc1 := hc.perm hp
  have hKD := hc1.own _ _ List.mem_cons_self
  have hc2 : Cls w0 I G (w.putObj D (.deferred none)) := (hc1.putObj (j := 0) (o' := .deferred none) rfl).tail
  obtain ⟨_, fn', v', hf', hr', hR'⟩ := fin_of (P := P) (f := f) (N := N) (R := R) v hf hrs hl hv hall ha hc2 (hR _ hc2)
  rw [hf] at hf'; cases hf'
  show LeavesInM _ _ _ _ a.tmps _ (markD D) _ _
  exact ⟨by simp, .inl ⟨_, _, rfl, run_takeDeferred hKD, v', hr', hR'⟩⟩
end
end Go.HW
