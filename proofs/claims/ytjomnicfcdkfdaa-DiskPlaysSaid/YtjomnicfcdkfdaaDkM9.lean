import Derived.Test.YtjomnicfcdkfdaaDkM5
section
namespace Go.Proofs.Ytjomnicfcdkfdaa
open Go Go.HW Go.RowKit
set_option linter.unusedVariables false
set_option linter.unusedSimpArgs false

theorem fold_set : ∀ (l p c r : List Value) (off k : Nat), off + k = p.length → c.length = l.length →
    (l.zipIdx k).foldl (fun (cs : Array Value) (x : Value × Nat) => cs.setIfInBounds (off + x.2) x.1) (p ++ c ++ r).toArray = (p ++ l ++ r).toArray
  | [], p, c, r, off, k, _, h => by
    have : c = [] := List.eq_nil_of_length_eq_zero h
    subst this; rfl
  | x :: l, p, c, r, off, k, h, h2 => by
    match c, h2 with
    | u :: c, h2 =>
      rw [List.zipIdx_cons, List.foldl_cons]
      have e : (p ++ u :: c ++ r).toArray.setIfInBounds (off + k) x = ((p ++ [x]) ++ c ++ r).toArray := by
        rw [h]; simp
      rw [e, fold_set l (p ++ [x]) c r off (k + 1) (by simp; omega) (by simpa using h2)]
      simp
theorem fold_set_arr (v c : Array Value) (p r : List Value) (mid : List Value) (hc : c = (p ++ mid ++ r).toArray) (hm : mid.length = v.size) :
    v.zipIdx.foldl (fun cs (x, j) => cs.setIfInBounds (p.length + j) x) c = (p ++ v.toList ++ r).toArray := by
  subst hc
  have := fold_set v.toList p mid r p.length 0 (by simp) (by simpa using hm)
  rw [← this, ← Array.foldl_toList, Array.toList_zipIdx]
theorem fill_one' {place : Nat → Option (Nat × Nat)} {c : Array Value} {v : Value} {i sz : Nat} (hp : place i = some (0, sz)) (hv : v.cells.size = sz) (hc : c.size = sz) : Instr.fill place c [(i, v)] = some v.cells := by
  simp only [Instr.fill, hp]
  rw [if_neg (by simp [hv, hc])]
  have := fold_set_arr v.cells c [] [] c.toList (by simp) (by simp [hv, hc])
  simp at this
  simp [this]

def fldW (n : String) (t : TypeId) (o b : Nat) : Field := { name := n, type := t, offset := o, embedded := false, tag := "", pkgPath := "escutcheon/disk", byteOffset := b }
theorem tu64 (w : World) : (underlying 64).run Try.prog w = .ok (.struct #[fldW "n" 3 0 0, fldW "b" 62 1 8]) w := by kernel_rfl
theorem places64 (w : World) : ((#[fldW "n" 3 0 0, fldW "b" 62 1 8] : Array Field).mapM fun f => (do Pure.pure (f.offset, ← sizeOf f.type) : Sem (Nat × Nat))).run Try.prog w = .ok #[(0, 1), (1, 512)] w := by kernel_rfl
theorem run_build_struct {P : Program} {t : TypeId} {z : Value} {fields : Array Field} {places : Array (Nat × Nat)} {parts : Array (Nat × Value)} {cells : Array Value} {w : World} (hz : (zeroValue t).run P w = .ok z w) (hu : (underlying t).run P w = .ok (.struct fields) w)
    (hp : (fields.mapM fun f => (do Pure.pure (f.offset, ← sizeOf f.type) : Sem (Nat × Nat))).run P w = .ok places w) (hf : Instr.fill (places[·]?) z.cells parts.toList = some cells) : (Instr.build t parts).run P w = .ok (.agg cells) w := by
  unfold Instr.build
  refine (run_of_bind hz).trans ?_
  refine (run_of_bind hu).trans ?_
  refine (run_of_bind hp).trans ?_
  simp only [hf]; rfl
theorem build64 {n : Int} {xs : List Int} (h : xs.length = 512) (w : World) : (Instr.build 64 #[(0, .int .i64 n), (1, Blk xs)]).run Try.prog w = .ok (.agg (wrc (n, xs))) w := by
  have hf : Instr.fill ((#[(0, 1), (1, 512)] : Array (Nat × Nat))[·]?) (Value.agg (wrc (0, zeros))).cells [(0, .int .i64 n), (1, Blk xs)] = some (wrc (n, xs)) := by
    have hz : zeros.length = 512 := List.length_replicate
    have h1 : (Value.int .i64 n).cells = #[.int .i64 n] := rfl
    have h2 : (Blk xs).cells = enc .u8 xs := rfl
    have hs : (Value.agg (wrc (0, zeros))).cells.size = 513 := wrc_size hz
    simp only [Instr.fill, List.getElem?_toArray, List.getElem?_cons_zero, List.getElem?_cons_succ]
    rw [if_neg (by rw [hs]; simp [h1])]
    have e1 : ((Value.int .i64 n).cells.zipIdx.foldl (fun cs (x, j) => cs.setIfInBounds (0 + j) x) (Value.agg (wrc (0, zeros))).cells) = (([.int .i64 n] : List Value) ++ encl .u8 zeros ++ []).toArray := by
      have := fold_set_arr (Value.int .i64 n).cells (wrc (0, zeros)) [] (encl .u8 zeros) [.int .i64 0] (by simp [wrc, enc, encl]) (by simp [h1])
      have hcell : (Value.agg (wrc (0, zeros))).cells = wrc (0, zeros) := rfl
      rw [hcell]
      simpa [h1] using this
    rw [e1, if_neg (by simp [h2, enc_size, h, encl, hz])]
    have e2 := fold_set_arr (Blk xs).cells _ [.int .i64 n] [] (encl .u8 zeros) rfl (by simp [h2, enc_size, h, encl, hz])
    have e3 : ([Value.int .i64 n] : List Value).length = 1 := rfl
    rw [e3] at e2
    rw [e2]
    simp [h2, wrc, enc]
  exact run_build_struct (tz64 w) (tu64 w) (places64 w) hf
theorem elem59 : Elem Try.prog 59 64 513 520 (.agg (wrc (0, zeros))) := Elem.of (by kernel_rfl) (by kernel_rfl) (wrc_size List.length_replicate) (by decide)
theorem f_buildW {o : Oper} {S : Slots} {parts : Array (Nat × Operand)} {x : Wr} (hx : x.2.length = 512) (ho : o.op = .buildSlice 59 1 parts) (hp : ∀ ρ, Val S ρ → (parts.map fun p => (p.1, ρ p.2)).toList = [(0, .agg (wrc x))]) :
    FNew Try.prog o S (.cells (wrc x) 64) (fun b => .slice (some ⟨b, 0, none⟩) 1 1) :=
  f_buildS elem59 (by decide) (by decide) (fill_one' (v := .agg (wrc x)) rfl (wrc_size hx) (by simp)) ho hp
/-- an append of few that are large -/
theorem f_appendL {P : Program} {o : Oper} {S : Slots} {w0 : World} {I : Mem} {H : Heap} {t e size bytes n m j : Nat} {z : Value} {x y : Operand} {v u : Value} {cur : Array Value} {cs news : List Value} (E : Elem P t e size bytes z) (hH : H[j]? = some (v.ownBlock, .cells cur e (0, 0))) (hown : OwnV v cur size n cs)
    (hb : n + m ≤ 137438953472) (hby : bytes ≤ 1024) (hu : ∀ w, Cls w0 I H w → HW.Src w u m size news) (ho : o.op = .call { callee := .builtin .append, args := #[x, y], argTypes := #[t, t] }) (hx : ev S x = some v) (hy : ev S y = some u) :
    FAct P o w0 I S H {x : Value × Array Value // OwnV x.1 x.2 size (n + m) (cs ++ news)} (fun x => x.1.1) (fun x => H.set j (x.1.1.ownBlock, .cells x.1.2 e (0, 0))) := fun ρ hρ w hc => by
  obtain ⟨hl, h1, hsrc⟩ := hu w hc
  obtain ⟨cc, hrun⟩ := run_builtin (P := P) (ρ := ρ) (vs := #[v, u]) ho (by simp [hρ _ _ hx, hρ _ _ hy]) w
  have hlt : j < H.length := by
    rcases Nat.lt_or_ge j H.length with h | h
    · exact h
    · rw [List.getElem?_eq_none h] at hH; cases hH
  have hmem := List.mem_of_getElem? hH
  rcases hsrc with ⟨c, rfl, rfl⟩ | ⟨a, c, rfl, hcells⟩
  · have hn : news = [] := List.eq_nil_of_length_eq_zero (by simpa using hl)
    subst hn
    refine .inl ⟨⟨(v, cur), by simpa using hown⟩, w, ?_, ?_⟩
    · rw [hrun]
      exact val_run (run_append_none E hown w)
    · have : H.set j (v.ownBlock, .cells cur e (0, 0)) = H := by
        have hg : H[j] = (v.ownBlock, .cells cur e (0, 0)) := by rw [List.getElem?_eq_getElem hlt] at hH; exact Option.some.inj hH
        rw [← hg]; exact List.set_getElem_self hlt
      simp only [this]; exact hc
  · obtain ⟨i, hi, hz, hs, hbb⟩ := E.hi
    have hr := hown.owns hc hmem
    obtain ⟨v', w', hr1, hr2, hr3, -, hr5⟩ := run_append_own_at (P := P) w 0 t o.type e i z size bytes E.ht hi hz hs hbb E.hz E.hs v n cs hr a m c news hl hcells h1 (by simp [maxLen]; omega)
      (by
        have : (n + m) * bytes ≤ 137438953472 * 1024 := Nat.mul_le_mul hb hby
        omega) (Nat.zero_le _)
    have hv' : ∃ cur', OwnV v' cur' size (n + m) (cs ++ news) ∧ ∀ b, v'.ownBlock = some b → w'.heap[b]? = some (.cells cur' e (0, 0)) := by
      refine Exists.elim (show ∃ cur', _ from ?_) fun cur' h => ⟨cur', h⟩
      rcases hr2.2 with ⟨rfl, hz0⟩ | ⟨g, cap, cur', rfl, -, k2, k3, k4, k5, k6⟩
      · exact ⟨#[], ⟨hr2.1, .inl ⟨rfl, hz0⟩⟩, fun b hb => by cases hb⟩
      · exact ⟨cur', ⟨hr2.1, .inr ⟨g, cap, rfl, k3, k4, k5, k6⟩⟩, fun b hb => by cases hb; exact k2⟩
    obtain ⟨cur', ho1, ho2⟩ := hv'
    exact .inl ⟨⟨(v', cur'), ho1⟩, w', by rw [hrun]; exact val_run hr1, hc.grown hH hr3 hr5 ho2⟩
/-- a row of shapes, and one more -/
theorem OwnS.snocW {cur' : Array Value} {xs : List Wr} {x : Wr} {cs : List Value} {v' : Value} (hx : x.2.length = 512) (h : ∀ i y, xs[i]? = some y → ShWr.rep (fun _ => none) (chunk cs 513 i) y) (hl : cs.length = xs.length * 513) (hn : OwnV v' cur' 513 (xs.length + 1) (cs ++ (wrc x).toList)) : OwnS ShWr (fun _ => none) v' cur' (xs ++ [x]) := by
  refine ⟨cs ++ (wrc x).toList, by rw [List.length_append]; exact hn, fun i y hy => ?_⟩
  have hw : (wrc x).toList.length = 513 := by simpa using wrc_size hx
  by_cases hi : i < xs.length
  · rw [List.getElem?_append_left hi] at hy
    have h1 := h i y hy
    have e : chunk (cs ++ (wrc x).toList) 513 i = chunk cs 513 i := by
      have hm : (i + 1) * 513 ≤ xs.length * 513 := Nat.mul_le_mul_right _ hi
      have h2 : i * 513 ≤ cs.length := by rw [hl]; exact Nat.mul_le_mul_right _ (Nat.le_of_lt hi)
      have h3 : 513 ≤ (cs.drop (i * 513)).length := by rw [List.length_drop, hl]; rw [Nat.add_mul] at hm; exact Nat.le_sub_of_add_le (by rw [Nat.add_comm]; simpa using hm)
      unfold chunk
      rw [List.drop_append_of_le_length h2, List.take_append_of_le_length h3]
    show ShWr.rep _ (chunk _ 513 i) y
    rw [e]; exact h1
  · have hi2 : i = xs.length := by
      have := (List.getElem?_eq_some_iff.1 hy).1
      simp at this; omega
    subst hi2
    rw [List.getElem?_append_right (Nat.le_refl _)] at hy
    simp at hy
    subst hy
    have e : chunk (cs ++ (wrc x).toList) 513 xs.length = (wrc x).toList := by
      unfold chunk
      rw [← hl, List.drop_left, List.take_of_length_le (by omega)]
    show chunk _ 513 xs.length = _ ∧ _
    exact ⟨e, hx⟩
theorem p_s2a {P : Program} {o : Oper} {S : Slots} {t e n len cap : Nat} {x : Operand} {a : Addr} (hu : ∀ w, (underlying t).run P w = .ok (.array n e) w) (hn : ¬ len < n) (ho : o.op = .sliceToArrayPointer t x) (hx : ev S x = some (.slice (some a) len cap)) : FPure P o S (.pointer (some a)) := fun ρ hρ w => by
  simp only [execOp, ho, hρ _ _ hx]
  refine val_run ?_
  unfold Instr.arrayAt
  refine (run_of_bind (hu w)).trans ?_
  simp only [if_neg hn]; rfl
theorem tu62 (w : World) : (underlying 62).run Try.prog w = .ok (.array 512 5) w := by kernel_rfl
/-- What else is owned stays. -/
theorem frame {X : Type} {u : X → Value} {E A : Heap} {E' : X → Heap} {f : FuncId} {args : Array Value} (h : ∀ (w0 : World) (I : Mem) (w : World), Cls w0 I E w → Calls Try.prog f args w fun e w' => ∃ x, e = .returned (u x) ∧ Cls w0 I (E' x) w') {w0 w : World} {I : Mem} (hc : Cls w0 I (E ++ A) w) :
    Calls Try.prog f args w fun e w' => ∃ x, e = .returned (u x) ∧ Cls w0 I (E' x ++ A) w' := by
  refine (h w0 (addJ I A) w hc.settle).mono fun e w' ⟨x, he, hc'⟩ => ⟨x, he, ?_⟩
  have hnA : (A.filterMap Prod.fst).Nodup := hc.nodup.sublist ((List.sublist_append_right E A).filterMap _)
  have hA : ∀ b o, (some b, o) ∈ A → addJ I A b = some o := fun b o hm => by
    unfold addJ
    rw [hc.disj b o (List.mem_append_right _ hm)]
    exact inJ_of_mem hnA hm
  refine ⟨hc'.os, hc'.tape, hc'.output, hc'.size, fun b o e => hc'.imm b o (Ext.addJ _ _ b o e), fun b o hm => ?_, fun b o hm => ?_, ?_⟩
  · rcases List.mem_append.1 hm with hm | hm
    · exact hc'.own b o hm
    · exact hc'.imm b o (hA b o hm)
  · rcases List.mem_append.1 hm with hm | hm
    · have := hc'.disj b o hm
      cases hI : I b with
      | none => rfl
      | some z => rw [Ext.addJ I A b z hI] at this; cases this
    · exact hc.disj b o (List.mem_append_right _ hm)
  · rw [List.filterMap_append, List.nodup_append]
    refine ⟨hc'.nodup, hnA, fun a ha b hb e => ?_⟩
    subst e
    obtain ⟨z, hz⟩ := mem_ids.1 ha
    obtain ⟨y, hy⟩ := mem_ids.1 hb
    have h1 := hc'.disj a z hz
    rw [hA a y hy] at h1; cases h1
end Go.Proofs.Ytjomnicfcdkfdaa
end

section
namespace Go.Proofs.Ytjomnicfcdkfdaa
open Go Go.HW Go.RowKit
set_option linter.unusedVariables false
set_option linter.unusedSimpArgs false

noncomputable def B15 : Code := bodyOf Try.f15
theorem en15 (args : Array Value) (w : World) : (callFunc 15 args).run Try.prog w = .ok (.enter 15 args) w := by kernel_rfl

theorem wnew {b : Nat} {x : Wr} (hx : x.2.length = 512) : OwnV (.slice (some ⟨b, 0, none⟩) 1 1) (wrc x) 513 1 (wrc x).toList := by
  have h := wrc_size hx
  have h2 : (wrc x).toList.length = 513 := by simpa using h
  exact OwnV.fresh (Nat.le_refl _) (by simp [maxLen]) (by rw [h]) (by rw [Nat.one_mul, List.take_of_length_le (by rw [h2]; exact Nat.le_refl _)]) (by rw [h2])
theorem tu32 (w : World) : (underlying 32).run Try.prog w = .ok (.slice 5) w := by kernel_rfl

theorem write_1 {w0 w : World} {I : Mem} {b m : Nat} {v xv : Value} {cur xc : Array Value} {ex : Nat} {s : Dk} (hc : Cls w0 I (dkH b m v cur s ++ [(xv.ownBlock, .cells xc ex (0, 0))]) w) (ho : DkO v cur s) {xs : List Int} (hx : IntOwn .u8 xv xc xs) (n : Int) (h : hasD s n = false) : Calls Try.prog 15 #[ptr b 0, .int .i64 n, xv] w (fun e w' => ∃ v2 cur2, e = .returned (.int .i64 2) ∧ DkO v2 cur2 s ∧ Cls w0 I (dkH b m v2 cur2 s ++ [(xv.ownBlock, .cells xc ex (0, 0))]) w') := by
  refine calls_of_CW (N := 41) Try.func15 (show _ = some B15 by kernel_rfl) (by kernel_rfl) rfl (S := [(0, ptr b 0), (1, .int .i64 n), (2, xv)]) (by simp) hc ?_
  show CW _ _ _ (sub [] B15) _ _ _
  refine C.seq (x := sub [0] B15) (y := sub [1] B15) ?_
  refine C.region (id := 0) (m := 1) (ops := opsOf (sub [0] B15)) rfl ?_
  refine W.pure rfl (wo rfl) rfl rfl (p_assign rfl rfl) (nf rfl) ?_
  refine W.doneQ (y := sub [1] B15) rfl ?_
  refine C.seq (x := sub [1, 0] B15) (y := sub [1, 1] B15) ?_
  refine C.block (id := 0) (c := sub [1, 0, 0] B15) ?_
  refine C.seq (x := sub [1, 0, 0, 0] B15) (y := sub [1, 0, 0, 1] B15) ?_
  refine C.region (id := 1) (m := 4) (ops := opsOf (sub [1, 0, 0, 0] B15)) rfl ?_
  refine W.pure rfl (wo rfl) rfl rfl (p_move rfl rfl) (nf rfl) ?_
  refine W.quiet rfl (wo rfl) rfl rfl (f_callR rfl rfl (args_val (vs := [ptr b 0]) rfl) (en32 _) (fun w2 hc2 => there_ok (M := heapOf w2) (fun _ _ e => e) (ho.M (b := b) (m := m) hc2 (fun p hp => by first | exact hp | exact List.mem_cons_of_mem _ hp | exact List.mem_cons_of_mem _ (List.mem_cons_of_mem _ hp) | exact List.mem_append_left _ hp)))) (nf rfl) ?_
  refine W.pure rfl (wo rfl) rfl rfl (p_not rfl rfl) (nf rfl) ?_
  refine W.pure rfl (wo rfl) rfl rfl (p_assign rfl rfl) (nf rfl) ?_
  refine W.doneQ (y := sub [1, 0, 0, 1] B15) rfl ?_
  refine C.cond_false (x := sub [1, 0, 0, 1, 0] B15) (y := sub [1, 0, 0, 1, 1] B15) rfl rfl ?_
  refine C.seq (x := sub [1, 0, 0, 1, 1, 0] B15) (y := sub [1, 0, 0, 1, 1, 1] B15) ?_
  refine C.region (id := 3) (m := 10) (ops := opsOf (sub [1, 0, 0, 1, 1, 0] B15)) rfl ?_
  refine W.pure rfl (wo rfl) rfl rfl (p_move rfl rfl) (nf rfl) ?_
  refine W.pure rfl (wo rfl) rfl rfl (p_move rfl rfl) (nf rfl) ?_
  refine W.quiet rfl (wo rfl) rfl rfl (qF (h) (f_callR rfl rfl (args_val (vs := [ptr b 0, .int .i64 n]) rfl) (en34 _) (fun w2 hc2 => has_ok (M := heapOf w2) (fun _ _ e => e) (ho.M (b := b) (m := m) hc2 (fun p hp => by first | exact hp | exact List.mem_cons_of_mem _ hp | exact List.mem_cons_of_mem _ (List.mem_cons_of_mem _ hp) | exact List.mem_append_left _ hp)) n))) (nf rfl) ?_
  refine W.pure rfl (wo rfl) rfl rfl (p_not rfl rfl) (nf rfl) ?_
  refine W.pure rfl (wo rfl) rfl rfl (p_move rfl rfl) (nf rfl) ?_
  refine W.not rfl (wo rfl) rfl rfl ?_
  refine W.not rfl (wo rfl) rfl rfl ?_
  refine W.not rfl (wo rfl) rfl rfl ?_
  refine W.pure rfl (wo rfl) rfl rfl (p_pick_true rfl rfl rfl) (nf rfl) ?_
  refine W.pure rfl (wo rfl) rfl rfl (p_assign rfl rfl) (nf rfl) ?_
  refine W.doneQ (y := sub [1, 0, 0, 1, 1, 1] B15) rfl ?_
  refine C.cond_true (x := sub [1, 0, 0, 1, 1, 1, 0] B15) (y := sub [1, 0, 0, 1, 1, 1, 1] B15) rfl rfl ?_
  refine C.seq (x := sub [1, 0, 0, 1, 1, 1, 0, 0] B15) (y := sub [1, 0, 0, 1, 1, 1, 0, 1] B15) ?_
  refine C.region (id := 4) (m := 1) (ops := opsOf (sub [1, 0, 0, 1, 1, 1, 0, 0] B15)) rfl ?_
  refine W.pure rfl (wo rfl) rfl rfl (p_assign rfl rfl) (nf rfl) ?_
  refine W.doneQ (y := sub [1, 0, 0, 1, 1, 1, 0, 1] B15) rfl ?_
  exact C.ret (R := fun e w' => ∃ v2 cur2, e = .returned (.int .i64 2) ∧ DkO v2 cur2 s ∧ Cls w0 I (dkH b m v2 cur2 s ++ [(xv.ownBlock, .cells xc ex (0, 0))]) w') (rs := [.tmp 6]) (vs := [.int .i64 2]) rfl Try.func15 rfl rfl rfl (res_cons (ResV.tmp rfl) res_nil) fun w1 hc1 => ⟨v, cur, rfl, ho, hc1⟩

theorem write_2 {w0 w : World} {I : Mem} {b m : Nat} {v xv : Value} {cur xc : Array Value} {ex : Nat} {s : Dk} (hc : Cls w0 I (dkH b m v cur s ++ [(xv.ownBlock, .cells xc ex (0, 0))]) w) (ho : DkO v cur s) {xs : List Int} (hx : IntOwn .u8 xv xc xs) (n : Int) (h : hasD s n = true) (h2 : ¬ xs.length = 512) : Calls Try.prog 15 #[ptr b 0, .int .i64 n, xv] w (fun e w' => ∃ v2 cur2, e = .returned (.int .i64 2) ∧ DkO v2 cur2 s ∧ Cls w0 I (dkH b m v2 cur2 s ++ [(xv.ownBlock, .cells xc ex (0, 0))]) w') := by
  refine calls_of_CW (N := 41) Try.func15 (show _ = some B15 by kernel_rfl) (by kernel_rfl) rfl (S := [(0, ptr b 0), (1, .int .i64 n), (2, xv)]) (by simp) hc ?_
  show CW _ _ _ (sub [] B15) _ _ _
  refine C.seq (x := sub [0] B15) (y := sub [1] B15) ?_
  refine C.region (id := 0) (m := 1) (ops := opsOf (sub [0] B15)) rfl ?_
  refine W.pure rfl (wo rfl) rfl rfl (p_assign rfl rfl) (nf rfl) ?_
  refine W.doneQ (y := sub [1] B15) rfl ?_
  refine C.seq (x := sub [1, 0] B15) (y := sub [1, 1] B15) ?_
  refine C.block (id := 0) (c := sub [1, 0, 0] B15) ?_
  refine C.seq (x := sub [1, 0, 0, 0] B15) (y := sub [1, 0, 0, 1] B15) ?_
  refine C.region (id := 1) (m := 4) (ops := opsOf (sub [1, 0, 0, 0] B15)) rfl ?_
  refine W.pure rfl (wo rfl) rfl rfl (p_move rfl rfl) (nf rfl) ?_
  refine W.quiet rfl (wo rfl) rfl rfl (f_callR rfl rfl (args_val (vs := [ptr b 0]) rfl) (en32 _) (fun w2 hc2 => there_ok (M := heapOf w2) (fun _ _ e => e) (ho.M (b := b) (m := m) hc2 (fun p hp => by first | exact hp | exact List.mem_cons_of_mem _ hp | exact List.mem_cons_of_mem _ (List.mem_cons_of_mem _ hp) | exact List.mem_append_left _ hp)))) (nf rfl) ?_
  refine W.pure rfl (wo rfl) rfl rfl (p_not rfl rfl) (nf rfl) ?_
  refine W.pure rfl (wo rfl) rfl rfl (p_assign rfl rfl) (nf rfl) ?_
  refine W.doneQ (y := sub [1, 0, 0, 1] B15) rfl ?_
  refine C.cond_false (x := sub [1, 0, 0, 1, 0] B15) (y := sub [1, 0, 0, 1, 1] B15) rfl rfl ?_
  refine C.seq (x := sub [1, 0, 0, 1, 1, 0] B15) (y := sub [1, 0, 0, 1, 1, 1] B15) ?_
  refine C.region (id := 3) (m := 10) (ops := opsOf (sub [1, 0, 0, 1, 1, 0] B15)) rfl ?_
  refine W.pure rfl (wo rfl) rfl rfl (p_move rfl rfl) (nf rfl) ?_
  refine W.pure rfl (wo rfl) rfl rfl (p_move rfl rfl) (nf rfl) ?_
  refine W.quiet rfl (wo rfl) rfl rfl (qT (h) (f_callR rfl rfl (args_val (vs := [ptr b 0, .int .i64 n]) rfl) (en34 _) (fun w2 hc2 => has_ok (M := heapOf w2) (fun _ _ e => e) (ho.M (b := b) (m := m) hc2 (fun p hp => by first | exact hp | exact List.mem_cons_of_mem _ hp | exact List.mem_cons_of_mem _ (List.mem_cons_of_mem _ hp) | exact List.mem_append_left _ hp)) n))) (nf rfl) ?_
  refine W.pure rfl (wo rfl) rfl rfl (p_not rfl rfl) (nf rfl) ?_
  refine W.pure rfl (wo rfl) rfl rfl (p_move rfl rfl) (nf rfl) ?_
  refine W.pure rfl (wo rfl) rfl rfl (p_move rfl rfl) (nf rfl) ?_
  refine W.pure rfl (wo rfl) rfl rfl (p_slLen tu32 hx.sl rfl rfl) (nf rfl) ?_
  refine W.pure rfl (wo rfl) rfl rfl (pT (by simp; omega) (p_neq rfl rfl rfl)) (nf rfl) ?_
  refine W.pure rfl (wo rfl) rfl rfl (p_pick_false rfl rfl rfl) (nf rfl) ?_
  refine W.pure rfl (wo rfl) rfl rfl (p_assign rfl rfl) (nf rfl) ?_
  refine W.doneQ (y := sub [1, 0, 0, 1, 1, 1] B15) rfl ?_
  refine C.cond_true (x := sub [1, 0, 0, 1, 1, 1, 0] B15) (y := sub [1, 0, 0, 1, 1, 1, 1] B15) rfl rfl ?_
  refine C.seq (x := sub [1, 0, 0, 1, 1, 1, 0, 0] B15) (y := sub [1, 0, 0, 1, 1, 1, 0, 1] B15) ?_
  refine C.region (id := 4) (m := 1) (ops := opsOf (sub [1, 0, 0, 1, 1, 1, 0, 0] B15)) rfl ?_
  refine W.pure rfl (wo rfl) rfl rfl (p_assign rfl rfl) (nf rfl) ?_
  refine W.doneQ (y := sub [1, 0, 0, 1, 1, 1, 0, 1] B15) rfl ?_
  exact C.ret (R := fun e w' => ∃ v2 cur2, e = .returned (.int .i64 2) ∧ DkO v2 cur2 s ∧ Cls w0 I (dkH b m v2 cur2 s ++ [(xv.ownBlock, .cells xc ex (0, 0))]) w') (rs := [.tmp 6]) (vs := [.int .i64 2]) rfl Try.func15 rfl rfl rfl (res_cons (ResV.tmp rfl) res_nil) fun w1 hc1 => ⟨v, cur, rfl, ho, hc1⟩

theorem write_3 {w0 w : World} {I : Mem} {b m : Nat} {v xv : Value} {cur xc : Array Value} {ex : Nat} {s : Dk} (hc : Cls w0 I (dkH b m v cur s ++ [(xv.ownBlock, .cells xc ex (0, 0))]) w) (ho : DkO v cur s) {xs : List Int} (hx : IntOwn .u8 xv xc xs) (n : Int) {e1 : Int} {s1 : Dk} (hstep : ∀ {w0 w : World} {I : Mem}, Cls w0 I (dkH b m v cur s) w → Calls Try.prog 33 #[ptr b 0] w fun e w' => e = .returned (.int .i64 e1) ∧ Cls w0 I (dkH b m v cur s1) w') (ho1 : DkO v cur s1) (h : hasD s n = true) (h2 : xs.length = 512) (h3 : e1 = 14) : Calls Try.prog 15 #[ptr b 0, .int .i64 n, xv] w (fun e w' => ∃ v2 cur2, e = .returned (.int .i64 e1) ∧ DkO v2 cur2 s1 ∧ Cls w0 I (dkH b m v2 cur2 s1 ++ [(xv.ownBlock, .cells xc ex (0, 0))]) w') := by
  refine calls_of_CW (N := 41) Try.func15 (show _ = some B15 by kernel_rfl) (by kernel_rfl) rfl (S := [(0, ptr b 0), (1, .int .i64 n), (2, xv)]) (by simp) hc ?_
  show CW _ _ _ (sub [] B15) _ _ _
  refine C.seq (x := sub [0] B15) (y := sub [1] B15) ?_
  refine C.region (id := 0) (m := 1) (ops := opsOf (sub [0] B15)) rfl ?_
  refine W.pure rfl (wo rfl) rfl rfl (p_assign rfl rfl) (nf rfl) ?_
  refine W.doneQ (y := sub [1] B15) rfl ?_
  refine C.seq (x := sub [1, 0] B15) (y := sub [1, 1] B15) ?_
  refine C.block (id := 0) (c := sub [1, 0, 0] B15) ?_
  refine C.seq (x := sub [1, 0, 0, 0] B15) (y := sub [1, 0, 0, 1] B15) ?_
  refine C.region (id := 1) (m := 4) (ops := opsOf (sub [1, 0, 0, 0] B15)) rfl ?_
  refine W.pure rfl (wo rfl) rfl rfl (p_move rfl rfl) (nf rfl) ?_
  refine W.quiet rfl (wo rfl) rfl rfl (f_callR rfl rfl (args_val (vs := [ptr b 0]) rfl) (en32 _) (fun w2 hc2 => there_ok (M := heapOf w2) (fun _ _ e => e) (ho.M (b := b) (m := m) hc2 (fun p hp => by first | exact hp | exact List.mem_cons_of_mem _ hp | exact List.mem_cons_of_mem _ (List.mem_cons_of_mem _ hp) | exact List.mem_append_left _ hp)))) (nf rfl) ?_
  refine W.pure rfl (wo rfl) rfl rfl (p_not rfl rfl) (nf rfl) ?_
  refine W.pure rfl (wo rfl) rfl rfl (p_assign rfl rfl) (nf rfl) ?_
  refine W.doneQ (y := sub [1, 0, 0, 1] B15) rfl ?_
  refine C.cond_false (x := sub [1, 0, 0, 1, 0] B15) (y := sub [1, 0, 0, 1, 1] B15) rfl rfl ?_
  refine C.seq (x := sub [1, 0, 0, 1, 1, 0] B15) (y := sub [1, 0, 0, 1, 1, 1] B15) ?_
  refine C.region (id := 3) (m := 10) (ops := opsOf (sub [1, 0, 0, 1, 1, 0] B15)) rfl ?_
  refine W.pure rfl (wo rfl) rfl rfl (p_move rfl rfl) (nf rfl) ?_
  refine W.pure rfl (wo rfl) rfl rfl (p_move rfl rfl) (nf rfl) ?_
  refine W.quiet rfl (wo rfl) rfl rfl (qT (h) (f_callR rfl rfl (args_val (vs := [ptr b 0, .int .i64 n]) rfl) (en34 _) (fun w2 hc2 => has_ok (M := heapOf w2) (fun _ _ e => e) (ho.M (b := b) (m := m) hc2 (fun p hp => by first | exact hp | exact List.mem_cons_of_mem _ hp | exact List.mem_cons_of_mem _ (List.mem_cons_of_mem _ hp) | exact List.mem_append_left _ hp)) n))) (nf rfl) ?_
  refine W.pure rfl (wo rfl) rfl rfl (p_not rfl rfl) (nf rfl) ?_
  refine W.pure rfl (wo rfl) rfl rfl (p_move rfl rfl) (nf rfl) ?_
  refine W.pure rfl (wo rfl) rfl rfl (p_move rfl rfl) (nf rfl) ?_
  refine W.pure rfl (wo rfl) rfl rfl (p_slLen tu32 hx.sl rfl rfl) (nf rfl) ?_
  refine W.pure rfl (wo rfl) rfl rfl (pF (by simp; omega) (p_neq rfl rfl rfl)) (nf rfl) ?_
  refine W.pure rfl (wo rfl) rfl rfl (p_pick_false rfl rfl rfl) (nf rfl) ?_
  refine W.pure rfl (wo rfl) rfl rfl (p_assign rfl rfl) (nf rfl) ?_
  refine W.doneQ (y := sub [1, 0, 0, 1, 1, 1] B15) rfl ?_
  refine C.cond_false (x := sub [1, 0, 0, 1, 1, 1, 0] B15) (y := sub [1, 0, 0, 1, 1, 1, 1] B15) rfl rfl ?_
  refine C.skipQ (y := sub [1, 1] B15) rfl ?_
  refine C.seq (x := sub [1, 1, 0] B15) (y := sub [1, 1, 1] B15) ?_
  refine C.region (id := 5) (m := 3) (ops := opsOf (sub [1, 1, 0] B15)) rfl ?_
  refine W.pure rfl (wo rfl) rfl rfl (p_move rfl rfl) (nf rfl) ?_
  refine W.callX (X := Unit) (u := fun _ => .int .i64 e1) (H' := fun _ => dkH b m v cur s1 ++ [(xv.ownBlock, .cells xc ex (0, 0))]) rfl (wo rfl) rfl rfl rfl rfl rfl (args_val (vs := [ptr b 0]) rfl) (en33 _) (fun w2 hc2 => frame (X := Unit) (u := fun _ => .int .i64 e1) (E' := fun _ => dkH b m v cur s1) (fun w0 I w hc => (hstep hc).mono fun e w3 ⟨h1, h2⟩ => ⟨(), h1, h2⟩) hc2) ?_
  intro _
  refine W.pure rfl (wo rfl) rfl rfl (p_assign rfl rfl) (nf rfl) ?_
  refine W.doneQ (y := sub [1, 1, 1] B15) rfl ?_
  refine C.seq (x := sub [1, 1, 1, 0] B15) (y := sub [1, 1, 1, 1] B15) ?_
  refine C.seq (x := sub [1, 1, 1, 0, 0] B15) (y := sub [1, 1, 1, 0, 1] B15) ?_
  refine C.region (id := 6) (m := 2) (ops := opsOf (sub [1, 1, 1, 0, 0] B15)) rfl ?_
  refine W.pure rfl (wo rfl) rfl rfl (p_move rfl rfl) (nf rfl) ?_
  refine W.pure rfl (wo rfl) rfl rfl (pF (by subst h3; rfl) (p_neq rfl rfl rfl)) (nf rfl) ?_
  refine W.doneQ (y := sub [1, 1, 1, 0, 1] B15) rfl ?_
  refine C.cond_false (x := sub [1, 1, 1, 0, 1, 0] B15) (y := sub [1, 1, 1, 0, 1, 1] B15) rfl rfl ?_
  refine C.skipQ (y := sub [1, 1, 1, 1] B15) rfl ?_
  refine C.seq (x := sub [1, 1, 1, 1, 0] B15) (y := sub [1, 1, 1, 1, 1] B15) ?_
  refine C.region (id := 8) (m := 2) (ops := opsOf (sub [1, 1, 1, 1, 0] B15)) rfl ?_
  refine W.pure rfl (wo rfl) rfl rfl (p_move rfl rfl) (nf rfl) ?_
  refine W.pure rfl (wo rfl) rfl rfl (p_assign rfl rfl) (nf rfl) ?_
  refine W.doneQ (y := sub [1, 1, 1, 1, 1] B15) rfl ?_
  exact C.ret (R := fun e w' => ∃ v2 cur2, e = .returned (.int .i64 e1) ∧ DkO v2 cur2 s1 ∧ Cls w0 I (dkH b m v2 cur2 s1 ++ [(xv.ownBlock, .cells xc ex (0, 0))]) w') (rs := [.tmp 6]) (vs := [.int .i64 e1]) rfl Try.func15 rfl rfl rfl (res_cons (ResV.tmp rfl) res_nil) fun w1 hc1 => ⟨v, cur, rfl, ho1, hc1⟩

theorem write_4 {w0 w : World} {I : Mem} {b m : Nat} {v xv : Value} {cur xc : Array Value} {ex : Nat} {s : Dk} (hc : Cls w0 I (dkH b m v cur s ++ [(xv.ownBlock, .cells xc ex (0, 0))]) w) (ho : DkO v cur s) {xs : List Int} (hx : IntOwn .u8 xv xc xs) (n : Int) {e1 : Int} {s1 : Dk} (hstep : ∀ {w0 w : World} {I : Mem}, Cls w0 I (dkH b m v cur s) w → Calls Try.prog 33 #[ptr b 0] w fun e w' => e = .returned (.int .i64 e1) ∧ Cls w0 I (dkH b m v cur s1) w') (ho1 : DkO v cur s1) (h : hasD s n = true) (h2 : xs.length = 512) (h3 : ¬ e1 = 14) (hl : s1.late.length ≤ 137438953471) : Calls Try.prog 15 #[ptr b 0, .int .i64 n, xv] w (fun e w' => ∃ v2 cur2, e = .returned (.int .i64 e1) ∧ DkO v2 cur2 { s1 with late := s1.late ++ [(n, xs)] } ∧ Cls w0 I (dkH b m v2 cur2 { s1 with late := s1.late ++ [(n, xs)] } ++ [(xv.ownBlock, .cells xc ex (0, 0))]) w') := by
  obtain ⟨cs, hcs, hch⟩ := id ho1.hr
  have hcl := hcs.1
  rcases hx.2 with ⟨rfl, h0⟩ | ⟨g, cap, rfl, k1, k2, k3, k4⟩
  · omega
  have hk4 : (xc.toList.drop 0).take 512 = encl .u8 xs := by rw [List.drop_zero, ← k4, h2]
  refine calls_of_CW (N := 41) Try.func15 (show _ = some B15 by kernel_rfl) (by kernel_rfl) rfl (S := [(0, ptr b 0), (1, .int .i64 n), (2, .slice (some ⟨g, 0, none⟩) xs.length cap)]) (by simp) hc ?_
  show CW _ _ _ (sub [] B15) _ _ _
  refine C.seq (x := sub [0] B15) (y := sub [1] B15) ?_
  refine C.region (id := 0) (m := 1) (ops := opsOf (sub [0] B15)) rfl ?_
  refine W.pure rfl (wo rfl) rfl rfl (p_assign rfl rfl) (nf rfl) ?_
  refine W.doneQ (y := sub [1] B15) rfl ?_
  refine C.seq (x := sub [1, 0] B15) (y := sub [1, 1] B15) ?_
  refine C.block (id := 0) (c := sub [1, 0, 0] B15) ?_
  refine C.seq (x := sub [1, 0, 0, 0] B15) (y := sub [1, 0, 0, 1] B15) ?_
  refine C.region (id := 1) (m := 4) (ops := opsOf (sub [1, 0, 0, 0] B15)) rfl ?_
  refine W.pure rfl (wo rfl) rfl rfl (p_move rfl rfl) (nf rfl) ?_
  refine W.quiet rfl (wo rfl) rfl rfl (f_callR rfl rfl (args_val (vs := [ptr b 0]) rfl) (en32 _) (fun w2 hc2 => there_ok (M := heapOf w2) (fun _ _ e => e) (ho.M (b := b) (m := m) hc2 (fun p hp => by first | exact hp | exact List.mem_cons_of_mem _ hp | exact List.mem_cons_of_mem _ (List.mem_cons_of_mem _ hp) | exact List.mem_append_left _ hp)))) (nf rfl) ?_
  refine W.pure rfl (wo rfl) rfl rfl (p_not rfl rfl) (nf rfl) ?_
  refine W.pure rfl (wo rfl) rfl rfl (p_assign rfl rfl) (nf rfl) ?_
  refine W.doneQ (y := sub [1, 0, 0, 1] B15) rfl ?_
  refine C.cond_false (x := sub [1, 0, 0, 1, 0] B15) (y := sub [1, 0, 0, 1, 1] B15) rfl rfl ?_
  refine C.seq (x := sub [1, 0, 0, 1, 1, 0] B15) (y := sub [1, 0, 0, 1, 1, 1] B15) ?_
  refine C.region (id := 3) (m := 10) (ops := opsOf (sub [1, 0, 0, 1, 1, 0] B15)) rfl ?_
  refine W.pure rfl (wo rfl) rfl rfl (p_move rfl rfl) (nf rfl) ?_
  refine W.pure rfl (wo rfl) rfl rfl (p_move rfl rfl) (nf rfl) ?_
  refine W.quiet rfl (wo rfl) rfl rfl (qT (h) (f_callR rfl rfl (args_val (vs := [ptr b 0, .int .i64 n]) rfl) (en34 _) (fun w2 hc2 => has_ok (M := heapOf w2) (fun _ _ e => e) (ho.M (b := b) (m := m) hc2 (fun p hp => by first | exact hp | exact List.mem_cons_of_mem _ hp | exact List.mem_cons_of_mem _ (List.mem_cons_of_mem _ hp) | exact List.mem_append_left _ hp)) n))) (nf rfl) ?_
  refine W.pure rfl (wo rfl) rfl rfl (p_not rfl rfl) (nf rfl) ?_
  refine W.pure rfl (wo rfl) rfl rfl (p_move rfl rfl) (nf rfl) ?_
  refine W.pure rfl (wo rfl) rfl rfl (p_move rfl rfl) (nf rfl) ?_
  refine W.pure rfl (wo rfl) rfl rfl (p_slLen tu32 hx.sl rfl rfl) (nf rfl) ?_
  refine W.pure rfl (wo rfl) rfl rfl (pF (by simp; omega) (p_neq rfl rfl rfl)) (nf rfl) ?_
  refine W.pure rfl (wo rfl) rfl rfl (p_pick_false rfl rfl rfl) (nf rfl) ?_
  refine W.pure rfl (wo rfl) rfl rfl (p_assign rfl rfl) (nf rfl) ?_
  refine W.doneQ (y := sub [1, 0, 0, 1, 1, 1] B15) rfl ?_
  refine C.cond_false (x := sub [1, 0, 0, 1, 1, 1, 0] B15) (y := sub [1, 0, 0, 1, 1, 1, 1] B15) rfl rfl ?_
  refine C.skipQ (y := sub [1, 1] B15) rfl ?_
  refine C.seq (x := sub [1, 1, 0] B15) (y := sub [1, 1, 1] B15) ?_
  refine C.region (id := 5) (m := 3) (ops := opsOf (sub [1, 1, 0] B15)) rfl ?_
  refine W.pure rfl (wo rfl) rfl rfl (p_move rfl rfl) (nf rfl) ?_
  refine W.callX (X := Unit) (u := fun _ => .int .i64 e1) (H' := fun _ => dkH b m v cur s1 ++ [((Value.slice (some ⟨g, 0, none⟩) xs.length cap).ownBlock, .cells xc ex (0, 0))]) rfl (wo rfl) rfl rfl rfl rfl rfl (args_val (vs := [ptr b 0]) rfl) (en33 _) (fun w2 hc2 => frame (X := Unit) (u := fun _ => .int .i64 e1) (E' := fun _ => dkH b m v cur s1) (fun w0 I w hc => (hstep hc).mono fun e w3 ⟨h1, h2⟩ => ⟨(), h1, h2⟩) hc2) ?_
  intro _
  refine W.pure rfl (wo rfl) rfl rfl (p_assign rfl rfl) (nf rfl) ?_
  refine W.doneQ (y := sub [1, 1, 1] B15) rfl ?_
  refine C.seq (x := sub [1, 1, 1, 0] B15) (y := sub [1, 1, 1, 1] B15) ?_
  refine C.seq (x := sub [1, 1, 1, 0, 0] B15) (y := sub [1, 1, 1, 0, 1] B15) ?_
  refine C.region (id := 6) (m := 2) (ops := opsOf (sub [1, 1, 1, 0, 0] B15)) rfl ?_
  refine W.pure rfl (wo rfl) rfl rfl (p_move rfl rfl) (nf rfl) ?_
  refine W.pure rfl (wo rfl) rfl rfl (pT (by simpa using h3) (p_neq rfl rfl rfl)) (nf rfl) ?_
  refine W.doneQ (y := sub [1, 1, 1, 0, 1] B15) rfl ?_
  refine C.cond_true (x := sub [1, 1, 1, 0, 1, 0] B15) (y := sub [1, 1, 1, 0, 1, 1] B15) rfl rfl ?_
  refine C.regionD (id := 7) (ops := opsOf (sub [1, 1, 1, 0, 1, 0] B15)) [0, 1, 2, 3, 4, 5, 6, 7, 8, 9, 10, 11, 12, 13, 14] [0, 0, 2, 6, 14, 0, 0, 64, 192, 480, 992, 2046, 4095, 8191, 16383] [(.pure, none), (.pure, none), (.pure, none), (.pure, none), (.quiet, none), (.pure, none), (.pure, none), (.pure, none), (.quiet, none), (.pure, none), (.alloc, none), (.actx, none), (.pure, none), (.pure, none), (.store, none)] (by kernel_rfl) ?_
  intro wD7 hl7
  refine DW.pure rfl rfl rfl rfl rfl (p_move rfl rfl) ?_
  refine DW.pure rfl rfl rfl rfl rfl (p_move rfl rfl) ?_
  refine DW.pure rfl rfl rfl rfl rfl (p_nilCheck rfl rfl) ?_
  refine DW.pure rfl rfl rfl rfl rfl (p_fieldAddr tf61_2 rfl rfl) ?_
  refine DW.quiet rfl rfl rfl rfl rfl (f_load (j := 0) ta59 rfl (off := 2) rfl rfl rfl) ?_
  refine DW.pure rfl rfl rfl rfl rfl (p_move rfl rfl) ?_
  refine DW.pure rfl rfl rfl rfl rfl (p_move rfl rfl) ?_
  refine DW.pure rfl rfl rfl rfl rfl (p_s2a tu62 (by omega) rfl rfl) ?_
  refine DW.quiet rfl rfl rfl rfl rfl (f_loadSubA (j := 3) (off := 0) (vs := encl .u8 xs) ta62 ts62 rfl (by simp [encl, h2]) hk4 rfl rfl) ?_
  refine DW.pure rfl rfl rfl rfl rfl (p_build (vs := [(0, .int .i64 n), (1, Blk xs)]) (fun w => build64 h2 w) rfl rfl) ?_
  refine DW.new rfl rfl rfl rfl rfl (f_buildW (x := (n, xs)) h2 rfl (args_val2 rfl)) ?_
  intro bw hbw
  refine DW.actx rfl rfl rfl rfl rfl (f_appendL (j := 3) (m := 1) elem59 rfl hcs (by omega) (by decide) (fun w hc => OwnV.src (cur := wrc (n, xs)) (e := 64) (wnew (b := bw) (x := (n, xs)) h2) hc List.mem_cons_self (ShWr.one (M := fun _ => none) (x := (n, xs)) ⟨rfl, h2⟩)) rfl rfl rfl) ?_
  rintro ⟨⟨v2, cur2⟩, hown2⟩
  refine DW.pure rfl rfl rfl rfl rfl (p_nilCheck rfl rfl) ?_
  refine DW.pure rfl rfl rfl rfl rfl (p_fieldAddr tf61_2 rfl rfl) ?_
  refine DW.put (H' := [(some bw, .cells (wrc (n, xs)) 64 (0, 0)), dk1 b m v2 { s1 with late := s1.late ++ [(n, xs)] }, (some m, dmap s1.set), (v2.ownBlock, .cells cur2 64 (0, 0)), (some g, .cells xc ex (0, 0))]) rfl rfl rfl rfl rfl (f_stDkL (s := s1) (s2 := { s1 with late := s1.late ++ [(n, xs)] }) (j := 1) ts59 (sl_cells hown2.sl) (sl_one hown2.sl) rfl rfl rfl rfl) ?_
  refine DW.doneQ (y := sub [1, 1, 1, 1] B15) hl7 rfl ?_
  refine C.seq (x := sub [1, 1, 1, 1, 0] B15) (y := sub [1, 1, 1, 1, 1] B15) ?_
  refine C.region (id := 8) (m := 2) (ops := opsOf (sub [1, 1, 1, 1, 0] B15)) rfl ?_
  refine W.pure rfl (wo rfl) rfl rfl (p_move rfl rfl) (nf rfl) ?_
  refine W.pure rfl (wo rfl) rfl rfl (p_assign rfl rfl) (nf rfl) ?_
  refine W.doneQ (y := sub [1, 1, 1, 1, 1] B15) rfl ?_
  exact C.ret (R := fun e w' => ∃ v2 cur2, e = .returned (.int .i64 e1) ∧ DkO v2 cur2 { s1 with late := s1.late ++ [(n, xs)] } ∧ Cls w0 I (dkH b m v2 cur2 { s1 with late := s1.late ++ [(n, xs)] } ++ [((Value.slice (some ⟨g, 0, none⟩) xs.length cap).ownBlock, .cells xc ex (0, 0))]) w') (rs := [.tmp 6]) (vs := [.int .i64 e1]) rfl Try.func15 rfl rfl rfl (res_cons (ResV.tmp rfl) res_nil) fun w1 hc1 => ⟨v2, cur2, rfl, ⟨OwnS.snocW h2 hch hcl hown2, ho1.hs⟩, hc1.tail⟩

theorem stepK_late (s : Dk) : (stepK s).2.late = s.late ∧ (stepK s).2.set = s.set ∧ (stepK s).2.n = s.n := by
  unfold stepK
  split
  · exact ⟨rfl, rfl, rfl⟩
  · split
    · exact ⟨rfl, rfl, rfl⟩
    · split <;> exact ⟨rfl, rfl, rfl⟩
theorem stepK_O {v : Value} {cur : Array Value} {s : Dk} (ho : DkO v cur s) : DkO v cur (stepK s).2 := ⟨by rw [(stepK_late s).1]; exact ho.hr, by rw [(stepK_late s).2.1]; exact ho.hs⟩
def writeK (s : Dk) (n : Int) (xs : List Int) : Int × Dk := if hasD s n = false then (2, s) else if ¬ xs.length = 512 then (2, s) else if (stepK s).1 = 14 then (14, (stepK s).2) else ((stepK s).1, { (stepK s).2 with late := (stepK s).2.late ++ [(n, xs)] })
theorem write_ok {w0 w : World} {I : Mem} {b m : Nat} {v xv : Value} {cur xc : Array Value} {ex : Nat} {s : Dk} (hc : Cls w0 I (dkH b m v cur s ++ [(xv.ownBlock, .cells xc ex (0, 0))]) w) (ho : DkO v cur s) {xs : List Int} (hx : IntOwn .u8 xv xc xs) (n : Int) (hl : s.late.length ≤ 137438953471) : Calls Try.prog 15 #[ptr b 0, .int .i64 n, xv] w (fun e w' => ∃ v2 cur2, e = .returned (.int .i64 (writeK s n xs).1) ∧ DkO v2 cur2 (writeK s n xs).2 ∧ Cls w0 I (dkH b m v2 cur2 (writeK s n xs).2 ++ [(xv.ownBlock, .cells xc ex (0, 0))]) w') := by
  unfold writeK
  by_cases h : hasD s n = false
  · rw [if_pos h]; exact write_1 hc ho hx n h
  · rw [if_neg h]
    have h' : hasD s n = true := by simpa using h
    by_cases h2 : xs.length = 512
    · rw [if_neg (by simpa using h2)]
      have hl1 : (stepK s).2.late.length ≤ 137438953471 := by rw [(stepK_late s).1]; exact hl
      by_cases h3 : (stepK s).1 = 14
      · rw [if_pos h3]
        have := write_3 hc ho hx n (fun hc => step_ok hc) (stepK_O ho) h' h2 h3
        rw [h3] at this; exact this
      · rw [if_neg h3]; exact write_4 hc ho hx n (fun hc => step_ok hc) (stepK_O ho) h' h2 h3 hl1
    · rw [if_pos h2]; exact write_2 hc ho hx n h' h2

end Go.Proofs.Ytjomnicfcdkfdaa
end

section
namespace Go.Proofs.Ytjomnicfcdkfdaa
open Go Go.HW Go.RowKit
set_option linter.unusedVariables false
set_option linter.unusedSimpArgs false

theorem en11 (args : Array Value) (w : World) : (callFunc 11 args).run Try.prog w = .ok (.enter 11 args) w := by kernel_rfl
noncomputable def B11 : Code := bodyOf Try.f11
theorem bu61 (n : Int) (m : Nat) (w : World) : (Instr.build 61 #[(0, .int .i64 n), (1, .map (some m))]).run Try.prog w = .ok (.agg #[.int .i64 n, .map (some m), .slice none 0 0, .int .i64 0, .bool false, .bool false]) w := by kernel_rfl
def newK (n : Int) : Dk := ⟨n, [], [], 0, false, false⟩
theorem new_ok {w0 w : World} {I : Mem} {H : Heap} (hc : Cls w0 I H w) (n : Int) (h : ¬ n < 1) (h2 : ¬ 8192 < n) : Calls Try.prog 11 #[.int .i64 n] w (fun e w' => ∃ b m, e = .returned (.tuple #[ptr b 0, .int .i64 0]) ∧ Cls w0 I (dkH b m (.slice none 0 0) #[] (newK n) ++ H) w') := by
  refine calls_of_CW (N := 14) Try.func11 (show _ = some B11 by kernel_rfl) (by kernel_rfl) rfl (S := [(0, .int .i64 n)]) (by simp) hc ?_
  show CW _ _ _ (sub [] B11) _ _ _
  refine C.seq (x := sub [0] B11) (y := sub [1] B11) ?_
  refine C.region (id := 0) (m := 2) (ops := opsOf (sub [0] B11)) rfl ?_
  refine W.pure rfl (wo rfl) rfl rfl (p_assign rfl rfl) (nf rfl) ?_
  refine W.pure rfl (wo rfl) rfl rfl (p_assign rfl rfl) (nf rfl) ?_
  refine W.doneQ (y := sub [1] B11) rfl ?_
  refine C.seq (x := sub [1, 0] B11) (y := sub [1, 1] B11) ?_
  refine C.seq (x := sub [1, 0, 0] B11) (y := sub [1, 0, 1] B11) ?_
  refine C.region (id := 1) (m := 6) (ops := opsOf (sub [1, 0, 0] B11)) rfl ?_
  refine W.pure rfl (wo rfl) rfl rfl (p_move rfl rfl) (nf rfl) ?_
  refine W.pure rfl (wo rfl) rfl rfl (pF (decide_eq_false h) (p_lss rfl rfl rfl)) (nf rfl) ?_
  refine W.pure rfl (wo rfl) rfl rfl (p_move rfl rfl) (nf rfl) ?_
  refine W.pure rfl (wo rfl) rfl rfl (p_move rfl rfl) (nf rfl) ?_
  refine W.pure rfl (wo rfl) rfl rfl (pF (decide_eq_false h2) (p_gtr rfl rfl rfl)) (nf rfl) ?_
  refine W.pure rfl (wo rfl) rfl rfl (p_pick_false rfl rfl rfl) (nf rfl) ?_
  refine W.doneQ (y := sub [1, 0, 1] B11) rfl ?_
  refine C.cond_false (x := sub [1, 0, 1, 0] B11) (y := sub [1, 0, 1, 1] B11) rfl rfl ?_
  refine C.skipQ (y := sub [1, 1] B11) rfl ?_
  refine C.seq (x := sub [1, 1, 0] B11) (y := sub [1, 1, 1] B11) ?_
  refine C.region (id := 3) (m := 6) (ops := opsOf (sub [1, 1, 0] B11)) rfl ?_
  refine W.pure rfl (wo rfl) rfl rfl (p_move rfl rfl) (nf rfl) ?_
  refine W.new rfl (wo rfl) rfl rfl (f_makeMap (k := .i64) rfl) (nf rfl) ?_
  intro m hm
  refine W.pure rfl (wo rfl) rfl rfl (p_build (vs := [(0, .int .i64 n), (1, .map (some m))]) (fun w => bu61 n m w) rfl rfl) (nf rfl) ?_
  refine W.new rfl (wo rfl) rfl rfl (f_box rfl rfl) (nf rfl) ?_
  intro b hb
  refine W.pure rfl (wo rfl) rfl rfl (p_assign rfl rfl) (nf rfl) ?_
  refine W.pure rfl (wo rfl) rfl rfl (p_assign rfl rfl) (nf rfl) ?_
  refine W.doneQ (y := sub [1, 1, 1] B11) rfl ?_
  exact C.ret (R := fun e w' => ∃ b m, e = .returned (.tuple #[ptr b 0, .int .i64 0]) ∧ Cls w0 I (dkH b m (.slice none 0 0) #[] (newK n) ++ H) w') (rs := [.tmp 2, .tmp 3]) (vs := [ptr b 0, .int .i64 0]) rfl Try.func11 rfl rfl rfl (res_cons (ResV.tmp rfl) (res_cons (ResV.tmp rfl) res_nil)) fun w1 hc1 => ⟨b, m, rfl, (hc1.nothing (.cells #[] 64 (0, 0))).perm (List.perm_append_comm_assoc [(none, Obj.cells #[] 64 (0, 0))] [dk1 b m (.slice none 0 0) (newK n), (some m, dmap [])] H)⟩

end Go.Proofs.Ytjomnicfcdkfdaa
end

section
namespace Go.Proofs.Ytjomnicfcdkfdaa
open Go Go.HW Go.RowKit
set_option linter.unusedVariables false
set_option linter.unusedSimpArgs false

noncomputable def B20 : Code := bodyOf Try.f20
theorem en20 (args : Array Value) (w : World) : (callFunc 20 args).run Try.prog w = .ok (.enter 20 args) w := by kernel_rfl
theorem en38 (args : Array Value) (w : World) : (callFunc 38 args).run Try.prog w = .ok (.enter 38 args) w := by kernel_rfl

theorem lfind_len : ∀ {l : List Wr} {n : Int} {b : List Int}, (∀ p ∈ l, p.2.length = 512) → lfind l n = some b → b.length = 512
  | [], _, _, _, h => by cases h
  | (a, c) :: r, n, b, hl, h => by
    unfold lfind at h
    split at h
    · cases h; exact hl (a, c) (by simp)
    · exact lfind_len (fun p hp => hl p (by simp [hp])) h
theorem rd_len {s : Dk} (hs : Full s.set) (hl : Full s.late) (n : Int) : (rd s n).length = 512 := by
  unfold rd
  cases h : lfind s.late.reverse n with
  | none => exact mget_len hs n
  | some b => exact lfind_len (fun p hp => hl p (by simpa using hp)) h
theorem DkM.late {M : Mem} {b m : Nat} {v : Value} {s : Dk} (h : DkM M b m v s) : Full s.late := fun p hp => by
  obtain ⟨cs, _, h2⟩ := h.hr
  obtain ⟨i, hi, rfl⟩ := List.getElem_of_mem hp
  exact (h2 i _ (List.getElem?_eq_getElem hi)).2
theorem p_slA {P : Program} {o : Oper} {S : Slots} {t e n b sz : Nat} {x : Operand} (hu : ∀ w, (underlying t).run P w = .ok (.array n e) w) (hs : ∀ w, (sizeOf e).run P w = .ok sz w) (ho : o.op = .slice t x none none none) (hx : ev S x = some (ptr b 0)) (hn : 0 < n) : FPure P o S (.slice (some ⟨b, 0, none⟩) n n) := fun ρ hρ w => by
  simp only [execOp, ho, hρ _ _ hx, Option.map_none]
  refine val_run ?_
  unfold Instr.sliceAt
  refine (run_of_bind (hu w)).trans ?_
  refine (run_of_bind (a := ⟨b, 0, none⟩) (w' := w) rfl).trans ?_
  refine (run_of_bind (a := (0, n, n)) (w' := w) rfl).trans ?_
  refine (run_of_bind (hs w)).trans ?_
  rw [if_neg (by omega)]
  simp [Addr.add]
theorem ts5 (w : World) : (sizeOf 5).run Try.prog w = .ok 1 w := by kernel_rfl

theorem own_arr {xs : List Int} {b : Nat} (h : xs.length = 512) : IntOwn .u8 (.slice (some ⟨b, 0, none⟩) 512 512) (enc .u8 xs) xs := by
  unfold IntOwn
  rw [h]
  exact OwnV.fresh (Nat.le_refl _) (by simp [maxLen]) (by rw [enc_size, h]) (by rw [List.take_of_length_le]; rfl; simp [enc, h]) (by simp [encl, h])

theorem readm_ok {w0 w : World} {I : Mem} {H : Heap} (hc : Cls w0 I H w) {b m : Nat} {v : Value} {s : Dk} (hd : ∀ w, Cls w0 I H w → DkM (heapOf w) b m v s) (hl0 : s.late.length ≤ 1099511627776) (n : Int) (h : hasD s n = true) : Calls Try.prog 20 #[ptr b 0, .int .i64 n] w (fun e w' => ∃ v2 cur2, e = .returned (.tuple #[v2, .int .i64 0]) ∧ IntOwn .u8 v2 cur2 (rd s n) ∧ Cls w0 I ((v2.ownBlock, .cells cur2 62 (0, 0)) :: H) w') := by
  have hrl : (rd s n).length = 512 := rd_len (hd w hc).hs (hd w hc).late n
  refine calls_of_CW (N := 20) Try.func20 (show _ = some B20 by kernel_rfl) (by kernel_rfl) rfl (S := [(0, ptr b 0), (1, .int .i64 n)]) (by simp) hc ?_
  show CW _ _ _ (sub [] B20) _ _ _
  refine C.seq (x := sub [0] B20) (y := sub [1] B20) ?_
  refine C.region (id := 0) (m := 2) (ops := opsOf (sub [0] B20)) rfl ?_
  refine W.pure rfl (wo rfl) rfl rfl (p_assign rfl rfl) (nf rfl) ?_
  refine W.pure rfl (wo rfl) rfl rfl (p_assign rfl rfl) (nf rfl) ?_
  refine W.doneQ (y := sub [1] B20) rfl ?_
  refine C.seq (x := sub [1, 0] B20) (y := sub [1, 1] B20) ?_
  refine C.block (id := 0) (c := sub [1, 0, 0] B20) ?_
  refine C.seq (x := sub [1, 0, 0, 0] B20) (y := sub [1, 0, 0, 1] B20) ?_
  refine C.region (id := 1) (m := 4) (ops := opsOf (sub [1, 0, 0, 0] B20)) rfl ?_
  refine W.pure rfl (wo rfl) rfl rfl (p_move rfl rfl) (nf rfl) ?_
  refine W.quiet rfl (wo rfl) rfl rfl (f_callR rfl rfl (args_val (vs := [ptr b 0]) rfl) (en32 _) (fun w2 hc2 => there_ok (M := heapOf w2) (fun _ _ e => e) (hd w2 hc2))) (nf rfl) ?_
  refine W.pure rfl (wo rfl) rfl rfl (p_not rfl rfl) (nf rfl) ?_
  refine W.pure rfl (wo rfl) rfl rfl (p_assign rfl rfl) (nf rfl) ?_
  refine W.doneQ (y := sub [1, 0, 0, 1] B20) rfl ?_
  refine C.cond_false (x := sub [1, 0, 0, 1, 0] B20) (y := sub [1, 0, 0, 1, 1] B20) rfl rfl ?_
  refine C.seq (x := sub [1, 0, 0, 1, 1, 0] B20) (y := sub [1, 0, 0, 1, 1, 1] B20) ?_
  refine C.region (id := 3) (m := 5) (ops := opsOf (sub [1, 0, 0, 1, 1, 0] B20)) rfl ?_
  refine W.pure rfl (wo rfl) rfl rfl (p_move rfl rfl) (nf rfl) ?_
  refine W.pure rfl (wo rfl) rfl rfl (p_move rfl rfl) (nf rfl) ?_
  refine W.quiet rfl (wo rfl) rfl rfl (qT (h) (f_callR rfl rfl (args_val (vs := [ptr b 0, .int .i64 n]) rfl) (en34 _) (fun w2 hc2 => has_ok (M := heapOf w2) (fun _ _ e => e) (hd w2 hc2) n))) (nf rfl) ?_
  refine W.pure rfl (wo rfl) rfl rfl (p_not rfl rfl) (nf rfl) ?_
  refine W.pure rfl (wo rfl) rfl rfl (p_assign rfl rfl) (nf rfl) ?_
  refine W.doneQ (y := sub [1, 0, 0, 1, 1, 1] B20) rfl ?_
  refine C.cond_false (x := sub [1, 0, 0, 1, 1, 1, 0] B20) (y := sub [1, 0, 0, 1, 1, 1, 1] B20) rfl rfl ?_
  refine C.skipQ (y := sub [1, 1] B20) rfl ?_
  refine C.seq (x := sub [1, 1, 0] B20) (y := sub [1, 1, 1] B20) ?_
  refine C.region (id := 5) (m := 5) (ops := opsOf (sub [1, 1, 0] B20)) rfl ?_
  refine W.pure rfl (wo rfl) rfl rfl (p_move rfl rfl) (nf rfl) ?_
  refine W.pure rfl (wo rfl) rfl rfl (p_move rfl rfl) (nf rfl) ?_
  refine W.quiet rfl (wo rfl) rfl rfl (f_callR rfl rfl (args_val (vs := [ptr b 0, .int .i64 n]) rfl) (en38 _) (fun w2 hc2 => read_ok (M := heapOf w2) (fun _ _ e => e) (hd w2 hc2) hl0 n)) (nf rfl) ?_
  refine W.new rfl (wo rfl) rfl rfl (f_alloc tz62 rfl) (nf rfl) ?_
  intro br hbr
  refine W.put (H' := (some br, .cells (enc .u8 (rd s n)) 62 (0, 0)) :: H) rfl (wo rfl) rfl (f_storeA (j := 0) (c2 := enc .u8 (rd s n)) ts62 rfl (by rw [enc_size]; exact hrl) (by rw [show (Blk zeros).cells = enc .u8 zeros from rfl, enc_size]; exact List.length_replicate) (enc_oneCell _ _) rfl rfl rfl) (nf rfl) ?_
  refine W.doneQ (y := sub [1, 1, 1] B20) rfl ?_
  refine C.seq (x := sub [1, 1, 1, 0] B20) (y := sub [1, 1, 1, 1] B20) ?_
  refine C.region (id := 6) (m := 3) (ops := opsOf (sub [1, 1, 1, 0] B20)) rfl ?_
  refine W.pure rfl (wo rfl) rfl rfl (p_slA tu62 ts5 rfl rfl (by decide)) (nf rfl) ?_
  refine W.pure rfl (wo rfl) rfl rfl (p_assign rfl rfl) (nf rfl) ?_
  refine W.pure rfl (wo rfl) rfl rfl (p_assign rfl rfl) (nf rfl) ?_
  refine W.doneQ (y := sub [1, 1, 1, 1] B20) rfl ?_
  exact C.ret (R := fun e w' => ∃ v2 cur2, e = .returned (.tuple #[v2, .int .i64 0]) ∧ IntOwn .u8 v2 cur2 (rd s n) ∧ Cls w0 I ((v2.ownBlock, .cells cur2 62 (0, 0)) :: H) w') (rs := [.tmp 4, .tmp 5]) (vs := [.slice (some ⟨br, 0, none⟩) 512 512, .int .i64 0]) rfl Try.func20 rfl rfl rfl (res_cons (ResV.tmp rfl) (res_cons (ResV.tmp rfl) res_nil)) fun w1 hc1 => ⟨.slice (some ⟨br, 0, none⟩) 512 512, enc .u8 (rd s n), rfl, own_arr hrl, hc1⟩

end Go.Proofs.Ytjomnicfcdkfdaa
end

section
namespace Go.Proofs.Ytjomnicfcdkfdaa
open Go Go.HW Go.RowKit
set_option linter.unusedVariables false
set_option linter.unusedSimpArgs false

theorem ta5 (w : World) : (isAgg 5).run Try.prog w = .ok false w := by kernel_rfl
end Go.Proofs.Ytjomnicfcdkfdaa
end
