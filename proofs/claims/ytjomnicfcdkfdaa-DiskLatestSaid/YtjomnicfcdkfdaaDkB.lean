import Derived.Test.YtjomnicfcdkfdaaDkM5
namespace Go.Proofs.Ytjomnicfcdkfdaa
open Go Go.HW Go.RowKit
set_option linter.unusedVariables false
set_option linter.unusedSimpArgs false

theorem fold_set : ∀ (l p c r : List Value) (off k : Nat), off + k = p.length → c.length = l.length →
    (l.zipIdx k).foldl (fun (cs : Array Value) (x : Value × Nat) => cs.setIfInBounds (off + x.2) x.1) (p ++ c ++ r).toArray = (p ++ l ++ r).toArray
  | [], p, c, r, off, k, _, h => by
    have : c = [] := List.eq_nil_of_length_eq_zero h
    subst this; rfl
  | x :: l, p, c, r, off, k, h, h2 => by
    match c, h2 with
    | u :: c, h2 =>
      rw [List.zipIdx_cons, List.foldl_cons]
      have e : (p ++ u :: c ++ r).toArray.setIfInBounds (off + k) x = ((p ++ [x]) ++ c ++ r).toArray := by
        rw [h]; simp
      rw [e, fold_set l (p ++ [x]) c r off (k + 1) (by simp; omega) (by simpa using h2)]
      simp
theorem fold_set_arr (v c : Array Value) (p r : List Value) (mid : List Value) (hc : c = (p ++ mid ++ r).toArray) (hm : mid.length = v.size) :
    v.zipIdx.foldl (fun cs (x, j) => cs.setIfInBounds (p.length + j) x) c = (p ++ v.toList ++ r).toArray := by
  subst hc
  have := fold_set v.toList p mid r p.length 0 (by simp) (by simpa using hm)
  rw [← this, ← Array.foldl_toList, Array.toList_zipIdx]
theorem fill_one' {place : Nat → Option (Nat × Nat)} {c : Array Value} {v : Value} {i sz : Nat} (hp : place i = some (0, sz)) (hv : v.cells.size = sz) (hc : c.size = sz) : Instr.fill place c [(i, v)] = some v.cells := by
  simp only [Instr.fill, hp]
  rw [if_neg (by simp [hv, hc])]
  have := fold_set_arr v.cells c [] [] c.toList (by simp) (by simp [hv, hc])
  simp at this
  simp [this]

def fldW (n : String) (t : TypeId) (o b : Nat) : Field := { name := n, type := t, offset := o, embedded := false, tag := "", pkgPath := "escutcheon/disk", byteOffset := b }
theorem tu64 (w : World) : (underlying 64).run Try.prog w = .ok (.struct #[fldW "n" 3 0 0, fldW "b" 62 1 8]) w := by kernel_rfl
theorem places64 (w : World) : ((#[fldW "n" 3 0 0, fldW "b" 62 1 8] : Array Field).mapM fun f => (do Pure.pure (f.offset, ← sizeOf f.type) : Sem (Nat × Nat))).run Try.prog w = .ok #[(0, 1), (1, 512)] w := by kernel_rfl
theorem run_build_struct {P : Program} {t : TypeId} {z : Value} {fields : Array Field} {places : Array (Nat × Nat)} {parts : Array (Nat × Value)} {cells : Array Value} {w : World} (hz : (zeroValue t).run P w = .ok z w) (hu : (underlying t).run P w = .ok (.struct fields) w)
    (hp : (fields.mapM fun f => (do Pure.pure (f.offset, ← sizeOf f.type) : Sem (Nat × Nat))).run P w = .ok places w) (hf : Instr.fill (places[·]?) z.cells parts.toList = some cells) : (Instr.build t parts).run P w = .ok (.agg cells) w := by
  unfold Instr.build
  refine (run_of_bind hz).trans ?_
  refine (run_of_bind hu).trans ?_
  refine (run_of_bind hp).trans ?_
  simp only [hf]; rfl
theorem build64 {n : Int} {xs : List Int} (h : xs.length = 512) (w : World) : (Instr.build 64 #[(0, .int .i64 n), (1, Blk xs)]).run Try.prog w = .ok (.agg (wrc (n, xs))) w := by
  have hf : Instr.fill ((#[(0, 1), (1, 512)] : Array (Nat × Nat))[·]?) (Value.agg (wrc (0, zeros))).cells [(0, .int .i64 n), (1, Blk xs)] = some (wrc (n, xs)) := by
    have hz : zeros.length = 512 := List.length_replicate
    have h1 : (Value.int .i64 n).cells = #[.int .i64 n] := rfl
    have h2 : (Blk xs).cells = enc .u8 xs := rfl
    have hs : (Value.agg (wrc (0, zeros))).cells.size = 513 := wrc_size hz
    simp only [Instr.fill, List.getElem?_toArray, List.getElem?_cons_zero, List.getElem?_cons_succ]
    rw [if_neg (by rw [hs]; simp [h1])]
    have e1 : ((Value.int .i64 n).cells.zipIdx.foldl (fun cs (x, j) => cs.setIfInBounds (0 + j) x) (Value.agg (wrc (0, zeros))).cells) = (([.int .i64 n] : List Value) ++ encl .u8 zeros ++ []).toArray := by
      have := fold_set_arr (Value.int .i64 n).cells (wrc (0, zeros)) [] (encl .u8 zeros) [.int .i64 0] (by simp [wrc, enc, encl]) (by simp [h1])
      have hcell : (Value.agg (wrc (0, zeros))).cells = wrc (0, zeros) := rfl
      rw [hcell]
      simpa [h1] using this
    rw [e1, if_neg (by simp [h2, enc_size, h, encl, hz])]
    have e2 := fold_set_arr (Blk xs).cells _ [.int .i64 n] [] (encl .u8 zeros) rfl (by simp [h2, enc_size, h, encl, hz])
    have e3 : ([Value.int .i64 n] : List Value).length = 1 := rfl
    rw [e3] at e2
    rw [e2]
    simp [h2, wrc, enc]
  exact run_build_struct (tz64 w) (tu64 w) (places64 w) hf
theorem elem59 : Elem Try.prog 59 64 513 520 (.agg (wrc (0, zeros))) := Elem.of (by kernel_rfl) (by kernel_rfl) (wrc_size List.length_replicate) (by decide)
theorem f_buildW {o : Oper} {S : Slots} {parts : Array (Nat × Operand)} {x : Wr} (hx : x.2.length = 512) (ho : o.op = .buildSlice 59 1 parts) (hp : ∀ ρ, Val S ρ → (parts.map fun p => (p.1, ρ p.2)).toList = [(0, .agg (wrc x))]) :
    FNew Try.prog o S (.cells (wrc x) 64) (fun b => .slice (some ⟨b, 0, none⟩) 1 1) :=
  f_buildS elem59 (by decide) (by decide) (fill_one' (v := .agg (wrc x)) rfl (wrc_size hx) (by simp)) ho hp
/-- an append of few that are large -/
theorem f_appendL {P : Program} {o : Oper} {S : Slots} {w0 : World} {I : Mem} {H : Heap} {t e size bytes n m j : Nat} {z : Value} {x y : Operand} {v u : Value} {cur : Array Value} {cs news : List Value} (E : Elem P t e size bytes z) (hH : H[j]? = some (v.ownBlock, .cells cur e (0, 0))) (hown : OwnV v cur size n cs)
    (hb : n + m ≤ 137438953472) (hby : bytes ≤ 1024) (hu : ∀ w, Cls w0 I H w → HW.Src w u m size news) (ho : o.op = .call { callee := .builtin .append, args := #[x, y], argTypes := #[t, t] }) (hx : ev S x = some v) (hy : ev S y = some u) :
    FAct P o w0 I S H {x : Value × Array Value // OwnV x.1 x.2 size (n + m) (cs ++ news)} (fun x => x.1.1) (fun x => H.set j (x.1.1.ownBlock, .cells x.1.2 e (0, 0))) := fun ρ hρ w hc => by
  obtain ⟨hl, h1, hsrc⟩ := hu w hc
  obtain ⟨cc, hrun⟩ := run_builtin (P := P) (ρ := ρ) (vs := #[v, u]) ho (by simp [hρ _ _ hx, hρ _ _ hy]) w
  have hlt : j < H.length := by
    rcases Nat.lt_or_ge j H.length with h | h
    · exact h
    · rw [List.getElem?_eq_none h] at hH; cases hH
  have hmem := List.mem_of_getElem? hH
  rcases hsrc with ⟨c, rfl, rfl⟩ | ⟨a, c, rfl, hcells⟩
  · have hn : news = [] := List.eq_nil_of_length_eq_zero (by simpa using hl)
    subst hn
    refine .inl ⟨⟨(v, cur), by simpa using hown⟩, w, ?_, ?_⟩
    · rw [hrun]
      exact val_run (run_append_none E hown w)
    · have : H.set j (v.ownBlock, .cells cur e (0, 0)) = H := by
        have hg : H[j] = (v.ownBlock, .cells cur e (0, 0)) := by rw [List.getElem?_eq_getElem hlt] at hH; exact Option.some.inj hH
        rw [← hg]; exact List.set_getElem_self hlt
      simp only [this]; exact hc
  · obtain ⟨i, hi, hz, hs, hbb⟩ := E.hi
    have hr := hown.owns hc hmem
    obtain ⟨v', w', hr1, hr2, hr3, -, hr5⟩ := run_append_own_at (P := P) w 0 t o.type e i z size bytes E.ht hi hz hs hbb E.hz E.hs v n cs hr a m c news hl hcells h1 (by simp [maxLen]; omega)
      (by
        have : (n + m) * bytes ≤ 137438953472 * 1024 := Nat.mul_le_mul hb hby
        omega) (Nat.zero_le _)
    have hv' : ∃ cur', OwnV v' cur' size (n + m) (cs ++ news) ∧ ∀ b, v'.ownBlock = some b → w'.heap[b]? = some (.cells cur' e (0, 0)) := by
      refine Exists.elim (show ∃ cur', _ from ?_) fun cur' h => ⟨cur', h⟩
      rcases hr2.2 with ⟨rfl, hz0⟩ | ⟨g, cap, cur', rfl, -, k2, k3, k4, k5, k6⟩
      · exact ⟨#[], ⟨hr2.1, .inl ⟨rfl, hz0⟩⟩, fun b hb => by cases hb⟩
      · exact ⟨cur', ⟨hr2.1, .inr ⟨g, cap, rfl, k3, k4, k5, k6⟩⟩, fun b hb => by cases hb; exact k2⟩
    obtain ⟨cur', ho1, ho2⟩ := hv'
    exact .inl ⟨⟨(v', cur'), ho1⟩, w', by rw [hrun]; exact val_run hr1, hc.grown hH hr3 hr5 ho2⟩
/-- a row of shapes, and one more -/
theorem OwnS.snocW {cur' : Array Value} {xs : List Wr} {x : Wr} {cs : List Value} {v' : Value} (hx : x.2.length = 512) (h : ∀ i y, xs[i]? = some y → ShWr.rep (fun _ => none) (chunk cs 513 i) y) (hl : cs.length = xs.length * 513) (hn : OwnV v' cur' 513 (xs.length + 1) (cs ++ (wrc x).toList)) : OwnS ShWr (fun _ => none) v' cur' (xs ++ [x]) := by
  refine ⟨cs ++ (wrc x).toList, by rw [List.length_append]; exact hn, fun i y hy => ?_⟩
  have hw : (wrc x).toList.length = 513 := by simpa using wrc_size hx
  by_cases hi : i < xs.length
  · rw [List.getElem?_append_left hi] at hy
    have h1 := h i y hy
    have e : chunk (cs ++ (wrc x).toList) 513 i = chunk cs 513 i := by
      have hm : (i + 1) * 513 ≤ xs.length * 513 := Nat.mul_le_mul_right _ hi
      have h2 : i * 513 ≤ cs.length := by rw [hl]; exact Nat.mul_le_mul_right _ (Nat.le_of_lt hi)
      have h3 : 513 ≤ (cs.drop (i * 513)).length := by rw [List.length_drop, hl]; rw [Nat.add_mul] at hm; exact Nat.le_sub_of_add_le (by rw [Nat.add_comm]; simpa using hm)
      unfold chunk
      rw [List.drop_append_of_le_length h2, List.take_append_of_le_length h3]
    show ShWr.rep _ (chunk _ 513 i) y
    rw [e]; exact h1
  · have hi2 : i = xs.length := by
      have := (List.getElem?_eq_some_iff.1 hy).1
      simp at this; omega
    subst hi2
    rw [List.getElem?_append_right (Nat.le_refl _)] at hy
    simp at hy
    subst hy
    have e : chunk (cs ++ (wrc x).toList) 513 xs.length = (wrc x).toList := by
      unfold chunk
      rw [← hl, List.drop_left, List.take_of_length_le (by omega)]
    show chunk _ 513 xs.length = _ ∧ _
    exact ⟨e, hx⟩
theorem p_s2a {P : Program} {o : Oper} {S : Slots} {t e n len cap : Nat} {x : Operand} {a : Addr} (hu : ∀ w, (underlying t).run P w = .ok (.array n e) w) (hn : ¬ len < n) (ho : o.op = .sliceToArrayPointer t x) (hx : ev S x = some (.slice (some a) len cap)) : FPure P o S (.pointer (some a)) := fun ρ hρ w => by
  simp only [execOp, ho, hρ _ _ hx]
  refine val_run ?_
  unfold Instr.arrayAt
  refine (run_of_bind (hu w)).trans ?_
  simp only [if_neg hn]; rfl
theorem tu62 (w : World) : (underlying 62).run Try.prog w = .ok (.array 512 5) w := by kernel_rfl
/-- What else is owned stays. -/
theorem frame {X : Type} {u : X → Value} {E A : Heap} {E' : X → Heap} {f : FuncId} {args : Array Value} (h : ∀ (w0 : World) (I : Mem) (w : World), Cls w0 I E w → Calls Try.prog f args w fun e w' => ∃ x, e = .returned (u x) ∧ Cls w0 I (E' x) w') {w0 w : World} {I : Mem} (hc : Cls w0 I (E ++ A) w) :
    Calls Try.prog f args w fun e w' => ∃ x, e = .returned (u x) ∧ Cls w0 I (E' x ++ A) w' := by
  refine (h w0 (addJ I A) w hc.settle).mono fun e w' ⟨x, he, hc'⟩ => ⟨x, he, ?_⟩
  have hnA : (A.filterMap Prod.fst).Nodup := hc.nodup.sublist ((List.sublist_append_right E A).filterMap _)
  have hA : ∀ b o, (some b, o) ∈ A → addJ I A b = some o := fun b o hm => by
    unfold addJ
    rw [hc.disj b o (List.mem_append_right _ hm)]
    exact inJ_of_mem hnA hm
  refine ⟨hc'.os, hc'.tape, hc'.output, hc'.size, fun b o e => hc'.imm b o (Ext.addJ _ _ b o e), fun b o hm => ?_, fun b o hm => ?_, ?_⟩
  · rcases List.mem_append.1 hm with hm | hm
    · exact hc'.own b o hm
    · exact hc'.imm b o (hA b o hm)
  · rcases List.mem_append.1 hm with hm | hm
    · have := hc'.disj b o hm
      cases hI : I b with
      | none => rfl
      | some z => rw [Ext.addJ I A b z hI] at this; cases this
    · exact hc.disj b o (List.mem_append_right _ hm)
  · rw [List.filterMap_append, List.nodup_append]
    refine ⟨hc'.nodup, hnA, fun a ha b hb e => ?_⟩
    subst e
    obtain ⟨z, hz⟩ := mem_ids.1 ha
    obtain ⟨y, hy⟩ := mem_ids.1 hb
    have h1 := hc'.disj a z hz
    rw [hA a y hy] at h1; cases h1
end Go.Proofs.Ytjomnicfcdkfdaa
