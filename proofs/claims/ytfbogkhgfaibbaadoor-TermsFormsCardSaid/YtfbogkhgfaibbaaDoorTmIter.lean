import Derived.Test.YtfbogkhgfaibbaaDoorTa8
namespace Go.Proofs.YtfbogkhgfaibbaaDoor
open Go Go.HW Go.RowKit
set_option linter.unusedVariables false
set_option linter.unusedSimpArgs false

/-! ### maps.Values, slices.Collect -/
def Steps {σ α : Type} (step : σ → α → σ → Prop) : σ → List α → σ → Prop
  | s, [], s' => s' = s
  | s, x :: xs, s'' => ∃ s', step s x s' ∧ Steps step s' xs s''
theorem Steps.snoc {σ α : Type} {step : σ → α → σ → Prop} : ∀ {s : σ} {xs : List α} {s' : σ} {x : α} {s'' : σ}, Steps step s xs s' → step s' x s'' → Steps step s (xs ++ [x]) s''
  | s, [], s', x, s'', h, h2 => by subst h; exact ⟨s'', h2, rfl⟩
  | s, y :: ys, s', x, s'', ⟨t, h1, h2⟩, h3 => ⟨t, h1, h2.snoc h3⟩
noncomputable def B76 : Code := bodyOf Tryd.f76
theorem krep_at {M : Mem} {lst : List (List UInt8 × Value)} {K : KM} (hK : KRep ShTm M lst K) {i : Nat} (hi : i < lst.length) : ∃ k : Value, RowS ShTm M k (Tree.kids (K.getD i ([], Tm.dflt)).2) ∧
    (lst.map fun p => (str p.1, p.2))[i]? = some (str (K.getD i ([], Tm.dflt)).1, .agg #[.int .i64 (Tm.kind (K.getD i ([], Tm.dflt)).2), .int .i64 (Tm.num (K.getD i ([], Tm.dflt)).2), k]) := by
  have hl := hK.len
  have hi2 : i < K.length := by omega
  have hg : K[i]? = some (K.getD i ([], Tm.dflt)) := by simp [hi2]
  obtain ⟨cs, h1, h2⟩ := hK.get hg
  obtain ⟨k, rfl, hk⟩ := Tm.op h2
  exact ⟨k, hk, by rw [List.getElem?_map, h1]; rfl⟩
set_option maxRecDepth 20000 in
theorem values1 {σ : Type} {M I I' : Mem} {l bm Bm : Nat} {lst : List (List UInt8 × Value)} {K : KM} (hK : KRep ShTm M lst K) (hbox : I Bm = some (.cells #[.map (some bm)] 56 (0, 0))) (hmap : I bm = some (kobj lst)) (E : σ → Heap) (step : σ → Tm → σ → Prop) {s0 : σ}
    (hY : ∀ s x k pre, pre.length < K.length → Steps step s0 pre s → RowS ShTm M k (Tree.kids x) → RoundTurn Tryd.prog l I (.agg #[.int .i64 (Tm.kind x), .int .i64 (Tm.num x), k]) (E s) (fun t => step s x t) (fun _ => true) E)
    (hI : Ext I I') {w0 : World} {A : Heap} {w : World} (hc : Cls w0 I' (E s0 ++ A) w) :
    Calls Tryd.prog 76 #[.func (.yield l) #[] #[], ptr Bm 0] w fun e w' => ∃ s' : σ, (∃ xs, xs.Perm (K.map Prod.snd) ∧ Steps step s0 xs s') ∧ e = .returned (.tuple #[]) ∧ Cls w0 I' (E s' ++ A) w' := by
  let R : Ending → World → Prop := fun e w' => ∃ s' : σ, (∃ xs, xs.Perm (K.map Prod.snd) ∧ Steps step s0 xs s') ∧ e = .returned (.tuple #[]) ∧ Cls w0 I' (E s' ++ A) w'
  have hlen : (lst.map fun p => (str p.1, p.2)).length = K.length := by rw [List.length_map]; exact hK.len
  have hM : ∀ {H : Heap} (w : World), Cls w0 I' H w → w.heap[bm]? = some (gobj (lst.map fun p => (str p.1, p.2))) := fun w hc => by rw [← kobj_gobj]; exact hc.imm bm _ (hI _ _ hmap)
  have main : ∀ (m : Nat) (seen : Array Nat) (s : σ) (r : Nat), K.length - seen.size = m → seen.toList.Nodup → (∀ i ∈ seen, i < K.length) → Steps step s0 (seen.toList.map fun i => (K.getD i ([], Tm.dflt)).2) s →
      TT Tryd.prog 76 R 15 w0 I' [.code (sub [1, 0, 0] B76), .inLoop (sub [1, 0, 0] B76), .inBlock 0] [(0, .func (.yield l) #[] #[]), (6, ptr r 0)] ((some r, iobj bm (lst.map fun p => (str p.1, p.2)).length seen) :: (E s ++ A)) := by
    intro m
    induction m using Nat.strongRecOn with
    | _ m ih =>
      intro seen s r hm hn hlt hs
      refine TT.seq (x := sub [1, 0, 0, 0] B76) (y := sub [1, 0, 0, 1] B76) ?_
      refine TT.region (id := 1) (n := 2) (ops := opsOf (sub [1, 0, 0, 0] B76)) [(.actx, none), (.pure, none)] rfl ?_
      show DL _ _ _ _ _ _ _ _ _ _ [0, 1] _ _
      refine DL.actx (i := 0) rfl (Wn.none rfl) rfl rfl rfl (f_nextG (j := 0) (l := lst.map fun p => (str p.1, p.2)) (seen := seen) (r := r) (bm := bm) rfl hM rfl rfl) ?_
      rintro ⟨_ | i, hx⟩
      · -- nothing is left
        refine DL.pu 8 (.bool false) rfl (p_extract (vs := #[.bool false]) rfl rfl rfl) ?_
        refine DL.nil ?_
        refine TT.seq (x := sub [1, 0, 0, 1, 0] B76) (y := sub [1, 0, 0, 1, 1] B76) ?_
        refine TT.cond_false (x := sub [1, 0, 0, 1, 0, 0] B76) (y := sub [1, 0, 0, 1, 0, 1] B76) rfl rfl ?_
        refine TT.exit rfl ?_
        refine endR (rs := []) (vs := []) (v := .tuple #[]) Tryd.func76 rfl rfl rfl res_nil fun w' hc' => ?_
        refine ⟨s, ⟨_, ?_, hs⟩, rfl, (show Cls w0 I' ((some r, iobj bm (lst.map fun p => (str p.1, p.2)).length seen) :: (E s ++ A)) w' from hc').tail⟩
        have hp := (seen_all hn hlt (fun i hi => hx i (by rw [hlen]; exact hi))).map fun i => (K.getD i ([], Tm.dflt)).2
        refine hp.trans (List.Perm.of_eq ?_)
        apply List.ext_getElem?
        intro j
        rw [List.getElem?_map, List.getElem?_map]
        by_cases hj : j < K.length
        · simp [hj]
        · simp [hj]
      · -- an entry
        obtain ⟨hi, hns⟩ := hx
        have hi' : i < lst.length := by rwa [List.length_map] at hi
        have hiK : i < K.length := by rwa [hlen] at hi
        obtain ⟨k, hk, hat⟩ := krep_at hK hi'
        obtain ⟨x, hxe⟩ : ∃ x, x = (K.getD i ([], Tm.dflt)).2 := ⟨_, rfl⟩
        rw [← hxe] at hk hat
        have hv : nextGV (lst.map fun p => (str p.1, p.2)) (seen := seen) ⟨some i, hi, hns⟩ = .tuple #[.bool true, str (K.getD i ([], Tm.dflt)).1, .agg #[.int .i64 (Tm.kind x), .int .i64 (Tm.num x), k]] := by
          unfold nextGV; simp only [hat]
        rw [hv]
        show DL _ _ _ _ _ _ _ _ _ _ [1] _ ((some r, iobj bm (lst.map fun p => (str p.1, p.2)).length (seen.push i)) :: (E s ++ A))
        refine DL.pu 8 (.bool true) rfl (p_extract rfl rfl rfl) ?_
        refine DL.nil ?_
        refine TT.seq (x := sub [1, 0, 0, 1, 0] B76) (y := sub [1, 0, 0, 1, 1] B76) ?_
        refine TT.cond_true (x := sub [1, 0, 0, 1, 0, 0] B76) (y := sub [1, 0, 0, 1, 0, 1] B76) rfl rfl ?_
        refine TT.skip ?_
        refine TT.block (c := sub [1, 0, 0, 1, 1, 0] B76) ?_
        refine TT.seq (x := sub [1, 0, 0, 1, 1, 0, 0] B76) (y := sub [1, 0, 0, 1, 1, 0, 1] B76) ?_
        refine TT.region (id := 2) (n := 4) (ops := opsOf (sub [1, 0, 0, 1, 1, 0, 0] B76)) [(.quiet, none), (.pure, none), (.alloc, none), (.store, none)] rfl ?_
        show DL _ _ _ _ _ _ _ _ _ _ [0, 1, 2, 3] _ _
        refine DL.qu 9 (.tuple #[str (K.getD i ([], Tm.dflt)).1, .agg #[.int .i64 (Tm.kind x), .int .i64 (Tm.num x), k]]) rfl (f_entryG (j := 0) (l := lst.map fun p => (str p.1, p.2)) (seen := seen) (i := i) rfl hM hat rfl rfl) ?_
        refine DL.pu 10 (.agg #[.int .i64 (Tm.kind x), .int .i64 (Tm.num x), k]) rfl (p_extract rfl rfl rfl) ?_
        refine DL.new (ob := .cells (#[.int .i64 0, .int .i64 0, .slice none 0 0]) 25) (mk := fun b => ptr b 0) (i := 2) rfl (Wn.none rfl) rfl rfl rfl (f_alloc ty_z25 rfl) ?_
        intro b4 hb4
        refine DL.put (H' := (some b4, .cells (#[.int .i64 (Tm.kind x), .int .i64 (Tm.num x), k]) 25 (0, 0)) :: (some r, iobj bm (lst.map fun p => (str p.1, p.2)).length (seen.push i)) :: (E s ++ A)) (i := 3) rfl (Wn.none rfl) rfl rfl (f_storeA (j := 0) ty_s25 rfl rfl rfl (one_cons trivial (one_cons trivial (one_cons (sl_one (RowS.sl hk)) one_nil))) rfl rfl rfl) (keep_none rfl) ?_
        refine DL.nil ?_
        refine TT.seq (x := sub [1, 0, 0, 1, 1, 0, 1, 0] B76) (y := sub [1, 0, 0, 1, 1, 0, 1, 1] B76) ?_
        have hpl : (seen.toList.map fun i => (K.getD i ([], Tm.dflt)).2).length < K.length := by
          have hn2 : (seen.push i).toList.Nodup := by
            rw [Array.toList_push, List.nodup_append]
            exact ⟨hn, by simp, fun a ha b hb e => by simp only [List.mem_singleton] at hb; subst hb; subst e; exact hns (by simpa using ha)⟩
          have := seen_size hn2 (n := K.length) (fun j hj => by
            rcases Array.mem_push.1 hj with h | h
            · exact hlt j h
            · rw [h]; exact hiK)
          simp only [Array.size_push] at this
          simp; omega
        refine TT.ofCI ?_
        refine CI.rgY (id := 3) [0, 1] [2, 3] [(.pure, none), (.quiet, none), (.actx, none), (.pure, none)] rfl rfl (by kernel_rfl) ?_
        refine DL.pu 11 (.func (.yield l) #[] #[]) rfl (p_move rfl rfl) ?_
        refine DL.qu 12 (.agg #[.int .i64 (Tm.kind x), .int .i64 (Tm.num x), k]) rfl (f_loadA (j := 0) ty_a25 ty_s25 rfl rfl rfl rfl) ?_
        refine DK.nil ?_
        refine wpOp_yield (σ := σ) (A := (some b4, .cells (#[.int .i64 (Tm.kind x), .int .i64 (Tm.num x), k]) 25 (0, 0)) :: (some r, iobj bm (lst.map fun p => (str p.1, p.2)).length (seen.push i)) :: A) rfl rfl rfl rfl rfl rfl rfl (args_val (vs := [.agg #[.int .i64 (Tm.kind x), .int .i64 (Tm.num x), k]]) rfl) (hY s x k _ hpl hs hk) hI ?_ ?_
        · exact (List.perm_middle (a := (some r, iobj bm (lst.map fun p => (str p.1, p.2)).length (seen.push i)))).symm.cons _ |>.trans List.perm_middle.symm
        intro t ht
        refine wpOps_of_DK (lab := labOf [(.pure, none), (.pure, none), (.pure, none), (.pure, none)]) (ids := fun _ => none) (by kernel_rfl) ?_
        refine DL.pu 14 (.bool false) rfl (show FPure _ _ _ (.bool (!true)) from p_not rfl rfl) ?_
        refine DK.nil fun a' w' ha' hc' => ⟨rfl, ?_⟩
        rw [wd_nil ha']
        refine (show TT Tryd.prog 76 R 15 w0 I' _ _ _ from ?_) a' w' ha' hc'
        refine TT.cond_false (x := sub [1, 0, 0, 1, 1, 0, 1, 1, 0] B76) (y := sub [1, 0, 0, 1, 1, 0, 1, 1, 1] B76) rfl rfl ?_
        refine TT.skip ?_
        refine TT.inBlock ?_
        refine TT.inLoop ?_
        refine TT.weak (TT.perm (H' := (some b4, .cells (#[.int .i64 (Tm.kind x), .int .i64 (Tm.num x), k]) 25 (0, 0)) :: ((some r, iobj bm (lst.map fun p => (str p.1, p.2)).length (seen.push i)) :: (E t ++ A))) ?_ (TT.less (List.sublist_cons_self _ _) (ih (K.length - (seen.push i).size) ?_ (seen.push i) t r rfl ?_ ?_ ?_))) (Sub.cons rfl (Sub.cons rfl (Sub.nil _)))
        · exact List.perm_middle.trans (List.Perm.cons _ List.perm_middle)
        · simp only [Array.size_push]
          simp at hpl; omega
        · rw [Array.toList_push, List.nodup_append]
          exact ⟨hn, by simp, fun a ha b hb e => by simp only [List.mem_singleton] at hb; subst hb; subst e; exact hns (by simpa using ha)⟩
        · intro j hj
          rcases Array.mem_push.1 hj with h | h
          · exact hlt j h
          · rw [h]; exact hiK
        · rw [Array.toList_push, List.map_append, List.map_singleton, ← hxe]
          exact hs.snoc ht
  refine calls_of_TTG (N := 15) (S := [(0, .func (.yield l) #[] #[]), (1, ptr Bm 0)]) (b := B76) hc Tryd.func76 rfl rfl rfl (by simp) ?_
  show TT _ _ R _ _ _ [.code (sub [] B76)] _ _
  refine TT.seq (x := sub [0] B76) (y := sub [1] B76) ?_
  refine TT.region (id := 0) (n := 2) (ops := opsOf (sub [0] B76)) [(.pure, none), (.keep, none)] rfl ?_
  show DL _ _ _ _ _ _ _ _ _ _ [0, 1] _ _
  refine DL.imm (v := .map (some bm)) rfl (Wn.none rfl) rfl rfl rfl (i_loadBox (hI _ _ hbox) rfl ty_a56 rfl rfl) ?_
  refine DL.rangeG (l := lst.map fun p => (str p.1, p.2)) (bm := bm) ty_u56 hM rfl (Wn.none rfl) rfl rfl rfl rfl rfl ?_
  intro r
  refine DL.nil ?_
  refine TT.block (c := sub [1, 0] B76) ?_
  refine TT.loop (c := sub [1, 0, 0] B76) ?_
  exact TT.weak (main _ #[] s0 r rfl (by simp) (by simp) rfl) (Sub.cons rfl (Sub.cons rfl (Sub.nil _)))
end Go.Proofs.YtfbogkhgfaibbaaDoor
