import Derived.Test.YtfbogkhgfaibbaaDoorTmKeys3
import Derived.Sort.OwnSorted
section
namespace Go.Proofs.YtfbogkhgfaibbaaDoor
open Go Go.HW Go.RowKit Go.Sort
set_option linter.unusedVariables false
set_option linter.unusedSimpArgs false

/-- texts in order -/
def sortedT (xs : List (List UInt8)) : List (List UInt8) := xs.mergeSort fun x y => decide (x ≤ y)
theorem sortedT_len (xs : List (List UInt8)) : (sortedT xs).length = xs.length := by unfold sortedT; simp
theorem sort66 {M : Mem} {w0 : World} {I : Mem} {H : Heap} {v : Value} {c : Array Value} {j : Nat} {xs : List (List UInt8)} (h : OwnS Sh.str M v c xs) (hH : H[j]? = some (v.ownBlock, .cells c 9 (0, 0))) (hn : xs.length ≤ 1099511627776) {w : World} (hc : Cls w0 I H w) :
    Calls Tryd.prog 66 #[v] w fun e w' => ∃ c' : {c' : Array Value // OwnS Sh.str M v c' (sortedT xs)}, e = .returned (.tuple #[]) ∧ Cls w0 I (H.set j (v.ownBlock, .cells c'.1 9 (0, 0))) w' := by
  obtain ⟨cs, ⟨h0, h1⟩, h2⟩ := id h
  rcases h1 with ⟨rfl, hz⟩ | ⟨g, cap, rfl, k1, k2, k3, k4⟩
  · have hx : xs = [] := List.eq_nil_of_length_eq_zero hz
    subst hx
    refine (Tryd.slices_Sort_string_none none 0 w).mono fun e w' ⟨he, hw⟩ => ⟨⟨c, by simpa [sortedT] using h⟩, he, ?_⟩
    subst hw
    have : H.set j (Value.ownBlock (.slice none 0 0), .cells c 9 (0, 0)) = H := by
      apply List.ext_getElem?
      intro i
      rw [List.getElem?_set]
      split
      · rename_i e; subst e
        split
        · exact hH.symm
        · rename_i hlt; rw [List.getElem?_eq_none (by omega)]
      · rfl
    rw [this]; exact hc
  · have hb := hc.own g _ (List.mem_of_getElem? hH)
    have hcs : cs = xs.map encStr := by
      apply List.ext_getElem?
      intro i
      rw [List.getElem?_map]
      by_cases hi : i < xs.length
      · have hr : chunk cs 1 i = [str (xs[i])] := h2 i _ (List.getElem?_eq_getElem hi)
        have hq : (chunk cs 1 i)[0]? = some (str (xs[i])) := by rw [hr]; rfl
        have hcs := chunk_get hq
        rw [Nat.mul_one, Nat.add_zero] at hcs
        rw [hcs, List.getElem?_eq_getElem hi]; rfl
      · have hl : cs.length = xs.length * 1 := h0
        rw [List.getElem?_eq_none (by omega), List.getElem?_eq_none (by omega)]; rfl
    have k4' : c.toList.take xs.length = xs.map encStr := by rw [← hcs]; have := k4; rwa [show xs.length * Sh.str.n = xs.length from Nat.mul_one _] at this
    have hold := holds_of_block hb k4'
    refine (Tryd.slices_Sort_string g 0 cap xs w hold (lt_of_get hb) (by omega)).mono fun e w' ⟨he, n, os, hw⟩ => ?_
    have hl := sortedT_len xs
    have hblk := heap_sorted (n := n) (os := os) (sortedT xs).toArray hb
    have hoth := grownBy_sorted (w := w) (g := g) (n := n) (os := os) (sortedT xs).toArray
    refine ⟨⟨putCells encStr 0 (sortedT xs).toArray c, (sortedT xs).map encStr, ⟨?_, ?_⟩, ?_⟩, he, ?_⟩
    · simp [Sh.str]
    · right
      refine ⟨g, cap, by rw [hl], by rw [hl]; exact k1, k2, by simpa [putCells] using k3, ?_⟩
      have := take_putCells c (sortedT xs) (by rw [hl]; simp [Sh.str] at k3; omega)
      simpa [Sh.str] using this
    · intro i x hx
      show chunk _ 1 i = [str x]
      unfold chunk
      have hi : i < (sortedT xs).length := (List.getElem?_eq_some_iff.1 hx).1
      have hx2 : (sortedT xs)[i] = x := (List.getElem?_eq_some_iff.1 hx).2
      rw [Nat.mul_one, List.drop_eq_getElem_cons (by simpa using hi)]
      simp [hx2, str]
    · rw [hw]
      have h1 : Cls w0 I (H.set j (some g, .cells (putCells encStr 0 (sortedT xs).toArray c) 9 (0, 0))) (putRow encStr (Sort.ahead w n) g 0 (sortedT xs).toArray) :=
        hc.setObj hH rfl rfl rfl (by simp [putRow, mapBlock, Sort.ahead]) (by simp [putRow, mapBlock, Sort.ahead, Array.getElem?_modify, hb, onCells]) fun b hne => by
          simp [putRow, mapBlock, Sort.ahead, Array.getElem?_modify, Ne.symm hne]
      exact h1.below ⟨rfl, rfl, rfl, by simp, fun k hk => heap_grow_old _ _ hk⟩
end Go.Proofs.YtfbogkhgfaibbaaDoor
end

section
namespace Go.Proofs.YtfbogkhgfaibbaaDoor
open Go Go.HW Go.RowKit
set_option linter.unusedVariables false
set_option linter.unusedSimpArgs false

noncomputable def B42 : Code := bodyOf Tryd.f42
theorem enter65 (args : Array Value) (w : World) : (callFunc 65 args).run Tryd.prog w = .ok (.enter 65 args) w := by kernel_rfl
theorem enter66 (args : Array Value) (w : World) : (callFunc 66 args).run Tryd.prog w = .ok (.enter 66 args) w := by kernel_rfl
/-- Two lists of the same texts, in order, are one. -/
theorem sortedT_perm {xs ys : List (List UInt8)} (h : xs.Perm ys) : sortedT xs = sortedT ys := by
  have hle : ∀ a b c : List UInt8, decide (a ≤ b) = true → decide (b ≤ c) = true → decide (a ≤ c) = true := fun a b c h1 h2 => by
    simp only [decide_eq_true_eq] at *; exact List.le_trans h1 h2
  have htot : ∀ a b : List UInt8, (decide (a ≤ b) || decide (b ≤ a)) = true := fun a b => by
    simp only [Bool.or_eq_true, decide_eq_true_eq]; exact List.le_total a b
  have h1 := List.pairwise_mergeSort (le := fun x y : List UInt8 => decide (x ≤ y)) hle htot xs
  have h2 := List.pairwise_mergeSort (le := fun x y : List UInt8 => decide (x ≤ y)) hle htot ys
  refine List.Perm.eq_of_pairwise (le := fun a b => decide (a ≤ b) = true) (fun a b _ _ h1 h2 => ?_) h1 h2 ((List.mergeSort_perm _ _).trans (h.trans (List.mergeSort_perm _ _).symm))
  simp only [decide_eq_true_eq] at h1 h2
  exact List.le_antisymm h1 h2
set_option maxRecDepth 20000 in
theorem sorted42 {M I : Mem} {bm Bm : Nat} {lst : List (List UInt8 × Value)} {K : KM} (hK : KRep ShTm M lst K) (hbox : I Bm = some (.cells #[.map (some bm)] 56 (0, 0))) (hmap : I bm = some (kobj lst)) (hlen : K.length ≤ 1099511627776) {w0 : World} {H : Heap} {w : World} (hc : Cls w0 I H w) :
    Calls Tryd.prog 42 #[.func (.func 67) #[] #[ptr Bm 0]] w fun e w' => ∃ s : {q : Value × Array Value // OwnS Sh.str M q.1 q.2 (sortedT (K.map Prod.fst))}, e = .returned s.1.1 ∧ Cls w0 I ((Value.ownBlock s.1.1, .cells s.1.2 9 (0, 0)) :: H) w' := by
  refine calls_of_TTG (S := [(0, .func (.func 67) #[] #[ptr Bm 0])]) (N := 9) (b := B42) hc Tryd.func42 rfl rfl rfl (by simp) ?_
  show TT _ _ _ _ _ _ [.code (sub [] B42)] _ _
  refine TT.seq (x := sub [0] B42) (y := sub [1] B42) ?_
  refine TT.region (id := 0) (n := 1) (ops := opsOf (sub [0] B42)) [(.pure, none)] rfl ?_
  show DL _ _ _ _ _ _ _ _ _ _ [0] _ _
  refine DL.pu 2 (.slice none 0 0) rfl (p_assign rfl rfl) ?_
  refine DL.nil ?_
  refine TT.seq (x := sub [1, 0] B42) (y := sub [1, 1] B42) ?_
  refine TT.region (id := 1) (n := 3) (ops := opsOf (sub [1, 0] B42)) [(.pure, none), (.actx, none), (.pure, none)] rfl ?_
  show DL _ _ _ _ _ _ _ _ _ _ [0, 1, 2] _ _
  refine DL.pu 4 (.func (.func 67) #[] #[ptr Bm 0]) rfl (p_move rfl rfl) ?_
  refine DL.actx (X := {s : StK M // s.1.1.Perm (K.map Prod.fst)}) (u := fun s => s.1.1.2.1) (H' := fun s => (Value.ownBlock s.1.1.2.1, .cells s.1.1.2.2 9 (0, 0)) :: H) (i := 1) rfl (Wn.none rfl) rfl rfl rfl (f_callA (args := #[.func (.func 67) #[] #[ptr Bm 0]]) (caps := #[]) (g := 65) rfl rfl rfl rfl (args_val (vs := [.func (.func 67) #[] #[ptr Bm 0]]) rfl) (fun w => enter65 _ w) fun w1 hc1 => (collect65 hK hbox hmap hlen hc1).mono fun e w' ⟨s, hs, he, hc'⟩ => ⟨⟨s, hs⟩, he, hc'⟩) ?_
  rintro ⟨⟨⟨ks, kv, kc⟩, hown⟩, hp⟩
  replace hown : OwnS Sh.str M kv kc ks := hown
  replace hp : ks.Perm (K.map Prod.fst) := hp
  show DL _ _ _ _ _ _ _ _ _ _ _ ((5, kv) :: _) ((Value.ownBlock kv, .cells kc 9 (0, 0)) :: H)
  refine DL.pu 3 kv rfl (p_assign rfl rfl) ?_
  refine DL.nil ?_
  refine TT.seq (x := sub [1, 1, 0] B42) (y := sub [1, 1, 1] B42) ?_
  refine TT.region (id := 2) (n := 2) (ops := opsOf (sub [1, 1, 0] B42)) [(.pure, none), (.actx, none)] rfl ?_
  show DL _ _ _ _ _ _ _ _ _ _ [0, 1] _ _
  refine DL.pu 6 kv rfl (p_move rfl rfl) ?_
  refine DL.actx (X := {c' : Array Value // OwnS Sh.str M kv c' (sortedT ks)}) (u := fun _ => .tuple #[]) (H' := fun c' => (Value.ownBlock kv, .cells c'.1 9 (0, 0)) :: H) (i := 1) rfl (Wn.none rfl) rfl rfl rfl (f_callA (args := #[kv]) (caps := #[]) (g := 66) rfl rfl rfl rfl (args_val (vs := [kv]) rfl) (fun w => enter66 _ w) fun w1 hc1 => sort66 (j := 0) hown rfl (by rw [hp.length_eq, List.length_map]; exact hlen) hc1) ?_
  rintro ⟨c', hown'⟩
  refine DL.nil ?_
  refine TT.seq (x := sub [1, 1, 1, 0] B42) (y := sub [1, 1, 1, 1] B42) ?_
  refine TT.region (id := 3) (n := 2) (ops := opsOf (sub [1, 1, 1, 0] B42)) [(.pure, none), (.pure, none)] rfl ?_
  show DL _ _ _ _ _ _ _ _ _ _ [0, 1] _ _
  refine DL.pu 8 kv rfl (p_move rfl rfl) ?_
  refine DL.pu 2 kv rfl (p_assign rfl rfl) ?_
  refine DL.nil ?_
  exact retR (rs := [.tmp 2]) (vs := [kv]) (v := kv) Tryd.func42 rfl rfl rfl (res_cons (ResV.tmp rfl) res_nil) fun w' hc' => ⟨⟨(kv, c'), by rw [← sortedT_perm hp]; exact hown'⟩, rfl, hc'⟩
end Go.Proofs.YtfbogkhgfaibbaaDoor
end

section
namespace Go.Proofs.YtfbogkhgfaibbaaDoor
open Go Go.HW Go.RowKit
set_option linter.unusedVariables false
set_option linter.unusedSimpArgs false

/-- What a call leaves of its own, as what stays. -/
theorem postF_of {G : Type} {u : G → Value} {Q : G → Mem → Prop} {M : Mem} {w w' : World} {E : Heap} {e : Ending} (hM : Ext M (heapOf w)) (hc : Cls w (heapOf w) E w') (g : G) (he : e = .returned (u g)) (hQ : ∀ M', Ext M M' → (∀ b o, (some b, o) ∈ E → M' b = some o) → Q g M') : PostF u Q M w e w' := by
  have hE : ∀ b o, (some b, o) ∈ E → addJ M E b = some o := fun b o hm => by
    unfold addJ
    cases hb : M b with
    | some z => have h1 := hc.disj b o hm; rw [hM b z hb] at h1; cases h1
    | none => exact inJ_of_mem hc.nodup hm
  refine ⟨g, addJ M E, he, hQ _ (Ext.addJ _ _) hE, Ext.addJ _ _, fun b h1 h2 => ?_, fun b o h => ?_, hc.toBelow⟩
  · cases hb : addJ M E b with
    | none => exact absurd hb h2
    | some o =>
      rcases addJ_cases hb with h | ⟨_, h⟩
      · rw [h1] at h; cases h
      · exact hc.fresh (Ext.refl _) h
  · rcases addJ_cases h with h | ⟨_, h⟩
    · exact hc.imm b o (hM b o h)
    · exact hc.own b o h
theorem cls_self (w : World) : Cls w (heapOf w) [] w := ⟨rfl, rfl, rfl, Nat.le_refl _, fun b o e => e, fun b o e => (by cases e), fun b o e => (by cases e), List.nodup_nil⟩
def tm_keys.f (a0 : KM) : Option Unit := some ()
theorem tm_keys.ok {a0 : KM} {a0_m : Nat} (h : tm_keys.f a0 = some ()) {M : Mem} (w : World) (hM : Ext M (heapOf w)) (hm_a0 : KMap ShTm M a0_m a0) : Calls Tryd.prog 43 #[.map (some a0_m)] w (PostF (G := Nat) (fun g => .func (.func 67) #[] #[ptr g 0]) (fun g M_ => M_ g = some (.cells #[.map (some a0_m)] 56 (0, 0))) M w) :=
  (keys43 (cls_self w)).mono fun e w' ⟨Bm, he, hc⟩ => postF_of hM hc Bm he fun M' _ h => h Bm _ (by simp)
/-- the keys of what is known, in order -/
def keysT (K : KM) : List (List UInt8) := sortedT (K.map Prod.fst)
theorem tm_sorted.ok0 {a0 : KM} {a0_m Bm : Nat} (hl : a0.length ≤ 1099511627776) {M : Mem} (w : World) (hM : Ext M (heapOf w)) (hm_a0 : KMap ShTm M a0_m a0) (hB : M Bm = some (.cells #[.map (some a0_m)] 56 (0, 0))) : Calls Tryd.prog 42 #[.func (.func 67) #[] #[ptr Bm 0]] w (PostF (G := Value) (fun g => g) (fun g M_ => RowS Sh.str M_ g (keysT a0)) M w) := by
  obtain ⟨o, K', h1, ⟨lst, rfl, h2⟩, h3, h4⟩ := hm_a0
  refine (sorted42 (I := heapOf w) h2 (hM _ _ hB) (hM _ _ h1) (by rw [h4.length_eq]; exact hl) (cls_self w)).mono fun e w' ⟨⟨⟨v, c⟩, ho⟩, he, hc⟩ => postF_of hM hc v he fun M' hx h => ?_
  have e : keysT a0 = sortedT (K'.map Prod.fst) := sortedT_perm (h4.symm.map _)
  rw [e]
  exact OwnS.stays (e := 9) ho hx fun b hb => h b (.cells c 9 (0, 0)) (by show (some b, Obj.cells c 9 (0, 0)) ∈ [(v.ownBlock, Obj.cells c 9 (0, 0))]; rw [hb]; exact List.mem_singleton.2 rfl)
def tm_sorted.f (a0 : KM) : Option (List (List UInt8)) := if a0.length ≤ 1099511627776 then some (keysT a0) else none
theorem tm_sorted.ok {a0 : KM} {a0_m Bm : Nat} {r : List (List UInt8)} (h : tm_sorted.f a0 = some r) {M : Mem} (w : World) (hM : Ext M (heapOf w)) (hm_a0 : KMap ShTm M a0_m a0) (hB : M Bm = some (.cells #[.map (some a0_m)] 56 (0, 0))) : Calls Tryd.prog 42 #[.func (.func 67) #[] #[ptr Bm 0]] w (PostF (G := Value) (fun g => g) (fun g M_ => RowS Sh.str M_ g r) M w) := by
  unfold tm_sorted.f at h
  split at h
  · rename_i hl; obtain rfl := Option.some.inj h; exact tm_sorted.ok0 hl w hM hm_a0 hB
  · cases h
end Go.Proofs.YtfbogkhgfaibbaaDoor
end
