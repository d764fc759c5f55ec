import Derived.Test.YtjomnicfcdkfdaaDkM12
section
namespace Go.Proofs.Ytjomnicfcdkfdaa
open Go Go.HW Go.RowKit
set_option linter.unusedVariables false
set_option linter.unusedSimpArgs false

noncomputable def B12 : Code := bodyOf Try.f12
theorem en12 (args : Array Value) (w : World) : (callFunc 12 args).run Try.prog w = .ok (.enter 12 args) w := by kernel_rfl
theorem frameI {X : Type} {u : X → Value} {E A : Heap} {E' : X → Heap} {f : FuncId} {args : Array Value} {w0 w : World} {I : Mem} (h : ∀ (I' : Mem), Ext I I' → (∀ b o, (some b, o) ∈ A → I' b = some o) → ∀ (w0 w : World), Cls w0 I' E w → Calls Try.prog f args w fun e w' => ∃ x, e = .returned (u x) ∧ Cls w0 I' (E' x) w') (hc : Cls w0 I (E ++ A) w) :
    Calls Try.prog f args w fun e w' => ∃ x, e = .returned (u x) ∧ Cls w0 I (E' x ++ A) w' := by
  have hnA : (A.filterMap Prod.fst).Nodup := hc.nodup.sublist ((List.sublist_append_right E A).filterMap _)
  have hA : ∀ b o, (some b, o) ∈ A → addJ I A b = some o := fun b o hm => by
    unfold addJ
    rw [hc.disj b o (List.mem_append_right _ hm)]
    exact inJ_of_mem hnA hm
  refine (h (addJ I A) (Ext.addJ _ _) hA w0 w hc.settle).mono fun e w' ⟨x, he, hc'⟩ => ⟨x, he, ?_⟩
  refine ⟨hc'.os, hc'.tape, hc'.output, hc'.size, fun b o e => hc'.imm b o (Ext.addJ _ _ b o e), fun b o hm => ?_, fun b o hm => ?_, ?_⟩
  · rcases List.mem_append.1 hm with hm | hm
    · exact hc'.own b o hm
    · exact hc'.imm b o (hA b o hm)
  · rcases List.mem_append.1 hm with hm | hm
    · have := hc'.disj b o hm
      cases hI : I b with
      | none => rfl
      | some z => rw [Ext.addJ I A b z hI] at this; cases this
    · exact hc.disj b o (List.mem_append_right _ hm)
  · rw [List.filterMap_append, List.nodup_append]
    refine ⟨hc'.nodup, hnA, fun a ha b hb e => ?_⟩
    subst e
    obtain ⟨z, hz⟩ := mem_ids.1 ha
    obtain ⟨y, hy⟩ := mem_ids.1 hb
    have h1 := hc'.disj a z hz
    rw [hA a y hy] at h1; cases h1
section
variable {N : Nat} {S : Slots} {w0 : World} {I : Mem} {H : Heap} {Q : Exit → Act → World → Prop} {ops : Array Oper} {l : List Nat} {i d : Nat} {o : Oper} {v : Value}
theorem W.less (is : List Nat) (h : is.Nodup) (hy : WW N w0 I ops l Q S (pick is H)) : WW N w0 I ops l Q S H := fun a w ha hc => hy a w ha (hc.pick is h)
theorem C.less {c : Code} (is : List Nat) (h : is.Nodup) (hy : CW N w0 I c Q S (pick is H)) : CW N w0 I c Q S H := fun a w ha hc => hy a w ha (hc.pick is h)
/-- a call that turns a part of what is owned -/
theorem W.callF {X : Type} {u : X → Value} {E A : Heap} {E' : X → Heap} {cl : Call} {fo : Operand} {g : FuncId} {args : Array Value} (hi : ops[i]? = some o) (hw : Wn ops S o true) (hd : o.dst = some d) (hN : Nat.blt d N = true)
    (ho : o.op = .call cl) (hcal : cl.callee = .value fo) (hf : ev S fo = some (.func (.func g) #[] #[])) (hargs : ∀ ρ, Val S ρ → cl.args.map ρ = args) (hbody : ∀ w, (callFunc g args).run Try.prog w = .ok (.enter g args) w) (hH : H = E ++ A)
    (hc : ∀ (I' : Mem), Ext I I' → (∀ b o, (some b, o) ∈ A → I' b = some o) → ∀ (w0 w : World), Cls w0 I' E w → Calls Try.prog g args w fun e w' => ∃ x, e = .returned (u x) ∧ Cls w0 I' (E' x) w') (h : ∀ x, WW N w0 I ops l Q ((d, u x) :: S) (E' x ++ A)) : WW N w0 I ops (i :: l) Q S H :=
  W.callX hi hw hd hN ho hcal hf hargs hbody (fun w hcl => frameI hc (by rw [← hH]; exact hcl)) h
end
theorem num_ok (w : World) (e : Int) : Calls Try.prog 12 #[.int .i64 e] w fun en w' => en = .returned (.int .i64 e) ∧ Below w.heap.size w w' := by
  refine calls_of_CW (N := 4) Try.func12 (show _ = some B12 by kernel_rfl) (by kernel_rfl) rfl (S := [(0, .int .i64 e)]) (by simp) (clsStart w) ?_
  show CW _ _ _ (sub [] B12) _ _ _
  refine C.seq (x := sub [0] B12) (y := sub [1] B12) ?_
  refine C.region (id := 0) (m := 1) (ops := opsOf (sub [0] B12)) rfl ?_
  refine W.pure rfl (wo rfl) rfl rfl (p_assign rfl rfl) (nf rfl) ?_
  refine W.doneQ (y := sub [1] B12) rfl ?_
  refine C.seq (x := sub [1, 0] B12) (y := sub [1, 1] B12) ?_
  refine C.region (id := 1) (m := 2) (ops := opsOf (sub [1, 0] B12)) rfl ?_
  refine W.pure rfl (wo rfl) rfl rfl (p_move rfl rfl) (nf rfl) ?_
  refine W.pure rfl (wo rfl) rfl rfl (p_assign rfl rfl) (nf rfl) ?_
  refine W.doneQ (y := sub [1, 1] B12) rfl ?_
  exact C.ret (rs := [.tmp 2]) (vs := [.int .i64 e]) rfl Try.func12 rfl rfl rfl (res_cons (ResV.tmp rfl) res_nil) fun w1 hc1 => ⟨rfl, hc1.toBelow⟩

theorem elem32 : Elem Try.prog 32 5 1 1 (.int .u8 0) := Elem.of (by kernel_rfl) (by kernel_rfl) rfl (by decide)
def upd (g : Nat → Int) (n k : Nat) : List Int := (List.range k).map g ++ List.replicate (n - k) 0
theorem upd_len (g : Nat → Int) {n k : Nat} (h : k ≤ n) : (upd g n k).length = n := by simp [upd]; omega
theorem upd_set (g : Nat → Int) {n k : Nat} (h : k < n) : (upd g n k).set k (g k) = upd g n (k + 1) := by
  unfold upd
  rw [List.set_append, if_neg (by simp), List.range_succ, List.map_append]
  have e : n - k = (n - (k + 1)) + 1 := by omega
  rw [e, List.replicate_succ]
  simp
theorem upd_all (g : Nat → Int) (n : Nat) : upd g n n = (List.range n).map g := by simp [upd]
/-- a slice that is new -/
theorem own_new {xs : List Int} {b n : Nat} (h : xs.length = n) (hn : n ≤ maxLen) : IntOwn .u8 (.slice (some ⟨b, 0, none⟩) n n) (enc .u8 xs) xs := by
  unfold IntOwn
  rw [h]
  exact OwnV.fresh (Nat.le_refl _) hn (by rw [enc_size, h, Nat.mul_one]) (by rw [List.take_of_length_le]; rfl; simp [enc, h]) (by simp [encl, h])
def fillL (x : Int) : List Int := (List.range 512).map fun _ => x
theorem fillL_len (x : Int) : (fillL x).length = 512 := by simp [fillL]
def blockL (f : Int) (n : Nat) : List Int := (List.range n).map fun i : Nat => IntKind.u8.wrap (f + IntKind.u8.wrap (i : Int))
theorem blockL_len (f : Int) (n : Nat) : (blockL f n).length = n := by simp [blockL]

noncomputable def B16 : Code := bodyOf Try.f16
theorem en16 (args : Array Value) (w : World) : (callFunc 16 args).run Try.prog w = .ok (.enter 16 args) w := by kernel_rfl
theorem fill_ok {w0 w : World} {I : Mem} {H : Heap} (hc : Cls w0 I H w) (x : Int) : Calls Try.prog 16 #[.int .u8 x] w (fun e w' => ∃ v cur, e = .returned v ∧ IntOwn .u8 v cur (fillL x) ∧ Cls w0 I ((v.ownBlock, .cells cur 5 (0, 0)) :: H) w') := by
  refine calls_of_CW (N := 17) Try.func16 (show _ = some B16 by kernel_rfl) (by kernel_rfl) rfl (S := [(0, .int .u8 x)]) (by simp) hc ?_
  show CW _ _ _ (sub [] B16) _ _ _
  refine C.seq (x := sub [0] B16) (y := sub [1] B16) ?_
  refine C.region (id := 0) (m := 1) (ops := opsOf (sub [0] B16)) rfl ?_
  refine W.pure rfl (wo rfl) rfl rfl (p_assign rfl rfl) (nf rfl) ?_
  refine W.doneQ (y := sub [1] B16) rfl ?_
  refine C.seq (x := sub [1, 0] B16) (y := sub [1, 1] B16) ?_
  refine C.region (id := 1) (m := 2) (ops := opsOf (sub [1, 0] B16)) rfl ?_
  refine W.new rfl (wo rfl) rfl rfl (f_make (n := 512) elem32 (by decide) (by decide) rfl rfl rfl) (nf rfl) ?_
  intro bf hbf
  refine W.pure rfl (wo rfl) rfl rfl (p_assign rfl rfl) (nf rfl) ?_
  refine W.doneQ (y := sub [1, 1] B16) rfl ?_
  refine C.seq (x := sub [1, 1, 0] B16) (y := sub [1, 1, 1] B16) ?_
  refine C.seq (x := sub [1, 1, 0, 0] B16) (y := sub [1, 1, 0, 1] B16) ?_
  refine C.region (id := 2) (m := 1) (ops := opsOf (sub [1, 1, 0, 0] B16)) rfl ?_
  refine W.pure rfl (wo rfl) rfl rfl (p_assign rfl rfl) (nf rfl) ?_
  refine W.doneQ (y := sub [1, 1, 0, 1] B16) rfl ?_
  refine C.loopB (id := 0) (c := sub [1, 1, 0, 1, 0, 0] B16) (y := sub [1, 1, 1] B16) (fun k : Nat => 512 - k) (fun k => [(0, .int .u8 x), (3, .slice (some ⟨bf, 0, none⟩) 512 512), (4, .int .i64 (k : Int))]) (fun k => (some bf, .cells (enc .u8 (upd (fun _ => x) 512 k)) 5 (0, 0)) :: H) (fun k => k ≤ 512) 0 (Nat.zero_le _) (Sub.cons rfl (Sub.cons rfl (Sub.cons rfl (Sub.nil _)))) rfl rfl (fun k => k = 512) ?_ ?_
  · intro k hk Q' hN hE hR
    by_cases hlt : k < 512
    · refine C.seq (x := sub [1, 1, 0, 1, 0, 0, 0] B16) (y := sub [1, 1, 0, 1, 0, 0, 1] B16) ?_
      refine C.seq (x := sub [1, 1, 0, 1, 0, 0, 0, 0] B16) (y := sub [1, 1, 0, 1, 0, 0, 0, 1] B16) ?_
      refine C.region (id := 3) (m := 4) (ops := opsOf (sub [1, 1, 0, 1, 0, 0, 0, 0] B16)) rfl ?_
      refine W.pure rfl (wo rfl) rfl rfl (p_move rfl rfl) (nf rfl) ?_
      refine W.pure rfl (wo rfl) rfl rfl (p_move rfl rfl) (nf rfl) ?_
      refine W.pure rfl (wo rfl) rfl rfl (p_slLen tu32 ⟨_, _, rfl⟩ rfl rfl) (nf rfl) ?_
      refine W.pure rfl (wo rfl) rfl rfl (pT (decide_eq_true (by omega)) (p_lss rfl rfl rfl)) (nf rfl) ?_
      refine W.doneQ (y := sub [1, 1, 0, 1, 0, 0, 0, 1] B16) rfl ?_
      refine C.cond_true (x := sub [1, 1, 0, 1, 0, 0, 0, 1, 0] B16) (y := sub [1, 1, 0, 1, 0, 0, 0, 1, 1] B16) rfl rfl ?_
      refine C.skipQ (y := sub [1, 1, 0, 1, 0, 0, 1] B16) rfl ?_
      refine C.seq (x := sub [1, 1, 0, 1, 0, 0, 1, 0] B16) (y := sub [1, 1, 0, 1, 0, 0, 1, 1] B16) ?_
      refine C.block (id := 1) (c := sub [1, 1, 0, 1, 0, 0, 1, 0, 0] B16) ?_
      refine C.region (id := 5) (m := 5) (ops := opsOf (sub [1, 1, 0, 1, 0, 0, 1, 0, 0] B16)) rfl ?_
      refine W.pure rfl (wo rfl) rfl rfl (p_move rfl rfl) (nf rfl) ?_
      refine W.pure rfl (wo rfl) rfl rfl (p_move rfl rfl) (nf rfl) ?_
      refine W.pure rfl (wo rfl) rfl rfl (p_move rfl rfl) (nf rfl) ?_
      refine W.pure rfl (wo rfl) rfl rfl (p_slP tu32 ts5 hlt rfl rfl rfl) (nf rfl) ?_
      refine W.put (H' := (some bf, .cells (enc .u8 ((upd (fun _ => x) 512 k).set k x)) 5 (0, 0)) :: H) rfl (wo rfl) rfl (f_storeE (j := 0) (off := k) ts5 rfl (by rw [upd_len _ hk]; exact hlt) rfl (by show some (ptr bf (k * 1)) = _; rw [Nat.mul_one]) rfl) (nf rfl) ?_
      refine W.doneQ (y := sub [1, 1, 0, 1, 0, 0, 1, 1] B16) rfl ?_
      refine C.region (id := 4) (m := 3) (ops := opsOf (sub [1, 1, 0, 1, 0, 0, 1, 1] B16)) rfl ?_
      refine W.pure rfl (wo rfl) rfl rfl (p_move rfl rfl) (nf rfl) ?_
      refine W.pure rfl (wo rfl) rfl rfl (pI (wk (by omega)) (p_add rfl rfl rfl)) (nf rfl) ?_
      refine W.pure rfl (wo rfl) rfl rfl (p_assign rfl rfl) (nf rfl) ?_
      refine W.end' fun a1 w1 ha1 hc1 => hN (k + 1) (by omega) (by omega) a1 w1 (ha1.sub (Sub.cons rfl (Sub.cons rfl (Sub.cons rfl (Sub.nil _))))) ?_
      have e : (upd (fun _ => x) 512 k).set k x = upd (fun _ => x) 512 (k + 1) := upd_set (fun _ => x) hlt
      rw [e] at hc1; exact hc1
    · refine C.seq (x := sub [1, 1, 0, 1, 0, 0, 0] B16) (y := sub [1, 1, 0, 1, 0, 0, 1] B16) ?_
      refine C.seq (x := sub [1, 1, 0, 1, 0, 0, 0, 0] B16) (y := sub [1, 1, 0, 1, 0, 0, 0, 1] B16) ?_
      refine C.region (id := 3) (m := 4) (ops := opsOf (sub [1, 1, 0, 1, 0, 0, 0, 0] B16)) rfl ?_
      refine W.pure rfl (wo rfl) rfl rfl (p_move rfl rfl) (nf rfl) ?_
      refine W.pure rfl (wo rfl) rfl rfl (p_move rfl rfl) (nf rfl) ?_
      refine W.pure rfl (wo rfl) rfl rfl (p_slLen tu32 ⟨_, _, rfl⟩ rfl rfl) (nf rfl) ?_
      refine W.pure rfl (wo rfl) rfl rfl (pF (decide_eq_false (by omega)) (p_lss rfl rfl rfl)) (nf rfl) ?_
      refine W.doneQ (y := sub [1, 1, 0, 1, 0, 0, 0, 1] B16) rfl ?_
      refine C.cond_false (x := sub [1, 1, 0, 1, 0, 0, 0, 1, 0] B16) (y := sub [1, 1, 0, 1, 0, 0, 0, 1, 1] B16) rfl rfl ?_
      exact C.exit fun a1 w1 ha1 hc1 => hE (by omega) a1 w1 (ha1.sub (Sub.cons rfl (Sub.cons rfl (Sub.cons rfl (Sub.nil _))))) hc1
  intro k hk hke
  subst hke
  refine C.seq (x := sub [1, 1, 1, 0] B16) (y := sub [1, 1, 1, 1] B16) ?_
  refine C.region (id := 6) (m := 2) (ops := opsOf (sub [1, 1, 1, 0] B16)) rfl ?_
  refine W.pure rfl (wo rfl) rfl rfl (p_move rfl rfl) (nf rfl) ?_
  refine W.pure rfl (wo rfl) rfl rfl (p_assign rfl rfl) (nf rfl) ?_
  refine W.doneQ (y := sub [1, 1, 1, 1] B16) rfl ?_
  exact C.ret (R := fun e w' => ∃ v cur, e = .returned v ∧ IntOwn .u8 v cur (fillL x) ∧ Cls w0 I ((v.ownBlock, .cells cur 5 (0, 0)) :: H) w') (rs := [.tmp 2]) (vs := [.slice (some ⟨bf, 0, none⟩) 512 512]) rfl Try.func16 rfl rfl rfl (res_cons (ResV.tmp rfl) res_nil) fun w1 hc1 => ⟨_, _, rfl, own_new (fillL_len x) (by simp [maxLen]), by rw [upd_all] at hc1; exact hc1⟩

noncomputable def B39 : Code := bodyOf Try.f39
theorem en39 (args : Array Value) (w : World) : (callFunc 39 args).run Try.prog w = .ok (.enter 39 args) w := by kernel_rfl
theorem tu5 (w : World) : (underlying 5).run Try.prog w = .ok (.int .u8) w := by kernel_rfl
theorem block_ok {w0 w : World} {I : Mem} {H : Heap} (hc : Cls w0 I H w) (x : Int) {n : Nat} (hn : n ≤ 1099511627775) : Calls Try.prog 39 #[.int .u8 x, .int .i64 (n : Int)] w (fun e w' => ∃ v cur, e = .returned v ∧ IntOwn .u8 v cur (blockL x n) ∧ Cls w0 I ((v.ownBlock, .cells cur 5 (0, 0)) :: H) w') := by
  refine calls_of_CW (N := 22) Try.func39 (show _ = some B39 by kernel_rfl) (by kernel_rfl) rfl (S := [(0, .int .u8 x), (1, .int .i64 (n : Int))]) (by simp) hc ?_
  show CW _ _ _ (sub [] B39) _ _ _
  refine C.seq (x := sub [0] B39) (y := sub [1] B39) ?_
  refine C.region (id := 0) (m := 1) (ops := opsOf (sub [0] B39)) rfl ?_
  refine W.pure rfl (wo rfl) rfl rfl (p_assign rfl rfl) (nf rfl) ?_
  refine W.doneQ (y := sub [1] B39) rfl ?_
  refine C.seq (x := sub [1, 0] B39) (y := sub [1, 1] B39) ?_
  refine C.region (id := 1) (m := 3) (ops := opsOf (sub [1, 0] B39)) rfl ?_
  refine W.pure rfl (wo rfl) rfl rfl (p_move rfl rfl) (nf rfl) ?_
  refine W.new rfl (wo rfl) rfl rfl (f_make (n := n) elem32 (by omega) (by decide) rfl rfl rfl) (nf rfl) ?_
  intro bf hbf
  refine W.pure rfl (wo rfl) rfl rfl (p_assign rfl rfl) (nf rfl) ?_
  refine W.doneQ (y := sub [1, 1] B39) rfl ?_
  refine C.seq (x := sub [1, 1, 0] B39) (y := sub [1, 1, 1] B39) ?_
  refine C.seq (x := sub [1, 1, 0, 0] B39) (y := sub [1, 1, 0, 1] B39) ?_
  refine C.region (id := 2) (m := 1) (ops := opsOf (sub [1, 1, 0, 0] B39)) rfl ?_
  refine W.pure rfl (wo rfl) rfl rfl (p_assign rfl rfl) (nf rfl) ?_
  refine W.doneQ (y := sub [1, 1, 0, 1] B39) rfl ?_
  refine C.loopB (id := 0) (c := sub [1, 1, 0, 1, 0, 0] B39) (y := sub [1, 1, 1] B39) (fun k : Nat => n - k) (fun k => [(0, .int .u8 x), (1, .int .i64 (n : Int)), (5, .slice (some ⟨bf, 0, none⟩) n n), (6, .int .i64 (k : Int))]) (fun k => (some bf, .cells (enc .u8 (upd (fun i : Nat => IntKind.u8.wrap (x + IntKind.u8.wrap (i : Int))) n k)) 5 (0, 0)) :: H) (fun k => k ≤ n) 0 (Nat.zero_le _) (Sub.cons rfl (Sub.cons rfl (Sub.cons rfl (Sub.cons rfl (Sub.nil _))))) rfl rfl (fun k => k = n) ?_ ?_
  · intro k hk Q' hN hE hR
    by_cases hlt : k < n
    · refine C.seq (x := sub [1, 1, 0, 1, 0, 0, 0] B39) (y := sub [1, 1, 0, 1, 0, 0, 1] B39) ?_
      refine C.seq (x := sub [1, 1, 0, 1, 0, 0, 0, 0] B39) (y := sub [1, 1, 0, 1, 0, 0, 0, 1] B39) ?_
      refine C.region (id := 3) (m := 3) (ops := opsOf (sub [1, 1, 0, 1, 0, 0, 0, 0] B39)) rfl ?_
      refine W.pure rfl (wo rfl) rfl rfl (p_move rfl rfl) (nf rfl) ?_
      refine W.pure rfl (wo rfl) rfl rfl (p_move rfl rfl) (nf rfl) ?_
      refine W.pure rfl (wo rfl) rfl rfl (pT (decide_eq_true (by omega)) (p_lss rfl rfl rfl)) (nf rfl) ?_
      refine W.doneQ (y := sub [1, 1, 0, 1, 0, 0, 0, 1] B39) rfl ?_
      refine C.cond_true (x := sub [1, 1, 0, 1, 0, 0, 0, 1, 0] B39) (y := sub [1, 1, 0, 1, 0, 0, 0, 1, 1] B39) rfl rfl ?_
      refine C.skipQ (y := sub [1, 1, 0, 1, 0, 0, 1] B39) rfl ?_
      refine C.seq (x := sub [1, 1, 0, 1, 0, 0, 1, 0] B39) (y := sub [1, 1, 0, 1, 0, 0, 1, 1] B39) ?_
      refine C.block (id := 1) (c := sub [1, 1, 0, 1, 0, 0, 1, 0, 0] B39) ?_
      refine C.region (id := 5) (m := 8) (ops := opsOf (sub [1, 1, 0, 1, 0, 0, 1, 0, 0] B39)) rfl ?_
      refine W.pure rfl (wo rfl) rfl rfl (p_move rfl rfl) (nf rfl) ?_
      refine W.pure rfl (wo rfl) rfl rfl (p_move rfl rfl) (nf rfl) ?_
      refine W.pure rfl (wo rfl) rfl rfl (p_move rfl rfl) (nf rfl) ?_
      refine W.pure rfl (wo rfl) rfl rfl (p_move rfl rfl) (nf rfl) ?_
      refine W.pure rfl (wo rfl) rfl rfl (p_conv tu3 tu5 ⟨_, rfl⟩ rfl rfl) (nf rfl) ?_
      refine W.pure rfl (wo rfl) rfl rfl (p_add rfl rfl rfl) (nf rfl) ?_
      refine W.pure rfl (wo rfl) rfl rfl (p_slP tu32 ts5 hlt rfl rfl rfl) (nf rfl) ?_
      refine W.put (H' := (some bf, .cells (enc .u8 ((upd (fun i : Nat => IntKind.u8.wrap (x + IntKind.u8.wrap (i : Int))) n k).set k (IntKind.u8.wrap (x + IntKind.u8.wrap (k : Int))))) 5 (0, 0)) :: H) rfl (wo rfl) rfl (f_storeE (j := 0) (off := k) ts5 rfl (by rw [upd_len _ hk]; exact hlt) rfl (by show some (ptr bf (k * 1)) = _; rw [Nat.mul_one]) rfl) (nf rfl) ?_
      refine W.doneQ (y := sub [1, 1, 0, 1, 0, 0, 1, 1] B39) rfl ?_
      refine C.region (id := 4) (m := 3) (ops := opsOf (sub [1, 1, 0, 1, 0, 0, 1, 1] B39)) rfl ?_
      refine W.pure rfl (wo rfl) rfl rfl (p_move rfl rfl) (nf rfl) ?_
      refine W.pure rfl (wo rfl) rfl rfl (pI (wk (by omega)) (p_add rfl rfl rfl)) (nf rfl) ?_
      refine W.pure rfl (wo rfl) rfl rfl (p_assign rfl rfl) (nf rfl) ?_
      refine W.end' fun a1 w1 ha1 hc1 => hN (k + 1) (by omega) (by omega) a1 w1 (ha1.sub (Sub.cons rfl (Sub.cons rfl (Sub.cons rfl (Sub.cons rfl (Sub.nil _)))))) ?_
      have e : (upd (fun i : Nat => IntKind.u8.wrap (x + IntKind.u8.wrap (i : Int))) n k).set k (IntKind.u8.wrap (x + IntKind.u8.wrap (k : Int))) = upd (fun i : Nat => IntKind.u8.wrap (x + IntKind.u8.wrap (i : Int))) n (k + 1) := upd_set _ hlt
      rw [e] at hc1; exact hc1
    · refine C.seq (x := sub [1, 1, 0, 1, 0, 0, 0] B39) (y := sub [1, 1, 0, 1, 0, 0, 1] B39) ?_
      refine C.seq (x := sub [1, 1, 0, 1, 0, 0, 0, 0] B39) (y := sub [1, 1, 0, 1, 0, 0, 0, 1] B39) ?_
      refine C.region (id := 3) (m := 3) (ops := opsOf (sub [1, 1, 0, 1, 0, 0, 0, 0] B39)) rfl ?_
      refine W.pure rfl (wo rfl) rfl rfl (p_move rfl rfl) (nf rfl) ?_
      refine W.pure rfl (wo rfl) rfl rfl (p_move rfl rfl) (nf rfl) ?_
      refine W.pure rfl (wo rfl) rfl rfl (pF (decide_eq_false (by omega)) (p_lss rfl rfl rfl)) (nf rfl) ?_
      refine W.doneQ (y := sub [1, 1, 0, 1, 0, 0, 0, 1] B39) rfl ?_
      refine C.cond_false (x := sub [1, 1, 0, 1, 0, 0, 0, 1, 0] B39) (y := sub [1, 1, 0, 1, 0, 0, 0, 1, 1] B39) rfl rfl ?_
      exact C.exit fun a1 w1 ha1 hc1 => hE (by omega) a1 w1 (ha1.sub (Sub.cons rfl (Sub.cons rfl (Sub.cons rfl (Sub.cons rfl (Sub.nil _)))))) hc1
  intro k hk hke
  subst hke
  refine C.seq (x := sub [1, 1, 1, 0] B39) (y := sub [1, 1, 1, 1] B39) ?_
  refine C.region (id := 6) (m := 2) (ops := opsOf (sub [1, 1, 1, 0] B39)) rfl ?_
  refine W.pure rfl (wo rfl) rfl rfl (p_move rfl rfl) (nf rfl) ?_
  refine W.pure rfl (wo rfl) rfl rfl (p_assign rfl rfl) (nf rfl) ?_
  refine W.doneQ (y := sub [1, 1, 1, 1] B39) rfl ?_
  exact C.ret (R := fun e w' => ∃ v cur, e = .returned v ∧ IntOwn .u8 v cur (blockL x k) ∧ Cls w0 I ((v.ownBlock, .cells cur 5 (0, 0)) :: H) w') (rs := [.tmp 4]) (vs := [.slice (some ⟨bf, 0, none⟩) k k]) rfl Try.func39 rfl rfl rfl (res_cons (ResV.tmp rfl) res_nil) fun w1 hc1 => ⟨_, _, rfl, own_new (blockL_len x k) (by simp [maxLen]; omega), by rw [upd_all] at hc1; exact hc1⟩

end Go.Proofs.Ytjomnicfcdkfdaa
end

section
namespace Go.Proofs.Ytjomnicfcdkfdaa
open Go Go.HW Go.RowKit
set_option linter.unusedVariables false
set_option linter.unusedSimpArgs false

/-! ### the methods as calls that turn what stands in front of what is owned -/
abbrev Dx (s : Dk) := {p : Value × Array Value // DkO p.1 p.2 s}
abbrev dX (b m : Nat) {s : Dk} (x : Dx s) : Heap := dkH b m x.1.1 x.1.2 s
abbrev Ox (k : IntKind) (xs : List Int) := {p : Value × Array Value × Nat // IntOwn k p.1 p.2.1 xs}
abbrev oX {k : IntKind} {xs : List Int} (y : Ox k xs) : Heap := [(y.1.1.ownBlock, .cells y.1.2.1 y.1.2.2 (0, 0))]
def Turn (I : Mem) (f : FuncId) (args : Array Value) (E : Heap) {X : Type} (u : X → Value) (E' : X → Heap) : Prop :=
  ∀ (I' : Mem), Ext I I' → ∀ (w0 w : World), Cls w0 I' E w → Calls Try.prog f args w fun e w' => ∃ x, e = .returned (u x) ∧ Cls w0 I' (E' x) w'
def FrontTurn (I : Mem) (f : FuncId) (args : Array Value) (H : Heap) {X : Type} (u : X → Value) (H' : X → Heap) : Prop :=
  ∀ (w0 w : World), Cls w0 I H w → Calls Try.prog f args w fun e w' => ∃ x, e = .returned (u x) ∧ Cls w0 I (H' x) w'
theorem Turn.at {I : Mem} {f : FuncId} {args : Array Value} {E A : Heap} {X : Type} {u : X → Value} {E' : X → Heap} (h : Turn I f args E u E') : FrontTurn I f args (E ++ A) u (fun x => E' x ++ A) := fun w0 w hc =>
  frameI (fun I' he _ w0 w hc => h I' he w0 w hc) hc
section
variable {N : Nat} {S : Slots} {w0 : World} {I : Mem} {H : Heap} {Q : Exit → Act → World → Prop} {ops : Array Oper} {l : List Nat} {i d : Nat} {o : Oper} {v : Value} {X : Type} {u : X → Value} {cl : Call} {fo : Operand} {g : FuncId} {args : Array Value}
theorem W.c01 {E' : X → Heap} (hi : ops[i]? = some o) (hw : Wn ops S o true) (hd : o.dst = some d) (hN : Nat.blt d N = true) (hc : Turn I g args [] u E') (hbody : ∀ w, (callFunc g args).run Try.prog w = .ok (.enter g args) w) (ho : o.op = .call cl) (hcal : cl.callee = .value fo) (hf : ev S fo = some (.func (.func g) #[] #[])) (hargs : ∀ ρ, Val S ρ → cl.args.map ρ = args)
    (h : ∀ x, WW N w0 I ops l Q ((d, u x) :: S) (E' x ++ H)) : WW N w0 I ops (i :: l) Q S H :=
  W.callX hi hw hd hN ho hcal hf hargs hbody (fun w hcl => hc.at w0 w hcl) h
theorem W.c11 {E R : Heap} {E' : X → Heap} (hi : ops[i]? = some o) (hw : Wn ops S o true) (hd : o.dst = some d) (hN : Nat.blt d N = true) (hH : H = E ++ R) (hc : Turn I g args E u E') (hbody : ∀ w, (callFunc g args).run Try.prog w = .ok (.enter g args) w) (ho : o.op = .call cl) (hcal : cl.callee = .value fo) (hf : ev S fo = some (.func (.func g) #[] #[])) (hargs : ∀ ρ, Val S ρ → cl.args.map ρ = args)
    (h : ∀ x, WW N w0 I ops l Q ((d, u x) :: S) (E' x ++ R)) : WW N w0 I ops (i :: l) Q S H :=
  W.callX hi hw hd hN ho hcal hf hargs hbody (fun w hcl => by subst hH; exact hc.at w0 w hcl) h
theorem W.c22 {E1 E2 R : Heap} {E1' E2' : X → Heap} (hi : ops[i]? = some o) (hw : Wn ops S o true) (hd : o.dst = some d) (hN : Nat.blt d N = true) (hH : H = E1 ++ (E2 ++ R)) (hc : Turn I g args (E1 ++ E2) u (fun x => E1' x ++ E2' x)) (hbody : ∀ w, (callFunc g args).run Try.prog w = .ok (.enter g args) w) (ho : o.op = .call cl) (hcal : cl.callee = .value fo) (hf : ev S fo = some (.func (.func g) #[] #[])) (hargs : ∀ ρ, Val S ρ → cl.args.map ρ = args)
    (h : ∀ x, WW N w0 I ops l Q ((d, u x) :: S) (E1' x ++ (E2' x ++ R))) : WW N w0 I ops (i :: l) Q S H :=
  W.callX (H' := fun x => E1' x ++ (E2' x ++ R)) hi hw hd hN ho hcal hf hargs hbody (fun w hcl => by
    subst hH; rw [← List.append_assoc] at hcl
    exact (hc.at w0 w hcl).mono fun e w' ⟨x, h1, h2⟩ => ⟨x, h1, by rw [← List.append_assoc]; exact h2⟩) h
theorem W.c12 {E R : Heap} {E1' E2' : X → Heap} (hi : ops[i]? = some o) (hw : Wn ops S o true) (hd : o.dst = some d) (hN : Nat.blt d N = true) (hH : H = E ++ R) (hc : Turn I g args E u (fun x => E1' x ++ E2' x)) (hbody : ∀ w, (callFunc g args).run Try.prog w = .ok (.enter g args) w) (ho : o.op = .call cl) (hcal : cl.callee = .value fo) (hf : ev S fo = some (.func (.func g) #[] #[])) (hargs : ∀ ρ, Val S ρ → cl.args.map ρ = args)
    (h : ∀ x, WW N w0 I ops l Q ((d, u x) :: S) (E1' x ++ (E2' x ++ R))) : WW N w0 I ops (i :: l) Q S H :=
  W.callX (H' := fun x => E1' x ++ (E2' x ++ R)) hi hw hd hN ho hcal hf hargs hbody (fun w hcl => by
    subst hH
    exact (hc.at w0 w hcl).mono fun e w' ⟨x, h1, h2⟩ => ⟨x, h1, by rw [← List.append_assoc]; exact h2⟩) h
theorem W.perm {H' : Heap} (hp : H.Perm H') (h : WW N w0 I ops l Q S H') : WW N w0 I ops l Q S H := fun a w ha hc => h a w ha (hc.perm hp)
theorem W.fewer {H' : Heap} (hp : H'.Sublist H) (h : WW N w0 I ops l Q S H') : WW N w0 I ops l Q S H := fun a w ha hc => h a w ha (hc.fewer hp)
theorem perm1 {a b R : Heap} : (a ++ (b ++ R)).Perm (b ++ (a ++ R)) := by
  rw [← List.append_assoc, ← List.append_assoc]; exact List.perm_append_comm.append_right R
theorem perm2 {a b c R : Heap} : (a ++ (b ++ (c ++ R))).Perm (c ++ (a ++ (b ++ R))) := (perm1.append_left a).trans perm1
theorem perm3 {a b c d R : Heap} : (a ++ (b ++ (c ++ (d ++ R)))).Perm (d ++ (a ++ (b ++ (c ++ R)))) := (perm2.append_left a).trans perm1
theorem perm4 {a b c d e R : Heap} : (a ++ (b ++ (c ++ (d ++ (e ++ R))))).Perm (e ++ (a ++ (b ++ (c ++ (d ++ R))))) := (perm3.append_left a).trans perm1
theorem W.f1 {a b R : Heap} (hH : H = a ++ (b ++ R)) (h : WW N w0 I ops l Q S (b ++ (a ++ R))) : WW N w0 I ops l Q S H := W.perm (by rw [hH]; exact perm1) h
theorem W.f2 {a b c R : Heap} (hH : H = a ++ (b ++ (c ++ R))) (h : WW N w0 I ops l Q S (c ++ (a ++ (b ++ R)))) : WW N w0 I ops l Q S H := W.perm (by rw [hH]; exact perm2) h
theorem W.f3 {a b c d R : Heap} (hH : H = a ++ (b ++ (c ++ (d ++ R)))) (h : WW N w0 I ops l Q S (d ++ (a ++ (b ++ (c ++ R))))) : WW N w0 I ops l Q S H := W.perm (by rw [hH]; exact perm3) h
theorem W.f4 {a b c d e R : Heap} (hH : H = a ++ (b ++ (c ++ (d ++ (e ++ R))))) (h : WW N w0 I ops l Q S (e ++ (a ++ (b ++ (c ++ (d ++ R)))))) : WW N w0 I ops l Q S H := W.perm (by rw [hH]; exact perm4) h
theorem W.dr {a R : Heap} (hH : H = a ++ R) (h : WW N w0 I ops l Q S R) : WW N w0 I ops l Q S H := W.fewer (by rw [hH]; exact List.sublist_append_right _ _) h
theorem C.f1 {k : Code} {a b R : Heap} (hH : H = a ++ (b ++ R)) (h : CW N w0 I k Q S (b ++ (a ++ R))) : CW N w0 I k Q S H := C.perm h (by rw [hH]; exact perm1)
theorem C.f2 {k : Code} {a b c R : Heap} (hH : H = a ++ (b ++ (c ++ R))) (h : CW N w0 I k Q S (c ++ (a ++ (b ++ R)))) : CW N w0 I k Q S H := C.perm h (by rw [hH]; exact perm2)
theorem C.f3 {k : Code} {a b c d R : Heap} (hH : H = a ++ (b ++ (c ++ (d ++ R)))) (h : CW N w0 I k Q S (d ++ (a ++ (b ++ (c ++ R))))) : CW N w0 I k Q S H := C.perm h (by rw [hH]; exact perm3)
theorem C.f4 {k : Code} {a b c d e R : Heap} (hH : H = a ++ (b ++ (c ++ (d ++ (e ++ R))))) (h : CW N w0 I k Q S (e ++ (a ++ (b ++ (c ++ (d ++ R)))))) : CW N w0 I k Q S H := C.perm h (by rw [hH]; exact perm4)
theorem C.dr {k : Code} {a R : Heap} (hH : H = a ++ R) (h : CW N w0 I k Q S R) : CW N w0 I k Q S H := C.fewer h (by rw [hH]; exact List.sublist_append_right _ _)
end
/-- a call that turns nothing -/
theorem Turn.same {I : Mem} {f : FuncId} {args : Array Value} {E : Heap} {v : Value} (h : ∀ (I' : Mem), Ext I I' → ∀ (w0 w : World), Cls w0 I' E w → Calls Try.prog f args w fun e w' => e = .returned v ∧ Below w.heap.size w w') : Turn I f args E (fun _ : Unit => v) (fun _ => E) := fun I' he w0 w hc =>
  (h I' he w0 w hc).mono fun e w' ⟨h1, h2⟩ => ⟨(), h1, hc.below h2⟩
def x0 (n : Int) : Dx (newK n) := ⟨(.slice none 0 0, #[]), ⟨OwnS.nil _ _, fun p hp => by cases hp⟩⟩
def syncK (s : Dk) : Int × Dk := if (stepK s).1 = 0 then (0, { (stepK s).2 with set := setK (stepK s).2 (stepK s).2.late.length, late := [] }) else stepK s
theorem stepK_late' (s : Dk) : (stepK s).2.late = s.late := by 
  unfold stepK
  by_cases h : s.dead = true
  · rw [if_pos h]
  · rw [if_neg h]
    by_cases h2 : s.armed = false
    · rw [if_pos h2]
    · rw [if_neg h2]
      by_cases h3 : s.fuse = 0
      · rw [if_pos h3]
      · rw [if_neg h3]
theorem stepK_n (s : Dk) : (stepK s).2.n = s.n := by 
  unfold stepK
  by_cases h : s.dead = true
  · rw [if_pos h]
  · rw [if_neg h]
    by_cases h2 : s.armed = false
    · rw [if_pos h2]
    · rw [if_neg h2]
      by_cases h3 : s.fuse = 0
      · rw [if_pos h3]
      · rw [if_neg h3]
section
variable {I : Mem} {b m : Nat} {s s' : Dk} {e : Int}
theorem nilD (he : Full s'.set) (hl : s'.late = []) : DkO (.slice none 0 0) #[] s' := ⟨by rw [hl]; exact OwnS.nil _ _, he⟩
theorem tNew (n : Int) (h : 1 ≤ n) (h2 : n ≤ 8192) : Turn I 11 #[.int .i64 n] [] (fun p : Nat × Nat => .tuple #[ptr p.1 0, .int .i64 0]) (fun p => dX p.1 p.2 (x0 n)) := fun I' he w0 w hc =>
  (new_ok hc n (by omega) (by omega)).mono fun e w' ⟨b, m, h1, h3⟩ => ⟨(b, m), h1, by rw [List.append_nil] at h3; exact h3⟩
theorem tFill (x : Int) : Turn I 16 #[.int .u8 x] [] (fun y : Ox .u8 (fillL x) => y.1.1) (fun y => oX y) := fun I' he w0 w hc =>
  (fill_ok hc x).mono fun e w' ⟨v, cur, h1, h2, h3⟩ => ⟨⟨(v, cur, 5), h2⟩, h1, h3⟩
theorem tBlock (x : Int) {n : Nat} (hn : n ≤ 1099511627775) : Turn I 39 #[.int .u8 x, .int .i64 (n : Int)] [] (fun y : Ox .u8 (blockL x n) => y.1.1) (fun y => oX y) := fun I' he w0 w hc =>
  (block_ok hc x hn).mono fun e w' ⟨v, cur, h1, h2, h3⟩ => ⟨⟨(v, cur, 5), h2⟩, h1, h3⟩
theorem tWrite (x : Dx s) {xs : List Int} (y : Ox .u8 xs) (n : Int) (hK : writeK s n xs = (e, s')) (hl : s.late.length ≤ 137438953471) : Turn I 15 #[ptr b 0, .int .i64 n, y.1.1] (dX b m x ++ oX y) (fun _ : Dx s' => .int .i64 e) (fun x' => dX b m x' ++ oX y) := fun I' he w0 w hc =>
  (write_ok hc x.2 y.2 n hl).mono fun e' w' ⟨v, cur, h1, h2, h3⟩ => by
    rw [hK] at h1 h2 h3; exact ⟨⟨(v, cur), h2⟩, h1, h3⟩
theorem tSync (x : Dx s) (hK : syncK s = (e, s')) (hl : s.late.length ≤ 1099511627775) : Turn I 14 #[ptr b 0] (dX b m x) (fun _ : Dx s' => .int .i64 e) (fun x' => dX b m x') := fun I' he w0 w hc => by
  have ho1 : DkO x.1.1 x.1.2 (stepK s).2 := stepK_O x.2
  unfold syncK at hK
  by_cases h : (stepK s).1 = 0
  · rw [if_pos h] at hK
    have e1 := congrArg Prod.fst hK
    have e2 := congrArg Prod.snd hK
    simp only at e1 e2
    subst e1
    refine (sync_2 (s1 := (stepK s).2) (by rw [stepK_late']; exact hl) hc x.2 ho1 (fun w2 hc2 => by have := step_ok hc2; rw [h] at this; exact this)).mono fun e' w' ⟨h1, h2⟩ => ?_
    rw [e2] at h2
    refine ⟨⟨(.slice none 0 0, #[]), nilD ?_ (by rw [← e2])⟩, h1, h2⟩
    rw [← e2]
    exact setK_full ho1 _
  · rw [if_neg h] at hK
    have := sync_1 hc x.2 h
    rw [hK] at this ho1
    exact this.mono fun e' w' ⟨h1, h2⟩ => ⟨⟨x.1, ho1⟩, h1, h2⟩
theorem tFuse (x : Dx s) (n : Int) (hK : setFuseK s n = (e, s')) : Turn I 13 #[ptr b 0, .int .i64 n] (dX b m x) (fun _ : Dx s' => .int .i64 e) (fun x' => dX b m x') := fun I' he w0 w hc =>
  (setfuse_ok hc x.2 n).mono fun e' w' ⟨h1, h2⟩ => by
    rw [hK] at h1 h2
    refine ⟨⟨x.1, ?_⟩, h1, h2⟩
    unfold setFuseK at hK
    split at hK
    · have := congrArg Prod.snd hK; simp only at this; subst this; exact x.2
    · have := congrArg Prod.snd hK; simp only at this; subst this; exact ⟨x.2.hr, x.2.hs⟩
def crashK (s : Dk) (picks : List Int) : Dk := { s with set := crK s picks s.late.length, late := [], armed := false, dead := false, fuse := 0 }
theorem late_full (x : Dx s) : Full s.late := fun p hp => by
  obtain ⟨i, hi, e⟩ := List.getElem_of_mem hp
  exact late_len x.2 (k := i) (by rw [List.getElem?_eq_getElem hi, e])
theorem tCrash (x : Dx s) {pv : Value} {picks : List Int} (hp : IntRow I .i64 pv picks) (hl : s.late.length ≤ 1099511627775) : Turn I 18 #[ptr b 0, pv] (dX b m x) (fun _ : Dx (crashK s picks) => .int .i64 0) (fun x' => dX b m x') := fun I' he w0 w hc =>
  (crash_ok hc x.2 (hp.mono he) hl).mono fun e' w' ⟨h1, h2⟩ => ⟨⟨(.slice none 0 0, #[]), nilD (crK_full x.2.hs (late_full x) _) rfl⟩, h1, h2⟩
theorem row_of_mem {k : IntKind} {xs : List Int} (y : Ox k xs) {M : Mem} (hM : ∀ b o, (some b, o) ∈ oX y → M b = some o) : IntRow M k y.1.1 xs := by
  obtain ⟨⟨v, cur, e⟩, h⟩ := y
  refine ⟨h.1, ?_⟩
  rcases h.2 with ⟨h1, h2⟩ | ⟨g, cap, h1, k1, k2, k3, k4⟩
  · simp only at h1; subst h1; exact ⟨none, 0, by rw [h2], by rw [h2]; exact Nat.le_refl _, .inl h2⟩
  · simp only at h1; subst h1
    refine ⟨_, cap, rfl, k1, .inr ⟨g, 0, cur, e, (0, 0), rfl, hM g _ (by simp [Value.ownBlock]), fun i q hq => ?_⟩⟩
    rw [Nat.zero_add]
    rw [← k4] at hq
    have hk : i < xs.length * 1 := by
      rcases Nat.lt_or_ge i (xs.length * 1) with hh | hh
      · exact hh
      · rw [List.getElem?_eq_none (by simp; omega)] at hq; cases hq
    rw [List.getElem?_take_of_lt hk] at hq
    simpa using hq
theorem tCrashO (x : Dx s) {picks : List Int} (y : Ox .i64 picks) (hl : s.late.length ≤ 1099511627775) : Turn I 18 #[ptr b 0, y.1.1] (dX b m x ++ oX y) (fun _ : Dx (crashK s picks) => .int .i64 0) (fun x' => dX b m x' ++ oX y) := fun I' he w0 w hc =>
  frameI (E := dX b m x) (A := oX y) (u := fun _ : Dx (crashK s picks) => .int .i64 0) (E' := fun x' => dX b m x') (fun I2 he2 hA w0 w hc => (tCrash (I := I2) x (row_of_mem y hA) hl) I2 (Ext.refl _) w0 w hc) hc
theorem tEdit (x : Dx s) (n at_ z : Int) (hK : editK s n at_ z = (e, s')) (hl : s.late.length ≤ 137438953471) : Turn I 30 #[ptr b 0, .int .i64 n, .int .i64 at_, .int .u8 z] (dX b m x) (fun _ : Dx s' => .int .i64 e) (fun x' => dX b m x') := fun I' he w0 w hc =>
  (edit_ok hc x.2 n at_ z hl).mono fun e' w' ⟨cur, h1, h2, h3⟩ => by
    rw [hK] at h1 h2 h3; exact ⟨⟨(x.1.1, cur), h2⟩, h1, h3⟩
theorem tRead (x : Dx s) (n : Int) (h : hasD s n = true) (hl : s.late.length ≤ 1099511627776) : Turn I 20 #[ptr b 0, .int .i64 n] (dX b m x) (fun y : Ox .u8 (rd s n) => .tuple #[y.1.1, .int .i64 0]) (fun y => oX y ++ dX b m x) := fun I' he w0 w hc =>
  (readm_ok hc (b := b) (m := m) (fun w hc => x.2.M hc fun p hp => hp) hl n h).mono fun e' w' ⟨v2, cur2, h1, h2, h3⟩ => ⟨⟨(v2, cur2, 62), h2⟩, h1, h3⟩
theorem tDead (x : Dx s) {r : Bool} (hr : s.dead = r) : Turn I 17 #[ptr b 0] (dX b m x) (fun _ : Unit => .bool r) (fun _ => dX b m x) := by
  subst hr
  exact Turn.same fun I' he w0 w hc => dead_ok (M := heapOf w) (fun _ _ e => e) (x.2.M hc fun p hp => hp)
theorem tUns (x : Dx s) : Turn I 25 #[ptr b 0] (dX b m x) (fun _ : Unit => .int .i64 (s.late.length : Int)) (fun _ => dX b m x) :=
  Turn.same fun I' he w0 w hc => unsynced_ok (M := heapOf w) (fun _ _ e => e) (x.2.M hc fun p hp => hp)
end
end Go.Proofs.Ytjomnicfcdkfdaa
end

section
namespace Go.Proofs.Ytjomnicfcdkfdaa
open Go Go.HW Go.RowKit
set_option linter.unusedVariables false
set_option linter.unusedSimpArgs false
section
variable {N : Nat} {S : Slots} {w0 : World} {I : Mem} {H : Heap} {Q : Exit → Act → World → Prop} {ops : Array Oper} {l : List Nat} {i d : Nat} {o : Oper} {v : Value}
theorem p_eqNilP {T U : TypeId} {x y : Operand} {b : Nat} (hr : ∀ b w, (binOp .eql T (ptr b 0) (.pointer none)).run Try.prog w = .ok (.bool false) w) (hg : ∀ b w, (eqGuard .eql T x y (ptr b 0) (.pointer none)).run Try.prog w = .ok () w) (ho : o.op = .binOp .eql T x y U) (hx : ev S x = some (ptr b 0)) (hy : ev S y = some (.pointer none)) : FPure Try.prog o S (.bool false) := fun ρ hρ w => by
  simp only [execOp, ho, hρ _ _ hx, hρ _ _ hy]
  refine val_run ?_
  exact (run_of_bind (hg b w)).trans (hr b w)
theorem ox_sl {k : IntKind} {xs : List Int} (y : Ox k xs) : ∃ a c, y.1.1 = .slice a xs.length c := OwnV.slice y.2
theorem us9 : Try.prog.underlying 9 = some .string := by kernel_rfl
theorem us5 : Try.prog.underlying 5 = some (.int .u8) := by kernel_rfl
/-- an own slice's text -/
theorem q_ownStr {xs : List Int} (y : Ox .u8 xs) {R : Heap} {x : Operand} (hH : H = oX y ++ R) (ho : o.op = .convert 32 9 x) (hx : ev S x = some y.1.1) : FQuiet Try.prog o w0 I S H (str (bytesL xs)) :=
  q_bytesStr us32 us5 us9 (fun w hc => by
    subst hH
    exact OwnV.row y.2 hc (List.mem_append_left _ (List.mem_singleton.2 rfl))) ho hx
theorem own_newK {k : IntKind} {xs : List Int} {b n : Nat} (h : xs.length = n) (hn : n ≤ maxLen) : IntOwn k (.slice (some ⟨b, 0, none⟩) n n) (enc k xs) xs := by
  unfold IntOwn
  rw [h]
  exact OwnV.fresh (Nat.le_refl _) hn (by rw [enc_size, h, Nat.mul_one]) (by rw [List.take_of_length_le]; rfl; simp [enc, h]) (by simp [encl, h])
/-- a new slice of numbers -/
theorem W.newO {k : IntKind} {e n : Nat} {zs : List Int} (hi : ops[i]? = some o) (hw : Wn ops S o true) (hd : o.dst = some d) (hN : Nat.blt d N = true) (hp : FNew Try.prog o S (.cells (enc k zs) e) (fun b => .slice (some ⟨b, 0, none⟩) n n)) (hn : zs.length = n) (hm : n ≤ maxLen) (hnd : ∀ c, o.op ≠ .defer c)
    (h : ∀ y : Ox k zs, WW N w0 I ops l Q ((d, y.1.1) :: S) (oX y ++ H)) : WW N w0 I ops (i :: l) Q S H :=
  W.new hi hw hd hN hp hnd fun b hb => h ⟨(.slice (some ⟨b, 0, none⟩) n n, enc k zs, e), own_newK hn hm⟩
@[reducible] def Ox.put {k : IntKind} {xs : List Int} (y : Ox k xs) (j : Nat) (hj : j < xs.length) (z : Int) : Ox k (xs.set j z) := ⟨(y.1.1, y.1.2.1.setIfInBounds j (.int k z), y.1.2.2), y.2.set hj z⟩
/-- a store into an own slice -/
theorem f_stO {k : IntKind} {xs : List Int} (y : Ox k xs) {j : Nat} (hj : j < xs.length) {R : Heap} {t : TypeId} {x z : Operand} {q : Int} (hs : ∀ w, (sizeOf t).run Try.prog w = .ok 1 w) (hH : H = oX y ++ R) (ho : o.op = .store t x z) (hx : ev S x = some (elp y.1.1 j)) (hy : ev S z = some (.int k q)) : FPut Try.prog o w0 I S H (oX (y.put j hj q) ++ R) := by
  subst hH
  have h2 : IntOwn k y.1.1 y.1.2.1 xs := y.2
  have := f_storeEl (P := Try.prog) (w0 := w0) (I := I) (i := 0) (H := oX y ++ R) (q := .int k q) hs rfl h2 (j := j) (by omega) rfl trivial ho hx hy
  exact this
theorem p_ixO2 {k : IntKind} {xs : List Int} (y : Ox k xs) {j : Nat} (hj : j < xs.length) {T e : Nat} {x z : Operand} {kk : IntKind} (hu : ∀ w, (underlying T).run Try.prog w = .ok (.slice e) w) (hs : ∀ w, (sizeOf e).run Try.prog w = .ok 1 w) (ho : o.op = .indexAddr T x z) (hx : ev S x = some y.1.1) (hy : ev S z = some (.int kk (j : Int))) : FPure Try.prog o S (elp y.1.1 j) := by
  have := p_slIx1 (P := Try.prog) hu hs (OwnV.some y.2 (i := (j : Int)) (by omega) (by omega)) (by omega) (by omega) ho hx hy
  simpa using this
theorem elem22 : Elem Try.prog 22 3 1 8 (.int .i64 0) := Elem.of (by kernel_rfl) (by kernel_rfl) rfl (by decide)
end
theorem row_sl {M : Mem} {k : IntKind} {v : Value} {xs : List Int} (h : IntRow M k v xs) : ∃ a c, v = .slice a xs.length c := by
  obtain ⟨_, a, c, h1, _⟩ := h; exact ⟨a, c, h1⟩
section
variable {N : Nat} {S : Slots} {w0 : World} {I : Mem} {o : Oper} {v : Value}
theorem p_ixR {k : IntKind} {xs : List Int} (h : IntRow I k v xs) {j : Nat} (hj : j < xs.length) {T e : Nat} {x z : Operand} {kk : IntKind} (hu : ∀ w, (underlying T).run Try.prog w = .ok (.slice e) w) (hs : ∀ w, (sizeOf e).run Try.prog w = .ok 1 w) (ho : o.op = .indexAddr T x z) (hx : ev S x = some v) (hy : ev S z = some (.int kk (j : Int))) : FPure Try.prog o S (elp v j) := by
  have := p_slIx1 (P := Try.prog) hu hs (RowV.some h (i := (j : Int)) (by omega) (by omega)) (by omega) (by omega) ho hx hy
  simpa using this
theorem i_ldR {k : IntKind} {xs : List Int} (h : IntRow I k v xs) {j : Nat} {q : Int} (hj : xs[j]? = some q) {t : TypeId} {x : Operand} (ha : ∀ w, (isAgg t).run Try.prog w = .ok false w) (ho : o.op = .load t x) (hx : ev S x = some (elp v j)) : FImm Try.prog o I S (.int k q) :=
  i_loadEl h (by simp [encl, hj]) ha ho hx
end
end Go.Proofs.Ytjomnicfcdkfdaa
end

section
namespace Go.Proofs.Ytjomnicfcdkfdaa
open Go Go.HW Go.RowKit
set_option linter.unusedVariables false
set_option linter.unusedSimpArgs false

def castO {k : IntKind} {xs ys : List Int} (h : xs = ys) (y : Ox k xs) : Ox k ys := ⟨y.1, h ▸ y.2⟩
def knA : Dk := { newK 2 with late := [(0, fillL 7)] }
def knB : Dk := { newK 2 with set := [(0, fillL 7)] }
def knC : Dk := { newK 2 with set := [(0, fillL 7)], late := [(0, fillL 9)] }
theorem knA_eq : writeK (newK 2) 0 (fillL 7) = (0, knA) := by simp [writeK, hasD, newK, fillL_len, stepK, knA]
theorem knB_eq : syncK knA = (0, knB) := by simp [syncK, stepK, knA, knB, newK, setK, mput]
theorem knC_eq : writeK knB 0 (fillL 9) = (0, knC) := by simp [writeK, hasD, newK, fillL_len, stepK, knB, knC]
def wantL (j : Nat) : List Int := List.replicate j 9 ++ List.replicate (512 - j) 7
theorem wantL_len {j : Nat} (h : j ≤ 512) : (wantL j).length = 512 := by simp [wantL]; omega
theorem wantL_set {j : Nat} (h : j < 512) : (wantL j).set j 9 = wantL (j + 1) := by
  unfold wantL
  rw [List.set_append, if_neg (by simp)]
  have e : 512 - j = (512 - (j + 1)) + 1 := by omega
  rw [e, List.replicate_succ, List.length_replicate, Nat.sub_self, List.set_cons_zero, List.replicate_succ']
  simp
theorem fillL_rep (x : Int) : fillL x = List.replicate 512 x := by unfold fillL; rw [List.map_const']; simp
theorem wantL_0 : fillL 7 = wantL 0 := by rw [fillL_rep]; unfold wantL; rw [List.replicate_zero, List.nil_append]
theorem kn_abs0 (A B : List Int) : rd (crashK { newK 2 with set := [(0, A)], late := [(0, B)] } [IntKind.i64.wrap 0]) 0 = A := by
  show mget (crK { newK 2 with set := [(0, A)], late := [(0, B)] } [IntKind.i64.wrap 0] 1) 0 = _
  rw [crK_skip (y := (0, B)) rfl (by decide)]; rfl
theorem kn_abs1 (A B : List Int) : rd (crashK { newK 2 with set := [(0, A)], late := [(0, B)] } [IntKind.i64.wrap 8]) 0 = B.take 2 ++ A.drop 2 := by
  show mget (crK { newK 2 with set := [(0, A)], late := [(0, B)] } [IntKind.i64.wrap 8] 1) 0 = _
  rw [crK_put (y := (0, B)) rfl (by decide)]; rfl
theorem kn_rd {k : Nat} (hk : k < 2) : rd (crashK knC [IntKind.i64.wrap (8 * (k : Int))]) 0 = wantL (2 * k) := by
  have h : k = 0 ∨ k = 1 := by omega
  rcases h with rfl | rfl
  · exact (kn_abs0 (fillL 7) (fillL 9)).trans wantL_0
  · refine (kn_abs1 (fillL 7) (fillL 9)).trans ?_
    rw [fillL_rep, fillL_rep]
    unfold wantL
    rw [List.take_replicate, List.drop_replicate, show min 2 512 = 2 * 1 from rfl]

noncomputable def B10 : Code := bodyOf Try.f10
theorem en10 (args : Array Value) (w : World) : (callFunc 10 args).run Try.prog w = .ok (.enter 10 args) w := by kernel_rfl
theorem known_ok (w : World) : Calls Try.prog 10 #[] w (fun e w' => e = .returned (.bool true) ∧ Below w.heap.size w w') := by
  refine calls_of_CW (N := 71) Try.func10 (show _ = some B10 by kernel_rfl) (by kernel_rfl) rfl (S := []) (by simp) (clsStart w) ?_
  show CW _ _ _ (sub [] B10) _ _ _
  refine C.seq (x := sub [0] B10) (y := sub [1] B10) ?_
  refine C.region (id := 0) (m := 1) (ops := opsOf (sub [0] B10)) rfl ?_
  refine W.pure rfl (wo rfl) rfl rfl (p_assign rfl rfl) (nf rfl) ?_
  refine W.doneQ (y := sub [1] B10) rfl ?_
  refine C.seq (x := sub [1, 0] B10) (y := sub [1, 1] B10) ?_
  refine C.seq (x := sub [1, 0, 0] B10) (y := sub [1, 0, 1] B10) ?_
  refine C.region (id := 1) (m := 1) (ops := opsOf (sub [1, 0, 0] B10)) rfl ?_
  refine W.pure rfl (wo rfl) rfl rfl (p_assign rfl rfl) (nf rfl) ?_
  refine W.doneQ (y := sub [1, 0, 1] B10) rfl ?_
  refine C.loopB (id := 0) (c := sub [1, 0, 1, 0, 0] B10) (y := sub [1, 1] B10) (fun k : Nat => 2 - k) (fun k => [(0, .bool false), (1, .int .i64 (k : Int))]) (fun k => []) (fun k => k ≤ 2) 0 (Nat.zero_le _) (Sub.cons rfl (Sub.cons rfl (Sub.nil _))) rfl rfl (fun k => k = 2) ?_ ?_
  · intro k hk Q' hN hE hR
    by_cases hlt : k < 2
    · refine C.seq (x := sub [1, 0, 1, 0, 0, 0] B10) (y := sub [1, 0, 1, 0, 0, 1] B10) ?_
      refine C.seq (x := sub [1, 0, 1, 0, 0, 0, 0] B10) (y := sub [1, 0, 1, 0, 0, 0, 1] B10) ?_
      refine C.region (id := 2) (m := 2) (ops := opsOf (sub [1, 0, 1, 0, 0, 0, 0] B10)) rfl ?_
      refine W.pure rfl (wo rfl) rfl rfl (p_move rfl rfl) (nf rfl) ?_
      refine W.pure rfl (wo rfl) rfl rfl (pT (decide_eq_true (by omega)) (p_lss rfl rfl rfl)) (nf rfl) ?_
      refine W.doneQ (y := sub [1, 0, 1, 0, 0, 0, 1] B10) rfl ?_
      refine C.cond_true (x := sub [1, 0, 1, 0, 0, 0, 1, 0] B10) (y := sub [1, 0, 1, 0, 0, 0, 1, 1] B10) rfl rfl ?_
      refine C.skipQ (y := sub [1, 0, 1, 0, 0, 1] B10) rfl ?_
      refine C.seq (x := sub [1, 0, 1, 0, 0, 1, 0] B10) (y := sub [1, 0, 1, 0, 0, 1, 1] B10) ?_
      refine C.block (id := 1) (c := sub [1, 0, 1, 0, 0, 1, 0, 0] B10) ?_
      refine C.seq (x := sub [1, 0, 1, 0, 0, 1, 0, 0, 0] B10) (y := sub [1, 0, 1, 0, 0, 1, 0, 0, 1] B10) ?_
      refine C.region (id := 4) (m := 6) (ops := opsOf (sub [1, 0, 1, 0, 0, 1, 0, 0, 0] B10)) rfl ?_
      refine W.c01 rfl (wo rfl) rfl rfl (tNew _ (by decide) (by decide)) (en11 _) rfl rfl rfl (args_val rfl) ?_
      intro p1
      refine W.pure rfl (wo rfl) rfl rfl (p_move rfl rfl) (nf rfl) ?_
      refine W.pure rfl (wo rfl) rfl rfl (p_extract rfl rfl rfl) (nf rfl) ?_
      refine W.pure rfl (wo rfl) rfl rfl (p_extract rfl rfl rfl) (nf rfl) ?_
      refine W.pure rfl (wo rfl) rfl rfl (p_assign rfl rfl) (nf rfl) ?_
      refine W.pure rfl (wo rfl) rfl rfl (p_assign rfl rfl) (nf rfl) ?_
      refine W.doneQ (y := sub [1, 0, 1, 0, 0, 1, 0, 0, 1] B10) rfl ?_
      refine C.seq (x := sub [1, 0, 1, 0, 0, 1, 0, 0, 1, 0] B10) (y := sub [1, 0, 1, 0, 0, 1, 0, 0, 1, 1] B10) ?_
      refine C.seq (x := sub [1, 0, 1, 0, 0, 1, 0, 0, 1, 0, 0] B10) (y := sub [1, 0, 1, 0, 0, 1, 0, 0, 1, 0, 1] B10) ?_
      refine C.region (id := 5) (m := 30) (ops := opsOf (sub [1, 0, 1, 0, 0, 1, 0, 0, 1, 0, 0] B10)) rfl ?_
      refine W.pure rfl (wo rfl) rfl rfl (p_move rfl rfl) (nf rfl) ?_
      refine W.pure rfl (wo rfl) rfl rfl (p_eqNilP (fun b w => by kernel_rfl) (fun b w => by kernel_rfl) rfl rfl rfl) (nf rfl) ?_
      refine W.pure rfl (wo rfl) rfl rfl (p_move rfl rfl) (nf rfl) ?_
      refine W.pure rfl (wo rfl) rfl rfl (p_move rfl rfl) (nf rfl) ?_
      refine W.quiet rfl (wo rfl) rfl rfl (f_callR rfl rfl (args_val rfl) (en12 _) (fun w2 hc2 => num_ok w2 _)) (nf rfl) ?_
      refine W.pure rfl (wo rfl) rfl rfl (pF (by decide) (p_neq rfl rfl rfl)) (nf rfl) ?_
      refine W.pure rfl (wo rfl) rfl rfl (p_pick_false rfl rfl rfl) (nf rfl) ?_
      refine W.pure rfl (wo rfl) rfl rfl (p_move rfl rfl) (nf rfl) ?_
      refine W.pure rfl (wo rfl) rfl rfl (p_move rfl rfl) (nf rfl) ?_
      refine W.c01 rfl (wo rfl) rfl rfl (tFill _) (en16 _) rfl rfl rfl (args_val rfl) ?_
      intro y3
      refine W.f1 rfl ?_
      refine W.c22 rfl (wo rfl) rfl rfl rfl (tWrite (x0 _) y3 _ (knA_eq) (by simp [newK])) (en15 _) rfl rfl rfl (args_val rfl) ?_
      intro x4
      refine W.f1 rfl ?_
      refine W.dr rfl ?_
      refine W.quiet rfl (wo rfl) rfl rfl (f_callR rfl rfl (args_val rfl) (en12 _) (fun w2 hc2 => num_ok w2 _)) (nf rfl) ?_
      refine W.pure rfl (wo rfl) rfl rfl (p_move rfl rfl) (nf rfl) ?_
      refine W.c11 rfl (wo rfl) rfl rfl rfl (tSync x4 (knB_eq) (by simp [knA])) (en14 _) rfl rfl rfl (args_val rfl) ?_
      intro x5
      refine W.quiet rfl (wo rfl) rfl rfl (f_callR rfl rfl (args_val rfl) (en12 _) (fun w2 hc2 => num_ok w2 _)) (nf rfl) ?_
      refine W.pure rfl (wo rfl) rfl rfl (p_add rfl rfl rfl) (nf rfl) ?_
      refine W.pure rfl (wo rfl) rfl rfl (p_move rfl rfl) (nf rfl) ?_
      refine W.c01 rfl (wo rfl) rfl rfl (tFill _) (en16 _) rfl rfl rfl (args_val rfl) ?_
      intro y6
      refine W.f1 rfl ?_
      refine W.c22 rfl (wo rfl) rfl rfl rfl (tWrite x5 y6 _ (knC_eq) (by simp [knB, newK])) (en15 _) rfl rfl rfl (args_val rfl) ?_
      intro x7
      refine W.f1 rfl ?_
      refine W.dr rfl ?_
      refine W.quiet rfl (wo rfl) rfl rfl (f_callR rfl rfl (args_val rfl) (en12 _) (fun w2 hc2 => num_ok w2 _)) (nf rfl) ?_
      refine W.pure rfl (wo rfl) rfl rfl (p_add rfl rfl rfl) (nf rfl) ?_
      refine W.pure rfl (wo rfl) rfl rfl (p_move rfl rfl) (nf rfl) ?_
      refine W.pure rfl (wo rfl) rfl rfl (p_move rfl rfl) (nf rfl) ?_
      refine W.pure rfl (wo rfl) rfl rfl (p_mul rfl rfl rfl) (nf rfl) ?_
      refine W.newO (zs := [IntKind.i64.wrap (8 * (k : Int))]) rfl (wo rfl) rfl rfl (f_buildSl (n := 1) (zs := [IntKind.i64.wrap (8 * (k : Int))]) (vs := [(0, .int .i64 (IntKind.i64.wrap (8 * (k : Int))))]) elem22 rfl rfl (by kernel_rfl) rfl (args_val2 rfl)) rfl (by decide) (nf rfl) ?_
      intro y8
      refine W.f1 rfl ?_
      refine W.c22 rfl (wo rfl) rfl rfl rfl (tCrashO x7 y8 (by simp [knC])) (en18 _) rfl rfl rfl (args_val rfl) ?_
      intro x9
      refine W.quiet rfl (wo rfl) rfl rfl (f_callR rfl rfl (args_val rfl) (en12 _) (fun w2 hc2 => num_ok w2 _)) (nf rfl) ?_
      refine W.pure rfl (wo rfl) rfl rfl (p_add rfl rfl rfl) (nf rfl) ?_
      refine W.pure rfl (wo rfl) rfl rfl (pF (by decide) (p_neq rfl rfl rfl)) (nf rfl) ?_
      refine W.pure rfl (wo rfl) rfl rfl (p_pick_false rfl rfl rfl) (nf rfl) ?_
      refine W.doneQ (y := sub [1, 0, 1, 0, 0, 1, 0, 0, 1, 0, 1] B10) rfl ?_
      refine C.cond_false (x := sub [1, 0, 1, 0, 0, 1, 0, 0, 1, 0, 1, 0] B10) (y := sub [1, 0, 1, 0, 0, 1, 0, 0, 1, 0, 1, 1] B10) rfl rfl ?_
      refine C.skipQ (y := sub [1, 0, 1, 0, 0, 1, 0, 0, 1, 1] B10) rfl ?_
      refine C.seq (x := sub [1, 0, 1, 0, 0, 1, 0, 0, 1, 1, 0] B10) (y := sub [1, 0, 1, 0, 0, 1, 0, 0, 1, 1, 1] B10) ?_
      refine C.region (id := 7) (m := 7) (ops := opsOf (sub [1, 0, 1, 0, 0, 1, 0, 0, 1, 1, 0] B10)) rfl ?_
      refine W.pure rfl (wo rfl) rfl rfl (p_move rfl rfl) (nf rfl) ?_
      refine W.c12 rfl (wo rfl) rfl rfl rfl (tRead x9 _ (rfl) (by simp [crashK])) (en20 _) rfl rfl rfl (args_val rfl) ?_
      intro y10
      refine W.pure rfl (wo rfl) rfl rfl (p_move rfl rfl) (nf rfl) ?_
      refine W.pure rfl (wo rfl) rfl rfl (p_extract rfl rfl rfl) (nf rfl) ?_
      refine W.pure rfl (wo rfl) rfl rfl (p_extract rfl rfl rfl) (nf rfl) ?_
      refine W.pure rfl (wo rfl) rfl rfl (p_assign rfl rfl) (nf rfl) ?_
      refine W.pure rfl (wo rfl) rfl rfl (p_assign rfl rfl) (nf rfl) ?_
      refine W.doneQ (y := sub [1, 0, 1, 0, 0, 1, 0, 0, 1, 1, 1] B10) rfl ?_
      refine C.seq (x := sub [1, 0, 1, 0, 0, 1, 0, 0, 1, 1, 1, 0] B10) (y := sub [1, 0, 1, 0, 0, 1, 0, 0, 1, 1, 1, 1] B10) ?_
      refine C.region (id := 8) (m := 2) (ops := opsOf (sub [1, 0, 1, 0, 0, 1, 0, 0, 1, 1, 1, 0] B10)) rfl ?_
      refine W.c01 rfl (wo rfl) rfl rfl (tFill _) (en16 _) rfl rfl rfl (args_val rfl) ?_
      intro y11
      refine W.pure rfl (wo rfl) rfl rfl (p_assign rfl rfl) (nf rfl) ?_
      refine W.doneQ (y := sub [1, 0, 1, 0, 0, 1, 0, 0, 1, 1, 1, 1] B10) rfl ?_
      refine C.seq (x := sub [1, 0, 1, 0, 0, 1, 0, 0, 1, 1, 1, 1, 0] B10) (y := sub [1, 0, 1, 0, 0, 1, 0, 0, 1, 1, 1, 1, 1] B10) ?_
      refine C.seq (x := sub [1, 0, 1, 0, 0, 1, 0, 0, 1, 1, 1, 1, 0, 0] B10) (y := sub [1, 0, 1, 0, 0, 1, 0, 0, 1, 1, 1, 1, 0, 1] B10) ?_
      refine C.region (id := 9) (m := 1) (ops := opsOf (sub [1, 0, 1, 0, 0, 1, 0, 0, 1, 1, 1, 1, 0, 0] B10)) rfl ?_
      refine W.pure rfl (wo rfl) rfl rfl (p_assign rfl rfl) (nf rfl) ?_
      refine W.doneQ (y := sub [1, 0, 1, 0, 0, 1, 0, 0, 1, 1, 1, 1, 0, 1] B10) rfl ?_
      refine C.f2 rfl ?_
      refine C.dr rfl ?_
      refine C.f2 rfl ?_
      refine C.dr rfl ?_
      refine C.f1 rfl ?_
      refine C.f1 rfl ?_
      refine C.loopB (id := 2) (c := sub [1, 0, 1, 0, 0, 1, 0, 0, 1, 1, 1, 1, 0, 1, 0, 0] B10) (y := sub [1, 0, 1, 0, 0, 1, 0, 0, 1, 1, 1, 1, 1] B10) (α := (j : Nat) × Ox .u8 (wantL j)) (fun x => 2 * k - x.1) (fun x => [(0, .bool false), (1, .int .i64 (k : Int)), (4, y10.1.1), (5, .int .i64 0), (6, x.2.1.1), (7, .int .i64 (x.1 : Int))]) (fun x => oX x.2 ++ (oX y10 ++ [])) (fun x => x.1 ≤ 2 * k) ⟨0, castO wantL_0 y11⟩ (Nat.zero_le _) (Sub.cons rfl (Sub.cons rfl (Sub.cons rfl (Sub.cons rfl (Sub.cons rfl (Sub.cons rfl (Sub.nil _))))))) rfl rfl (fun x => x.1 = 2 * k) ?_ ?_
      · rintro ⟨j, y⟩ (hj : j ≤ 2 * k) Q2 hN2 hE2 hR2
        show CW _ _ _ _ _ [(0, .bool false), (1, .int .i64 (k : Int)), (4, y10.1.1), (5, .int .i64 0), (6, y.1.1), (7, .int .i64 (j : Int))] (oX y ++ (oX y10 ++ []))
        by_cases hj2 : j < 2 * k
        · refine C.seq (x := sub [1, 0, 1, 0, 0, 1, 0, 0, 1, 1, 1, 1, 0, 1, 0, 0, 0] B10) (y := sub [1, 0, 1, 0, 0, 1, 0, 0, 1, 1, 1, 1, 0, 1, 0, 0, 1] B10) ?_
          refine C.seq (x := sub [1, 0, 1, 0, 0, 1, 0, 0, 1, 1, 1, 1, 0, 1, 0, 0, 0, 0] B10) (y := sub [1, 0, 1, 0, 0, 1, 0, 0, 1, 1, 1, 1, 0, 1, 0, 0, 0, 1] B10) ?_
          refine C.region (id := 10) (m := 4) (ops := opsOf (sub [1, 0, 1, 0, 0, 1, 0, 0, 1, 1, 1, 1, 0, 1, 0, 0, 0, 0] B10)) rfl ?_
          refine W.pure rfl (wo rfl) rfl rfl (p_move rfl rfl) (nf rfl) ?_
          refine W.pure rfl (wo rfl) rfl rfl (p_move rfl rfl) (nf rfl) ?_
          refine W.pure rfl (wo rfl) rfl rfl (p_mul rfl rfl rfl) (nf rfl) ?_
          refine W.pure rfl (wo rfl) rfl rfl (pT (decide_eq_true (by rw [w64 (by omega) (by omega)]; omega)) (p_lss rfl rfl rfl)) (nf rfl) ?_
          refine W.doneQ (y := sub [1, 0, 1, 0, 0, 1, 0, 0, 1, 1, 1, 1, 0, 1, 0, 0, 0, 1] B10) rfl ?_
          refine C.cond_true (x := sub [1, 0, 1, 0, 0, 1, 0, 0, 1, 1, 1, 1, 0, 1, 0, 0, 0, 1, 0] B10) (y := sub [1, 0, 1, 0, 0, 1, 0, 0, 1, 1, 1, 1, 0, 1, 0, 0, 0, 1, 1] B10) rfl rfl ?_
          refine C.skipQ (y := sub [1, 0, 1, 0, 0, 1, 0, 0, 1, 1, 1, 1, 0, 1, 0, 0, 1] B10) rfl ?_
          refine C.seq (x := sub [1, 0, 1, 0, 0, 1, 0, 0, 1, 1, 1, 1, 0, 1, 0, 0, 1, 0] B10) (y := sub [1, 0, 1, 0, 0, 1, 0, 0, 1, 1, 1, 1, 0, 1, 0, 0, 1, 1] B10) ?_
          refine C.block (id := 3) (c := sub [1, 0, 1, 0, 0, 1, 0, 0, 1, 1, 1, 1, 0, 1, 0, 0, 1, 0, 0] B10) ?_
          refine C.region (id := 12) (m := 4) (ops := opsOf (sub [1, 0, 1, 0, 0, 1, 0, 0, 1, 1, 1, 1, 0, 1, 0, 0, 1, 0, 0] B10)) rfl ?_
          refine W.pure rfl (wo rfl) rfl rfl (p_move rfl rfl) (nf rfl) ?_
          refine W.pure rfl (wo rfl) rfl rfl (p_move rfl rfl) (nf rfl) ?_
          refine W.pure rfl (wo rfl) rfl rfl (p_ixO2 y (j := j) (by rw [wantL_len (by omega)]; omega) tu32 ts5 rfl rfl rfl) (nf rfl) ?_
          refine W.put rfl (wo rfl) rfl (f_stO y (j := j) (q := 9) (by rw [wantL_len (by omega)]; omega) ts5 rfl rfl rfl rfl) (nf rfl) ?_
          refine W.doneQ (y := sub [1, 0, 1, 0, 0, 1, 0, 0, 1, 1, 1, 1, 0, 1, 0, 0, 1, 1] B10) rfl ?_
          refine C.region (id := 11) (m := 3) (ops := opsOf (sub [1, 0, 1, 0, 0, 1, 0, 0, 1, 1, 1, 1, 0, 1, 0, 0, 1, 1] B10)) rfl ?_
          refine W.pure rfl (wo rfl) rfl rfl (p_move rfl rfl) (nf rfl) ?_
          refine W.pure rfl (wo rfl) rfl rfl (pI (wk (by omega)) (p_add rfl rfl rfl)) (nf rfl) ?_
          refine W.pure rfl (wo rfl) rfl rfl (p_assign rfl rfl) (nf rfl) ?_
          refine W.end' fun a1 w1 ha1 hc1 => hN2 ⟨j + 1, castO (wantL_set (by omega)) (y.put j (by rw [wantL_len (by omega)]; omega) 9)⟩ (show j + 1 ≤ 2 * k by omega) (show 2 * k - (j + 1) < 2 * k - j by omega) a1 w1 (ha1.sub (Sub.cons rfl (Sub.cons rfl (Sub.cons rfl (Sub.cons rfl (Sub.cons rfl (Sub.cons rfl (Sub.nil _)))))))) hc1
        · refine C.seq (x := sub [1, 0, 1, 0, 0, 1, 0, 0, 1, 1, 1, 1, 0, 1, 0, 0, 0] B10) (y := sub [1, 0, 1, 0, 0, 1, 0, 0, 1, 1, 1, 1, 0, 1, 0, 0, 1] B10) ?_
          refine C.seq (x := sub [1, 0, 1, 0, 0, 1, 0, 0, 1, 1, 1, 1, 0, 1, 0, 0, 0, 0] B10) (y := sub [1, 0, 1, 0, 0, 1, 0, 0, 1, 1, 1, 1, 0, 1, 0, 0, 0, 1] B10) ?_
          refine C.region (id := 10) (m := 4) (ops := opsOf (sub [1, 0, 1, 0, 0, 1, 0, 0, 1, 1, 1, 1, 0, 1, 0, 0, 0, 0] B10)) rfl ?_
          refine W.pure rfl (wo rfl) rfl rfl (p_move rfl rfl) (nf rfl) ?_
          refine W.pure rfl (wo rfl) rfl rfl (p_move rfl rfl) (nf rfl) ?_
          refine W.pure rfl (wo rfl) rfl rfl (p_mul rfl rfl rfl) (nf rfl) ?_
          refine W.pure rfl (wo rfl) rfl rfl (pF (decide_eq_false (by rw [w64 (by omega) (by omega)]; omega)) (p_lss rfl rfl rfl)) (nf rfl) ?_
          refine W.doneQ (y := sub [1, 0, 1, 0, 0, 1, 0, 0, 1, 1, 1, 1, 0, 1, 0, 0, 0, 1] B10) rfl ?_
          refine C.cond_false (x := sub [1, 0, 1, 0, 0, 1, 0, 0, 1, 1, 1, 1, 0, 1, 0, 0, 0, 1, 0] B10) (y := sub [1, 0, 1, 0, 0, 1, 0, 0, 1, 1, 1, 1, 0, 1, 0, 0, 0, 1, 1] B10) rfl rfl ?_
          exact C.exit fun a1 w1 ha1 hc1 => hE2 (show j = 2 * k by omega) a1 w1 (ha1.sub (Sub.cons rfl (Sub.cons rfl (Sub.cons rfl (Sub.cons rfl (Sub.cons rfl (Sub.cons rfl (Sub.nil _)))))))) hc1
      rintro ⟨j, y⟩ (hj : j ≤ 2 * k) (hje : j = 2 * k)
      subst hje
      show CW _ _ _ _ _ [(0, .bool false), (1, .int .i64 (k : Int)), (4, y10.1.1), (5, .int .i64 0), (6, y.1.1), (7, .int .i64 ((2 * k : Nat) : Int))] (oX y ++ (oX y10 ++ []))
      refine C.seq (x := sub [1, 0, 1, 0, 0, 1, 0, 0, 1, 1, 1, 1, 1, 0] B10) (y := sub [1, 0, 1, 0, 0, 1, 0, 0, 1, 1, 1, 1, 1, 1] B10) ?_
      refine C.region (id := 13) (m := 10) (ops := opsOf (sub [1, 0, 1, 0, 0, 1, 0, 0, 1, 1, 1, 1, 1, 0] B10)) rfl ?_
      refine W.pure rfl (wo rfl) rfl rfl (p_move rfl rfl) (nf rfl) ?_
      refine W.quiet rfl (wo rfl) rfl rfl (f_callR rfl rfl (args_val rfl) (en12 _) (fun w2 hc2 => num_ok w2 _)) (nf rfl) ?_
      refine W.pure rfl (wo rfl) rfl rfl (pF (by decide) (p_neq rfl rfl rfl)) (nf rfl) ?_
      refine W.pure rfl (wo rfl) rfl rfl (p_move rfl rfl) (nf rfl) ?_
      refine W.pure rfl (wo rfl) rfl rfl (p_move rfl rfl) (nf rfl) ?_
      refine W.f1 rfl ?_
      refine W.quiet rfl (wo rfl) rfl rfl (q_ownStr y10 rfl rfl rfl) (nf rfl) ?_
      refine W.pure rfl (wo rfl) rfl rfl (p_move rfl rfl) (nf rfl) ?_
      refine W.f1 rfl ?_
      refine W.quiet rfl (wo rfl) rfl rfl (q_ownStr y rfl rfl rfl) (nf rfl) ?_
      refine W.pure rfl (wo rfl) rfl rfl (pF (by rw [kn_rd hlt]; simp) (p_strNe rfl rfl rfl)) (nf rfl) ?_
      refine W.pure rfl (wo rfl) rfl rfl (p_pick_false rfl rfl rfl) (nf rfl) ?_
      refine W.doneQ (y := sub [1, 0, 1, 0, 0, 1, 0, 0, 1, 1, 1, 1, 1, 1] B10) rfl ?_
      refine C.cond_false (x := sub [1, 0, 1, 0, 0, 1, 0, 0, 1, 1, 1, 1, 1, 1, 0] B10) (y := sub [1, 0, 1, 0, 0, 1, 0, 0, 1, 1, 1, 1, 1, 1, 1] B10) rfl rfl ?_
      refine C.skipQ (y := sub [1, 0, 1, 0, 0, 1, 1] B10) rfl ?_
      refine C.region (id := 3) (m := 3) (ops := opsOf (sub [1, 0, 1, 0, 0, 1, 1] B10)) rfl ?_
      refine W.pure rfl (wo rfl) rfl rfl (p_move rfl rfl) (nf rfl) ?_
      refine W.pure rfl (wo rfl) rfl rfl (pI (wk (by omega)) (p_add rfl rfl rfl)) (nf rfl) ?_
      refine W.pure rfl (wo rfl) rfl rfl (p_assign rfl rfl) (nf rfl) ?_
      refine W.end' fun a1 w1 ha1 hc1 => hN (k + 1) (by omega) (by omega) a1 w1 (ha1.sub (Sub.cons rfl (Sub.cons rfl (Sub.nil _)))) (hc1.fewer (List.nil_sublist _))
    · refine C.seq (x := sub [1, 0, 1, 0, 0, 0] B10) (y := sub [1, 0, 1, 0, 0, 1] B10) ?_
      refine C.seq (x := sub [1, 0, 1, 0, 0, 0, 0] B10) (y := sub [1, 0, 1, 0, 0, 0, 1] B10) ?_
      refine C.region (id := 2) (m := 2) (ops := opsOf (sub [1, 0, 1, 0, 0, 0, 0] B10)) rfl ?_
      refine W.pure rfl (wo rfl) rfl rfl (p_move rfl rfl) (nf rfl) ?_
      refine W.pure rfl (wo rfl) rfl rfl (pF (decide_eq_false (by omega)) (p_lss rfl rfl rfl)) (nf rfl) ?_
      refine W.doneQ (y := sub [1, 0, 1, 0, 0, 0, 1] B10) rfl ?_
      refine C.cond_false (x := sub [1, 0, 1, 0, 0, 0, 1, 0] B10) (y := sub [1, 0, 1, 0, 0, 0, 1, 1] B10) rfl rfl ?_
      exact C.exit fun a1 w1 ha1 hc1 => hE (by omega) a1 w1 (ha1.sub (Sub.cons rfl (Sub.cons rfl (Sub.nil _)))) hc1
  intro k hk hke
  subst hke
  refine C.seq (x := sub [1, 1, 0] B10) (y := sub [1, 1, 1] B10) ?_
  refine C.region (id := 15) (m := 1) (ops := opsOf (sub [1, 1, 0] B10)) rfl ?_
  refine W.pure rfl (wo rfl) rfl rfl (p_assign rfl rfl) (nf rfl) ?_
  refine W.doneQ (y := sub [1, 1, 1] B10) rfl ?_
  exact C.ret (rs := [.tmp 0]) (vs := [.bool true]) rfl Try.func10 rfl rfl rfl (res_cons (ResV.tmp rfl) res_nil) fun w1 hc1 => ⟨rfl, hc1.toBelow⟩

end Go.Proofs.Ytjomnicfcdkfdaa
end

section
namespace Go.Proofs.Ytjomnicfcdkfdaa
open Go Go.HW Go.RowKit
set_option linter.unusedVariables false
set_option linter.unusedSimpArgs false

/-! ### disks that are not there -/
def zc : Array Value := #[.int .i64 0, .map none, .slice none 0 0, .int .i64 0, .bool false, .bool false]
section
variable {N : Nat} {S : Slots} {w0 : World} {I : Mem} {H : Heap} {Q : Exit → Act → World → Prop} {ops : Array Oper} {l : List Nat} {i d : Nat} {o : Oper} {v : Value}
theorem cls_addNil {o : Obj} {w : World} (h : Cls w0 I H w) : Cls w0 I ((none, o) :: H) w := ⟨h.os, h.tape, h.output, h.size, h.imm, fun b o e => (by
    rcases List.mem_cons.1 e with e | e
    · cases e
    · exact h.own b o e), fun b o e => (by
    rcases List.mem_cons.1 e with e | e
    · cases e
    · exact h.disj b o e), h.nodup⟩
end

end Go.Proofs.Ytjomnicfcdkfdaa
end
