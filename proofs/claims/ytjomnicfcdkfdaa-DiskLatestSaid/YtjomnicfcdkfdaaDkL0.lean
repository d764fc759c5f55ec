import Derived.Test.YtjomnicfcdkfdaaDkM12
namespace Go.Proofs.Ytjomnicfcdkfdaa
open Go Go.HW Go.RowKit
set_option linter.unusedVariables false
set_option linter.unusedSimpArgs false

noncomputable def B12 : Code := bodyOf Try.f12
theorem en12 (args : Array Value) (w : World) : (callFunc 12 args).run Try.prog w = .ok (.enter 12 args) w := by kernel_rfl
theorem frameI {X : Type} {u : X → Value} {E A : Heap} {E' : X → Heap} {f : FuncId} {args : Array Value} {w0 w : World} {I : Mem} (h : ∀ (I' : Mem), Ext I I' → (∀ b o, (some b, o) ∈ A → I' b = some o) → ∀ (w0 w : World), Cls w0 I' E w → Calls Try.prog f args w fun e w' => ∃ x, e = .returned (u x) ∧ Cls w0 I' (E' x) w') (hc : Cls w0 I (E ++ A) w) :
    Calls Try.prog f args w fun e w' => ∃ x, e = .returned (u x) ∧ Cls w0 I (E' x ++ A) w' := by
  have hnA : (A.filterMap Prod.fst).Nodup := hc.nodup.sublist ((List.sublist_append_right E A).filterMap _)
  have hA : ∀ b o, (some b, o) ∈ A → addJ I A b = some o := fun b o hm => by
    unfold addJ
    rw [hc.disj b o (List.mem_append_right _ hm)]
    exact inJ_of_mem hnA hm
  refine (h (addJ I A) (Ext.addJ _ _) hA w0 w hc.settle).mono fun e w' ⟨x, he, hc'⟩ => ⟨x, he, ?_⟩
  refine ⟨hc'.os, hc'.tape, hc'.output, hc'.size, fun b o e => hc'.imm b o (Ext.addJ _ _ b o e), fun b o hm => ?_, fun b o hm => ?_, ?_⟩
  · rcases List.mem_append.1 hm with hm | hm
    · exact hc'.own b o hm
    · exact hc'.imm b o (hA b o hm)
  · rcases List.mem_append.1 hm with hm | hm
    · have := hc'.disj b o hm
      cases hI : I b with
      | none => rfl
      | some z => rw [Ext.addJ I A b z hI] at this; cases this
    · exact hc.disj b o (List.mem_append_right _ hm)
  · rw [List.filterMap_append, List.nodup_append]
    refine ⟨hc'.nodup, hnA, fun a ha b hb e => ?_⟩
    subst e
    obtain ⟨z, hz⟩ := mem_ids.1 ha
    obtain ⟨y, hy⟩ := mem_ids.1 hb
    have h1 := hc'.disj a z hz
    rw [hA a y hy] at h1; cases h1
section
variable {N : Nat} {S : Slots} {w0 : World} {I : Mem} {H : Heap} {Q : Exit → Act → World → Prop} {ops : Array Oper} {l : List Nat} {i d : Nat} {o : Oper} {v : Value}
theorem W.less (is : List Nat) (h : is.Nodup) (hy : WW N w0 I ops l Q S (pick is H)) : WW N w0 I ops l Q S H := fun a w ha hc => hy a w ha (hc.pick is h)
theorem C.less {c : Code} (is : List Nat) (h : is.Nodup) (hy : CW N w0 I c Q S (pick is H)) : CW N w0 I c Q S H := fun a w ha hc => hy a w ha (hc.pick is h)
/-- a call that turns a part of what is owned -/
theorem W.callF {X : Type} {u : X → Value} {E A : Heap} {E' : X → Heap} {cl : Call} {fo : Operand} {g : FuncId} {args : Array Value} (hi : ops[i]? = some o) (hw : Wn ops S o true) (hd : o.dst = some d) (hN : Nat.blt d N = true)
    (ho : o.op = .call cl) (hcal : cl.callee = .value fo) (hf : ev S fo = some (.func (.func g) #[] #[])) (hargs : ∀ ρ, Val S ρ → cl.args.map ρ = args) (hbody : ∀ w, (callFunc g args).run Try.prog w = .ok (.enter g args) w) (hH : H = E ++ A)
    (hc : ∀ (I' : Mem), Ext I I' → (∀ b o, (some b, o) ∈ A → I' b = some o) → ∀ (w0 w : World), Cls w0 I' E w → Calls Try.prog g args w fun e w' => ∃ x, e = .returned (u x) ∧ Cls w0 I' (E' x) w') (h : ∀ x, WW N w0 I ops l Q ((d, u x) :: S) (E' x ++ A)) : WW N w0 I ops (i :: l) Q S H :=
  W.callX hi hw hd hN ho hcal hf hargs hbody (fun w hcl => frameI hc (by rw [← hH]; exact hcl)) h
end
theorem num_ok (w : World) (e : Int) : Calls Try.prog 12 #[.int .i64 e] w fun en w' => en = .returned (.int .i64 e) ∧ Below w.heap.size w w' := by
  refine calls_of_CW (N := 4) Try.func12 (show _ = some B12 by kernel_rfl) (by kernel_rfl) rfl (S := [(0, .int .i64 e)]) (by simp) (clsStart w) ?_
  show CW _ _ _ (sub [] B12) _ _ _
  refine C.seq (x := sub [0] B12) (y := sub [1] B12) ?_
  refine C.region (id := 0) (m := 1) (ops := opsOf (sub [0] B12)) rfl ?_
  refine W.pure rfl (wo rfl) rfl rfl (p_assign rfl rfl) (nf rfl) ?_
  refine W.doneQ (y := sub [1] B12) rfl ?_
  refine C.seq (x := sub [1, 0] B12) (y := sub [1, 1] B12) ?_
  refine C.region (id := 1) (m := 2) (ops := opsOf (sub [1, 0] B12)) rfl ?_
  refine W.pure rfl (wo rfl) rfl rfl (p_move rfl rfl) (nf rfl) ?_
  refine W.pure rfl (wo rfl) rfl rfl (p_assign rfl rfl) (nf rfl) ?_
  refine W.doneQ (y := sub [1, 1] B12) rfl ?_
  exact C.ret (rs := [.tmp 2]) (vs := [.int .i64 e]) rfl Try.func12 rfl rfl rfl (res_cons (ResV.tmp rfl) res_nil) fun w1 hc1 => ⟨rfl, hc1.toBelow⟩

theorem elem32 : Elem Try.prog 32 5 1 1 (.int .u8 0) := Elem.of (by kernel_rfl) (by kernel_rfl) rfl (by decide)
def upd (g : Nat → Int) (n k : Nat) : List Int := (List.range k).map g ++ List.replicate (n - k) 0
theorem upd_len (g : Nat → Int) {n k : Nat} (h : k ≤ n) : (upd g n k).length = n := by simp [upd]; omega
theorem upd_set (g : Nat → Int) {n k : Nat} (h : k < n) : (upd g n k).set k (g k) = upd g n (k + 1) := by
  unfold upd
  rw [List.set_append, if_neg (by simp), List.range_succ, List.map_append]
  have e : n - k = (n - (k + 1)) + 1 := by omega
  rw [e, List.replicate_succ]
  simp
theorem upd_all (g : Nat → Int) (n : Nat) : upd g n n = (List.range n).map g := by simp [upd]
/-- a slice that is new -/
theorem own_new {xs : List Int} {b n : Nat} (h : xs.length = n) (hn : n ≤ maxLen) : IntOwn .u8 (.slice (some ⟨b, 0, none⟩) n n) (enc .u8 xs) xs := by
  unfold IntOwn
  rw [h]
  exact OwnV.fresh (Nat.le_refl _) hn (by rw [enc_size, h, Nat.mul_one]) (by rw [List.take_of_length_le]; rfl; simp [enc, h]) (by simp [encl, h])
def fillL (x : Int) : List Int := (List.range 512).map fun _ => x
theorem fillL_len (x : Int) : (fillL x).length = 512 := by simp [fillL]
noncomputable def B16 : Code := bodyOf Try.f16
theorem en16 (args : Array Value) (w : World) : (callFunc 16 args).run Try.prog w = .ok (.enter 16 args) w := by kernel_rfl
theorem fill_ok {w0 w : World} {I : Mem} {H : Heap} (hc : Cls w0 I H w) (x : Int) : Calls Try.prog 16 #[.int .u8 x] w (fun e w' => ∃ v cur, e = .returned v ∧ IntOwn .u8 v cur (fillL x) ∧ Cls w0 I ((v.ownBlock, .cells cur 5 (0, 0)) :: H) w') := by
  refine calls_of_CW (N := 17) Try.func16 (show _ = some B16 by kernel_rfl) (by kernel_rfl) rfl (S := [(0, .int .u8 x)]) (by simp) hc ?_
  show CW _ _ _ (sub [] B16) _ _ _
  refine C.seq (x := sub [0] B16) (y := sub [1] B16) ?_
  refine C.region (id := 0) (m := 1) (ops := opsOf (sub [0] B16)) rfl ?_
  refine W.pure rfl (wo rfl) rfl rfl (p_assign rfl rfl) (nf rfl) ?_
  refine W.doneQ (y := sub [1] B16) rfl ?_
  refine C.seq (x := sub [1, 0] B16) (y := sub [1, 1] B16) ?_
  refine C.region (id := 1) (m := 2) (ops := opsOf (sub [1, 0] B16)) rfl ?_
  refine W.new rfl (wo rfl) rfl rfl (f_make (n := 512) elem32 (by decide) (by decide) rfl rfl rfl) (nf rfl) ?_
  intro bf hbf
  refine W.pure rfl (wo rfl) rfl rfl (p_assign rfl rfl) (nf rfl) ?_
  refine W.doneQ (y := sub [1, 1] B16) rfl ?_
  refine C.seq (x := sub [1, 1, 0] B16) (y := sub [1, 1, 1] B16) ?_
  refine C.seq (x := sub [1, 1, 0, 0] B16) (y := sub [1, 1, 0, 1] B16) ?_
  refine C.region (id := 2) (m := 1) (ops := opsOf (sub [1, 1, 0, 0] B16)) rfl ?_
  refine W.pure rfl (wo rfl) rfl rfl (p_assign rfl rfl) (nf rfl) ?_
  refine W.doneQ (y := sub [1, 1, 0, 1] B16) rfl ?_
  refine C.loopB (id := 0) (c := sub [1, 1, 0, 1, 0, 0] B16) (y := sub [1, 1, 1] B16) (fun k : Nat => 512 - k) (fun k => [(0, .int .u8 x), (3, .slice (some ⟨bf, 0, none⟩) 512 512), (4, .int .i64 (k : Int))]) (fun k => (some bf, .cells (enc .u8 (upd (fun _ => x) 512 k)) 5 (0, 0)) :: H) (fun k => k ≤ 512) 0 (Nat.zero_le _) (Sub.cons rfl (Sub.cons rfl (Sub.cons rfl (Sub.nil _)))) rfl rfl (fun k => k = 512) ?_ ?_
  · intro k hk Q' hN hE hR
    by_cases hlt : k < 512
    · refine C.seq (x := sub [1, 1, 0, 1, 0, 0, 0] B16) (y := sub [1, 1, 0, 1, 0, 0, 1] B16) ?_
      refine C.seq (x := sub [1, 1, 0, 1, 0, 0, 0, 0] B16) (y := sub [1, 1, 0, 1, 0, 0, 0, 1] B16) ?_
      refine C.region (id := 3) (m := 4) (ops := opsOf (sub [1, 1, 0, 1, 0, 0, 0, 0] B16)) rfl ?_
      refine W.pure rfl (wo rfl) rfl rfl (p_move rfl rfl) (nf rfl) ?_
      refine W.pure rfl (wo rfl) rfl rfl (p_move rfl rfl) (nf rfl) ?_
      refine W.pure rfl (wo rfl) rfl rfl (p_slLen tu32 ⟨_, _, rfl⟩ rfl rfl) (nf rfl) ?_
      refine W.pure rfl (wo rfl) rfl rfl (pT (decide_eq_true (by omega)) (p_lss rfl rfl rfl)) (nf rfl) ?_
      refine W.doneQ (y := sub [1, 1, 0, 1, 0, 0, 0, 1] B16) rfl ?_
      refine C.cond_true (x := sub [1, 1, 0, 1, 0, 0, 0, 1, 0] B16) (y := sub [1, 1, 0, 1, 0, 0, 0, 1, 1] B16) rfl rfl ?_
      refine C.skipQ (y := sub [1, 1, 0, 1, 0, 0, 1] B16) rfl ?_
      refine C.seq (x := sub [1, 1, 0, 1, 0, 0, 1, 0] B16) (y := sub [1, 1, 0, 1, 0, 0, 1, 1] B16) ?_
      refine C.block (id := 1) (c := sub [1, 1, 0, 1, 0, 0, 1, 0, 0] B16) ?_
      refine C.region (id := 5) (m := 5) (ops := opsOf (sub [1, 1, 0, 1, 0, 0, 1, 0, 0] B16)) rfl ?_
      refine W.pure rfl (wo rfl) rfl rfl (p_move rfl rfl) (nf rfl) ?_
      refine W.pure rfl (wo rfl) rfl rfl (p_move rfl rfl) (nf rfl) ?_
      refine W.pure rfl (wo rfl) rfl rfl (p_move rfl rfl) (nf rfl) ?_
      refine W.pure rfl (wo rfl) rfl rfl (p_slP tu32 ts5 hlt rfl rfl rfl) (nf rfl) ?_
      refine W.put (H' := (some bf, .cells (enc .u8 ((upd (fun _ => x) 512 k).set k x)) 5 (0, 0)) :: H) rfl (wo rfl) rfl (f_storeE (j := 0) (off := k) ts5 rfl (by rw [upd_len _ hk]; exact hlt) rfl (by show some (ptr bf (k * 1)) = _; rw [Nat.mul_one]) rfl) (nf rfl) ?_
      refine W.doneQ (y := sub [1, 1, 0, 1, 0, 0, 1, 1] B16) rfl ?_
      refine C.region (id := 4) (m := 3) (ops := opsOf (sub [1, 1, 0, 1, 0, 0, 1, 1] B16)) rfl ?_
      refine W.pure rfl (wo rfl) rfl rfl (p_move rfl rfl) (nf rfl) ?_
      refine W.pure rfl (wo rfl) rfl rfl (pI (wk (by omega)) (p_add rfl rfl rfl)) (nf rfl) ?_
      refine W.pure rfl (wo rfl) rfl rfl (p_assign rfl rfl) (nf rfl) ?_
      refine W.end' fun a1 w1 ha1 hc1 => hN (k + 1) (by omega) (by omega) a1 w1 (ha1.sub (Sub.cons rfl (Sub.cons rfl (Sub.cons rfl (Sub.nil _))))) ?_
      have e : (upd (fun _ => x) 512 k).set k x = upd (fun _ => x) 512 (k + 1) := upd_set (fun _ => x) hlt
      rw [e] at hc1; exact hc1
    · refine C.seq (x := sub [1, 1, 0, 1, 0, 0, 0] B16) (y := sub [1, 1, 0, 1, 0, 0, 1] B16) ?_
      refine C.seq (x := sub [1, 1, 0, 1, 0, 0, 0, 0] B16) (y := sub [1, 1, 0, 1, 0, 0, 0, 1] B16) ?_
      refine C.region (id := 3) (m := 4) (ops := opsOf (sub [1, 1, 0, 1, 0, 0, 0, 0] B16)) rfl ?_
      refine W.pure rfl (wo rfl) rfl rfl (p_move rfl rfl) (nf rfl) ?_
      refine W.pure rfl (wo rfl) rfl rfl (p_move rfl rfl) (nf rfl) ?_
      refine W.pure rfl (wo rfl) rfl rfl (p_slLen tu32 ⟨_, _, rfl⟩ rfl rfl) (nf rfl) ?_
      refine W.pure rfl (wo rfl) rfl rfl (pF (decide_eq_false (by omega)) (p_lss rfl rfl rfl)) (nf rfl) ?_
      refine W.doneQ (y := sub [1, 1, 0, 1, 0, 0, 0, 1] B16) rfl ?_
      refine C.cond_false (x := sub [1, 1, 0, 1, 0, 0, 0, 1, 0] B16) (y := sub [1, 1, 0, 1, 0, 0, 0, 1, 1] B16) rfl rfl ?_
      exact C.exit fun a1 w1 ha1 hc1 => hE (by omega) a1 w1 (ha1.sub (Sub.cons rfl (Sub.cons rfl (Sub.cons rfl (Sub.nil _))))) hc1
  intro k hk hke
  subst hke
  refine C.seq (x := sub [1, 1, 1, 0] B16) (y := sub [1, 1, 1, 1] B16) ?_
  refine C.region (id := 6) (m := 2) (ops := opsOf (sub [1, 1, 1, 0] B16)) rfl ?_
  refine W.pure rfl (wo rfl) rfl rfl (p_move rfl rfl) (nf rfl) ?_
  refine W.pure rfl (wo rfl) rfl rfl (p_assign rfl rfl) (nf rfl) ?_
  refine W.doneQ (y := sub [1, 1, 1, 1] B16) rfl ?_
  exact C.ret (R := fun e w' => ∃ v cur, e = .returned v ∧ IntOwn .u8 v cur (fillL x) ∧ Cls w0 I ((v.ownBlock, .cells cur 5 (0, 0)) :: H) w') (rs := [.tmp 2]) (vs := [.slice (some ⟨bf, 0, none⟩) 512 512]) rfl Try.func16 rfl rfl rfl (res_cons (ResV.tmp rfl) res_nil) fun w1 hc1 => ⟨_, _, rfl, own_new (fillL_len x) (by simp [maxLen]), by rw [upd_all] at hc1; exact hc1⟩

end Go.Proofs.Ytjomnicfcdkfdaa
