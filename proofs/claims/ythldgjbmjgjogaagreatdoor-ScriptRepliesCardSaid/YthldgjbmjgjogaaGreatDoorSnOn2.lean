import Derived.Test.YthldgjbmjgjogaaGreatDoorSnOn
namespace Go.Proofs.YthldgjbmjgjogaaGreatDoor
open Go Go.HW Go.RowKit
set_option linter.unusedVariables false
set_option linter.unusedSimpArgs false

theorem inBlock_normal {id : Nat} {Q : Exit → Go.Act → World → Prop} {a : Go.Act} {w : World} (h : Q .normal a w) : Exit.inBlock id Q .normal a w := h
set_option maxRecDepth 20000 in
theorem once27 {n : Int} (w : World) : Calls Tryz.prog 27 #[.int .i64 n] w fun e w' => e = .returned (.bool true) ∧ Below w.heap.size w w' := by
  have hE := Env.start (Ext.refl (heapOf w))
  refine calls_of_CIM (S := [(0, .int .i64 n)]) (N := 37) (c := B27) (w0 := w) (I := heapOf w) (H := []) Tryz.func27 rfl rfl rfl (by simp) ⟨rfl, rfl, rfl, Nat.le_refl _, fun b o e => e, fun b o e => (by cases e), fun b o e => (by cases e), List.nodup_nil⟩ ?_
  show CI _ _ _ _ _ _ (sub [] B27) _ _ _
  refine CI.seq (x := sub [0] B27) (y := sub [1] B27) ?_
  refine CI.rg (id := 0) [0, 1] [(.alloc, none), (.alloc, none)] rfl rfl (by kernel_rfl) ?_
  refine DL.new (ob := .cells (#[.int .i64 n]) 3) (mk := fun b => ptr b 0) (i := 0) rfl (Wn.none rfl) rfl rfl rfl (f_box (v := .int .i64 n) rfl rfl) ?_
  intro b1 hb1
  refine DL.new (ob := .cells (#[.bool false]) 4) (mk := fun b => ptr b 0) (i := 1) rfl (Wn.none rfl) rfl rfl rfl (f_alloc ty_z4 rfl) ?_
  intro b2 hb2
  refine DK.next0 rfl ?_
  refine CI.seq (x := sub [1, 0] B27) (y := sub [1, 1] B27) ?_
  refine CI.rg (id := 1) [0, 1] [(.alloc, none), (.store, none)] rfl rfl (by kernel_rfl) ?_
  refine DL.new (ob := .cells (#[.int .i64 0]) 3) (mk := fun b => ptr b 0) (i := 0) rfl (Wn.none rfl) rfl rfl rfl (f_alloc (z := .int .i64 0) (fun w => by kernel_rfl) rfl) ?_
  intro b3 hb3
  refine DL.put (H' := (some b3, .cells (#[.int .i64 0]) 3 (0, 0)) :: [(some b2, .cells (#[.bool false]) 4 (0, 0)), (some b1, .cells (#[.int .i64 n]) 3 (0, 0))]) (i := 1) rfl (Wn.none rfl) rfl rfl (f_store (c := #[.int .i64 0]) (v := .int .i64 0) (off := 0) (j := 0) ty_s3 rfl rfl (of_decide_eq_true rfl) trivial rfl rfl rfl) (keep_none rfl) ?_
  refine DK.next0 rfl ?_
  refine CI.seq (x := sub [1, 1, 0] B27) (y := sub [1, 1, 1] B27) ?_
  refine CI.rg (id := 2) [0, 1] [(.quiet, none), (.pure, none)] rfl rfl (by kernel_rfl) ?_
  refine DL.qu 7 (.func (.func 82) #[] #[]) rfl (f_callR rfl rfl (args_val (vs := []) rfl) (fun w => kenter35 _ w) (fun w hc => names35 w)) ?_
  refine DL.pu 4 (.func (.func 82) #[] #[]) rfl (p_assign rfl rfl) ?_
  refine DK.next0 rfl ?_
  refine CI.seq (x := sub [1, 1, 1, 0] B27) (y := sub [1, 1, 1, 1] B27) ?_
  refine CI.seq (x := sub [1, 1, 1, 0, 0] B27) (y := sub [1, 1, 1, 0, 1] B27) ?_
  refine CI.rg (id := 3) [0, 1] [(.pure, none), (.pure, none)] rfl rfl (by kernel_rfl) ?_
  refine DL.pu 8 (.func (.func 82) #[] #[]) rfl (p_move rfl rfl) ?_
  refine DL.pu 9 (.bool false) rfl (p_eqNil (v := .func (.func 82) #[] #[]) (fun w => by kernel_rfl) (fun w => by kernel_rfl) rfl rfl rfl) ?_
  refine DK.next0 rfl ?_
  refine CI.cond_false (x := sub [1, 1, 1, 0, 1, 0] B27) (y := sub [1, 1, 1, 0, 1, 1] B27) rfl rfl ?_
  refine CI.skipN rfl ?_
  refine CI.seq (x := sub [1, 1, 1, 1, 0] B27) (y := sub [1, 1, 1, 1, 1] B27) ?_
  refine CI.seq (x := sub [1, 1, 1, 1, 0, 0] B27) (y := sub [1, 1, 1, 1, 0, 1] B27) ?_
  refine CI.rg (id := 5) [0] [(.pure, none)] rfl rfl (by kernel_rfl) ?_
  refine DL.pu 10 (.func (.func 82) #[] #[]) rfl (p_move rfl rfl) ?_
  refine DK.next0 rfl ?_
  refine CI.block (c := sub [1, 1, 1, 1, 0, 1, 0] B27) ?_
  let X : Type := NEnd (onStep n) (fun t : OnS => !t.done) onGd
  refine CI.rangeFunc (X := X) (gf := 82) (lb := #[]) (g := .tmp 10) (ps := #[11, 12]) (assign := sub [1, 1, 1, 1, 0, 1, 0, 0] B27) (body := sub [1, 1, 1, 1, 0, 1, 0, 1] B27) (jump := fun q => if q.1.done then some .ret else none)
    (H' := fun q => (some b2, .cells #[.bool q.1.ret] 4 (0, 0)) :: (some b3, .cells #[.int .i64 (q.1.i : Int)] 3 (0, 0)) :: [(some b1, .cells (#[.int .i64 n]) 3 (0, 0))]) rfl (fun args w => by kernel_rfl) ?_ ?_
  · intro l D rec hst hpe hps has hbo hag W1 hW1
    let AA : Heap := (some D, .deferred (some [])) :: [(some b1, .cells (#[.int .i64 n]) 3 (0, 0))]
    have hW2 : Cls w (heapOf w) (onE rec l b2 b3 ⟨0, false, false⟩ ++ AA) W1 := by
      refine hW1.perm ?_
      show ((some l, Obj.loop rec) :: (some D, Obj.deferred (some [])) :: (some b3, Obj.cells (#[.int .i64 0]) 3 (0, 0)) :: (some b2, Obj.cells (#[.bool false]) 4 (0, 0)) :: [(some b1, Obj.cells (#[.int .i64 n]) 3 (0, 0))]).Perm ((some l, Obj.loop rec) :: (some b2, Obj.cells (#[.bool false]) 4 (0, 0)) :: (some b3, Obj.cells (#[.int .i64 0]) 3 (0, 0)) :: AA)
      refine List.Perm.cons _ ?_
      exact (List.perm_middle (l₁ := [_, _])).trans (List.Perm.cons _ (List.perm_middle (l₁ := [_])))
    refine (frameI (X := X) (u := fun _ => .tuple #[]) (E := onE rec l b2 b3 ⟨0, false, false⟩) (E' := fun q => onE rec l b2 b3 q.1) (A := AA) (fun I' hII hA hc2 => ?_) hW2).mono ?_
    · have hgo : NGoing l I' (onE rec l b2 b3) (onStep n) (fun t => !t.done) onGd := ⟨fun i s h1 h14 hg => onceRound hst hpe hps has hbo (hag.sub (Sub.cons rfl (Sub.cons rfl (Sub.cons rfl (Sub.nil _))))) (hA b1 _ (by simp [AA])) i s h1 h14 hg, fun i s t h1 h14 hg hs hu => by
        unfold onStep at hs
        split at hs
        · subst hs; cases hu
        · subst hs; exact ⟨rfl, rfl⟩⟩
      have hc3 : Cls w I' (onE rec l b2 b3 ⟨0, false, false⟩ ++ []) W1 := by rw [List.append_nil]; exact hc2
      exact (names82 (σ := OnS) (b := fun t : OnS => !t.done) (Gd := onGd) hgo (s := ⟨0, false, false⟩) ⟨rfl, rfl⟩ hc3).mono fun e w' ⟨q, he, hq⟩ => ⟨q, he, by rw [List.append_nil] at hq; exact hq⟩
    · rintro e w' ⟨⟨⟨i, done, ret⟩, hr⟩, he, hc'⟩
      refine ⟨⟨⟨i, done, ret⟩, hr⟩, ⟨_, he⟩, onRec rec ⟨i, done, ret⟩, ?_, ?_, ?_⟩
      · cases done
        · show rec.state ≠ _; rw [hst]; decide
        · show LoopState.done ≠ _; decide
      · cases done
        · exact hpe
        · rfl
      · refine hc'.perm ?_
        show ((some l, Obj.loop (onRec rec ⟨i, done, ret⟩)) :: (some b2, Obj.cells #[.bool ret] 4 (0, 0)) :: (some b3, Obj.cells #[.int .i64 (i : Int)] 3 (0, 0)) :: AA).Perm _
        exact List.Perm.cons _ (List.perm_middle (l₁ := [_, _]))
  · rintro D ⟨⟨i, done, ret⟩, hr⟩
    have hfin : (done = false ∧ i = 14) ∨ (done = true ∧ ret = true) := by
      rcases hr with ⟨h1, h2⟩ | ⟨h1, k, s, _, _, _, h2⟩
      · exact .inl ⟨h1, by simp only at h2; omega⟩
      · unfold onStep at h2
        split at h2
        · cases h2; exact .inr ⟨rfl, rfl⟩
        · cases h2; cases h1
    cases done with
    | true =>
      have hret : ret = true := by
        rcases hfin with ⟨h, _⟩ | ⟨_, h⟩
        · cases h
        · exact h
      subst hret
      show CI none Tryz.prog (markD D) 37 w (heapOf w) .ret _ _ _
      refine CI.retM (rs := [.cell 2 4]) (vs := [.bool true]) (v := .bool true) rfl Tryz.func27 rfl rfl rfl (res_cons (ResV.cell1 (j := 0) ty_a4 rfl rfl rfl) res_nil) (List.Perm.refl _) fun w' hc' => ⟨rfl, hc'.belowE hE.base⟩
    | false =>
      have hi : i = 14 := by
        rcases hfin with ⟨_, h⟩ | ⟨h, _⟩
        · exact h
        · cases h
      subst hi
      show ∀ a w', _ → _ → _
      intro a w' ha hc
      refine inBlock_normal ?_
      show ((sub [1, 1, 1, 1, 1] B27).wpIn (FR none) 3 Tryz.prog (bodyPostM (FR none) 3 Tryz.prog _ _) (wd (markD D) a) w')
      refine (show CI none Tryz.prog (markD D) 37 w (heapOf w) (sub [1, 1, 1, 1, 1] B27) (bodyPostM (FR none) 3 Tryz.prog _ _) _ _ from ?_) a w' ha hc
      refine CI.seq (x := sub [1, 1, 1, 1, 1, 0] B27) (y := sub [1, 1, 1, 1, 1, 1] B27) ?_
      refine CI.rg (id := 13) [0, 1, 2] [(.quiet, none), (.pure, none), (.store, none)] rfl rfl (by kernel_rfl) ?_
      refine DL.qu 35 (.int .i64 14) rfl (f_load (j := 2) ty_a3 rfl rfl rfl rfl) ?_
      refine DL.pu 36 (.bool true) rfl (show FPure _ _ _ (.bool ((14 : Int) == 14)) from p_eql rfl rfl rfl) ?_
      refine DL.put (H' := (some D, .deferred (some [])) :: (some b2, .cells #[.bool true] 4 (0, 0)) :: (some b3, .cells #[.int .i64 14] 3 (0, 0)) :: [(some b1, .cells (#[.int .i64 n]) 3 (0, 0))]) (i := 2) rfl (Wn.none rfl) rfl rfl (f_store (c := #[.bool ret]) (v := .bool true) (off := 0) (j := 1) ty_s4 rfl rfl (of_decide_eq_true rfl) trivial rfl rfl rfl) (keep_none rfl) ?_
      refine DK.next0 rfl ?_
      refine CI.retM (rs := [.cell 2 4]) (vs := [.bool true]) (v := .bool true) rfl Tryz.func27 rfl rfl rfl (res_cons (ResV.cell1 (j := 0) ty_a4 rfl rfl rfl) res_nil) (List.Perm.refl _) fun w' hc' => ⟨rfl, hc'.belowE hE.base⟩
end Go.Proofs.YthldgjbmjgjogaaGreatDoor
