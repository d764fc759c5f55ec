import Derived.Test.YthldgjbmjgjogaaGreatDoorSnAo
namespace Go.Proofs.YthldgjbmjgjogaaGreatDoor
open Go Go.HW Go.RowKit
set_option linter.unusedVariables false
set_option linter.unusedSimpArgs false

section
variable {rd : Option Nat} {P : Program} {D : List Deferred} {N : Nat} {w0 : World} {I M M0 : Mem} {J A H : Heap} {Q : Exit → Go.Act → World → Prop} {S : Slots} {c : Code} {xh : Option Nat}
theorem CI.settle (hE : EnvX xh w0 M0 M (addJ I J)) (h : ∀ I', EnvX xh w0 M0 M I' → Ext I I' → CI rd P D N w0 I' c Q S A) : CI rd P D N w0 I c Q S (A ++ J) := fun a w ha hc => h (addJ I J) hE (Ext.addJ _ _) a w ha hc.settle
end
abbrev zAct : Act := Act.mk 0 0 0 0 0 0 ([] : List Int) ([] : List Int) (Cmd.mk 0 0 0 0 0 0 ([] : List Int) ([] : List Int)) ([] : List Int) ([] : List Int)
abbrev zAce : Array Value := Act.ce zAct (.slice none 0 0) (.slice none 0 0) (.slice none 0 0)
set_option maxRecDepth 20000 in
set_option maxHeartbeats 1000000 in
theorem actOf8 {s : List UInt8} (hs : s.length < 4294967281) (hno : NoAct s) {M : Mem} (w : World) (hM : Ext M (heapOf w)) (hG : GlobE M) : Calls Tryz.prog 8 #[str s] w fun e w' => e = .returned (.tuple #[.agg zAce, .int .i64 4]) ∧ Below w.heap.size w w' := by
  have hE := Env.start hM
  refine calls_of_CIM (S := [(0, str s)]) (N := 38) (c := B8) (w0 := w) (I := heapOf w) (H := []) Tryz.func8 rfl rfl rfl (by simp) ⟨rfl, rfl, rfl, Nat.le_refl _, fun b o e => e, fun b o e => (by cases e), fun b o e => (by cases e), List.nodup_nil⟩ ?_
  show CI _ _ _ _ _ _ (sub [] B8) _ _ _
  refine CI.seq (x := sub [0] B8) (y := sub [1] B8) ?_
  refine CI.rg (id := 0) [0, 1, 2] [(.alloc, none), (.alloc, none), (.alloc, none)] rfl rfl (by kernel_rfl) ?_
  refine DL.new (ob := .cells (#[str s]) 9) (mk := fun b => ptr b 0) (i := 0) rfl (Wn.none rfl) rfl rfl rfl (f_box (v := str s) rfl rfl) ?_
  intro b1 hb1
  refine DL.new (ob := .cells zAce 36) (mk := fun b => ptr b 0) (i := 1) rfl (Wn.none rfl) rfl rfl rfl (f_alloc ty_z36 rfl) ?_
  intro b2 hb2
  refine DL.new (ob := .cells (#[.int .i64 0]) 37) (mk := fun b => ptr b 0) (i := 2) rfl (Wn.none rfl) rfl rfl rfl (f_alloc (z := .int .i64 0) (fun w => by kernel_rfl) rfl) ?_
  intro b3 hb3
  refine DK.next0 rfl ?_
  refine CI.seq (x := sub [1, 0] B8) (y := sub [1, 1] B8) ?_
  refine CI.rg (id := 1) [0, 1, 2, 3] [(.quiet, none), (.keep, none), (.alloc, none), (.store, none)] rfl rfl (by kernel_rfl) ?_
  refine DL.qu 9 (str s) rfl (f_load (j := 2) ty_a9 rfl rfl rfl rfl) ?_
  refine DL.callF (G := Value) (u := fun g => g) (Q := fun g M_ => RowS Sh.str M_ g (splitL s)) (A := [(some b3, .cells (#[.int .i64 0]) 37 (0, 0)), (some b2, .cells zAce 36 (0, 0)), (some b1, .cells (#[str s]) 9 (0, 0))]) (J := []) (fun J4 => [(some b3, .cells (#[.int .i64 0]) 37 (0, 0)), (some b2, .cells zAce 36 (0, 0)), (some b1, .cells (#[str s]) 9 (0, 0))] ++ J4) (Nat.le_refl _) hE.nil (List.append_nil _).symm (fun _ => rfl) (by simp) (i := 1) rfl (Wn.none rfl) rfl rfl rfl rfl rfl rfl (args_val (vs := [str s, str [32]]) rfl) (fun w => kenter33 _ w) (fun w hc hI => split_ok hs (M := M) w hI hG) ?_
  intro pv M1 J1 hE1 hx1 hrow
  refine DL.new (ob := .cells (#[.slice none 0 0]) 46) (mk := fun b => ptr b 0) (i := 2) rfl (Wn.none rfl) rfl rfl rfl (f_alloc ty_z46 rfl) ?_
  intro b4 hb4
  refine DL.put (H' := (some b4, .cells (#[pv]) 46 (0, 0)) :: ([(some b3, .cells (#[.int .i64 0]) 37 (0, 0)), (some b2, .cells zAce 36 (0, 0)), (some b1, .cells (#[str s]) 9 (0, 0))] ++ J1)) (i := 3) rfl (Wn.none rfl) rfl rfl (f_store (c := #[.slice none 0 0]) (v := pv) (off := 0) (j := 0) ty_s46 rfl (sl_cells (RowS.sl hrow)) (of_decide_eq_true rfl) (sl_one (RowS.sl hrow)) rfl rfl rfl) (keep_none rfl) ?_
  refine DK.next0 rfl ?_
  refine CI.settle (A := [(some b4, .cells (#[pv]) 46 (0, 0)), (some b3, .cells (#[.int .i64 0]) 37 (0, 0)), (some b2, .cells zAce 36 (0, 0)), (some b1, .cells (#[str s]) 9 (0, 0))]) (J := J1) hE1 ?_
  intro I1 hE1 hxI1
  refine CI.seq (x := sub [1, 1, 0] B8) (y := sub [1, 1, 1] B8) ?_
  refine CI.rg (id := 2) [0, 1, 2] [(.keep, none), (.alloc, none), (.store, none)] rfl rfl (by kernel_rfl) ?_
  refine DL.callF (G := Nat) (u := fun g => .map (some g)) (Q := fun g M_ => M_ g = some SFormsO) (A := [(some b4, .cells (#[pv]) 46 (0, 0)), (some b3, .cells (#[.int .i64 0]) 37 (0, 0)), (some b2, .cells zAce 36 (0, 0)), (some b1, .cells (#[str s]) 9 (0, 0))]) (J := []) (fun J4 => [(some b4, .cells (#[pv]) 46 (0, 0)), (some b3, .cells (#[.int .i64 0]) 37 (0, 0)), (some b2, .cells zAce 36 (0, 0)), (some b1, .cells (#[str s]) 9 (0, 0))] ++ J4) (Nat.le_refl _) hE1.nil (List.append_nil _).symm (fun _ => rfl) (by simp) (i := 0) rfl (Wn.none rfl) rfl rfl rfl rfl rfl rfl (args_val (vs := []) rfl) (fun w => kenter34 _ w) (fun w hc hI => script_forms.ok rfl (M := M1) w hI) ?_
  intro bm M2 J2 hE2 hx2 hbm
  refine DL.new (ob := .cells (#[.map none]) 79) (mk := fun b => ptr b 0) (i := 1) rfl (Wn.none rfl) rfl rfl rfl (f_alloc (z := .map none) (fun w => by kernel_rfl) rfl) ?_
  intro b5 hb5
  refine DL.put (H' := (some b5, .cells (#[.map (some bm)]) 79 (0, 0)) :: ([(some b4, .cells (#[pv]) 46 (0, 0)), (some b3, .cells (#[.int .i64 0]) 37 (0, 0)), (some b2, .cells zAce 36 (0, 0)), (some b1, .cells (#[str s]) 9 (0, 0))] ++ J2)) (i := 2) rfl (Wn.none rfl) rfl rfl (f_store (c := #[.map none]) (v := .map (some bm)) (off := 0) (j := 0) (fun w => by kernel_rfl) rfl rfl (of_decide_eq_true rfl) trivial rfl rfl rfl) (keep_none rfl) ?_
  refine DK.next0 rfl ?_
  refine CI.settle (A := [(some b5, .cells (#[.map (some bm)]) 79 (0, 0)), (some b4, .cells (#[pv]) 46 (0, 0)), (some b3, .cells (#[.int .i64 0]) 37 (0, 0)), (some b2, .cells zAce 36 (0, 0)), (some b1, .cells (#[str s]) 9 (0, 0))]) (J := J2) hE2 ?_
  intro I2 hE2 hxI2
  refine CI.seq (x := sub [1, 1, 1, 0] B8) (y := sub [1, 1, 1, 1] B8) ?_
  refine CI.seq (x := sub [1, 1, 1, 0, 0] B8) (y := sub [1, 1, 1, 0, 1] B8) ?_
  refine CI.rg (id := 3) [0] [(.quiet, none)] rfl rfl (by kernel_rfl) ?_
  refine DL.qu 12 (.func (.func 82) #[] #[]) rfl (f_callR rfl rfl (args_val (vs := []) rfl) (fun w => kenter35 _ w) (fun w hc => names35 w)) ?_
  refine DK.next0 rfl ?_
  refine CI.block (c := sub [1, 1, 1, 0, 1, 0] B8) ?_
  refine CI.rangeFunc (X := Unit) (gf := 82) (lb := #[]) (g := .tmp 12) (ps := #[13, 14]) (assign := sub [1, 1, 1, 0, 1, 0, 0] B8) (body := sub [1, 1, 1, 0, 1, 0, 1] B8) (jump := fun _ => none)
    (H' := fun _ => [(some b5, .cells (#[.map (some bm)]) 79 (0, 0)), (some b4, .cells (#[pv]) 46 (0, 0)), (some b3, .cells (#[.int .i64 0]) 37 (0, 0)), (some b2, .cells zAce 36 (0, 0)), (some b1, .cells (#[str s]) 9 (0, 0))]) rfl (fun args w => by kernel_rfl) ?_ ?_
  · intro l D rec hst hpe hps has hbo hag W1 hW1
    let AA : Heap := (some D, .deferred (some [])) :: [(some b5, .cells (#[.map (some bm)]) 79 (0, 0)), (some b4, .cells (#[pv]) 46 (0, 0)), (some b3, .cells (#[.int .i64 0]) 37 (0, 0)), (some b2, .cells zAce 36 (0, 0)), (some b1, .cells (#[str s]) 9 (0, 0))]
    have hW2 : Cls w I2 (aoE rec l () ++ AA) W1 := hW1
    refine (frameI (X := Unit) (u := fun _ => .tuple #[]) (E := aoE rec l ()) (E' := fun q => aoE rec l q) (A := AA) (fun I' hII hA hc2 => ?_) hW2).mono ?_
    · have hgo : NGoing l I' (aoE rec l) (fun _ _ _ => True) (fun _ => true) (fun _ _ => True) := ⟨fun i u h1 h14 _ => actRound hno (M := M2) (hE2.mi.trans hII) (hG.mono (hx1.trans hx2)) hst hpe hps has hbo (hag.sub (Sub.cons rfl (Sub.cons rfl (Sub.cons rfl (Sub.cons rfl (Sub.cons rfl (Sub.nil _))))))) (hA b1 _ (by simp [AA])) (hA b4 _ (by simp [AA])) (hA b5 _ (by simp [AA])) (hrow.mono hx2) hbm i u h1 h14, fun _ _ _ _ _ _ _ _ => trivial⟩
      have hc3 : Cls w I' (aoE rec l () ++ []) W1 := by rw [List.append_nil]; exact hc2
      exact (names82 hgo (s := ()) trivial hc3).mono fun e w' ⟨q, he, hq⟩ => ⟨(), he, by rw [List.append_nil] at hq; exact hq⟩
    · rintro e w' ⟨u, he, hc'⟩
      exact ⟨(), ⟨_, he⟩, rec, by rw [hst]; decide, hpe, hc'⟩
  · rintro D u
    show ∀ a w', _ → _ → _
    intro a w' ha hc
    refine inBlock_normal ?_
    show ((sub [1, 1, 1, 1] B8).wpIn (FR none) 3 Tryz.prog (bodyPostM (FR none) 3 Tryz.prog _ _) (wd (markD D) a) w')
    refine (show CI none Tryz.prog (markD D) 38 w I2 (sub [1, 1, 1, 1] B8) (bodyPostM (FR none) 3 Tryz.prog _ _) _ _ from ?_) a w' ha hc
    refine CI.seq (x := sub [1, 1, 1, 1, 0] B8) (y := sub [1, 1, 1, 1, 1] B8) ?_
    refine CI.rg (id := 10) [0, 1, 2] [(.pure, none), (.store, none), (.store, none)] rfl rfl (by kernel_rfl) ?_
    refine DL.pu 37 (.agg zAce) rfl (p_build (vs := []) (fun w => by kernel_rfl) rfl rfl) ?_
    refine DL.put (H' := (some D, .deferred (some [])) :: [(some b5, .cells (#[.map (some bm)]) 79 (0, 0)), (some b4, .cells (#[pv]) 46 (0, 0)), (some b3, .cells (#[.int .i64 0]) 37 (0, 0)), (some b2, .cells zAce 36 (0, 0)), (some b1, .cells (#[str s]) 9 (0, 0))]) (i := 1) rfl (Wn.none rfl) rfl rfl (f_storeA (j := 4) ty_s36 rfl rfl rfl (act_one trivial trivial trivial) rfl rfl rfl) (keep_none rfl) ?_
    refine DL.put (H' := (some D, .deferred (some [])) :: [(some b5, .cells (#[.map (some bm)]) 79 (0, 0)), (some b4, .cells (#[pv]) 46 (0, 0)), (some b3, .cells (#[.int .i64 4]) 37 (0, 0)), (some b2, .cells zAce 36 (0, 0)), (some b1, .cells (#[str s]) 9 (0, 0))]) (i := 2) rfl (Wn.none rfl) rfl rfl (f_store (c := #[.int .i64 0]) (v := .int .i64 4) (off := 0) (j := 3) (fun w => by kernel_rfl) rfl rfl (of_decide_eq_true rfl) trivial rfl rfl rfl) (keep_none rfl) ?_
    refine DK.next0 rfl ?_
    refine CI.retM (rs := [.cell 2 36, .cell 3 37]) (vs := [.agg zAce, .int .i64 4]) (v := .tuple #[.agg zAce, .int .i64 4]) rfl Tryz.func8 rfl rfl rfl (res_cons (ResV.cell (j := 3) ty_a36 ty_s36 rfl rfl rfl) (res_cons (ResV.cell1 (j := 2) (fun w => by kernel_rfl) rfl rfl rfl) res_nil)) (List.Perm.refl _) fun w' hc' => ⟨rfl, hc'.belowE hE2.base⟩
end Go.Proofs.YthldgjbmjgjogaaGreatDoor
