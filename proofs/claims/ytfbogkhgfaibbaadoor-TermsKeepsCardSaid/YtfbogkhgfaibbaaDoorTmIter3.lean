import Derived.Test.YtfbogkhgfaibbaaDoorTmIter2
namespace Go.Proofs.YtfbogkhgfaibbaaDoor
open Go Go.HW Go.RowKit
set_option linter.unusedVariables false
set_option linter.unusedSimpArgs false

section
variable {P : Program} {o : Oper} {S : Slots} {w0 : World} {I : Mem} {H : Heap}
theorem f_callA {X : Type} {u : X → Value} {H' : X → Heap} {cl : Call} {f : Operand} {g : FuncId} {caps args all : Array Value} (he : args ++ caps = all) (ho : o.op = .call cl) (hcal : cl.callee = .value f) (hf : ev S f = some (.func (.func g) #[] caps)) (hargs : ∀ ρ, Val S ρ → cl.args.map ρ = args)
    (hbody : ∀ w, (callFunc g all).run P w = .ok (.enter g all) w) (hc : ∀ w, Cls w0 I H w → Calls P g all w fun e w' => ∃ x, e = .returned (u x) ∧ Cls w0 I (H' x) w') : FAct P o w0 I S H X u H' := fun ρ hρ w hcl => .inr (.inr ⟨g, all, w, by
      subst he
      simp only [execOp, ho, resolve, hcal, hargs ρ hρ]
      rw [hρ _ _ hf]
      show (callFunc g (#[] ++ args ++ caps)).run P w = _
      simpa using hbody w, hc w hcl⟩)
end
set_option maxRecDepth 20000 in
theorem append75 {M I : Mem} {bm Bm : Nat} {lst : List (List UInt8 × Value)} {K : KM} (hMI : Ext M I) (hK : KRep ShTm M lst K) (hbox : I Bm = some (.cells #[.map (some bm)] 56 (0, 0))) (hmap : I bm = some (kobj lst)) (hlen : K.length ≤ 1099511627776) {w0 : World} {H : Heap} {w : World} (hc : Cls w0 I H w) :
    Calls Tryd.prog 75 #[.slice none 0 0, .func (.func 76) #[] #[ptr Bm 0]] w fun e w' => ∃ s : StA M, s.1.1.Perm (K.map Prod.snd) ∧ e = .returned s.1.2.1 ∧ Cls w0 I ((Value.ownBlock s.1.2.1, .cells s.1.2.2 25 (0, 0)) :: H) w' := by
  refine calls_of_CIM (S := [(0, .slice none 0 0), (1, .func (.func 76) #[] #[ptr Bm 0])]) (N := 15) (c := B75) Tryd.func75 rfl rfl rfl (by simp) hc ?_
  show CI _ _ _ _ _ _ (sub [] B75) _ _ _
  refine CI.seq (x := sub [0] B75) (y := sub [1] B75) ?_
  refine CI.rg (id := 0) [0, 1] [(.alloc, none), (.pure, none)] rfl rfl (by kernel_rfl) ?_
  refine DL.new (ob := .cells (#[.slice none 0 0]) 22) (mk := fun b => ptr b 0) (i := 0) rfl (Wn.none rfl) rfl rfl rfl (f_box (v := .slice none 0 0) rfl rfl) ?_
  intro Bs hBs
  refine DL.pu 4 (.slice none 0 0) rfl (p_assign rfl rfl) ?_
  refine DK.next0 rfl ?_
  refine CI.seq (x := sub [1, 0] B75) (y := sub [1, 1] B75) ?_
  refine CI.seq (x := sub [1, 0, 0] B75) (y := sub [1, 0, 1] B75) ?_
  refine CI.rg (id := 1) [0] [(.pure, none)] rfl rfl (by kernel_rfl) ?_
  refine DL.pu 6 (.func (.func 76) #[] #[ptr Bm 0]) rfl (p_move rfl rfl) ?_
  refine DK.next0 rfl ?_
  refine CI.block (c := sub [1, 0, 1, 0] B75) ?_
  refine CI.rangeFunc (X := {s : StA M // s.1.1.Perm (K.map Prod.snd)}) (g := .tmp 6) (ps := #[7]) (assign := sub [1, 0, 1, 0, 0] B75) (body := sub [1, 0, 1, 0, 1] B75) (jump := fun _ => none) (H' := fun s => (some Bs, .cells #[s.1.1.2.1] 22 (0, 0)) :: (Value.ownBlock s.1.1.2.1, .cells s.1.1.2.2 25 (0, 0)) :: H) rfl (fun args w => by kernel_rfl) ?_ ?_
  · intro l D rec hst hpe hps has hbo hag W1 hW1
    let s0 : StA M := ⟨([], .slice none 0 0, #[]), OwnS.nil ShTm M⟩
    have hW2 : Cls w0 I (EA rec l Bs s0 ++ ((some D, .deferred (some [])) :: H)) W1 := by
      have := (hW1.nothing (.cells #[] 25 (0, 0))).perm (H2 := EA rec l Bs s0 ++ ((some D, .deferred (some [])) :: H)) ?_
      · exact this
      · show ((none, Obj.cells #[] 25 (0, 0)) :: (some l, Obj.loop rec) :: (some D, Obj.deferred (some [])) :: (some Bs, .cells #[.slice none 0 0] 22 (0, 0)) :: H).Perm ((some l, Obj.loop rec) :: (some Bs, .cells #[.slice none 0 0] 22 (0, 0)) :: (none, Obj.cells #[] 25 (0, 0)) :: (some D, Obj.deferred (some [])) :: H)
        refine (List.Perm.swap _ _ _).trans (List.Perm.cons _ ?_)
        exact List.perm_middle (l₁ := [_, _])
    refine (values1 hK hbox hmap (EA rec l Bs) stepA (s0 := s0) (fun s x k pre hpre hs hk => ?_) (Ext.refl _) hW2).mono ?_
    · have h1 := StA.steps hs
      have h2 : s.1.1.length = pre.length := by rw [h1]; simp [s0]
      exact appRound hMI hst hpe hps has hbo (hag.sub (Sub.cons rfl (Sub.nil _))) s (by omega) hk
    · rintro e w' ⟨s', ⟨xs, hp, hs⟩, he, hc'⟩
      have h1 := StA.steps hs
      refine ⟨⟨s', ?_⟩, ⟨_, he⟩, rec, by rw [hst]; decide, hpe, ?_⟩
      · rw [h1]; simpa [s0] using hp
      · refine hc'.perm ?_
        show ((some l, Obj.loop rec) :: (some Bs, .cells #[s'.1.2.1] 22 (0, 0)) :: (Value.ownBlock s'.1.2.1, .cells s'.1.2.2 25 (0, 0)) :: (some D, Obj.deferred (some [])) :: H).Perm _
        exact List.Perm.cons _ (List.perm_middle (l₁ := [_, _]))
  · rintro D ⟨s, hs⟩
    show ∀ a w, _ → _ → _
    intro a w ha hc
    refine inBlock_normal ?_
    show ((sub [1, 1] B75).wpIn (FR none) 3 Tryd.prog (bodyPostM (FR none) 3 Tryd.prog _ _) (wd (markD D) a) w)
    refine (show CI none Tryd.prog (markD D) 15 w0 I (sub [1, 1] B75) (bodyPostM (FR none) 3 Tryd.prog _ _) _ _ from ?_) a w ha hc
    refine CI.seq (x := sub [1, 1, 0] B75) (y := sub [1, 1, 1] B75) ?_
    refine CI.rg (id := 4) [0, 1] [(.quiet, none), (.pure, none)] rfl rfl (by kernel_rfl) ?_
    refine DL.qu 14 s.1.2.1 rfl (f_load (j := 1) ty_a22 rfl rfl rfl rfl) ?_
    refine DL.pu 4 s.1.2.1 rfl (p_assign rfl rfl) ?_
    refine DK.next0 rfl ?_
    refine CI.retM (rs := [.tmp 4]) (vs := [s.1.2.1]) (v := s.1.2.1) (G := (some Bs, .cells #[s.1.2.1] 22 (0, 0)) :: (Value.ownBlock s.1.2.1, .cells s.1.2.2 25 (0, 0)) :: H) rfl Tryd.func75 rfl rfl rfl (res_cons (ResV.tmp rfl) res_nil) (List.Perm.refl _) fun w' hc' => ?_
    exact ⟨s, hs, rfl, hc'.tail⟩
noncomputable def B56 : Code := bodyOf Tryd.f56
noncomputable def B57 : Code := bodyOf Tryd.f57
set_option maxRecDepth 20000 in
theorem collect56 {M I : Mem} {bm Bm : Nat} {lst : List (List UInt8 × Value)} {K : KM} (hMI : Ext M I) (hK : KRep ShTm M lst K) (hbox : I Bm = some (.cells #[.map (some bm)] 56 (0, 0))) (hmap : I bm = some (kobj lst)) (hlen : K.length ≤ 1099511627776) {w0 : World} {H : Heap} {w : World} (hc : Cls w0 I H w) :
    Calls Tryd.prog 56 #[.func (.func 76) #[] #[ptr Bm 0]] w fun e w' => ∃ s : StA M, s.1.1.Perm (K.map Prod.snd) ∧ e = .returned s.1.2.1 ∧ Cls w0 I ((Value.ownBlock s.1.2.1, .cells s.1.2.2 25 (0, 0)) :: H) w' := by
  refine calls_of_TTG (S := [(0, .func (.func 76) #[] #[ptr Bm 0])]) (N := 5) (b := B56) hc Tryd.func56 rfl rfl rfl (by simp) ?_
  show TT _ _ _ _ _ _ [.code (sub [] B56)] _ _
  refine TT.seq (x := sub [0] B56) (y := sub [1] B56) ?_
  refine TT.region (id := 0) (n := 1) (ops := opsOf (sub [0] B56)) [(.pure, none)] rfl ?_
  show DL _ _ _ _ _ _ _ _ _ _ [0] _ _
  refine DL.pu 2 (.slice none 0 0) rfl (p_assign rfl rfl) ?_
  refine DL.nil ?_
  refine TT.seq (x := sub [1, 0] B56) (y := sub [1, 1] B56) ?_
  refine TT.region (id := 1) (n := 3) (ops := opsOf (sub [1, 0] B56)) [(.pure, none), (.actx, none), (.pure, none)] rfl ?_
  show DL _ _ _ _ _ _ _ _ _ _ [0, 1, 2] _ _
  refine DL.pu 3 (.func (.func 76) #[] #[ptr Bm 0]) rfl (p_move rfl rfl) ?_
  refine DL.actx (X := {s : StA M // s.1.1.Perm (K.map Prod.snd)}) (u := fun s => s.1.1.2.1) (H' := fun s => (Value.ownBlock s.1.1.2.1, .cells s.1.1.2.2 25 (0, 0)) :: H) (i := 1) rfl (Wn.none rfl) rfl rfl rfl (f_callA (args := #[.slice none 0 0, .func (.func 76) #[] #[ptr Bm 0]]) (caps := #[]) (g := 75) rfl rfl rfl rfl (args_val (vs := [.slice none 0 0, .func (.func 76) #[] #[ptr Bm 0]]) rfl) (fun w => by kernel_rfl) fun w1 hc1 => (append75 hMI hK hbox hmap hlen hc1).mono fun e w' ⟨s, hs, he, hc'⟩ => ⟨⟨s, hs⟩, he, hc'⟩) ?_
  rintro ⟨s, hs⟩
  refine DL.pu 2 s.1.2.1 rfl (p_assign rfl rfl) ?_
  refine DL.nil ?_
  exact retR (rs := [.tmp 2]) (vs := [s.1.2.1]) (v := s.1.2.1) Tryd.func56 rfl rfl rfl (res_cons (ResV.tmp rfl) res_nil) fun w' hc' => ⟨s, hs, rfl, hc'⟩
theorem values57 {I : Mem} {bm : Nat} {w0 : World} {H : Heap} {w : World} (hc : Cls w0 I H w) :
    Calls Tryd.prog 57 #[.map (some bm)] w fun e w' => ∃ Bm : Nat, e = .returned (.func (.func 76) #[] #[ptr Bm 0]) ∧ Cls w0 I ((some Bm, .cells #[.map (some bm)] 56 (0, 0)) :: H) w' := by
  refine calls_of_TTG (S := [(0, .map (some bm))]) (N := 4) (b := B57) hc Tryd.func57 rfl rfl rfl (by simp) ?_
  show TT _ _ _ _ _ _ [.code (sub [] B57)] _ _
  refine TT.seq (x := sub [0] B57) (y := sub [1] B57) ?_
  refine TT.region (id := 0) (n := 2) (ops := opsOf (sub [0] B57)) [(.alloc, none), (.pure, none)] rfl ?_
  show DL _ _ _ _ _ _ _ _ _ _ [0, 1] _ _
  refine DL.new (ob := .cells (#[.map (some bm)]) 56) (mk := fun b => ptr b 0) (i := 0) rfl (Wn.none rfl) rfl rfl rfl (f_box (v := .map (some bm)) rfl rfl) ?_
  intro Bm hBm
  refine DL.pu 2 .nilFunc rfl (p_assign rfl rfl) ?_
  refine DL.nil ?_
  refine TT.seq (x := sub [1, 0] B57) (y := sub [1, 1] B57) ?_
  refine TT.region (id := 1) (n := 2) (ops := opsOf (sub [1, 0] B57)) [(.pure, none), (.pure, none)] rfl ?_
  show DL _ _ _ _ _ _ _ _ _ _ [0, 1] _ _
  refine DL.pu 3 (.func (.func 76) #[] #[ptr Bm 0]) rfl (p_makeFunc rfl (args_val (vs := [ptr Bm 0]) rfl)) ?_
  refine DL.pu 2 (.func (.func 76) #[] #[ptr Bm 0]) rfl (p_assign rfl rfl) ?_
  refine DL.nil ?_
  exact retR (rs := [.tmp 2]) (vs := [.func (.func 76) #[] #[ptr Bm 0]]) (v := .func (.func 76) #[] #[ptr Bm 0]) Tryd.func57 rfl rfl rfl (res_cons (ResV.tmp rfl) res_nil) fun w' hc' => ⟨Bm, rfl, hc'⟩
end Go.Proofs.YtfbogkhgfaibbaaDoor
