import Derived.Test.YtfbogkhgfaibbaaDoorTmIter
import Derived.Test.YtfbogkhgfaibbaaDoorHw25
section
namespace Go.Proofs.YtfbogkhgfaibbaaDoor
open Go Go.HW Go.RowKit
set_option linter.unusedVariables false
set_option linter.unusedSimpArgs false

/-! ### slices.AppendSeq, slices.Collect, of maps.Values -/
noncomputable def B75 : Code := bodyOf Tryd.f75
/-- What has come, and where it lies. -/
abbrev StA (M : Mem) : Type := {x : List Tm × Value × Array Value // OwnS ShTm M x.2.1 x.2.2 x.1}
abbrev EA {M : Mem} (rec : Loop) (l Bs : Nat) (s : StA M) : Heap := [(some l, .loop rec), (some Bs, .cells #[s.1.2.1] 22 (0, 0)), (Value.ownBlock s.1.2.1, .cells s.1.2.2 25 (0, 0))]
abbrev stepA {M : Mem} (s : StA M) (x : Tm) (t : StA M) : Prop := t.1.1 = s.1.1 ++ [x]
theorem StA.steps {M : Mem} : ∀ {xs : List Tm} {s s' : StA M}, Steps stepA s xs s' → s'.1.1 = s.1.1 ++ xs
  | [], s, s', h => by rw [show s' = s from h]; simp
  | x :: xs, s, s', ⟨t, h1, h2⟩ => by rw [StA.steps h2, h1]; simp
theorem inBlock_normal {id : Nat} {Q : Exit → Act → World → Prop} {a : Act} {w : World} (h : Q .normal a w) : Exit.inBlock id Q .normal a w := h
theorem set_last {α : Type} (xs : List α) (a b : α) : (xs ++ [a]).set ((xs.length : Int)).toNat b = xs ++ [b] := by simp
set_option maxRecDepth 20000 in
theorem appRound {M I : Mem} {rec : Loop} {l Bs : Nat} {x : Tm} {k : Value} (hMI : Ext M I) (hst : rec.state = .ready) (hpe : rec.pending = none) (hps : rec.params = #[7]) (has : rec.assign = sub [1, 0, 1, 0, 0] B75) (hbo : rec.body = sub [1, 0, 1, 0, 1] B75)
    (hag : Agree 15 [(2, ptr Bs 0)] { tmps := rec.tmps, defers := [] }) (s : StA M) (hlen : s.1.1.length < 1099511627776) (hk : RowS ShTm M k (Tree.kids x)) :
    RoundTurn Tryd.prog l I (.agg #[.int .i64 (Tm.kind x), .int .i64 (Tm.num x), k]) (EA rec l Bs s) (fun t => stepA s x t) (fun _ => true) (EA rec l Bs) := fun w0 I' A w hI hc => by
  have hM : ∀ {H : Heap} (w : World), Cls w0 I' H w → Imm M w := fun w hc b o e => hc.imm b o (hI b o (hMI b o e))
  refine round_of_CI (N := 15) (S := [(7, .agg #[.int .i64 (Tm.kind x), .int .i64 (Tm.num x), k]), (2, ptr Bs 0)]) (w0 := w0) (I := I') (p := 7) hps (hc.own l _ List.mem_cons_self) (hag.put (by decide) _) hc ?_
  rw [has, hbo]
  refine CI.rg (id := 2) [0, 1] [(.alloc, none), (.store, none)] rfl rfl (by kernel_rfl) ?_
  refine DL.new (ob := .cells (#[.int .i64 0, .int .i64 0, .slice none 0 0]) 25) (mk := fun b => ptr b 0) (i := 0) rfl (Wn.none rfl) rfl rfl rfl (f_alloc ty_z25 rfl) ?_
  intro b5 hb5
  refine DL.put (H' := (some b5, .cells (#[.int .i64 (Tm.kind x), .int .i64 (Tm.num x), k]) 25 (0, 0)) :: (EA rec l Bs s ++ A)) (i := 1) rfl (Wn.none rfl) rfl rfl (f_storeA (j := 0) ty_s25 rfl rfl rfl (one_cons trivial (one_cons trivial (one_cons (sl_one (RowS.sl hk)) one_nil))) rfl rfl rfl) (keep_none rfl) ?_
  refine DK.nil (begin_body (j := 1) rfl hst ?_)
  refine CI.block (c := sub [1, 0, 1, 0, 1, 0] B75) ?_
  show CI _ _ _ _ _ _ _ _ _ ((some b5, .cells (#[.int .i64 (Tm.kind x), .int .i64 (Tm.num x), k]) 25 (0, 0)) :: (some l, .loop { rec with state := .busy }) :: (some Bs, .cells #[s.1.2.1] 22 (0, 0)) :: (Value.ownBlock s.1.2.1, .cells s.1.2.2 25 (0, 0)) :: A)
  refine CI.rgDL (id := 3) [0, 2] [0, 1, 2, 3, 4, 5, 6, 7] [0, 0, 1, 0, 15, 31, 63, 31] [(.look, some 2), (.look, some 0), (.pure, none), (.alloc, none), (.actx, none), (.pure, none), (.storeB, none), (.storeB, some 2)] rfl mixed (by kernel_rfl) (by kernel_rfl) ?_
  intro w1 hl1
  refine DL.look (v := s.1.2.1) (x := 2) (b := Bs) (i := 0) rfl (Wn.none rfl) rfl rfl rfl rfl rfl (List.mem_of_getElem? (i := 2) rfl) (b_load ty_a22 rfl rfl rfl) ?_
  refine DL.look (v := .agg #[.int .i64 (Tm.kind x), .int .i64 (Tm.num x), k]) (x := 0) (b := b5) (i := 1) rfl (Wn.none rfl) rfl rfl rfl rfl rfl (List.mem_of_getElem? (i := 0) rfl) (b_loadA ty_a25 ty_s25 rfl rfl rfl) ?_
  refine DL.pu 10 (.int .i64 (s.1.1.length : Int)) rfl (p_slLen ty_u22 (OwnS.sl s.2) rfl rfl) ?_
  refine DL.newS (M := M) (s := ShTm) (zs := [Tm.mk 0 0 ([] : List Tm)]) (cells := [.int .i64 0, .int .i64 0, (.slice none 0 0)]) (n := 1) rfl (by decide) rfl (fun i x hx => by match i, hx with | 0, hx => cases hx; exact (Tm.cl (t := Tm.mk 0 0 ([] : List Tm)) (RowS.nil ShTm M)) | k + 1, hx => simp at hx) (i := 3) rfl (Wn.none rfl) rfl rfl rfl (f_buildS (n := 1) (vs := [(0, .agg #[.int .i64 0, .int .i64 0, (.slice none 0 0)])]) elem22 rfl rfl (by kernel_rfl) rfl (args_val2 rfl)) ?_
  intro s3_v s3_c ho_s3
  have g4 : s.1.1.length + [Tm.mk 0 0 ([] : List Tm)].length ≤ 1099511627776 := hlen
  refine DL.appendS (M := M) (s := ShTm) (fun s6_v s6_c => (Value.ownBlock s3_v, .cells s3_c 25 (0, 0)) :: (some b5, .cells (#[.int .i64 (Tm.kind x), .int .i64 (Tm.num x), k]) 25 (0, 0)) :: (some l, .loop { rec with state := .busy }) :: (some Bs, .cells #[s.1.2.1] 22 (0, 0)) :: (Value.ownBlock s6_v, .cells s6_c 25 (0, 0)) :: A) elem22 (j := 4) rfl s.2 g4 (by decide) (OwnS.src (i := 0) ho_s3 rfl) (i := 4) rfl (Wn.none rfl) rfl rfl rfl rfl rfl rfl (fun _ _ => rfl) ?_
  intro s6_v s6_c ho_s6
  show DK _ _ _ _ _ _ _ _ _ _ ((Value.ownBlock s3_v, .cells s3_c 25 (0, 0)) :: (some b5, .cells (#[.int .i64 (Tm.kind x), .int .i64 (Tm.num x), k]) 25 (0, 0)) :: (some l, .loop { rec with state := .busy }) :: (some Bs, .cells #[s.1.2.1] 22 (0, 0)) :: (Value.ownBlock s6_v, .cells s6_c 25 (0, 0)) :: A)
  have g7 : 0 ≤ (s.1.1.length : Int) := Int.natCast_nonneg _
  have g9 : (s.1.1.length : Int) < ((s.1.1 ++ [Tm.mk 0 0 ([] : List Tm)]).length : Int) := by simp; omega
  refine DL.pu 13 (elp s6_v (((s.1.1.length : Int).toNat) * 3)) rfl (p_slIx ty_u22 ty_s25 (OwnS.some ho_s6 g7 g9) g7 g9 rfl rfl rfl) ?_
  obtain ⟨c11, c11_e⟩ : ∃ c, c = splice s6_c (((s.1.1.length : Int).toNat) * 3) [.int .i64 (Tm.kind x), .int .i64 (Tm.num x), k] := ⟨_, rfl⟩
  have ho_12 : OwnS ShTm M s6_v c11 (s.1.1 ++ [x]) := by
    rw [c11_e, ← set_last s.1.1 (Tm.mk 0 0 []) x]
    exact OwnS.set ho_s6 (lt_len g7 g9) (Tm.cl (t := x) hk) rfl
  refine DL.inh fun ⟨wq, hq⟩ => ?_
  have hne : ∀ z b, (if [0, 2].contains z then idsOf ((some b5, Obj.cells (#[.int .i64 (Tm.kind x), .int .i64 (Tm.num x), k]) 25 (0, 0)) :: (some l, .loop { rec with state := .busy }) :: (some Bs, .cells #[s.1.2.1] 22 (0, 0)) :: (Value.ownBlock s.1.2.1, .cells s.1.2.2 25 (0, 0)) :: A) z else none) = some b → Value.ownBlock s6_v ≠ some b := fun z b hz e => by
    split at hz
    · rename_i hcz
      have hz2 : z = 0 ∨ z = 2 := by simpa using hcz
      have hrow : ((Value.ownBlock s3_v, Obj.cells s3_c 25 (0, 0)) :: (some b5, Obj.cells (#[.int .i64 (Tm.kind x), .int .i64 (Tm.num x), k]) 25 (0, 0)) :: (some l, Obj.loop { rec with state := .busy }) :: (some Bs, .cells #[s.1.2.1] 22 (0, 0)) :: (Value.ownBlock s6_v, .cells s6_c 25 (0, 0)) :: A)[4]? = some (some b, .cells s6_c 25 (0, 0)) := by rw [← e]; rfl
      rcases hz2 with rfl | rfl
      · have hb : b5 = b := Option.some.inj hz
        subst hb
        have := ids_unique (i := 1) (j := 4) hq.nodup rfl hrow
        omega
      · have hb : Bs = b := Option.some.inj hz
        subst hb
        have := ids_unique (i := 3) (j := 4) hq.nodup rfl hrow
        omega
    · cases hz
  refine DL.putB (r := Value.ownBlock s6_v) (ob := .cells s6_c 25 (0, 0)) (ob' := .cells c11 25 (0, 0)) (T := (Value.ownBlock s3_v, .cells s3_c 25 (0, 0)) :: (some b5, .cells (#[.int .i64 (Tm.kind x), .int .i64 (Tm.num x), k]) 25 (0, 0)) :: (some l, .loop { rec with state := .busy }) :: (some Bs, .cells #[s.1.2.1] 22 (0, 0)) :: A)
    (H' := (Value.ownBlock s3_v, .cells s3_c 25 (0, 0)) :: (some b5, .cells (#[.int .i64 (Tm.kind x), .int .i64 (Tm.num x), k]) 25 (0, 0)) :: (some l, .loop { rec with state := .busy }) :: (some Bs, .cells #[s.1.2.1] 22 (0, 0)) :: (Value.ownBlock s6_v, .cells c11 25 (0, 0)) :: A) (i := 6) rfl (Wn.none rfl) rfl rfl ?_ ?_ (fun T => by rw [c11_e]; exact f_storeElA (j := 0) (vs := [.int .i64 (Tm.kind x), .int .i64 (Tm.num x), k]) ty_s25 rfl (OwnS.V ho_s6).choose_spec (lt_len g7 g9) rfl (one_cons trivial (one_cons trivial (one_cons (sl_one (RowS.sl hk)) one_nil))) rfl rfl rfl) hne ?_
  · exact List.perm_middle (l₁ := [_, _, _, _])
  · exact List.perm_middle (l₁ := [_, _, _, _])
  refine DL.putB (r := some Bs) (ob := .cells #[s.1.2.1] 22 (0, 0)) (ob' := .cells #[s6_v] 22 (0, 0)) (T := (Value.ownBlock s3_v, .cells s3_c 25 (0, 0)) :: (some b5, .cells (#[.int .i64 (Tm.kind x), .int .i64 (Tm.num x), k]) 25 (0, 0)) :: (some l, .loop { rec with state := .busy }) :: (Value.ownBlock s6_v, .cells c11 25 (0, 0)) :: A)
    (H' := (Value.ownBlock s3_v, .cells s3_c 25 (0, 0)) :: (some b5, .cells (#[.int .i64 (Tm.kind x), .int .i64 (Tm.num x), k]) 25 (0, 0)) :: (some l, .loop { rec with state := .busy }) :: (some Bs, .cells #[s6_v] 22 (0, 0)) :: (Value.ownBlock s6_v, .cells c11 25 (0, 0)) :: A) (i := 7) rfl (Wn.none rfl) rfl rfl ?_ ?_ (fun T => f_store (c := #[s.1.2.1]) (v := s6_v) (off := 0) (j := 0) ty_s22 rfl (sl_cells (OwnS.sl ho_s6)) (of_decide_eq_true rfl) (sl_one (OwnS.sl ho_s6)) rfl rfl rfl) ⟨rfl, (fun h => by cases h), fun z b hz hb e => ?_⟩ ?_
  · exact List.perm_middle (l₁ := [_, _, _])
  · exact List.perm_middle (l₁ := [_, _, _])
  · have hn0 := hq.nodup
    have e' : Bs = b := Option.some.inj e
    subst e'
    split at hb
    · rename_i hcz
      have hz2 : z = 0 ∨ z = 2 := by simpa using hcz
      rcases hz2 with rfl | rfl
      · have hb' : b5 = Bs := Option.some.inj hb
        subst hb'
        have := ids_unique (i := 1) (j := 3) hn0 rfl rfl
        omega
      · exact hz rfl
    · cases hb
  refine DK.nil fun a' w' ha' hc' => ?_
  refine inBlock_normal ?_
  refine end_round (j := 2) rfl (fun w'' hc'' => ?_) (wd [] a') w' (hc'.later hl1)
  refine ⟨⟨(s.1.1 ++ [x], s6_v, c11), ho_12⟩, rfl, rfl, ?_⟩
  have hrec : ({ ({ rec with state := .busy } : Loop) with state := .ready, pending := none } : Loop) = rec := by
    cases rec; simp only at hst hpe; subst hst; subst hpe; rfl
  rw [hrec] at hc''
  exact (show Cls w0 I' ((Value.ownBlock s3_v, .cells s3_c 25 (0, 0)) :: (some b5, .cells (#[.int .i64 (Tm.kind x), .int .i64 (Tm.num x), k]) 25 (0, 0)) :: (some l, .loop rec) :: (some Bs, .cells #[s6_v] 22 (0, 0)) :: (Value.ownBlock s6_v, .cells c11 25 (0, 0)) :: A) w'' from hc'').tail.tail
end Go.Proofs.YtfbogkhgfaibbaaDoor
end

section
namespace Go.Proofs.YtfbogkhgfaibbaaDoor
open Go Go.HW Go.RowKit
set_option linter.unusedVariables false
set_option linter.unusedSimpArgs false

section
variable {P : Program} {o : Oper} {S : Slots} {w0 : World} {I : Mem} {H : Heap}
theorem f_callA {X : Type} {u : X → Value} {H' : X → Heap} {cl : Call} {f : Operand} {g : FuncId} {caps args all : Array Value} (he : args ++ caps = all) (ho : o.op = .call cl) (hcal : cl.callee = .value f) (hf : ev S f = some (.func (.func g) #[] caps)) (hargs : ∀ ρ, Val S ρ → cl.args.map ρ = args)
    (hbody : ∀ w, (callFunc g all).run P w = .ok (.enter g all) w) (hc : ∀ w, Cls w0 I H w → Calls P g all w fun e w' => ∃ x, e = .returned (u x) ∧ Cls w0 I (H' x) w') : FAct P o w0 I S H X u H' := fun ρ hρ w hcl => .inr (.inr ⟨g, all, w, by
      subst he
      simp only [execOp, ho, resolve, hcal, hargs ρ hρ]
      rw [hρ _ _ hf]
      show (callFunc g (#[] ++ args ++ caps)).run P w = _
      simpa using hbody w, hc w hcl⟩)
end
set_option maxRecDepth 20000 in
theorem append75 {M I : Mem} {bm Bm : Nat} {lst : List (List UInt8 × Value)} {K : KM} (hMI : Ext M I) (hK : KRep ShTm M lst K) (hbox : I Bm = some (.cells #[.map (some bm)] 56 (0, 0))) (hmap : I bm = some (kobj lst)) (hlen : K.length ≤ 1099511627776) {w0 : World} {H : Heap} {w : World} (hc : Cls w0 I H w) :
    Calls Tryd.prog 75 #[.slice none 0 0, .func (.func 76) #[] #[ptr Bm 0]] w fun e w' => ∃ s : StA M, s.1.1.Perm (K.map Prod.snd) ∧ e = .returned s.1.2.1 ∧ Cls w0 I ((Value.ownBlock s.1.2.1, .cells s.1.2.2 25 (0, 0)) :: H) w' := by
  refine calls_of_CIM (S := [(0, .slice none 0 0), (1, .func (.func 76) #[] #[ptr Bm 0])]) (N := 15) (c := B75) Tryd.func75 rfl rfl rfl (by simp) hc ?_
  show CI _ _ _ _ _ _ (sub [] B75) _ _ _
  refine CI.seq (x := sub [0] B75) (y := sub [1] B75) ?_
  refine CI.rg (id := 0) [0, 1] [(.alloc, none), (.pure, none)] rfl rfl (by kernel_rfl) ?_
  refine DL.new (ob := .cells (#[.slice none 0 0]) 22) (mk := fun b => ptr b 0) (i := 0) rfl (Wn.none rfl) rfl rfl rfl (f_box (v := .slice none 0 0) rfl rfl) ?_
  intro Bs hBs
  refine DL.pu 4 (.slice none 0 0) rfl (p_assign rfl rfl) ?_
  refine DK.next0 rfl ?_
  refine CI.seq (x := sub [1, 0] B75) (y := sub [1, 1] B75) ?_
  refine CI.seq (x := sub [1, 0, 0] B75) (y := sub [1, 0, 1] B75) ?_
  refine CI.rg (id := 1) [0] [(.pure, none)] rfl rfl (by kernel_rfl) ?_
  refine DL.pu 6 (.func (.func 76) #[] #[ptr Bm 0]) rfl (p_move rfl rfl) ?_
  refine DK.next0 rfl ?_
  refine CI.block (c := sub [1, 0, 1, 0] B75) ?_
  refine CI.rangeFunc (X := {s : StA M // s.1.1.Perm (K.map Prod.snd)}) (g := .tmp 6) (ps := #[7]) (assign := sub [1, 0, 1, 0, 0] B75) (body := sub [1, 0, 1, 0, 1] B75) (jump := fun _ => none) (H' := fun s => (some Bs, .cells #[s.1.1.2.1] 22 (0, 0)) :: (Value.ownBlock s.1.1.2.1, .cells s.1.1.2.2 25 (0, 0)) :: H) rfl (fun args w => by kernel_rfl) ?_ ?_
  · intro l D rec hst hpe hps has hbo hag W1 hW1
    let s0 : StA M := ⟨([], .slice none 0 0, #[]), OwnS.nil ShTm M⟩
    have hW2 : Cls w0 I (EA rec l Bs s0 ++ ((some D, .deferred (some [])) :: H)) W1 := by
      have := (hW1.nothing (.cells #[] 25 (0, 0))).perm (H2 := EA rec l Bs s0 ++ ((some D, .deferred (some [])) :: H)) ?_
      · exact this
      · show ((none, Obj.cells #[] 25 (0, 0)) :: (some l, Obj.loop rec) :: (some D, Obj.deferred (some [])) :: (some Bs, .cells #[.slice none 0 0] 22 (0, 0)) :: H).Perm ((some l, Obj.loop rec) :: (some Bs, .cells #[.slice none 0 0] 22 (0, 0)) :: (none, Obj.cells #[] 25 (0, 0)) :: (some D, Obj.deferred (some [])) :: H)
        refine (List.Perm.swap _ _ _).trans (List.Perm.cons _ ?_)
        exact List.perm_middle (l₁ := [_, _])
    refine (values1 hK hbox hmap (EA rec l Bs) stepA (s0 := s0) (fun s x k pre hpre hs hk => ?_) (Ext.refl _) hW2).mono ?_
    · have h1 := StA.steps hs
      have h2 : s.1.1.length = pre.length := by rw [h1]; simp [s0]
      exact appRound hMI hst hpe hps has hbo (hag.sub (Sub.cons rfl (Sub.nil _))) s (by omega) hk
    · rintro e w' ⟨s', ⟨xs, hp, hs⟩, he, hc'⟩
      have h1 := StA.steps hs
      refine ⟨⟨s', ?_⟩, ⟨_, he⟩, rec, by rw [hst]; decide, hpe, ?_⟩
      · rw [h1]; simpa [s0] using hp
      · refine hc'.perm ?_
        show ((some l, Obj.loop rec) :: (some Bs, .cells #[s'.1.2.1] 22 (0, 0)) :: (Value.ownBlock s'.1.2.1, .cells s'.1.2.2 25 (0, 0)) :: (some D, Obj.deferred (some [])) :: H).Perm _
        exact List.Perm.cons _ (List.perm_middle (l₁ := [_, _]))
  · rintro D ⟨s, hs⟩
    show ∀ a w, _ → _ → _
    intro a w ha hc
    refine inBlock_normal ?_
    show ((sub [1, 1] B75).wpIn (FR none) 3 Tryd.prog (bodyPostM (FR none) 3 Tryd.prog _ _) (wd (markD D) a) w)
    refine (show CI none Tryd.prog (markD D) 15 w0 I (sub [1, 1] B75) (bodyPostM (FR none) 3 Tryd.prog _ _) _ _ from ?_) a w ha hc
    refine CI.seq (x := sub [1, 1, 0] B75) (y := sub [1, 1, 1] B75) ?_
    refine CI.rg (id := 4) [0, 1] [(.quiet, none), (.pure, none)] rfl rfl (by kernel_rfl) ?_
    refine DL.qu 14 s.1.2.1 rfl (f_load (j := 1) ty_a22 rfl rfl rfl rfl) ?_
    refine DL.pu 4 s.1.2.1 rfl (p_assign rfl rfl) ?_
    refine DK.next0 rfl ?_
    refine CI.retM (rs := [.tmp 4]) (vs := [s.1.2.1]) (v := s.1.2.1) (G := (some Bs, .cells #[s.1.2.1] 22 (0, 0)) :: (Value.ownBlock s.1.2.1, .cells s.1.2.2 25 (0, 0)) :: H) rfl Tryd.func75 rfl rfl rfl (res_cons (ResV.tmp rfl) res_nil) (List.Perm.refl _) fun w' hc' => ?_
    exact ⟨s, hs, rfl, hc'.tail⟩
noncomputable def B56 : Code := bodyOf Tryd.f56
noncomputable def B57 : Code := bodyOf Tryd.f57
set_option maxRecDepth 20000 in
theorem collect56 {M I : Mem} {bm Bm : Nat} {lst : List (List UInt8 × Value)} {K : KM} (hMI : Ext M I) (hK : KRep ShTm M lst K) (hbox : I Bm = some (.cells #[.map (some bm)] 56 (0, 0))) (hmap : I bm = some (kobj lst)) (hlen : K.length ≤ 1099511627776) {w0 : World} {H : Heap} {w : World} (hc : Cls w0 I H w) :
    Calls Tryd.prog 56 #[.func (.func 76) #[] #[ptr Bm 0]] w fun e w' => ∃ s : StA M, s.1.1.Perm (K.map Prod.snd) ∧ e = .returned s.1.2.1 ∧ Cls w0 I ((Value.ownBlock s.1.2.1, .cells s.1.2.2 25 (0, 0)) :: H) w' := by
  refine calls_of_TTG (S := [(0, .func (.func 76) #[] #[ptr Bm 0])]) (N := 5) (b := B56) hc Tryd.func56 rfl rfl rfl (by simp) ?_
  show TT _ _ _ _ _ _ [.code (sub [] B56)] _ _
  refine TT.seq (x := sub [0] B56) (y := sub [1] B56) ?_
  refine TT.region (id := 0) (n := 1) (ops := opsOf (sub [0] B56)) [(.pure, none)] rfl ?_
  show DL _ _ _ _ _ _ _ _ _ _ [0] _ _
  refine DL.pu 2 (.slice none 0 0) rfl (p_assign rfl rfl) ?_
  refine DL.nil ?_
  refine TT.seq (x := sub [1, 0] B56) (y := sub [1, 1] B56) ?_
  refine TT.region (id := 1) (n := 3) (ops := opsOf (sub [1, 0] B56)) [(.pure, none), (.actx, none), (.pure, none)] rfl ?_
  show DL _ _ _ _ _ _ _ _ _ _ [0, 1, 2] _ _
  refine DL.pu 3 (.func (.func 76) #[] #[ptr Bm 0]) rfl (p_move rfl rfl) ?_
  refine DL.actx (X := {s : StA M // s.1.1.Perm (K.map Prod.snd)}) (u := fun s => s.1.1.2.1) (H' := fun s => (Value.ownBlock s.1.1.2.1, .cells s.1.1.2.2 25 (0, 0)) :: H) (i := 1) rfl (Wn.none rfl) rfl rfl rfl (f_callA (args := #[.slice none 0 0, .func (.func 76) #[] #[ptr Bm 0]]) (caps := #[]) (g := 75) rfl rfl rfl rfl (args_val (vs := [.slice none 0 0, .func (.func 76) #[] #[ptr Bm 0]]) rfl) (fun w => by kernel_rfl) fun w1 hc1 => (append75 hMI hK hbox hmap hlen hc1).mono fun e w' ⟨s, hs, he, hc'⟩ => ⟨⟨s, hs⟩, he, hc'⟩) ?_
  rintro ⟨s, hs⟩
  refine DL.pu 2 s.1.2.1 rfl (p_assign rfl rfl) ?_
  refine DL.nil ?_
  exact retR (rs := [.tmp 2]) (vs := [s.1.2.1]) (v := s.1.2.1) Tryd.func56 rfl rfl rfl (res_cons (ResV.tmp rfl) res_nil) fun w' hc' => ⟨s, hs, rfl, hc'⟩
theorem values57 {I : Mem} {bm : Nat} {w0 : World} {H : Heap} {w : World} (hc : Cls w0 I H w) :
    Calls Tryd.prog 57 #[.map (some bm)] w fun e w' => ∃ Bm : Nat, e = .returned (.func (.func 76) #[] #[ptr Bm 0]) ∧ Cls w0 I ((some Bm, .cells #[.map (some bm)] 56 (0, 0)) :: H) w' := by
  refine calls_of_TTG (S := [(0, .map (some bm))]) (N := 4) (b := B57) hc Tryd.func57 rfl rfl rfl (by simp) ?_
  show TT _ _ _ _ _ _ [.code (sub [] B57)] _ _
  refine TT.seq (x := sub [0] B57) (y := sub [1] B57) ?_
  refine TT.region (id := 0) (n := 2) (ops := opsOf (sub [0] B57)) [(.alloc, none), (.pure, none)] rfl ?_
  show DL _ _ _ _ _ _ _ _ _ _ [0, 1] _ _
  refine DL.new (ob := .cells (#[.map (some bm)]) 56) (mk := fun b => ptr b 0) (i := 0) rfl (Wn.none rfl) rfl rfl rfl (f_box (v := .map (some bm)) rfl rfl) ?_
  intro Bm hBm
  refine DL.pu 2 .nilFunc rfl (p_assign rfl rfl) ?_
  refine DL.nil ?_
  refine TT.seq (x := sub [1, 0] B57) (y := sub [1, 1] B57) ?_
  refine TT.region (id := 1) (n := 2) (ops := opsOf (sub [1, 0] B57)) [(.pure, none), (.pure, none)] rfl ?_
  show DL _ _ _ _ _ _ _ _ _ _ [0, 1] _ _
  refine DL.pu 3 (.func (.func 76) #[] #[ptr Bm 0]) rfl (p_makeFunc rfl (args_val (vs := [ptr Bm 0]) rfl)) ?_
  refine DL.pu 2 (.func (.func 76) #[] #[ptr Bm 0]) rfl (p_assign rfl rfl) ?_
  refine DL.nil ?_
  exact retR (rs := [.tmp 2]) (vs := [.func (.func 76) #[] #[ptr Bm 0]]) (v := .func (.func 76) #[] #[ptr Bm 0]) Tryd.func57 rfl rfl rfl (res_cons (ResV.tmp rfl) res_nil) fun w' hc' => ⟨Bm, rfl, hc'⟩
end Go.Proofs.YtfbogkhgfaibbaaDoor
end

section
namespace Go.Proofs.YtfbogkhgfaibbaaDoor
open Go Go.HW Go.RowKit
set_option linter.unusedVariables false
set_option linter.unusedSimpArgs false

/-! ### escutcheon/terms.learn: function 37 -/
noncomputable def B37 : Code := bodyOf Tryd.f37
def learnIn : List Tm → KM → Option KM
  | [], K => some K
  | t :: ts, K => (terms_order.f (Tm.fuel t) t).bind fun o => (terms_text.f (Tm.fuel o) o).bind fun s => learnIn ts (kset s o K)
/-- What the loops stand on: each step goes through, and they come to an end. -/
structure Learns (G : KM → Nat → Prop) : Prop where
  step : ∀ {K n t}, G K n → t ∈ K.map Prod.snd → ∃ ps, terms_apart.f K t = some ps ∧ ps.length ≤ 1099511627776 ∧ ∀ p ∈ ps, ∃ s, terms_text.f (Tm.fuel p) p = some s ∧ ((Tm.kind (kgetT K s) == 0) = true → ∃ m, m < n ∧ G (kset s p K) m)
  len : ∀ {K n}, G K n → K.length ≤ 1099511627776
  nodup : ∀ {K n}, G K n → (K.map Prod.fst).Nodup
def Known (K : KM) (p : Tm) : Prop := ∀ s, terms_text.f (Tm.fuel p) p = some s → (Tm.kind (kgetT K s) == 0) = false
def Closed (K : KM) : Prop := ∀ t ∈ K.map Prod.snd, ∀ ps, terms_apart.f K t = some ps → ∀ p ∈ ps, Known K p
theorem wrap_succ {i : Nat} (h : i < 1099511627776) : IntKind.i64.wrap ((i : Int) + 1) = ((i + 1 : Nat) : Int) := by
  rw [IntKind.wrap_i64]; omega
theorem fm_mem {i n : Nat} (h : i < n) : ((i : Int)).toNat < n := h
section
variable {P : Program} {o : Oper} {S : Slots} {w0 : World} {I : Mem} {H : Heap}
/-- an own map by texts, looked into -/
theorem f_lookupS {t kt e : TypeId} {z v : Value} {x y : Operand} {b j : Nat} {s : List UInt8} {l : List (List UInt8 × Value)} (hm : ∀ w, (underlying t).run P w = .ok (.map kt e) w) (hk : ∀ w, (underlying kt).run P w = .ok .string w) (hz : ∀ w, (zeroValue e).run P w = .ok z w) (hH : H[j]? = some (some b, kobj l)) (hv : (vfind s l).getD z = v) (ho : o.op = .lookup t x y false) (hx : ev S x = some (.map (some b))) (hy : ev S y = some (str s)) : FQuiet P o w0 I S H v :=
  FImm.quiet (M := fun c => if c = b then some (kobj l) else none) (i_lookupS hm hk hz (by simp) hv ho hx hy) fun w hc c ob h => by
    by_cases e : c = b
    · subst e; simp only [if_true, Option.some.injEq] at h; subst h; exact hc.own _ _ (List.mem_of_getElem? hH)
    · simp [e] at h
end
theorem enter56 (args : Array Value) (w : World) : (callFunc 56 args).run Tryd.prog w = .ok (.enter 56 args) w := by kernel_rfl
theorem enter57 (args : Array Value) (w : World) : (callFunc 57 args).run Tryd.prog w = .ok (.enter 57 args) w := by kernel_rfl
theorem enter58 (args : Array Value) (w : World) : (callFunc 58 args).run Tryd.prog w = .ok (.enter 58 args) w := by kernel_rfl
theorem krep_look {M : Mem} {l : List (List UInt8 × Value)} {K : KM} (h : KRep ShTm M l K) (s : List UInt8) : ∃ k : Value, (vfind s l).getD (.agg #[.int .i64 0, .int .i64 0, .slice none 0 0]) = .agg #[.int .i64 (Tm.kind (kgetT K s)), .int .i64 (Tm.num (kgetT K s)), k] := by
  unfold kgetT
  rcases h.find s with ⟨e1, e2⟩ | ⟨cs, t, e1, e2, e3⟩
  · exact ⟨.slice none 0 0, by rw [e1, e2]; rfl⟩
  · obtain ⟨k, rfl, hk⟩ := Tm.op e3
    exact ⟨k, by rw [e1, e2]; rfl⟩
section
variable {w : World} {M0 : Mem} {R : Ending → World → Prop}
set_option maxRecDepth 20000 in
theorem learn_inner (hG : Glob M0) {tv : Value} {tl j : Nat} {M I : Mem} (hE : Env w M0 M I) (hx0 : Ext M0 M) {fm bm : Nat} (hfm : M fm = some FormsO) {lst : List (List UInt8 × Value)} {K : KM} (hK : KRep ShTm M lst K) {pv : Value} {ps : List Tm} (hps : RowS ShTm M pv ps) (hpl : ps.length ≤ 1099511627776) (htx : ∀ p ∈ ps, ∃ s, terms_text.f (Tm.fuel p) p = some s)
    (hk : (∀ p ∈ ps, Known K p) → TT Tryd.prog 37 R 60 w I (.inBlock 3 :: .code (sub [1, 0, 1, 1, 1, 1, 0, 1, 0, 0, 1, 1, 1] B37) :: .inLoop (sub [1, 0, 1, 1, 1, 1, 0, 1, 0, 0] B37) :: .inBlock 2 :: [.code (sub [1, 0, 1, 1, 1, 1, 1] B37), .inScope (sub [1, 0] B37)]) [(3, .map (some fm)), (4, .map (some bm)), (32, tv), (33, .int .i64 (tl : Int)), (34, .int .i64 (j : Int))] [(some bm, kobj lst)])
    (hg : ∀ p s k, p ∈ ps → terms_text.f (Tm.fuel p) p = some s → (Tm.kind (kgetT K s) == 0) = true → RowS ShTm M k (Tree.kids p) → TT Tryd.prog 37 R 60 w I [.code (sub [1, 0, 1, 1, 1, 1] B37), .inScope (sub [1, 0] B37)] [(3, .map (some fm)), (4, .map (some bm))] [(some bm, kobj (vset s (.agg #[.int .i64 (Tm.kind p), .int .i64 (Tm.num p), k]) lst))]) :
    ∀ (n i : Nat), ps.length - i = n → (∀ p ∈ ps.take i, Known K p) → TT Tryd.prog 37 R 60 w I (.code (sub [1, 0, 1, 1, 1, 1, 0, 1, 0, 0, 1, 1, 0, 0, 1, 1, 0, 0] B37) :: .inLoop (sub [1, 0, 1, 1, 1, 1, 0, 1, 0, 0, 1, 1, 0, 0, 1, 1, 0, 0] B37) :: .inBlock 4 :: .inBlock 3 :: .code (sub [1, 0, 1, 1, 1, 1, 0, 1, 0, 0, 1, 1, 1] B37) :: .inLoop (sub [1, 0, 1, 1, 1, 1, 0, 1, 0, 0] B37) :: .inBlock 2 :: [.code (sub [1, 0, 1, 1, 1, 1, 1] B37), .inScope (sub [1, 0] B37)]) [(3, .map (some fm)), (4, .map (some bm)), (40, pv), (41, .int .i64 (ps.length : Int)), (42, .int .i64 (i : Int)), (32, tv), (33, .int .i64 (tl : Int)), (34, .int .i64 (j : Int))] [(some bm, kobj lst)] := by
  intro n
  induction n with
  | zero =>
    intro i hn hall
    refine TT.seq (x := sub [1, 0, 1, 1, 1, 1, 0, 1, 0, 0, 1, 1, 0, 0, 1, 1, 0, 0, 0] B37) (y := sub [1, 0, 1, 1, 1, 1, 0, 1, 0, 0, 1, 1, 0, 0, 1, 1, 0, 0, 1] B37) ?_
    refine TT.region (id := 13) (n := 1) (ops := opsOf (sub [1, 0, 1, 1, 1, 1, 0, 1, 0, 0, 1, 1, 0, 0, 1, 1, 0, 0, 0] B37)) [(.pure, none)] rfl ?_
    show DL _ _ _ _ _ _ _ _ _ _ [0] _ _
    refine DL.pu 43 (.bool (decide ((i : Int) < (ps.length : Int)))) rfl (p_lss rfl rfl rfl) ?_
    refine DL.nil ?_
    refine TT.seq (x := sub [1, 0, 1, 1, 1, 1, 0, 1, 0, 0, 1, 1, 0, 0, 1, 1, 0, 0, 1, 0] B37) (y := sub [1, 0, 1, 1, 1, 1, 0, 1, 0, 0, 1, 1, 0, 0, 1, 1, 0, 0, 1, 1] B37) ?_
    refine TT.cond_false (x := sub [1, 0, 1, 1, 1, 1, 0, 1, 0, 0, 1, 1, 0, 0, 1, 1, 0, 0, 1, 0, 0] B37) (y := sub [1, 0, 1, 1, 1, 1, 0, 1, 0, 0, 1, 1, 0, 0, 1, 1, 0, 0, 1, 0, 1] B37) rfl (by simp; omega) ?_
    refine TT.exit rfl ?_
    exact TT.weak (hk (by rwa [List.take_of_length_le (by omega)] at hall)) (Sub.cons rfl (Sub.cons rfl (Sub.cons rfl (Sub.cons rfl (Sub.cons rfl (Sub.nil _))))))
  | succ n ih =>
    intro i hn hall
    have hi : i < ps.length := by omega
    refine TT.seq (x := sub [1, 0, 1, 1, 1, 1, 0, 1, 0, 0, 1, 1, 0, 0, 1, 1, 0, 0, 0] B37) (y := sub [1, 0, 1, 1, 1, 1, 0, 1, 0, 0, 1, 1, 0, 0, 1, 1, 0, 0, 1] B37) ?_
    refine TT.region (id := 13) (n := 1) (ops := opsOf (sub [1, 0, 1, 1, 1, 1, 0, 1, 0, 0, 1, 1, 0, 0, 1, 1, 0, 0, 0] B37)) [(.pure, none)] rfl ?_
    show DL _ _ _ _ _ _ _ _ _ _ [0] _ _
    refine DL.pu 43 (.bool (decide ((i : Int) < (ps.length : Int)))) rfl (p_lss rfl rfl rfl) ?_
    refine DL.nil ?_
    refine TT.seq (x := sub [1, 0, 1, 1, 1, 1, 0, 1, 0, 0, 1, 1, 0, 0, 1, 1, 0, 0, 1, 0] B37) (y := sub [1, 0, 1, 1, 1, 1, 0, 1, 0, 0, 1, 1, 0, 0, 1, 1, 0, 0, 1, 1] B37) ?_
    refine TT.cond_true (x := sub [1, 0, 1, 1, 1, 1, 0, 1, 0, 0, 1, 1, 0, 0, 1, 1, 0, 0, 1, 0, 0] B37) (y := sub [1, 0, 1, 1, 1, 1, 0, 1, 0, 0, 1, 1, 0, 0, 1, 1, 0, 0, 1, 0, 1] B37) rfl (by simp; omega) ?_
    refine TT.skip ?_
    refine TT.seq (x := sub [1, 0, 1, 1, 1, 1, 0, 1, 0, 0, 1, 1, 0, 0, 1, 1, 0, 0, 1, 1, 0] B37) (y := sub [1, 0, 1, 1, 1, 1, 0, 1, 0, 0, 1, 1, 0, 0, 1, 1, 0, 0, 1, 1, 1] B37) ?_
    refine TT.block (c := sub [1, 0, 1, 1, 1, 1, 0, 1, 0, 0, 1, 1, 0, 0, 1, 1, 0, 0, 1, 1, 0, 0] B37) ?_
    refine TT.seq (x := sub [1, 0, 1, 1, 1, 1, 0, 1, 0, 0, 1, 1, 0, 0, 1, 1, 0, 0, 1, 1, 0, 0, 0] B37) (y := sub [1, 0, 1, 1, 1, 1, 0, 1, 0, 0, 1, 1, 0, 0, 1, 1, 0, 0, 1, 1, 0, 0, 1] B37) ?_
    refine TT.region (id := 14) (n := 4) (ops := opsOf (sub [1, 0, 1, 1, 1, 1, 0, 1, 0, 0, 1, 1, 0, 0, 1, 1, 0, 0, 1, 1, 0, 0, 0] B37)) [(.pure, none), (.pure, none), (.alloc, none), (.store, none)] rfl ?_
    show DL _ _ _ _ _ _ _ _ _ _ [0, 1, 2, 3] _ _
    refine DL.pu 44 (elp pv (((i : Int)).toNat * 3)) rfl (p_slIx (i := (i : Int)) ty_u22 ty_s25 (RowS.some (i := (i : Int)) hps (by omega) (by omega)) (by omega) (by omega) rfl rfl rfl) ?_
    obtain ⟨p, ep⟩ : ∃ y, y = ps.getD i Tm.dflt := ⟨_, rfl⟩
    obtain ⟨csp, hcp, hlp⟩ := id hps
    have qp := hlp i _ (getD_some Tm.dflt (by omega)); rw [← ep] at qp
    obtain ⟨pk, hqp, hrp⟩ := Tm.op qp
    refine DL.imm (v := .agg #[.int .i64 (Tm.kind p), .int .i64 (Tm.num p), pk]) rfl (Wn.none rfl) rfl rfl rfl (i_loadElA (RowV.mono hcp hE.mi) hqp (fm_mem (by omega)) ty_a25 ty_s25 rfl rfl) ?_
    refine DL.new (ob := .cells (#[.int .i64 0, .int .i64 0, (.slice none 0 0)]) 25) (mk := fun b => ptr b 0) (i := 2) rfl (Wn.none rfl) rfl rfl rfl (f_alloc ty_z25 rfl) ?_
    intro b11 hb11
    refine DL.put (H' := (some b11, .cells (#[.int .i64 (Tm.kind p), .int .i64 (Tm.num p), pk]) 25 (0, 0)) :: [(some bm, kobj lst)]) (i := 3) rfl (Wn.none rfl) rfl rfl (f_storeA (j := 0) ty_s25 rfl rfl rfl (one_cons trivial (one_cons trivial (one_cons (sl_one (RowS.sl hrp)) one_nil))) rfl rfl rfl) (keep_none rfl) ?_
    refine DL.nil ?_
    have hmem : p ∈ ps := by rw [ep]; exact List.mem_of_getElem? (getD_some Tm.dflt hi)
    obtain ⟨s, hs⟩ := htx p hmem
    refine TT.seq (x := sub [1, 0, 1, 1, 1, 1, 0, 1, 0, 0, 1, 1, 0, 0, 1, 1, 0, 0, 1, 1, 0, 0, 1, 0] B37) (y := sub [1, 0, 1, 1, 1, 1, 0, 1, 0, 0, 1, 1, 0, 0, 1, 1, 0, 0, 1, 1, 0, 0, 1, 1] B37) ?_
    refine TT.region (id := 15) (n := 4) (ops := opsOf (sub [1, 0, 1, 1, 1, 1, 0, 1, 0, 0, 1, 1, 0, 0, 1, 1, 0, 0, 1, 1, 0, 0, 1, 0] B37)) [(.quiet, none), (.pure, none), (.quiet, none), (.pure, none)] rfl ?_
    show DL _ _ _ _ _ _ _ _ _ _ [0, 1, 2, 3] _ _
    refine DL.qu 46 (.agg #[.int .i64 (Tm.kind p), .int .i64 (Tm.num p), pk]) rfl (f_loadA (j := 0) ty_a25 ty_s25 rfl rfl rfl rfl) ?_
    refine DL.pu 47 (.map (some fm)) rfl (p_move rfl rfl) ?_
    refine DL.qu 48 (str s) rfl (f_callR rfl rfl (args_val (vs := [.agg #[.int .i64 (Tm.kind p), .int .i64 (Tm.num p), pk], .map (some fm)]) rfl) (fun w => enter48 _ w) (fun w1 hc => terms_text.val hs (M := M) w1 (hE.ext hc) (Glob.mono hG hx0) hrp hfm)) ?_
    refine DL.pu 12 (str s) rfl (p_assign rfl rfl) ?_
    refine DL.nil ?_
    refine TT.seq (x := sub [1, 0, 1, 1, 1, 1, 0, 1, 0, 0, 1, 1, 0, 0, 1, 1, 0, 0, 1, 1, 0, 0, 1, 1, 0] B37) (y := sub [1, 0, 1, 1, 1, 1, 0, 1, 0, 0, 1, 1, 0, 0, 1, 1, 0, 0, 1, 1, 0, 0, 1, 1, 1] B37) ?_
    refine TT.region (id := 16) (n := 5) (ops := opsOf (sub [1, 0, 1, 1, 1, 1, 0, 1, 0, 0, 1, 1, 0, 0, 1, 1, 0, 0, 1, 1, 0, 0, 1, 1, 0] B37)) [(.pure, none), (.pure, none), (.quiet, none), (.pure, none), (.pure, none)] rfl ?_
    show DL _ _ _ _ _ _ _ _ _ _ [0, 1, 2, 3, 4] _ _
    refine DL.pu 49 (.map (some bm)) rfl (p_move rfl rfl) ?_
    refine DL.pu 50 (str s) rfl (p_move rfl rfl) ?_
    obtain ⟨qk, hqk⟩ := krep_look hK s
    refine DL.qu 51 (.agg #[.int .i64 (Tm.kind (kgetT K s)), .int .i64 (Tm.num (kgetT K s)), qk]) rfl (f_lookupS (j := 1) ty_u56 ty_u9 ty_z25 rfl hqk rfl rfl rfl) ?_
    refine DL.pu 52 (.int .i64 (Tm.kind (kgetT K s))) rfl (p_field (fun w => by kernel_rfl) rfl rfl) ?_
    refine DL.pu 53 (.bool (Tm.kind (kgetT K s) == 0)) rfl (p_eql rfl rfl rfl) ?_
    refine DL.nil ?_
    by_cases c : (Tm.kind (kgetT K s) == 0) = true
    · refine TT.cond_true (x := sub [1, 0, 1, 1, 1, 1, 0, 1, 0, 0, 1, 1, 0, 0, 1, 1, 0, 0, 1, 1, 0, 0, 1, 1, 1, 0] B37) (y := sub [1, 0, 1, 1, 1, 1, 0, 1, 0, 0, 1, 1, 0, 0, 1, 1, 0, 0, 1, 1, 0, 0, 1, 1, 1, 1] B37) rfl c ?_
      refine TT.seq (x := sub [1, 0, 1, 1, 1, 1, 0, 1, 0, 0, 1, 1, 0, 0, 1, 1, 0, 0, 1, 1, 0, 0, 1, 1, 1, 0, 0] B37) (y := sub [1, 0, 1, 1, 1, 1, 0, 1, 0, 0, 1, 1, 0, 0, 1, 1, 0, 0, 1, 1, 0, 0, 1, 1, 1, 0, 1] B37) ?_
      refine TT.region (id := 17) (n := 4) (ops := opsOf (sub [1, 0, 1, 1, 1, 1, 0, 1, 0, 0, 1, 1, 0, 0, 1, 1, 0, 0, 1, 1, 0, 0, 1, 1, 1, 0, 0] B37)) [(.pure, none), (.pure, none), (.quiet, none), (.store, none)] rfl ?_
      show DL _ _ _ _ _ _ _ _ _ _ [0, 1, 2, 3] _ _
      refine DL.pu 54 (.map (some bm)) rfl (p_move rfl rfl) ?_
      refine DL.pu 55 (str s) rfl (p_move rfl rfl) ?_
      refine DL.qu 56 (.agg #[.int .i64 (Tm.kind p), .int .i64 (Tm.num p), pk]) rfl (f_loadA (j := 0) ty_a25 ty_s25 rfl rfl rfl rfl) ?_
      refine DL.put (H' := [(some b11, .cells (#[.int .i64 (Tm.kind p), .int .i64 (Tm.num p), pk]) 25 (0, 0)), (some bm, kobj (vset s (.agg #[.int .i64 (Tm.kind p), .int .i64 (Tm.num p), pk]) lst))]) (i := 3) rfl (Wn.none rfl) rfl rfl (f_updateS (j := 1) ty_u56 ty_u9 rfl rfl rfl rfl rfl) (keep_none rfl) ?_
      refine DL.nil ?_
      refine TT.goto (K' := [.code (.seq .skip (sub [1, 0, 1, 1, 1, 1] B37)), .inScope (sub [1, 0] B37)]) rfl ?_
      refine TT.seq ?_
      refine TT.skip ?_
      exact TT.pick [1] (by decide) (TT.weak (hg p s pk hmem hs c hrp) (Sub.cons rfl (Sub.cons rfl (Sub.nil _))))
    · replace c := Bool.eq_false_iff.mpr c
      refine TT.cond_false (x := sub [1, 0, 1, 1, 1, 1, 0, 1, 0, 0, 1, 1, 0, 0, 1, 1, 0, 0, 1, 1, 0, 0, 1, 1, 1, 0] B37) (y := sub [1, 0, 1, 1, 1, 1, 0, 1, 0, 0, 1, 1, 0, 0, 1, 1, 0, 0, 1, 1, 0, 0, 1, 1, 1, 1] B37) rfl c ?_
      refine TT.skip ?_
      refine TT.inBlock ?_
      refine TT.region (id := 18) (n := 2) (ops := opsOf (sub [1, 0, 1, 1, 1, 1, 0, 1, 0, 0, 1, 1, 0, 0, 1, 1, 0, 0, 1, 1, 1] B37)) [(.pure, none), (.pure, none)] rfl ?_
      show DL _ _ _ _ _ _ _ _ _ _ [0, 1] _ _
      refine DL.pu 57 (.int .i64 ((i + 1 : Nat) : Int)) rfl (wrap_succ (i := i) (by omega) ▸ p_add rfl rfl rfl) ?_
      refine DL.pu 42 (.int .i64 ((i + 1 : Nat) : Int)) rfl (p_move rfl rfl) ?_
      refine DL.nil ?_
      refine TT.inLoop ?_
      have hall2 : ∀ q ∈ ps.take (i + 1), Known K q := fun q hq => by
        rw [List.take_succ_eq_append_getElem hi, List.mem_append, List.mem_singleton] at hq
        rcases hq with hq | rfl
        · exact hall q hq
        · have e : ps[i] = p := by rw [ep]; simp [hi]
          rw [e]; intro s' hs'
          rw [hs] at hs'; cases hs'; exact c
      exact TT.pick [1] (by decide) (TT.weak (ih (i + 1) (by omega) hall2) (Sub.cons rfl (Sub.cons rfl (Sub.cons rfl (Sub.cons rfl (Sub.cons rfl (Sub.cons rfl (Sub.cons rfl (Sub.cons rfl (Sub.nil _))))))))))
set_option maxRecDepth 20000 in
theorem learn_outer (hG : Glob M0) {G : KM → Nat → Prop} (hL : Learns G) {fm bm : Nat} {K : KM} {n : Nat} (hGK : G K n) {tv : Value} {ts : List Tm} (htl : ts.length ≤ 1099511627776) (hts : ∀ t ∈ ts, t ∈ K.map Prod.snd) {lst : List (List UInt8 × Value)} {Mb : Mem} (hMb : Ext M0 Mb)
    (hk : (∀ t ∈ ts, ∀ ps, terms_apart.f K t = some ps → ∀ p ∈ ps, Known K p) → ∀ M I, Env w M0 M I → Ext Mb M → TT Tryd.prog 37 R 60 w I [.code (sub [1, 0, 1, 1, 1, 1, 1] B37), .inScope (sub [1, 0] B37)] [(3, .map (some fm)), (4, .map (some bm))] [(some bm, kobj lst)])
    (hg : ∀ M I K' m lst', Env w M0 M I → Ext Mb M → m < n → G K' m → KRep ShTm M lst' K' → TT Tryd.prog 37 R 60 w I [.code (sub [1, 0, 1, 1, 1, 1] B37), .inScope (sub [1, 0] B37)] [(3, .map (some fm)), (4, .map (some bm))] [(some bm, kobj lst')]) :
    ∀ (d j : Nat) (M I : Mem), ts.length - j = d → Env w M0 M I → Ext Mb M → M fm = some FormsO → KRep ShTm M lst K → RowS ShTm M tv ts → (∀ t ∈ ts.take j, ∀ ps, terms_apart.f K t = some ps → ∀ p ∈ ps, Known K p) →
      TT Tryd.prog 37 R 60 w I (.code (sub [1, 0, 1, 1, 1, 1, 0, 1, 0, 0] B37) :: .inLoop (sub [1, 0, 1, 1, 1, 1, 0, 1, 0, 0] B37) :: .inBlock 2 :: [.code (sub [1, 0, 1, 1, 1, 1, 1] B37), .inScope (sub [1, 0] B37)]) [(3, .map (some fm)), (4, .map (some bm)), (32, tv), (33, .int .i64 (ts.length : Int)), (34, .int .i64 (j : Int))] [(some bm, kobj lst)] := by
  intro d
  induction d with
  | zero =>
    intro j M I hn hE hx hfm hK hrow hall
    refine TT.seq (x := sub [1, 0, 1, 1, 1, 1, 0, 1, 0, 0, 0] B37) (y := sub [1, 0, 1, 1, 1, 1, 0, 1, 0, 0, 1] B37) ?_
    refine TT.region (id := 10) (n := 1) (ops := opsOf (sub [1, 0, 1, 1, 1, 1, 0, 1, 0, 0, 0] B37)) [(.pure, none)] rfl ?_
    show DL _ _ _ _ _ _ _ _ _ _ [0] _ _
    refine DL.pu 35 (.bool (decide ((j : Int) < (ts.length : Int)))) rfl (p_lss rfl rfl rfl) ?_
    refine DL.nil ?_
    refine TT.seq (x := sub [1, 0, 1, 1, 1, 1, 0, 1, 0, 0, 1, 0] B37) (y := sub [1, 0, 1, 1, 1, 1, 0, 1, 0, 0, 1, 1] B37) ?_
    refine TT.cond_false (x := sub [1, 0, 1, 1, 1, 1, 0, 1, 0, 0, 1, 0, 0] B37) (y := sub [1, 0, 1, 1, 1, 1, 0, 1, 0, 0, 1, 0, 1] B37) rfl (by simp; omega) ?_
    refine TT.exit rfl ?_
    exact TT.weak (hk (by rwa [List.take_of_length_le (by omega)] at hall) M I hE hx) (Sub.cons rfl (Sub.cons rfl (Sub.nil _)))
  | succ d ih =>
    intro j M I hn hE hx hfm hK hrow hall
    have hj : j < ts.length := by omega
    refine TT.seq (x := sub [1, 0, 1, 1, 1, 1, 0, 1, 0, 0, 0] B37) (y := sub [1, 0, 1, 1, 1, 1, 0, 1, 0, 0, 1] B37) ?_
    refine TT.region (id := 10) (n := 1) (ops := opsOf (sub [1, 0, 1, 1, 1, 1, 0, 1, 0, 0, 0] B37)) [(.pure, none)] rfl ?_
    show DL _ _ _ _ _ _ _ _ _ _ [0] _ _
    refine DL.pu 35 (.bool (decide ((j : Int) < (ts.length : Int)))) rfl (p_lss rfl rfl rfl) ?_
    refine DL.nil ?_
    refine TT.seq (x := sub [1, 0, 1, 1, 1, 1, 0, 1, 0, 0, 1, 0] B37) (y := sub [1, 0, 1, 1, 1, 1, 0, 1, 0, 0, 1, 1] B37) ?_
    refine TT.cond_true (x := sub [1, 0, 1, 1, 1, 1, 0, 1, 0, 0, 1, 0, 0] B37) (y := sub [1, 0, 1, 1, 1, 1, 0, 1, 0, 0, 1, 0, 1] B37) rfl (by simp; omega) ?_
    refine TT.skip ?_
    refine TT.seq (x := sub [1, 0, 1, 1, 1, 1, 0, 1, 0, 0, 1, 1, 0] B37) (y := sub [1, 0, 1, 1, 1, 1, 0, 1, 0, 0, 1, 1, 1] B37) ?_
    refine TT.block (c := sub [1, 0, 1, 1, 1, 1, 0, 1, 0, 0, 1, 1, 0, 0] B37) ?_
    refine TT.seq (x := sub [1, 0, 1, 1, 1, 1, 0, 1, 0, 0, 1, 1, 0, 0, 0] B37) (y := sub [1, 0, 1, 1, 1, 1, 0, 1, 0, 0, 1, 1, 0, 0, 1] B37) ?_
    refine TT.region (id := 11) (n := 4) (ops := opsOf (sub [1, 0, 1, 1, 1, 1, 0, 1, 0, 0, 1, 1, 0, 0, 0] B37)) [(.pure, none), (.pure, none), (.alloc, none), (.store, none)] rfl ?_
    show DL _ _ _ _ _ _ _ _ _ _ [0, 1, 2, 3] _ _
    refine DL.pu 36 (elp tv (((j : Int)).toNat * 3)) rfl (p_slIx (i := (j : Int)) ty_u22 ty_s25 (RowS.some (i := (j : Int)) hrow (by omega) (by omega)) (by omega) (by omega) rfl rfl rfl) ?_
    obtain ⟨t, et⟩ : ∃ y, y = ts.getD j Tm.dflt := ⟨_, rfl⟩
    obtain ⟨cst, hct, hlt⟩ := id hrow
    have qt := hlt j _ (getD_some Tm.dflt (by omega)); rw [← et] at qt
    obtain ⟨tk, hqt, hrt⟩ := Tm.op qt
    refine DL.imm (v := .agg #[.int .i64 (Tm.kind t), .int .i64 (Tm.num t), tk]) rfl (Wn.none rfl) rfl rfl rfl (i_loadElA (RowV.mono hct hE.mi) hqt (fm_mem (by omega)) ty_a25 ty_s25 rfl rfl) ?_
    refine DL.new (ob := .cells (#[.int .i64 0, .int .i64 0, (.slice none 0 0)]) 25) (mk := fun b => ptr b 0) (i := 2) rfl (Wn.none rfl) rfl rfl rfl (f_alloc ty_z25 rfl) ?_
    intro b9 hb9
    refine DL.put (H' := (some b9, .cells (#[.int .i64 (Tm.kind t), .int .i64 (Tm.num t), tk]) 25 (0, 0)) :: [(some bm, kobj lst)]) (i := 3) rfl (Wn.none rfl) rfl rfl (f_storeA (j := 0) ty_s25 rfl rfl rfl (one_cons trivial (one_cons trivial (one_cons (sl_one (RowS.sl hrt)) one_nil))) rfl rfl rfl) (keep_none rfl) ?_
    refine DL.nil ?_
    have hmem : t ∈ ts := by rw [et]; exact List.mem_of_getElem? (getD_some Tm.dflt hj)
    obtain ⟨ps, hps, hpl, hpt⟩ := hL.step hGK (hts t hmem)
    refine TT.seq (x := sub [1, 0, 1, 1, 1, 1, 0, 1, 0, 0, 1, 1, 0, 0, 1, 0] B37) (y := sub [1, 0, 1, 1, 1, 1, 0, 1, 0, 0, 1, 1, 0, 0, 1, 1] B37) ?_
    refine TT.region (id := 12) (n := 5) (ops := opsOf (sub [1, 0, 1, 1, 1, 1, 0, 1, 0, 0, 1, 1, 0, 0, 1, 0] B37)) [(.pure, none), (.quiet, none), (.keep, none), (.pure, none), (.pure, none)] rfl ?_
    show DL _ _ _ _ _ _ _ _ _ _ [0, 1, 2, 3, 4] _ _
    refine DL.pu 38 (.map (some bm)) rfl (p_move rfl rfl) ?_
    refine DL.qu 39 (.agg #[.int .i64 (Tm.kind t), .int .i64 (Tm.num t), tk]) rfl (f_loadA (j := 0) ty_a25 ty_s25 rfl rfl rfl rfl) ?_
    refine DL.callF (G := Value) (u := fun g => g) (Q := fun g M_ => RowS ShTm M_ g ps) (A := (some b9, .cells (#[.int .i64 (Tm.kind t), .int .i64 (Tm.num t), tk]) 25 (0, 0)) :: (some bm, kobj lst) :: []) (J := []) (fun J1 => (some b9, .cells (#[.int .i64 (Tm.kind t), .int .i64 (Tm.num t), tk]) 25 (0, 0)) :: (some bm, kobj lst) :: J1) (Nat.le_refl _) hE.nil (List.append_nil _).symm (fun _ => rfl) (by simp) (i := 2) rfl (Wn.none rfl) rfl rfl rfl rfl rfl rfl (args_val (vs := [.map (some bm), .agg #[.int .i64 (Tm.kind t), .int .i64 (Tm.num t), tk]]) rfl) (fun w => enter58 _ w) (fun w1 hc hI => terms_apart.ok hps (M := M) w1 hI (Glob.mono hG (hMb.trans hx)) ⟨_, K, hc.own bm _ (List.mem_of_getElem? (i := 1) rfl), ⟨lst, rfl, hK.mono hI⟩, hL.nodup hGK, List.Perm.refl _⟩ hrt) ?_
    intro pv M1 J1 hE1 hx1 hrp
    refine DL.pu 41 (.int .i64 (ps.length : Int)) rfl (p_slLen ty_u22 (RowS.sl hrp) rfl rfl) ?_
    refine DL.pu 42 (.int .i64 0) rfl (p_move rfl rfl) ?_
    refine DL.nil ?_
    refine TT.settle (A := (some b9, .cells (#[.int .i64 (Tm.kind t), .int .i64 (Tm.num t), tk]) 25 (0, 0)) :: (some bm, kobj lst) :: []) (J := J1) hE1 ?_
    intro I1 hE1 hxI1
    refine TT.block (c := sub [1, 0, 1, 1, 1, 1, 0, 1, 0, 0, 1, 1, 0, 0, 1, 1, 0] B37) ?_
    refine TT.loop (c := sub [1, 0, 1, 1, 1, 1, 0, 1, 0, 0, 1, 1, 0, 0, 1, 1, 0, 0] B37) ?_
    refine TT.pick [1] (by decide) (TT.weak (learn_inner (tv := tv) (tl := ts.length) (j := j) (i := 0) (n := ps.length) hG hE1 ((hMb.trans hx).trans hx1) (hx1 _ _ hfm) (hK.mono hx1) hrp hpl (fun p hp => (hpt p hp).imp fun s h => h.1) ?_ ?_ (by omega) (by simp)) (Sub.cons rfl (Sub.cons rfl (Sub.cons rfl (Sub.cons rfl (Sub.cons rfl (Sub.cons rfl (Sub.cons rfl (Sub.cons rfl (Sub.nil _))))))))))
    · intro hkn
      refine TT.inBlock ?_
      refine TT.region (id := 19) (n := 2) (ops := opsOf (sub [1, 0, 1, 1, 1, 1, 0, 1, 0, 0, 1, 1, 1] B37)) [(.pure, none), (.pure, none)] rfl ?_
      show DL _ _ _ _ _ _ _ _ _ _ [0, 1] _ _
      refine DL.pu 58 (.int .i64 ((j + 1 : Nat) : Int)) rfl (wrap_succ (i := j) (by omega) ▸ p_add rfl rfl rfl) ?_
      refine DL.pu 34 (.int .i64 ((j + 1 : Nat) : Int)) rfl (p_move rfl rfl) ?_
      refine DL.nil ?_
      refine TT.inLoop ?_
      exact TT.weak (ih (j + 1) M1 I1 (by omega) hE1 (hx.trans hx1) (hx1 _ _ hfm) (hK.mono hx1) (RowS.mono hrow hx1) fun q hq => by
        rw [List.take_succ_eq_append_getElem hj, List.mem_append, List.mem_singleton] at hq
        rcases hq with hq | rfl
        · exact hall q hq
        · have e : ts[j] = t := by rw [et]; simp [hj]
          rw [e]; intro ps' hps'
          rw [hps] at hps'; cases hps'; exact hkn) (Sub.cons rfl (Sub.cons rfl (Sub.cons rfl (Sub.cons rfl (Sub.cons rfl (Sub.nil _))))))
    · intro p s k hp hs c hr
      obtain ⟨s2, hs2, h2⟩ := hpt p hp
      rw [hs] at hs2; cases hs2
      obtain ⟨m, hm, hGm⟩ := h2 c
      exact hg M1 I1 _ m _ hE1 (hx.trans hx1) hm hGm (KRep.set s (cs := [.int .i64 (Tm.kind p), .int .i64 (Tm.num p), k]) (Tm.cl (t := p) hr) (hK.mono hx1))
/-- What learn answers with. -/
abbrev LearnQ (G : KM → Nat → Prop) (g : Nat) (M_ : Mem) : Prop := ∃ K n, G K n ∧ Closed K ∧ KMap ShTm M_ g K
abbrev LearnR (G : KM → Nat → Prop) (M0 : Mem) (w : World) : Ending → World → Prop := PostF (G := Nat) (fun g => .map (some g)) (LearnQ G) M0 w
set_option maxRecDepth 20000 in
theorem learn_label (hG : Glob M0) {G : KM → Nat → Prop} (hL : Learns G) {fm bm : Nat} :
    ∀ (n : Nat) (K : KM) (M I : Mem) (lst : List (List UInt8 × Value)), G K n → Env w M0 M I → Ext M0 M → M fm = some FormsO → KRep ShTm M lst K → TT Tryd.prog 37 (LearnR G M0 w) 60 w I [.code (sub [1, 0, 1, 1, 1, 1] B37), .inScope (sub [1, 0] B37)] [(3, .map (some fm)), (4, .map (some bm))] [(some bm, kobj lst)] := by
  intro n
  induction n using Nat.strongRecOn with
  | _ n ih =>
    intro K M I lst hGK hE hx hfm hK
    have hlen := hL.len hGK
    refine TT.seq (x := sub [1, 0, 1, 1, 1, 1, 0] B37) (y := sub [1, 0, 1, 1, 1, 1, 1] B37) ?_
    refine TT.seq (x := sub [1, 0, 1, 1, 1, 1, 0, 0] B37) (y := sub [1, 0, 1, 1, 1, 1, 0, 1] B37) ?_
    refine TT.region (id := 9) (n := 5) (ops := opsOf (sub [1, 0, 1, 1, 1, 1, 0, 0] B37)) [(.pure, none), (.actx, none), (.actx, none), (.pure, none), (.pure, none)] rfl ?_
    show DL _ _ _ _ _ _ _ _ _ _ [0, 1, 2, 3, 4] _ _
    refine DL.pu 30 (.map (some bm)) rfl (p_move rfl rfl) ?_
    refine DL.actx (X := Nat) (u := fun Bm => .func (.func 76) #[] #[ptr Bm 0]) (H' := fun Bm => (some Bm, .cells #[.map (some bm)] 56 (0, 0)) :: [(some bm, kobj lst)]) (i := 1) rfl (Wn.none rfl) rfl rfl rfl (f_callA (args := #[.map (some bm)]) (caps := #[]) (g := 57) rfl rfl rfl rfl (args_val (vs := [.map (some bm)]) rfl) (fun w => enter57 _ w) fun w1 hc1 => (values57 hc1)) ?_
    intro Bm
    refine DL.actx (X := {s : StA M // s.1.1.Perm (K.map Prod.snd)}) (u := fun s => s.1.1.2.1) (H' := fun s => (Value.ownBlock s.1.1.2.1, .cells s.1.1.2.2 25 (0, 0)) :: (some Bm, .cells #[.map (some bm)] 56 (0, 0)) :: [(some bm, kobj lst)]) (i := 2) rfl (Wn.none rfl) rfl rfl rfl (f_callA (args := #[.func (.func 76) #[] #[ptr Bm 0]]) (caps := #[]) (g := 56) rfl rfl rfl rfl (args_val (vs := [.func (.func 76) #[] #[ptr Bm 0]]) rfl) (fun w => enter56 _ w) fun w1 hc1 =>
      (frameI (X := {s : StA M // s.1.1.Perm (K.map Prod.snd)}) (u := fun s => s.1.1.2.1) (E := []) (E' := fun s => [(Value.ownBlock s.1.1.2.1, .cells s.1.1.2.2 25 (0, 0))]) (fun I' hII hA hc2 => (collect56 (hE.mi.trans hII) hK (hA Bm _ (by simp)) (hA bm _ (by simp)) hlen hc2).mono fun e w' ⟨s, hs, he, hc'⟩ => ⟨⟨s, hs⟩, he, hc'⟩) hc1)) ?_
    rintro ⟨⟨⟨ts, tv, tc⟩, hown⟩, hperm⟩
    replace hown : OwnS ShTm M tv tc ts := hown
    replace hperm : ts.Perm (K.map Prod.snd) := hperm
    show DL _ _ _ _ _ _ _ _ _ _ _ ((32, tv) :: _) [(Value.ownBlock tv, .cells tc 25 (0, 0)), (some Bm, .cells #[.map (some bm)] 56 (0, 0)), (some bm, kobj lst)]
    refine DL.pu 33 (.int .i64 (ts.length : Int)) rfl (p_slLen ty_u22 (OwnS.sl hown) rfl rfl) ?_
    refine DL.pu 34 (.int .i64 0) rfl (p_move rfl rfl) ?_
    refine DL.nil ?_
    refine TT.block (c := sub [1, 0, 1, 1, 1, 1, 0, 1, 0] B37) ?_
    refine TT.freezeAt (j := 0) hE rfl ?_
    intro M1 I1 hE1 hx1 hxI1 hb1
    have hrow : RowS ShTm M1 tv ts := OwnS.stays hown hx1 hb1
    refine TT.loop (c := sub [1, 0, 1, 1, 1, 1, 0, 1, 0, 0] B37) ?_
    have htl : ts.length ≤ 1099511627776 := by rw [hperm.length_eq, List.length_map]; exact hlen
    refine TT.pick [1] (by decide) (TT.weak (learn_outer (Mb := M1) (d := ts.length) (j := 0) hG hL hGK htl (fun t ht => hperm.mem_iff.1 ht) (hx.trans hx1) ?_ ?_ M1 I1 (by omega) hE1 (Ext.refl _) (hx1 _ _ hfm) (hK.mono hx1) hrow (by simp)) (Sub.cons rfl (Sub.cons rfl (Sub.cons rfl (Sub.cons rfl (Sub.cons rfl (Sub.nil _)))))))
    · intro hcl M2 I2 hE2 hx2
      refine TT.seq (x := sub [1, 0, 1, 1, 1, 1, 1, 0] B37) (y := sub [1, 0, 1, 1, 1, 1, 1, 1] B37) ?_
      refine TT.region (id := 20) (n := 2) (ops := opsOf (sub [1, 0, 1, 1, 1, 1, 1, 0] B37)) [(.pure, none), (.pure, none)] rfl ?_
      show DL _ _ _ _ _ _ _ _ _ _ [0, 1] _ _
      refine DL.pu 59 (.map (some bm)) rfl (p_move rfl rfl) ?_
      refine DL.pu 2 (.map (some bm)) rfl (p_assign rfl rfl) ?_
      refine DL.nil ?_
      refine TT.freezeAt (j := 0) hE2 rfl ?_
      intro M3 I3 hE3 hx3 hxI3 hb3
      show TT _ _ _ _ _ _ _ _ []
      refine retF (rs := [.tmp 2]) (vs := [.map (some bm)]) bm hE3 Tryd.func37 rfl rfl rfl (res_cons (ResV.tmp rfl) res_nil) ⟨K, n, hGK, fun t ht => hcl t (hperm.mem_iff.2 ht), _, K, hb3 _ rfl, ⟨lst, rfl, hK.mono ((hx1.trans hx2).trans hx3)⟩, hL.nodup hGK, List.Perm.refl _⟩
    · intro M2 I2 K' m lst' hE2 hx2 hm hGm hK2
      exact ih m hm K' M2 I2 lst' hGm hE2 ((hx.trans hx1).trans hx2) ((hx1.trans hx2) _ _ hfm) hK2
set_option maxRecDepth 20000 in
theorem learn_first (hG : Glob M0) {fm bm : Nat} {xs : List Tm} {xv : Value} (hxl : xs.length ≤ 1099511627776) {K0 : KM} (hrow : RowS ShTm M0 xv xs)
    (hk : ∀ M I lst, Env w M0 M I → Ext M0 M → M fm = some FormsO → KRep ShTm M lst K0 → TT Tryd.prog 37 R 60 w I [.code (sub [1, 0, 1, 1, 1] B37), .inScope (sub [1, 0] B37)] [(3, .map (some fm)), (4, .map (some bm))] [(some bm, kobj lst)]) :
    ∀ (d i : Nat) (K : KM) (M I : Mem) (lst : List (List UInt8 × Value)), xs.length - i = d → learnIn (xs.drop i) K = some K0 → Env w M0 M I → Ext M0 M → M fm = some FormsO → KRep ShTm M lst K →
      TT Tryd.prog 37 R 60 w I [.code (sub [1, 0, 1, 1, 0, 1, 0, 0] B37), .inLoop (sub [1, 0, 1, 1, 0, 1, 0, 0] B37), .inBlock 0, .code (sub [1, 0, 1, 1, 1] B37), .inScope (sub [1, 0] B37)] [(3, .map (some fm)), (4, .map (some bm)), (15, xv), (16, .int .i64 (xs.length : Int)), (17, .int .i64 (i : Int))] [(some bm, kobj lst)] := by
  intro d
  induction d with
  | zero =>
    intro i K M I lst hn h hE hx hfm hK
    refine TT.seq (x := sub [1, 0, 1, 1, 0, 1, 0, 0, 0] B37) (y := sub [1, 0, 1, 1, 0, 1, 0, 0, 1] B37) ?_
    refine TT.region (id := 4) (n := 1) (ops := opsOf (sub [1, 0, 1, 1, 0, 1, 0, 0, 0] B37)) [(.pure, none)] rfl ?_
    show DL _ _ _ _ _ _ _ _ _ _ [0] _ _
    refine DL.pu 18 (.bool (decide ((i : Int) < (xs.length : Int)))) rfl (p_lss rfl rfl rfl) ?_
    refine DL.nil ?_
    refine TT.seq (x := sub [1, 0, 1, 1, 0, 1, 0, 0, 1, 0] B37) (y := sub [1, 0, 1, 1, 0, 1, 0, 0, 1, 1] B37) ?_
    refine TT.cond_false (x := sub [1, 0, 1, 1, 0, 1, 0, 0, 1, 0, 0] B37) (y := sub [1, 0, 1, 1, 0, 1, 0, 0, 1, 0, 1] B37) rfl (by simp; omega) ?_
    refine TT.exit rfl ?_
    rw [List.drop_eq_nil_of_le (by omega)] at h
    obtain rfl : K = K0 := Option.some.inj h
    exact TT.weak (hk M I lst hE hx hfm hK) (Sub.cons rfl (Sub.cons rfl (Sub.nil _)))
  | succ d ih =>
    intro i K M I lst hn h hE hx hfm hK
    have hi : i < xs.length := by omega
    refine TT.seq (x := sub [1, 0, 1, 1, 0, 1, 0, 0, 0] B37) (y := sub [1, 0, 1, 1, 0, 1, 0, 0, 1] B37) ?_
    refine TT.region (id := 4) (n := 1) (ops := opsOf (sub [1, 0, 1, 1, 0, 1, 0, 0, 0] B37)) [(.pure, none)] rfl ?_
    show DL _ _ _ _ _ _ _ _ _ _ [0] _ _
    refine DL.pu 18 (.bool (decide ((i : Int) < (xs.length : Int)))) rfl (p_lss rfl rfl rfl) ?_
    refine DL.nil ?_
    refine TT.seq (x := sub [1, 0, 1, 1, 0, 1, 0, 0, 1, 0] B37) (y := sub [1, 0, 1, 1, 0, 1, 0, 0, 1, 1] B37) ?_
    refine TT.cond_true (x := sub [1, 0, 1, 1, 0, 1, 0, 0, 1, 0, 0] B37) (y := sub [1, 0, 1, 1, 0, 1, 0, 0, 1, 0, 1] B37) rfl (by simp; omega) ?_
    refine TT.skip ?_
    refine TT.seq (x := sub [1, 0, 1, 1, 0, 1, 0, 0, 1, 1, 0] B37) (y := sub [1, 0, 1, 1, 0, 1, 0, 0, 1, 1, 1] B37) ?_
    refine TT.block (c := sub [1, 0, 1, 1, 0, 1, 0, 0, 1, 1, 0, 0] B37) ?_
    refine TT.seq (x := sub [1, 0, 1, 1, 0, 1, 0, 0, 1, 1, 0, 0, 0] B37) (y := sub [1, 0, 1, 1, 0, 1, 0, 0, 1, 1, 0, 0, 1] B37) ?_
    refine TT.region (id := 5) (n := 4) (ops := opsOf (sub [1, 0, 1, 1, 0, 1, 0, 0, 1, 1, 0, 0, 0] B37)) [(.pure, none), (.pure, none), (.alloc, none), (.store, none)] rfl ?_
    show DL _ _ _ _ _ _ _ _ _ _ [0, 1, 2, 3] _ _
    have hrowM : RowS ShTm M xv xs := RowS.mono hrow hx
    refine DL.pu 19 (elp xv (((i : Int)).toNat * 3)) rfl (p_slIx (i := (i : Int)) ty_u22 ty_s25 (RowS.some (i := (i : Int)) hrowM (by omega) (by omega)) (by omega) (by omega) rfl rfl rfl) ?_
    obtain ⟨t, et⟩ : ∃ y, y = xs.getD i Tm.dflt := ⟨_, rfl⟩
    obtain ⟨cst, hct, hlt⟩ := id hrowM
    have qt := hlt i _ (getD_some Tm.dflt (by omega)); rw [← et] at qt
    obtain ⟨tk, hqt, hrt⟩ := Tm.op qt
    refine DL.imm (v := .agg #[.int .i64 (Tm.kind t), .int .i64 (Tm.num t), tk]) rfl (Wn.none rfl) rfl rfl rfl (i_loadElA (RowV.mono hct hE.mi) hqt (fm_mem (by omega)) ty_a25 ty_s25 rfl rfl) ?_
    refine DL.new (ob := .cells (#[.int .i64 0, .int .i64 0, (.slice none 0 0)]) 25) (mk := fun b => ptr b 0) (i := 2) rfl (Wn.none rfl) rfl rfl rfl (f_alloc ty_z25 rfl) ?_
    intro b6 hb6
    refine DL.put (H' := (some b6, .cells (#[.int .i64 (Tm.kind t), .int .i64 (Tm.num t), tk]) 25 (0, 0)) :: [(some bm, kobj lst)]) (i := 3) rfl (Wn.none rfl) rfl rfl (f_storeA (j := 0) ty_s25 rfl rfl rfl (one_cons trivial (one_cons trivial (one_cons (sl_one (RowS.sl hrt)) one_nil))) rfl rfl rfl) (keep_none rfl) ?_
    refine DL.nil ?_
    have hd : xs.drop i = t :: xs.drop (i + 1) := by rw [List.drop_eq_getElem_cons hi, et]; simp [hi]
    rw [hd] at h
    obtain ⟨r, hr, h2⟩ := bind_some (show (terms_order.f (Tm.fuel t) t).bind _ = some K0 from h)
    obtain ⟨s, hs, h3⟩ := bind_some h2
    refine TT.seq (x := sub [1, 0, 1, 1, 0, 1, 0, 0, 1, 1, 0, 0, 1, 0] B37) (y := sub [1, 0, 1, 1, 0, 1, 0, 0, 1, 1, 0, 0, 1, 1] B37) ?_
    refine TT.region (id := 6) (n := 5) (ops := opsOf (sub [1, 0, 1, 1, 0, 1, 0, 0, 1, 1, 0, 0, 1, 0] B37)) [(.quiet, none), (.pure, none), (.keep, none), (.alloc, none), (.store, none)] rfl ?_
    show DL _ _ _ _ _ _ _ _ _ _ [0, 1, 2, 3, 4] _ _
    refine DL.qu 21 (.agg #[.int .i64 (Tm.kind t), .int .i64 (Tm.num t), tk]) rfl (f_loadA (j := 0) ty_a25 ty_s25 rfl rfl rfl rfl) ?_
    refine DL.pu 22 (.map (some fm)) rfl (p_move rfl rfl) ?_
    refine DL.callF (G := Value) (u := fun g => .agg #[.int .i64 (Tm.kind r), .int .i64 (Tm.num r), g]) (Q := fun g M_ => (RowS ShTm M_ g (Tree.kids r))) (A := (some b6, .cells (#[.int .i64 (Tm.kind t), .int .i64 (Tm.num t), tk]) 25 (0, 0)) :: (some bm, kobj lst) :: []) (J := []) (fun J1 => (some b6, .cells (#[.int .i64 (Tm.kind t), .int .i64 (Tm.num t), tk]) 25 (0, 0)) :: (some bm, kobj lst) :: J1) (Nat.le_refl _) hE.nil (List.append_nil _).symm (fun _ => rfl) (by simp) (i := 2) rfl (Wn.none rfl) rfl rfl rfl rfl rfl rfl (args_val (vs := [.agg #[.int .i64 (Tm.kind t), .int .i64 (Tm.num t), tk], .map (some fm)]) rfl) (fun w => enter39 _ w) (fun w1 hc hI => terms_order.ok hr (M := M) w1 hI (Glob.mono hG hx) hrt hfm) ?_
    intro rk M1 J1 hE1 hx1 hrr
    refine DL.new (ob := .cells (#[.int .i64 0, .int .i64 0, (.slice none 0 0)]) 25) (mk := fun b => ptr b 0) (i := 3) rfl (Wn.none rfl) rfl rfl rfl (f_alloc ty_z25 rfl) ?_
    intro b7 hb7
    refine DL.put (H' := (some b7, .cells (#[.int .i64 (Tm.kind r), .int .i64 (Tm.num r), rk]) 25 (0, 0)) :: (some b6, .cells (#[.int .i64 (Tm.kind t), .int .i64 (Tm.num t), tk]) 25 (0, 0)) :: (some bm, kobj lst) :: J1) (i := 4) rfl (Wn.none rfl) rfl rfl (f_storeA (j := 0) ty_s25 rfl rfl rfl (one_cons trivial (one_cons trivial (one_cons (sl_one (RowS.sl hrr)) one_nil))) rfl rfl rfl) (keep_none rfl) ?_
    refine DL.nil ?_
    refine TT.settle (A := (some b7, .cells (#[.int .i64 (Tm.kind r), .int .i64 (Tm.num r), rk]) 25 (0, 0)) :: (some b6, .cells (#[.int .i64 (Tm.kind t), .int .i64 (Tm.num t), tk]) 25 (0, 0)) :: (some bm, kobj lst) :: []) (J := J1) hE1 ?_
    intro I1 hE1 hxI1
    refine TT.regionD (id := 7) (ops := (opsOf (sub [1, 0, 1, 1, 0, 1, 0, 0, 1, 1, 0, 0, 1, 1] B37))) [0, 1, 2, 3, 4, 5] [0, 0, 0, 6, 0, 31] [(.pure, none), (.look, some 0), (.pure, none), (.quiet, none), (.look, some 0), (.store, none)] mixed (by kernel_rfl) ?_
    intro w2 hl2 hj2 hz2
    refine DL.pu 24 (.map (some bm)) rfl (p_move rfl rfl) ?_
    refine DL.look (v := .agg #[.int .i64 (Tm.kind r), .int .i64 (Tm.num r), rk]) (x := 0) (b := b7) (i := 1) rfl (Wn.none rfl) rfl rfl rfl rfl rfl (List.mem_of_getElem? (i := 0) rfl) (b_loadA ty_a25 ty_s25 rfl rfl rfl) ?_
    refine DL.pu 26 (.map (some fm)) rfl (p_move rfl rfl) ?_
    refine DL.qu 27 (str s) rfl (f_callR rfl rfl (args_val (vs := [.agg #[.int .i64 (Tm.kind r), .int .i64 (Tm.num r), rk], .map (some fm)]) rfl) (fun w => enter48 _ w) (fun w1 hc => terms_text.val hs (M := M1) w1 (hE1.ext hc) (Glob.mono hG (hx.trans hx1)) hrr (hx1 _ _ hfm))) ?_
    refine DL.look (v := .agg #[.int .i64 (Tm.kind r), .int .i64 (Tm.num r), rk]) (x := 0) (b := b7) (i := 4) rfl (Wn.none rfl) rfl rfl rfl rfl rfl (List.mem_of_getElem? (i := 0) rfl) (b_loadA ty_a25 ty_s25 rfl rfl rfl) ?_
    refine DL.put (H' := [(some b7, .cells (#[.int .i64 (Tm.kind r), .int .i64 (Tm.num r), rk]) 25 (0, 0)), (some b6, .cells (#[.int .i64 (Tm.kind t), .int .i64 (Tm.num t), tk]) 25 (0, 0)), (some bm, kobj (vset s (.agg #[.int .i64 (Tm.kind r), .int .i64 (Tm.num r), rk]) lst))]) (i := 5) rfl (Wn.none rfl) rfl rfl (f_updateS (j := 2) ty_u56 ty_u9 rfl rfl rfl rfl rfl) (keep_none rfl) ?_
    refine DL.nil' hl2 ?_
    refine TT.inBlock ?_
    refine TT.region (id := 8) (n := 2) (ops := opsOf (sub [1, 0, 1, 1, 0, 1, 0, 0, 1, 1, 1] B37)) [(.pure, none), (.pure, none)] rfl ?_
    show DL _ _ _ _ _ _ _ _ _ _ [0, 1] _ _
    refine DL.pu 29 (.int .i64 ((i + 1 : Nat) : Int)) rfl (wrap_succ (i := i) (by omega) ▸ p_add rfl rfl rfl) ?_
    refine DL.pu 17 (.int .i64 ((i + 1 : Nat) : Int)) rfl (p_move rfl rfl) ?_
    refine DL.nil ?_
    refine TT.inLoop ?_
    exact TT.pick [2] (by decide) (TT.weak (ih (i + 1) _ M1 I1 _ (by omega) h3 hE1 (hx.trans hx1) (hx1 _ _ hfm) (KRep.set s (cs := [.int .i64 (Tm.kind r), .int .i64 (Tm.num r), rk]) (Tm.cl (t := r) hrr) (hK.mono hx1))) (Sub.cons rfl (Sub.cons rfl (Sub.cons rfl (Sub.cons rfl (Sub.cons rfl (Sub.nil _)))))))
set_option maxRecDepth 20000 in
theorem learn_ok {G : KM → Nat → Prop} (hL : Learns G) {xs : List Tm} {xv : Value} (hxl : xs.length ≤ 1099511627776) {K0 : KM} {n : Nat} (h : learnIn xs [] = some K0) (hG0 : G K0 n) {M : Mem} (w : World) (hM : Ext M (heapOf w)) (hG : Glob M) (hrow : RowS ShTm M xv xs) : Calls Tryd.prog 37 #[xv] w (LearnR G M w) := by
  have hE := Env.start hM
  refine calls_of_TT (N := 60) (S := [(0, xv)]) (c := B37) Tryd.func37 rfl rfl rfl (by simp) ?_
  show TT _ _ _ _ _ _ [.code (sub [] B37)] _ _
  refine TT.seq (x := sub [0] B37) (y := sub [1] B37) ?_
  refine TT.region (id := 0) (n := 1) (ops := opsOf (sub [0] B37)) [(.pure, none)] rfl ?_
  show DL _ _ _ _ _ _ _ _ _ _ [0] _ _
  refine DL.pu 2 (.map none) rfl (p_assign rfl rfl) ?_
  refine DL.nil ?_
  refine TT.scope (c := sub [1, 0] B37) ?_
  refine TT.seq (x := sub [1, 0, 0] B37) (y := sub [1, 0, 1] B37) ?_
  refine TT.region (id := 1) (n := 2) (ops := opsOf (sub [1, 0, 0] B37)) [(.keep, none), (.pure, none)] rfl ?_
  show DL _ _ _ _ _ _ _ _ _ _ [0, 1] _ _
  refine DL.callF (G := Nat) (u := fun g => .map (some g)) (Q := fun g M_ => (M_ g = some FormsO)) (A := []) (J := []) (fun J1 => J1) (Nat.le_refl _) hE.nil (List.append_nil _).symm (fun _ => rfl) (by simp) (i := 0) rfl (Wn.none rfl) rfl rfl rfl rfl rfl rfl (args_val (vs := []) rfl) (fun w => enter40 _ w) (fun w1 hc hI => terms_forms.ok rfl (M := M) w1 hI) ?_
  intro fm M1 J1 hE1 hx1 hfm
  refine DL.pu 3 (.map (some fm)) rfl (p_assign rfl rfl) ?_
  refine DL.nil ?_
  refine TT.settle (A := []) (J := J1) hE1 ?_
  intro I1 hE1 hxI1
  refine TT.seq (x := sub [1, 0, 1, 0] B37) (y := sub [1, 0, 1, 1] B37) ?_
  refine TT.region (id := 2) (n := 2) (ops := opsOf (sub [1, 0, 1, 0] B37)) [(.alloc, none), (.pure, none)] rfl ?_
  show DL _ _ _ _ _ _ _ _ _ _ [0, 1] _ _
  refine DL.new (ob := kobj []) (mk := fun b => .map (some b)) (i := 0) rfl (Wn.none rfl) rfl rfl rfl (f_makeMapS rfl) ?_
  intro bm hbm
  refine DL.pu 4 (.map (some bm)) rfl (p_assign rfl rfl) ?_
  refine DL.nil ?_
  refine TT.seq (x := sub [1, 0, 1, 1, 0] B37) (y := sub [1, 0, 1, 1, 1] B37) ?_
  refine TT.seq (x := sub [1, 0, 1, 1, 0, 0] B37) (y := sub [1, 0, 1, 1, 0, 1] B37) ?_
  refine TT.region (id := 3) (n := 3) (ops := opsOf (sub [1, 0, 1, 1, 0, 0] B37)) [(.pure, none), (.pure, none), (.pure, none)] rfl ?_
  show DL _ _ _ _ _ _ _ _ _ _ [0, 1, 2] _ _
  refine DL.pu 15 xv rfl (p_move rfl rfl) ?_
  refine DL.pu 16 (.int .i64 (xs.length : Int)) rfl (p_slLen ty_u22 (RowS.sl hrow) rfl rfl) ?_
  refine DL.pu 17 (.int .i64 0) rfl (p_move rfl rfl) ?_
  refine DL.nil ?_
  refine TT.block (c := sub [1, 0, 1, 1, 0, 1, 0] B37) ?_
  refine TT.loop (c := sub [1, 0, 1, 1, 0, 1, 0, 0] B37) ?_
  refine TT.weak (learn_first hG hxl hrow (fun M2 I2 lst hE2 hx2 hfm2 hK2 => ?_) xs.length 0 [] M1 I1 [] (by omega) h hE1 hx1 hfm trivial) (Sub.cons rfl (Sub.cons rfl (Sub.cons rfl (Sub.cons rfl (Sub.cons rfl (Sub.nil _))))))
  refine TT.seq (x := sub [1, 0, 1, 1, 1, 0] B37) (y := sub [1, 0, 1, 1, 1, 1] B37) ?_
  refine TT.label ?_
  exact learn_label hG hL n K0 M2 I2 lst hG0 hE2 hx2 hfm2 hK2
end
end Go.Proofs.YtfbogkhgfaibbaaDoor
end
