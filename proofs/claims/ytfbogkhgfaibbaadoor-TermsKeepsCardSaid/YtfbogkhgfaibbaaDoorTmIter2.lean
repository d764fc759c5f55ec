import Derived.Test.YtfbogkhgfaibbaaDoorTmIter
import Derived.Test.YtfbogkhgfaibbaaDoorHw25
namespace Go.Proofs.YtfbogkhgfaibbaaDoor
open Go Go.HW Go.RowKit
set_option linter.unusedVariables false
set_option linter.unusedSimpArgs false

/-! ### slices.AppendSeq, slices.Collect, of maps.Values -/
noncomputable def B75 : Code := bodyOf Tryd.f75
/-- What has come, and where it lies. -/
abbrev StA (M : Mem) : Type := {x : List Tm × Value × Array Value // OwnS ShTm M x.2.1 x.2.2 x.1}
abbrev EA {M : Mem} (rec : Loop) (l Bs : Nat) (s : StA M) : Heap := [(some l, .loop rec), (some Bs, .cells #[s.1.2.1] 22 (0, 0)), (Value.ownBlock s.1.2.1, .cells s.1.2.2 25 (0, 0))]
abbrev stepA {M : Mem} (s : StA M) (x : Tm) (t : StA M) : Prop := t.1.1 = s.1.1 ++ [x]
theorem StA.steps {M : Mem} : ∀ {xs : List Tm} {s s' : StA M}, Steps stepA s xs s' → s'.1.1 = s.1.1 ++ xs
  | [], s, s', h => by rw [show s' = s from h]; simp
  | x :: xs, s, s', ⟨t, h1, h2⟩ => by rw [StA.steps h2, h1]; simp
theorem inBlock_normal {id : Nat} {Q : Exit → Act → World → Prop} {a : Act} {w : World} (h : Q .normal a w) : Exit.inBlock id Q .normal a w := h
theorem set_last {α : Type} (xs : List α) (a b : α) : (xs ++ [a]).set ((xs.length : Int)).toNat b = xs ++ [b] := by simp
set_option maxRecDepth 20000 in
theorem appRound {M I : Mem} {rec : Loop} {l Bs : Nat} {x : Tm} {k : Value} (hMI : Ext M I) (hst : rec.state = .ready) (hpe : rec.pending = none) (hps : rec.params = #[7]) (has : rec.assign = sub [1, 0, 1, 0, 0] B75) (hbo : rec.body = sub [1, 0, 1, 0, 1] B75)
    (hag : Agree 15 [(2, ptr Bs 0)] { tmps := rec.tmps, defers := [] }) (s : StA M) (hlen : s.1.1.length < 1099511627776) (hk : RowS ShTm M k (Tree.kids x)) :
    RoundTurn Tryd.prog l I (.agg #[.int .i64 (Tm.kind x), .int .i64 (Tm.num x), k]) (EA rec l Bs s) (fun t => stepA s x t) (fun _ => true) (EA rec l Bs) := fun w0 I' A w hI hc => by
  have hM : ∀ {H : Heap} (w : World), Cls w0 I' H w → Imm M w := fun w hc b o e => hc.imm b o (hI b o (hMI b o e))
  refine round_of_CI (N := 15) (S := [(7, .agg #[.int .i64 (Tm.kind x), .int .i64 (Tm.num x), k]), (2, ptr Bs 0)]) (w0 := w0) (I := I') (p := 7) hps (hc.own l _ List.mem_cons_self) (hag.put (by decide) _) hc ?_
  rw [has, hbo]
  refine CI.rg (id := 2) [0, 1] [(.alloc, none), (.store, none)] rfl rfl (by kernel_rfl) ?_
  refine DL.new (ob := .cells (#[.int .i64 0, .int .i64 0, .slice none 0 0]) 25) (mk := fun b => ptr b 0) (i := 0) rfl (Wn.none rfl) rfl rfl rfl (f_alloc ty_z25 rfl) ?_
  intro b5 hb5
  refine DL.put (H' := (some b5, .cells (#[.int .i64 (Tm.kind x), .int .i64 (Tm.num x), k]) 25 (0, 0)) :: (EA rec l Bs s ++ A)) (i := 1) rfl (Wn.none rfl) rfl rfl (f_storeA (j := 0) ty_s25 rfl rfl rfl (one_cons trivial (one_cons trivial (one_cons (sl_one (RowS.sl hk)) one_nil))) rfl rfl rfl) (keep_none rfl) ?_
  refine DK.nil (begin_body (j := 1) rfl hst ?_)
  refine CI.block (c := sub [1, 0, 1, 0, 1, 0] B75) ?_
  show CI _ _ _ _ _ _ _ _ _ ((some b5, .cells (#[.int .i64 (Tm.kind x), .int .i64 (Tm.num x), k]) 25 (0, 0)) :: (some l, .loop { rec with state := .busy }) :: (some Bs, .cells #[s.1.2.1] 22 (0, 0)) :: (Value.ownBlock s.1.2.1, .cells s.1.2.2 25 (0, 0)) :: A)
  refine CI.rgDL (id := 3) [0, 2] [0, 1, 2, 3, 4, 5, 6, 7] [0, 0, 1, 0, 15, 31, 63, 31] [(.look, some 2), (.look, some 0), (.pure, none), (.alloc, none), (.actx, none), (.pure, none), (.storeB, none), (.storeB, some 2)] rfl mixed (by kernel_rfl) (by kernel_rfl) ?_
  intro w1 hl1
  refine DL.look (v := s.1.2.1) (x := 2) (b := Bs) (i := 0) rfl (Wn.none rfl) rfl rfl rfl rfl rfl (List.mem_of_getElem? (i := 2) rfl) (b_load ty_a22 rfl rfl rfl) ?_
  refine DL.look (v := .agg #[.int .i64 (Tm.kind x), .int .i64 (Tm.num x), k]) (x := 0) (b := b5) (i := 1) rfl (Wn.none rfl) rfl rfl rfl rfl rfl (List.mem_of_getElem? (i := 0) rfl) (b_loadA ty_a25 ty_s25 rfl rfl rfl) ?_
  refine DL.pu 10 (.int .i64 (s.1.1.length : Int)) rfl (p_slLen ty_u22 (OwnS.sl s.2) rfl rfl) ?_
  refine DL.newS (M := M) (s := ShTm) (zs := [Tm.mk 0 0 ([] : List Tm)]) (cells := [.int .i64 0, .int .i64 0, (.slice none 0 0)]) (n := 1) rfl (by decide) rfl (fun i x hx => by match i, hx with | 0, hx => cases hx; exact (Tm.cl (t := Tm.mk 0 0 ([] : List Tm)) (RowS.nil ShTm M)) | k + 1, hx => simp at hx) (i := 3) rfl (Wn.none rfl) rfl rfl rfl (f_buildS (n := 1) (vs := [(0, .agg #[.int .i64 0, .int .i64 0, (.slice none 0 0)])]) elem22 rfl rfl (by kernel_rfl) rfl (args_val2 rfl)) ?_
  intro s3_v s3_c ho_s3
  have g4 : s.1.1.length + [Tm.mk 0 0 ([] : List Tm)].length ≤ 1099511627776 := hlen
  refine DL.appendS (M := M) (s := ShTm) (fun s6_v s6_c => (Value.ownBlock s3_v, .cells s3_c 25 (0, 0)) :: (some b5, .cells (#[.int .i64 (Tm.kind x), .int .i64 (Tm.num x), k]) 25 (0, 0)) :: (some l, .loop { rec with state := .busy }) :: (some Bs, .cells #[s.1.2.1] 22 (0, 0)) :: (Value.ownBlock s6_v, .cells s6_c 25 (0, 0)) :: A) elem22 (j := 4) rfl s.2 g4 (by decide) (OwnS.src (i := 0) ho_s3 rfl) (i := 4) rfl (Wn.none rfl) rfl rfl rfl rfl rfl rfl (fun _ _ => rfl) ?_
  intro s6_v s6_c ho_s6
  show DK _ _ _ _ _ _ _ _ _ _ ((Value.ownBlock s3_v, .cells s3_c 25 (0, 0)) :: (some b5, .cells (#[.int .i64 (Tm.kind x), .int .i64 (Tm.num x), k]) 25 (0, 0)) :: (some l, .loop { rec with state := .busy }) :: (some Bs, .cells #[s.1.2.1] 22 (0, 0)) :: (Value.ownBlock s6_v, .cells s6_c 25 (0, 0)) :: A)
  have g7 : 0 ≤ (s.1.1.length : Int) := Int.natCast_nonneg _
  have g9 : (s.1.1.length : Int) < ((s.1.1 ++ [Tm.mk 0 0 ([] : List Tm)]).length : Int) := by simp; omega
  refine DL.pu 13 (elp s6_v (((s.1.1.length : Int).toNat) * 3)) rfl (p_slIx ty_u22 ty_s25 (OwnS.some ho_s6 g7 g9) g7 g9 rfl rfl rfl) ?_
  obtain ⟨c11, c11_e⟩ : ∃ c, c = splice s6_c (((s.1.1.length : Int).toNat) * 3) [.int .i64 (Tm.kind x), .int .i64 (Tm.num x), k] := ⟨_, rfl⟩
  have ho_12 : OwnS ShTm M s6_v c11 (s.1.1 ++ [x]) := by
    rw [c11_e, ← set_last s.1.1 (Tm.mk 0 0 []) x]
    exact OwnS.set ho_s6 (lt_len g7 g9) (Tm.cl (t := x) hk) rfl
  refine DL.inh fun ⟨wq, hq⟩ => ?_
  have hne : ∀ z b, (if [0, 2].contains z then idsOf ((some b5, Obj.cells (#[.int .i64 (Tm.kind x), .int .i64 (Tm.num x), k]) 25 (0, 0)) :: (some l, .loop { rec with state := .busy }) :: (some Bs, .cells #[s.1.2.1] 22 (0, 0)) :: (Value.ownBlock s.1.2.1, .cells s.1.2.2 25 (0, 0)) :: A) z else none) = some b → Value.ownBlock s6_v ≠ some b := fun z b hz e => by
    split at hz
    · rename_i hcz
      have hz2 : z = 0 ∨ z = 2 := by simpa using hcz
      have hrow : ((Value.ownBlock s3_v, Obj.cells s3_c 25 (0, 0)) :: (some b5, Obj.cells (#[.int .i64 (Tm.kind x), .int .i64 (Tm.num x), k]) 25 (0, 0)) :: (some l, Obj.loop { rec with state := .busy }) :: (some Bs, .cells #[s.1.2.1] 22 (0, 0)) :: (Value.ownBlock s6_v, .cells s6_c 25 (0, 0)) :: A)[4]? = some (some b, .cells s6_c 25 (0, 0)) := by rw [← e]; rfl
      rcases hz2 with rfl | rfl
      · have hb : b5 = b := Option.some.inj hz
        subst hb
        have := ids_unique (i := 1) (j := 4) hq.nodup rfl hrow
        omega
      · have hb : Bs = b := Option.some.inj hz
        subst hb
        have := ids_unique (i := 3) (j := 4) hq.nodup rfl hrow
        omega
    · cases hz
  refine DL.putB (r := Value.ownBlock s6_v) (ob := .cells s6_c 25 (0, 0)) (ob' := .cells c11 25 (0, 0)) (T := (Value.ownBlock s3_v, .cells s3_c 25 (0, 0)) :: (some b5, .cells (#[.int .i64 (Tm.kind x), .int .i64 (Tm.num x), k]) 25 (0, 0)) :: (some l, .loop { rec with state := .busy }) :: (some Bs, .cells #[s.1.2.1] 22 (0, 0)) :: A)
    (H' := (Value.ownBlock s3_v, .cells s3_c 25 (0, 0)) :: (some b5, .cells (#[.int .i64 (Tm.kind x), .int .i64 (Tm.num x), k]) 25 (0, 0)) :: (some l, .loop { rec with state := .busy }) :: (some Bs, .cells #[s.1.2.1] 22 (0, 0)) :: (Value.ownBlock s6_v, .cells c11 25 (0, 0)) :: A) (i := 6) rfl (Wn.none rfl) rfl rfl ?_ ?_ (fun T => by rw [c11_e]; exact f_storeElA (j := 0) (vs := [.int .i64 (Tm.kind x), .int .i64 (Tm.num x), k]) ty_s25 rfl (OwnS.V ho_s6).choose_spec (lt_len g7 g9) rfl (one_cons trivial (one_cons trivial (one_cons (sl_one (RowS.sl hk)) one_nil))) rfl rfl rfl) hne ?_
  · exact List.perm_middle (l₁ := [_, _, _, _])
  · exact List.perm_middle (l₁ := [_, _, _, _])
  refine DL.putB (r := some Bs) (ob := .cells #[s.1.2.1] 22 (0, 0)) (ob' := .cells #[s6_v] 22 (0, 0)) (T := (Value.ownBlock s3_v, .cells s3_c 25 (0, 0)) :: (some b5, .cells (#[.int .i64 (Tm.kind x), .int .i64 (Tm.num x), k]) 25 (0, 0)) :: (some l, .loop { rec with state := .busy }) :: (Value.ownBlock s6_v, .cells c11 25 (0, 0)) :: A)
    (H' := (Value.ownBlock s3_v, .cells s3_c 25 (0, 0)) :: (some b5, .cells (#[.int .i64 (Tm.kind x), .int .i64 (Tm.num x), k]) 25 (0, 0)) :: (some l, .loop { rec with state := .busy }) :: (some Bs, .cells #[s6_v] 22 (0, 0)) :: (Value.ownBlock s6_v, .cells c11 25 (0, 0)) :: A) (i := 7) rfl (Wn.none rfl) rfl rfl ?_ ?_ (fun T => f_store (c := #[s.1.2.1]) (v := s6_v) (off := 0) (j := 0) ty_s22 rfl (sl_cells (OwnS.sl ho_s6)) (of_decide_eq_true rfl) (sl_one (OwnS.sl ho_s6)) rfl rfl rfl) ⟨rfl, (fun h => by cases h), fun z b hz hb e => ?_⟩ ?_
  · exact List.perm_middle (l₁ := [_, _, _])
  · exact List.perm_middle (l₁ := [_, _, _])
  · have hn0 := hq.nodup
    have e' : Bs = b := Option.some.inj e
    subst e'
    split at hb
    · rename_i hcz
      have hz2 : z = 0 ∨ z = 2 := by simpa using hcz
      rcases hz2 with rfl | rfl
      · have hb' : b5 = Bs := Option.some.inj hb
        subst hb'
        have := ids_unique (i := 1) (j := 3) hn0 rfl rfl
        omega
      · exact hz rfl
    · cases hb
  refine DK.nil fun a' w' ha' hc' => ?_
  refine inBlock_normal ?_
  refine end_round (j := 2) rfl (fun w'' hc'' => ?_) (wd [] a') w' (hc'.later hl1)
  refine ⟨⟨(s.1.1 ++ [x], s6_v, c11), ho_12⟩, rfl, rfl, ?_⟩
  have hrec : ({ ({ rec with state := .busy } : Loop) with state := .ready, pending := none } : Loop) = rec := by
    cases rec; simp only at hst hpe; subst hst; subst hpe; rfl
  rw [hrec] at hc''
  exact (show Cls w0 I' ((Value.ownBlock s3_v, .cells s3_c 25 (0, 0)) :: (some b5, .cells (#[.int .i64 (Tm.kind x), .int .i64 (Tm.num x), k]) 25 (0, 0)) :: (some l, .loop rec) :: (some Bs, .cells #[s6_v] 22 (0, 0)) :: (Value.ownBlock s6_v, .cells c11 25 (0, 0)) :: A) w'' from hc'').tail.tail
end Go.Proofs.YtfbogkhgfaibbaaDoor
