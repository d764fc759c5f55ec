import Derived.Test.YtfbogkhgfaibbaaDoorTmY
import Derived.Test.YtfbogkhgfaibbaaDoorHw26
import Derived.Test.YtfbogkhgfaibbaaDoorTa8
import Derived.Test.YtfbogkhgfaibbaaDoorTb1
section
namespace Go.Proofs.YtfbogkhgfaibbaaDoor
open Go Go.HW Go.RowKit
set_option linter.unusedVariables false
set_option linter.unusedSimpArgs false

/-! ### terms.Parts: functions 41, 63, 64 -/
mutual
def pre : Tm → List Tm
  | .node p ks => .node p ks :: pres ks
def pres : List Tm → List Tm
  | [] => []
  | t :: r => pre t ++ pres r
end
theorem pre_eq (t : Tm) : pre t = t :: pres (Tree.kids t) := by cases t; rw [pre]; rfl
/-- A run over these, that may be stopped. -/
def Run {σ α : Type} (step : σ → α → σ → Prop) (b : σ → Bool) : σ → List α → Bool → σ → Prop
  | s, [], r, s' => r = true ∧ s' = s
  | s, x :: xs, r, s'' => ∃ s', step s x s' ∧ ((b s' = true ∧ Run step b s' xs r s'') ∨ (b s' = false ∧ r = false ∧ s'' = s'))
theorem Run.app {σ α : Type} {step : σ → α → σ → Prop} {b : σ → Bool} : ∀ {s : σ} {xs ys : List α} {s' s'' : σ} {r : Bool}, Run step b s xs true s' → Run step b s' ys r s'' → Run step b s (xs ++ ys) r s''
  | s, [], ys, s', s'', r, ⟨_, h⟩, h2 => by subst h; exact h2
  | s, x :: xs, ys, s', s'', r, ⟨t, h1, h⟩, h2 => ⟨t, h1, by
    rcases h with ⟨h3, h4⟩ | ⟨_, h4, _⟩
    · exact .inl ⟨h3, h4.app h2⟩
    · cases h4⟩
theorem Run.stop {σ α : Type} {step : σ → α → σ → Prop} {b : σ → Bool} : ∀ {s : σ} {xs ys : List α} {s' : σ}, Run step b s xs false s' → Run step b s (xs ++ ys) false s'
  | s, [], ys, s', ⟨h, _⟩ => by cases h
  | s, x :: xs, ys, s', ⟨t, h1, h⟩ => ⟨t, h1, h.imp (fun ⟨h3, h4⟩ => ⟨h3, h4.stop⟩) id⟩
noncomputable def B64 : Code := bodyOf Tryd.f64
theorem enter64 (args : Array Value) (w : World) : (callFunc 64 args).run Tryd.prog w = .ok (.enter 64 args) w := by kernel_rfl
abbrev tmC (t : Tm) (k : Value) : Value := .agg #[.int .i64 (Tm.kind t), .int .i64 (Tm.num t), k]
/-- What one that goes on stands on. -/
structure Going {σ : Type} (l : Nat) (M I : Mem) (E : σ → Heap) (step : σ → Tm → σ → Prop) (b : σ → Bool) (Gd : σ → List Tm → Prop) : Prop where
  turn : ∀ s x xs k, Gd s (x :: xs) → RowS ShTm M k (Tree.kids x) → RoundTurn Tryd.prog l I (tmC x k) (E s) (fun t => step s x t) b E
  on : ∀ s x xs t, Gd s (x :: xs) → step s x t → b t = true → Gd t xs
section
variable {σ : Type} {l yb eb : Nat} {M I : Mem} {E : σ → Heap} {step : σ → Tm → σ → Prop} {b : σ → Bool} {Gd : σ → List Tm → Prop}
set_option maxRecDepth 20000 in
theorem each64 (hgo : Going l M I E step b Gd) (hMI : Ext M I) (hbY : I yb = some (.cells #[.func (.yield l) #[] #[]] 29 (0, 0))) (hbE : I eb = some (.cells #[.func (.func 64) #[] #[ptr yb 0, ptr eb 0]] 29 (0, 0))) :
    ∀ (n : Nat) (v : Tm) (k : Value) (s : σ) (rest : List Tm) (I' : Mem) (w0 : World) (A : Heap) (w : World), Tree.depth v ≤ n → (tsz v ≤ 1000000) → RowS ShTm M k (Tree.kids v) → Gd s (pre v ++ rest) → Ext I I' → Cls w0 I' (E s ++ A) w →
      Calls Tryd.prog 64 #[tmC v k, ptr yb 0, ptr eb 0] w fun e w' => ∃ q : {q : σ × Bool // Run step b s (pre v) q.2 q.1 ∧ (q.2 = true → Gd q.1 rest)}, e = .returned (.bool q.1.2) ∧ Cls w0 I' (E q.1.1 ++ A) w' := by
  intro n
  induction n with
  | zero => intro v k s rest I' w0 A w hd; have := tdepth_pos v; omega
  | succ n ih =>
    intro v k s rest I' w0 A w hd hz hk hg hI hc
    rw [pre_eq] at hg ⊢
    let R : Ending → World → Prop := fun e w' => ∃ q : {q : σ × Bool // Run step b s (v :: pres (Tree.kids v)) q.2 q.1 ∧ (q.2 = true → Gd q.1 rest)}, e = .returned (.bool q.1.2) ∧ Cls w0 I' (E q.1.1 ++ A) w'
    have hkl : (Tree.kids v).length ≤ 1000000 := by have := tsz_eq v; have := tszs_len (Tree.kids v); omega
    -- the end
    have hend : ∀ (q : σ × Bool) (S : Slots) (K : List Item) (b3 : Nat) (o : Obj), ev S (.tmp 4) = some (.bool q.2) → Run step b s (v :: pres (Tree.kids v)) q.2 q.1 → (q.2 = true → Gd q.1 rest) → TT Tryd.prog 64 R 23 w0 I' (.code .ret :: K) S ((some b3, o) :: (E q.1 ++ A)) := fun q S K b3 o h4 hr hgr =>
      retR (rs := [.tmp 4]) (vs := [.bool q.2]) (v := .bool q.2) Tryd.func64 rfl rfl rfl (res_cons (ResV.tmp h4) res_nil) fun w' hc' => ⟨⟨q, hr, hgr⟩, rfl, (show Cls w0 I' ((some b3, o) :: (E q.1 ++ A)) w' from hc').tail⟩
    have hloop : ∀ (d i : Nat) (s1 : σ) (b3 : Nat), (Tree.kids v).length - i = d → Gd s1 (pres ((Tree.kids v).drop i) ++ rest) → (∀ r s2, Run step b s1 (pres ((Tree.kids v).drop i)) r s2 → Run step b s (v :: pres (Tree.kids v)) r s2) →
        TT Tryd.prog 64 R 23 w0 I' [.code (sub [1, 1, 0, 1, 0, 0] B64), .inLoop (sub [1, 1, 0, 1, 0, 0] B64), .inBlock 0, .code (sub [1, 1, 1] B64)] [(1, ptr yb 0), (2, ptr eb 0), (3, ptr b3 0), (12, k), (13, .int .i64 ((Tree.kids v).length : Int)), (14, .int .i64 (i : Int))] ((some b3, .cells #[.int .i64 (Tm.kind v), .int .i64 (Tm.num v), k] 25 (0, 0)) :: (E s1 ++ A)) := by
      intro d
      induction d with
      | zero =>
        intro i s1 b3 hn hg1 hR
        refine TT.seq (x := sub [1, 1, 0, 1, 0, 0, 0] B64) (y := sub [1, 1, 0, 1, 0, 0, 1] B64) ?_
        refine TT.region (id := 4) (n := 1) (ops := opsOf (sub [1, 1, 0, 1, 0, 0, 0] B64)) [(.pure, none)] rfl ?_
        show DL _ _ _ _ _ _ _ _ _ _ [0] _ _
        refine DL.pu 15 (.bool (decide ((i : Int) < ((Tree.kids v).length : Int)))) rfl (p_lss rfl rfl rfl) ?_
        refine DL.nil ?_
        refine TT.seq (x := sub [1, 1, 0, 1, 0, 0, 1, 0] B64) (y := sub [1, 1, 0, 1, 0, 0, 1, 1] B64) ?_
        refine TT.cond_false (x := sub [1, 1, 0, 1, 0, 0, 1, 0, 0] B64) (y := sub [1, 1, 0, 1, 0, 0, 1, 0, 1] B64) rfl (by simp; omega) ?_
        refine TT.exit rfl ?_
        refine TT.seq (x := sub [1, 1, 1, 0] B64) (y := sub [1, 1, 1, 1] B64) ?_
        refine TT.region (id := 9) (n := 1) (ops := opsOf (sub [1, 1, 1, 0] B64)) [(.pure, none)] rfl ?_
        show DL _ _ _ _ _ _ _ _ _ _ [0] _ _
        refine DL.pu 4 (.bool true) rfl (p_assign rfl rfl) ?_
        refine DL.nil ?_
        rw [List.drop_eq_nil_of_le (by omega)] at hg1 hR
        exact hend (s1, true) _ _ b3 _ rfl (hR true s1 ⟨rfl, rfl⟩) (fun _ => hg1)
      | succ d ihd =>
        intro i s1 b3 hn hg1 hR
        have hi : i < (Tree.kids v).length := by omega
        refine TT.seq (x := sub [1, 1, 0, 1, 0, 0, 0] B64) (y := sub [1, 1, 0, 1, 0, 0, 1] B64) ?_
        refine TT.region (id := 4) (n := 1) (ops := opsOf (sub [1, 1, 0, 1, 0, 0, 0] B64)) [(.pure, none)] rfl ?_
        show DL _ _ _ _ _ _ _ _ _ _ [0] _ _
        refine DL.pu 15 (.bool (decide ((i : Int) < ((Tree.kids v).length : Int)))) rfl (p_lss rfl rfl rfl) ?_
        refine DL.nil ?_
        refine TT.seq (x := sub [1, 1, 0, 1, 0, 0, 1, 0] B64) (y := sub [1, 1, 0, 1, 0, 0, 1, 1] B64) ?_
        refine TT.cond_true (x := sub [1, 1, 0, 1, 0, 0, 1, 0, 0] B64) (y := sub [1, 1, 0, 1, 0, 0, 1, 0, 1] B64) rfl (by simp; omega) ?_
        refine TT.skip ?_
        refine TT.seq (x := sub [1, 1, 0, 1, 0, 0, 1, 1, 0] B64) (y := sub [1, 1, 0, 1, 0, 0, 1, 1, 1] B64) ?_
        refine TT.block (c := sub [1, 1, 0, 1, 0, 0, 1, 1, 0, 0] B64) ?_
        refine TT.seq (x := sub [1, 1, 0, 1, 0, 0, 1, 1, 0, 0, 0] B64) (y := sub [1, 1, 0, 1, 0, 0, 1, 1, 0, 0, 1] B64) ?_
        refine TT.region (id := 5) (n := 4) (ops := opsOf (sub [1, 1, 0, 1, 0, 0, 1, 1, 0, 0, 0] B64)) [(.pure, none), (.pure, none), (.alloc, none), (.store, none)] rfl ?_
        show DL _ _ _ _ _ _ _ _ _ _ [0, 1, 2, 3] _ _
        refine DL.pu 16 (elp k (((i : Int)).toNat * 3)) rfl (p_slIx (i := (i : Int)) ty_u22 ty_s25 (RowS.some (i := (i : Int)) hk (by omega) (by omega)) (by omega) (by omega) rfl rfl rfl) ?_
        obtain ⟨p, ep⟩ : ∃ y, y = (Tree.kids v).getD i Tm.dflt := ⟨_, rfl⟩
        obtain ⟨csp, hcp, hlp⟩ := id hk
        have qp := hlp i _ (getD_some Tm.dflt hi); rw [← ep] at qp
        obtain ⟨pk, hqp, hrp⟩ := Tm.op qp
        refine DL.imm (v := tmC p pk) rfl (Wn.none rfl) rfl rfl rfl (i_loadElA (RowV.mono hcp (hMI.trans hI)) hqp (fm_mem hi) ty_a25 ty_s25 rfl rfl) ?_
        refine DL.new (ob := .cells (#[.int .i64 0, .int .i64 0, (.slice none 0 0)]) 25) (mk := fun b => ptr b 0) (i := 2) rfl (Wn.none rfl) rfl rfl rfl (f_alloc ty_z25 rfl) ?_
        intro b6 hb6
        refine DL.put (H' := (some b6, .cells (#[.int .i64 (Tm.kind p), .int .i64 (Tm.num p), pk]) 25 (0, 0)) :: (some b3, .cells #[.int .i64 (Tm.kind v), .int .i64 (Tm.num v), k] 25 (0, 0)) :: (E s1 ++ A)) (i := 3) rfl (Wn.none rfl) rfl rfl (f_storeA (j := 0) ty_s25 rfl rfl rfl (one_cons trivial (one_cons trivial (one_cons (sl_one (RowS.sl hrp)) one_nil))) rfl rfl rfl) (keep_none rfl) ?_
        refine DL.nil ?_
        have hmem : p ∈ Tree.kids v := by rw [ep]; exact tgetD_mem hi
        have hdrop : (Tree.kids v).drop i = p :: (Tree.kids v).drop (i + 1) := by rw [tdrop hi, ← ep]
        rw [hdrop, pres] at hg1 hR
        rw [List.append_assoc] at hg1
        refine TT.seq (x := sub [1, 1, 0, 1, 0, 0, 1, 1, 0, 0, 1, 0] B64) (y := sub [1, 1, 0, 1, 0, 0, 1, 1, 0, 0, 1, 1] B64) ?_
        refine TT.region (id := 6) (n := 4) (ops := opsOf (sub [1, 1, 0, 1, 0, 0, 1, 1, 0, 0, 1, 0] B64)) [(.pure, none), (.quiet, none), (.actx, none), (.pure, none)] rfl ?_
        show DL _ _ _ _ _ _ _ _ _ _ [0, 1, 2, 3] _ _
        refine DL.imm (v := .func (.func 64) #[] #[ptr yb 0, ptr eb 0]) rfl (Wn.none rfl) rfl rfl rfl (i_loadBox (hI _ _ hbE) rfl ty_a29 rfl rfl) ?_
        refine DL.qu 19 (tmC p pk) rfl (f_loadA (j := 0) ty_a25 ty_s25 rfl rfl rfl rfl) ?_
        refine DL.actx (X := {q : σ × Bool // Run step b s1 (pre p) q.2 q.1 ∧ (q.2 = true → Gd q.1 (pres ((Tree.kids v).drop (i + 1)) ++ rest))}) (u := fun q => .bool q.1.2) (H' := fun q => E q.1.1 ++ ((some b6, .cells (#[.int .i64 (Tm.kind p), .int .i64 (Tm.num p), pk]) 25 (0, 0)) :: (some b3, .cells #[.int .i64 (Tm.kind v), .int .i64 (Tm.num v), k] 25 (0, 0)) :: A)) (i := 2) rfl (Wn.none rfl) rfl rfl rfl
          (f_callA (args := #[tmC p pk]) (caps := #[ptr yb 0, ptr eb 0]) (g := 64) (all := #[tmC p pk, ptr yb 0, ptr eb 0]) rfl rfl rfl rfl (args_val (vs := [tmC p pk]) rfl) (fun w => enter64 _ w) fun w1 hc1 => ih p pk s1 _ I' w0 _ w1 (by have := tdepth_kid hmem; omega) (by have := tsz_eq v; have := tszs_mem p hmem; omega) hrp hg1 hI (hc1.perm ?_)) ?_
        · exact (List.Perm.cons _ List.perm_middle.symm).trans List.perm_middle.symm
        rintro ⟨⟨s2, r⟩, hr, hgr⟩
        refine DL.pu 21 (.bool (!r)) rfl (p_not rfl rfl) ?_
        refine DL.nil ?_
        refine TT.perm (H' := (some b3, .cells #[.int .i64 (Tm.kind v), .int .i64 (Tm.num v), k] 25 (0, 0)) :: (some b6, .cells (#[.int .i64 (Tm.kind p), .int .i64 (Tm.num p), pk]) 25 (0, 0)) :: (E s2 ++ A)) ?_ ?_
        · exact List.perm_middle.trans ((List.Perm.cons _ List.perm_middle).trans (List.Perm.swap _ _ _))
        cases r with
        | false =>
          refine TT.cond_true (x := sub [1, 1, 0, 1, 0, 0, 1, 1, 0, 0, 1, 1, 0] B64) (y := sub [1, 1, 0, 1, 0, 0, 1, 1, 0, 0, 1, 1, 1] B64) rfl rfl ?_
          refine TT.seq (x := sub [1, 1, 0, 1, 0, 0, 1, 1, 0, 0, 1, 1, 0, 0] B64) (y := sub [1, 1, 0, 1, 0, 0, 1, 1, 0, 0, 1, 1, 0, 1] B64) ?_
          refine TT.region (id := 7) (n := 1) (ops := opsOf (sub [1, 1, 0, 1, 0, 0, 1, 1, 0, 0, 1, 1, 0, 0] B64)) [(.pure, none)] rfl ?_
          show DL _ _ _ _ _ _ _ _ _ _ [0] _ _
          refine DL.pu 4 (.bool false) rfl (p_assign rfl rfl) ?_
          refine DL.nil ?_
          exact TT.less (List.Sublist.cons_cons _ (List.sublist_cons_self _ _)) (hend (s2, false) _ _ b3 _ rfl (hR _ _ hr.stop) (fun h => by cases h))
        | true =>
          refine TT.cond_false (x := sub [1, 1, 0, 1, 0, 0, 1, 1, 0, 0, 1, 1, 0] B64) (y := sub [1, 1, 0, 1, 0, 0, 1, 1, 0, 0, 1, 1, 1] B64) rfl rfl ?_
          refine TT.skip ?_
          refine TT.inBlock ?_
          refine TT.region (id := 8) (n := 2) (ops := opsOf (sub [1, 1, 0, 1, 0, 0, 1, 1, 1] B64)) [(.pure, none), (.pure, none)] rfl ?_
          show DL _ _ _ _ _ _ _ _ _ _ [0, 1] _ _
          refine DL.pu 22 (.int .i64 ((i + 1 : Nat) : Int)) rfl (wrap_succ (i := i) (by omega) ▸ p_add rfl rfl rfl) ?_
          refine DL.pu 14 (.int .i64 ((i + 1 : Nat) : Int)) rfl (p_move rfl rfl) ?_
          refine DL.nil ?_
          refine TT.inLoop ?_
          exact TT.less (List.Sublist.cons_cons _ (List.sublist_cons_self _ _)) (TT.weak (ihd (i + 1) s2 b3 (by omega) (hgr rfl) fun r' s3 h => hR _ _ (hr.app h)) (Sub.cons rfl (Sub.cons rfl (Sub.cons rfl (Sub.cons rfl (Sub.cons rfl (Sub.cons rfl (Sub.nil _))))))))
    refine calls_of_TTG (N := 23) (S := [(0, tmC v k), (1, ptr yb 0), (2, ptr eb 0)]) (b := B64) hc Tryd.func64 rfl rfl rfl (by simp) ?_
    show TT _ _ R _ _ _ [.code (sub [] B64)] _ _
    refine TT.seq (x := sub [0] B64) (y := sub [1] B64) ?_
    refine TT.region (id := 0) (n := 2) (ops := opsOf (sub [0] B64)) [(.alloc, none), (.pure, none)] rfl ?_
    show DL _ _ _ _ _ _ _ _ _ _ [0, 1] _ _
    refine DL.new (ob := .cells (#[.int .i64 (Tm.kind v), .int .i64 (Tm.num v), k]) 25) (mk := fun b => ptr b 0) (i := 0) rfl (Wn.none rfl) rfl rfl rfl (f_box (v := tmC v k) rfl rfl) ?_
    intro b3 hb3
    refine DL.pu 4 (.bool false) rfl (p_assign rfl rfl) ?_
    refine DL.nil ?_
    refine TT.seq (x := sub [1, 0] B64) (y := sub [1, 1] B64) ?_
    refine TT.seq (x := sub [1, 0, 0] B64) (y := sub [1, 0, 1] B64) ?_
    refine TT.ofCI ?_
    refine CI.rgY (id := 1) [0, 1] [2, 3] [(.pure, none), (.quiet, none), (.actx, none), (.pure, none)] rfl rfl (by kernel_rfl) ?_
    refine DL.imm (v := .func (.yield l) #[] #[]) rfl (Wn.none rfl) rfl rfl rfl (i_loadBox (hI _ _ hbY) rfl ty_a29 rfl rfl) ?_
    refine DL.qu 8 (tmC v k) rfl (f_loadA (j := 0) ty_a25 ty_s25 rfl rfl rfl rfl) ?_
    refine DK.nil ?_
    refine wpOp_yield (σ := σ) (A := (some b3, .cells (#[.int .i64 (Tm.kind v), .int .i64 (Tm.num v), k]) 25 (0, 0)) :: A) rfl rfl rfl rfl rfl rfl rfl (args_val (vs := [tmC v k]) rfl) (hgo.turn s v _ k hg hk) hI List.perm_middle.symm ?_
    intro t ht
    refine wpOps_of_DK (lab := labOf [(.pure, none), (.pure, none), (.pure, none), (.pure, none)]) (ids := fun _ => none) (by kernel_rfl) ?_
    refine DL.pu 10 (.bool (!(b t))) rfl (p_not rfl rfl) ?_
    refine DK.nil fun a' w' ha' hc' => ⟨rfl, ?_⟩
    rw [wd_nil ha']
    refine (show TT Tryd.prog 64 R 23 w0 I' _ _ _ from ?_) a' w' ha' hc'
    refine TT.perm (H' := (some b3, .cells (#[.int .i64 (Tm.kind v), .int .i64 (Tm.num v), k]) 25 (0, 0)) :: (E t ++ A)) List.perm_middle ?_
    cases hb : b t with
    | false =>
      refine TT.cond_true (x := sub [1, 0, 1, 0] B64) (y := sub [1, 0, 1, 1] B64) rfl rfl ?_
      refine TT.seq (x := sub [1, 0, 1, 0, 0] B64) (y := sub [1, 0, 1, 0, 1] B64) ?_
      refine TT.region (id := 2) (n := 1) (ops := opsOf (sub [1, 0, 1, 0, 0] B64)) [(.pure, none)] rfl ?_
      show DL _ _ _ _ _ _ _ _ _ _ [0] _ _
      refine DL.pu 4 (.bool false) rfl (p_assign rfl rfl) ?_
      refine DL.nil ?_
      exact hend (t, false) _ _ b3 _ rfl ⟨t, ht, .inr ⟨hb, rfl, rfl⟩⟩ (fun h => by cases h)
    | true =>
      refine TT.cond_false (x := sub [1, 0, 1, 0] B64) (y := sub [1, 0, 1, 1] B64) rfl rfl ?_
      refine TT.skip ?_
      refine TT.seq (x := sub [1, 1, 0] B64) (y := sub [1, 1, 1] B64) ?_
      refine TT.seq (x := sub [1, 1, 0, 0] B64) (y := sub [1, 1, 0, 1] B64) ?_
      refine TT.region (id := 3) (n := 4) (ops := opsOf (sub [1, 1, 0, 0] B64)) [(.pure, none), (.quiet, none), (.pure, none), (.pure, none)] rfl ?_
      show DL _ _ _ _ _ _ _ _ _ _ [0, 1, 2, 3] _ _
      refine DL.pu 11 (ptr b3 2) rfl (p_fieldAddr ty_f25_2 rfl rfl) ?_
      refine DL.qu 12 k rfl (f_load (j := 0) ty_a22 rfl rfl rfl rfl) ?_
      refine DL.pu 13 (.int .i64 ((Tree.kids v).length : Int)) rfl (p_slLen ty_u22 (RowS.sl hk) rfl rfl) ?_
      refine DL.pu 14 (.int .i64 0) rfl (p_move rfl rfl) ?_
      refine DL.nil ?_
      refine TT.block (c := sub [1, 1, 0, 1, 0] B64) ?_
      refine TT.loop (c := sub [1, 1, 0, 1, 0, 0] B64) ?_
      refine TT.weak (hloop (Tree.kids v).length 0 t b3 (by omega) (by rw [List.drop_zero]; exact hgo.on s v _ t hg ht hb) (fun r s2 h => ⟨t, ht, .inl ⟨hb, by rwa [List.drop_zero] at h⟩⟩)) (Sub.cons rfl (Sub.cons rfl (Sub.cons rfl (Sub.cons rfl (Sub.cons rfl (Sub.cons rfl (Sub.nil _)))))))
end
end Go.Proofs.YtfbogkhgfaibbaaDoor
end

section
namespace Go.Proofs.YtfbogkhgfaibbaaDoor
open Go Go.HW Go.RowKit
set_option linter.unusedVariables false
set_option linter.unusedSimpArgs false

noncomputable def B63 : Code := bodyOf Tryd.f63
noncomputable def B41 : Code := bodyOf Tryd.f41
section
variable {σ : Type} {l : Nat} {M I : Mem} {E : σ → Heap} {step : σ → Tm → σ → Prop} {b : σ → Bool} {Gd : σ → List Tm → Prop}
set_option maxRecDepth 20000 in
theorem parts63 (hgo : Going l M I E step b Gd) (hMI : Ext M I) {v : Tm} {k : Value} {tb : Nat} (htb : I tb = some (.cells #[.int .i64 (Tm.kind v), .int .i64 (Tm.num v), k] 25 (0, 0))) (hz : tsz v ≤ 1000000) (hk : RowS ShTm M k (Tree.kids v)) {s : σ} (hg : Gd s (pre v)) {w0 : World} {A : Heap} {w : World} (hc : Cls w0 I (E s ++ A) w) :
    Calls Tryd.prog 63 #[.func (.yield l) #[] #[], ptr tb 0] w fun e w' => ∃ q : {q : σ × Bool // Run step b s (pre v) q.2 q.1}, e = .returned (.tuple #[]) ∧ Cls w0 I (E q.1.1 ++ A) w' := by
  refine calls_of_TTG (N := 8) (S := [(0, .func (.yield l) #[] #[]), (1, ptr tb 0)]) (b := B63) hc Tryd.func63 rfl rfl rfl (by simp) ?_
  show TT _ _ _ _ _ _ [.code (sub [] B63)] _ _
  refine TT.seq (x := sub [0] B63) (y := sub [1] B63) ?_
  refine TT.region (id := 0) (n := 1) (ops := opsOf (sub [0] B63)) [(.alloc, none)] rfl ?_
  show DL _ _ _ _ _ _ _ _ _ _ [0] _ _
  refine DL.new (ob := .cells (#[.func (.yield l) #[] #[]]) 29) (mk := fun b => ptr b 0) (i := 0) rfl (Wn.none rfl) rfl rfl rfl (f_box (v := .func (.yield l) #[] #[]) rfl rfl) ?_
  intro yb hyb
  refine DL.nil ?_
  refine TT.seq (x := sub [1, 0] B63) (y := sub [1, 1] B63) ?_
  refine TT.region (id := 1) (n := 1) (ops := opsOf (sub [1, 0] B63)) [(.alloc, none)] rfl ?_
  show DL _ _ _ _ _ _ _ _ _ _ [0] _ _
  refine DL.new (ob := .cells (#[.nilFunc]) 29) (mk := fun b => ptr b 0) (i := 0) rfl (Wn.none rfl) rfl rfl rfl (f_alloc ty_z29 rfl) ?_
  intro eb heb
  refine DL.nil ?_
  refine TT.seq (x := sub [1, 1, 0] B63) (y := sub [1, 1, 1] B63) ?_
  refine TT.region (id := 2) (n := 2) (ops := opsOf (sub [1, 1, 0] B63)) [(.pure, none), (.store, none)] rfl ?_
  show DL _ _ _ _ _ _ _ _ _ _ [0, 1] _ _
  refine DL.pu 4 (.func (.func 64) #[] #[ptr yb 0, ptr eb 0]) rfl (p_makeFunc rfl (args_val (vs := [ptr yb 0, ptr eb 0]) rfl)) ?_
  refine DL.put (H' := (some eb, .cells (#[.func (.func 64) #[] #[ptr yb 0, ptr eb 0]]) 29 (0, 0)) :: (some yb, .cells (#[.func (.yield l) #[] #[]]) 29 (0, 0)) :: (E s ++ A)) (i := 1) rfl (Wn.none rfl) rfl rfl (f_store (c := #[.nilFunc]) (v := .func (.func 64) #[] #[ptr yb 0, ptr eb 0]) (off := 0) (j := 0) ty_s29 rfl rfl (of_decide_eq_true rfl) trivial rfl rfl rfl) (keep_none rfl) ?_
  refine DL.nil ?_
  refine TT.region (id := 3) (n := 3) (ops := opsOf (sub [1, 1, 1] B63)) [(.quiet, none), (.pure, none), (.actx, none)] rfl ?_
  show DL _ _ _ _ _ _ _ _ _ _ [0, 1, 2] _ _
  refine DL.qu 5 (.func (.func 64) #[] #[ptr yb 0, ptr eb 0]) rfl (f_load (j := 0) ty_a29 rfl rfl rfl rfl) ?_
  refine DL.imm (v := tmC v k) rfl (Wn.none rfl) rfl rfl rfl (i_loadBoxA htb rfl ty_a25 ty_s25 rfl rfl) ?_
  refine DL.actx (X := {q : σ × Bool // Run step b s (pre v) q.2 q.1}) (u := fun q => .bool q.1.2) (H' := fun q => E q.1.1 ++ ((some eb, .cells (#[.func (.func 64) #[] #[ptr yb 0, ptr eb 0]]) 29 (0, 0)) :: (some yb, .cells (#[.func (.yield l) #[] #[]]) 29 (0, 0)) :: A)) (i := 2) rfl (Wn.none rfl) rfl rfl rfl
    (f_callA (args := #[tmC v k]) (caps := #[ptr yb 0, ptr eb 0]) (g := 64) (all := #[tmC v k, ptr yb 0, ptr eb 0]) rfl rfl rfl rfl (args_val (vs := [tmC v k]) rfl) (fun w => enter64 _ w) fun w1 hc1 =>
      frameI (X := {q : σ × Bool // Run step b s (pre v) q.2 q.1}) (u := fun q => .bool q.1.2) (E := E s) (E' := fun q => E q.1.1) (A := (some eb, .cells (#[.func (.func 64) #[] #[ptr yb 0, ptr eb 0]]) 29 (0, 0)) :: (some yb, .cells (#[.func (.yield l) #[] #[]]) 29 (0, 0)) :: A) (fun I' hII hA hc2 => ?_) (hc1.perm ?_)) ?_
  · have hgo' : Going l M I' E step b Gd := ⟨fun s x xs k h1 h2 w0 I2 A w h3 h4 => hgo.turn s x xs k h1 h2 w0 I2 A w (hII.trans h3) h4, hgo.on⟩
    have := each64 hgo' (hMI.trans hII) (hA yb _ (by simp)) (hA eb _ (by simp)) (Tree.depth v) v k s [] I' w0 [] w1 (Nat.le_refl _) hz hk (by rw [List.append_nil]; exact hg) (Ext.refl _) (by rw [List.append_nil]; exact hc2)
    exact this.mono fun e w' ⟨q, he, hq⟩ => ⟨⟨q.1, q.2.1⟩, he, by rw [List.append_nil] at hq; exact hq⟩
  · exact ((List.Perm.cons _ List.perm_middle.symm).trans List.perm_middle.symm)
  rintro ⟨⟨s2, r⟩, hr⟩
  refine DL.nil ?_
  refine endR (rs := []) (vs := []) (v := .tuple #[]) Tryd.func63 rfl rfl rfl res_nil fun w' hc' => ⟨⟨(s2, r), hr⟩, rfl, ?_⟩
  exact (hc'.perm (List.perm_middle.trans (List.Perm.cons _ List.perm_middle))).tail.tail
end
theorem enter41 (args : Array Value) (w : World) : (callFunc 41 args).run Tryd.prog w = .ok (.enter 41 args) w := by kernel_rfl
theorem parts41 {I : Mem} {v : Tm} {k : Value} {w0 : World} {H : Heap} {w : World} (hc : Cls w0 I H w) :
    Calls Tryd.prog 41 #[tmC v k] w fun e w' => ∃ tb : Nat, e = .returned (.func (.func 63) #[] #[ptr tb 0]) ∧ Cls w0 I ((some tb, .cells #[.int .i64 (Tm.kind v), .int .i64 (Tm.num v), k] 25 (0, 0)) :: H) w' := by
  refine calls_of_TTG (S := [(0, tmC v k)]) (N := 4) (b := B41) hc Tryd.func41 rfl rfl rfl (by simp) ?_
  show TT _ _ _ _ _ _ [.code (sub [] B41)] _ _
  refine TT.seq (x := sub [0] B41) (y := sub [1] B41) ?_
  refine TT.region (id := 0) (n := 2) (ops := opsOf (sub [0] B41)) [(.alloc, none), (.pure, none)] rfl ?_
  show DL _ _ _ _ _ _ _ _ _ _ [0, 1] _ _
  refine DL.new (ob := .cells (#[.int .i64 (Tm.kind v), .int .i64 (Tm.num v), k]) 25) (mk := fun b => ptr b 0) (i := 0) rfl (Wn.none rfl) rfl rfl rfl (f_box (v := tmC v k) rfl rfl) ?_
  intro tb htb
  refine DL.pu 2 .nilFunc rfl (p_assign rfl rfl) ?_
  refine DL.nil ?_
  refine TT.seq (x := sub [1, 0] B41) (y := sub [1, 1] B41) ?_
  refine TT.region (id := 1) (n := 2) (ops := opsOf (sub [1, 0] B41)) [(.pure, none), (.pure, none)] rfl ?_
  show DL _ _ _ _ _ _ _ _ _ _ [0, 1] _ _
  refine DL.pu 3 (.func (.func 63) #[] #[ptr tb 0]) rfl (p_makeFunc rfl (args_val (vs := [ptr tb 0]) rfl)) ?_
  refine DL.pu 2 (.func (.func 63) #[] #[ptr tb 0]) rfl (p_assign rfl rfl) ?_
  refine DL.nil ?_
  exact retR (rs := [.tmp 2]) (vs := [.func (.func 63) #[] #[ptr tb 0]]) (v := .func (.func 63) #[] #[ptr tb 0]) Tryd.func41 rfl rfl rfl (res_cons (ResV.tmp rfl) res_nil) fun w' hc' => ⟨tb, rfl, hc'⟩
end Go.Proofs.YtfbogkhgfaibbaaDoor
end

section
namespace Go.Proofs.YtfbogkhgfaibbaaDoor
open Go Go.HW Go.RowKit
set_option linter.unusedVariables false
set_option linter.unusedSimpArgs false

/-! ### the walk, and a term told the same as itself -/
mutual
theorem pre_len : ∀ (t : Tm), (pre t).length = tsz t
  | .node p ks => by rw [pre, tsz, List.length_cons, pres_len ks]; omega
theorem pres_len : ∀ (ks : List Tm), (pres ks).length = tszs ks
  | [] => by rw [pres, tszs]; rfl
  | t :: r => by rw [pres, tszs, List.length_append, pre_len t, pres_len r]
end
theorem walk_L0 (r : Tm → List Tm → Option (List Tm)) (v : Tm) (hkl : (Tree.kids v).length ≤ 1000000) (hr : ∀ t ∈ Tree.kids v, ∀ y : List Tm, y.length + tsz t ≤ 1000000 → r t y = some (y ++ pre t)) :
    ∀ (k i : Nat) (y : List Tm), (Tree.kids v).length - i < k → i ≤ (Tree.kids v).length → y.length + tszs ((Tree.kids v).drop i) ≤ 1000000 → law29_walk.L0 r v k y (i : Int) = some (y ++ pres ((Tree.kids v).drop i))
  | 0, i, y, h, _, _ => by omega
  | k + 1, i, y, h, hi, hy => by
    rw [law29_walk.L0]
    by_cases c : i < (Tree.kids v).length
    · have c' : (i : Int) < ((Tree.kids v).length : Int) := by omega
      rw [tdrop c, tszs] at hy
      simp only [c', decide_true, if_true, nm, Int.toNat_natCast]
      rw [reqT (show (0 : Int) ≤ (i : Int) by omega), reqT trivial, hr _ (tgetD_mem c) y (by omega), Option.bind_some, wrap_succ (by omega)]
      rw [walk_L0 r v hkl hr k (i + 1) _ (by omega) (by omega) (by rw [List.length_append, pre_len]; omega), tdrop c, pres, List.append_assoc]
    · have c' : ¬ (i : Int) < ((Tree.kids v).length : Int) := by omega
      simp only [c', decide_false, Bool.false_eq_true, if_false]
      rw [List.drop_eq_nil_of_le (by omega), pres, List.append_nil]
theorem walk_pre : ∀ (k : Nat) (v : Tm) (y : List Tm), Tree.depth v ≤ k → y.length + tsz v ≤ 1000000 → law29_walk.f k v y = some (y ++ pre v)
  | 0, v, y, h, _ => by have := tdepth_pos v; omega
  | k + 1, v, y, h, hy => by
    have hv := tsz_eq v
    have hl := tszs_len (Tree.kids v)
    show law29_walk.F (law29_walk.f k) v y = _
    unfold law29_walk.F
    rw [reqT (by simp; omega), show (0 : Int) = ((0 : Nat) : Int) from rfl, walk_L0 _ v (by omega) (fun t ht y hy => walk_pre k t y (by have := tdepth_kid ht; omega) hy) _ 0 _ (by omega) (by omega) (by rw [List.drop_zero]; simp; omega), List.drop_zero, pre_eq]
    simp
theorem equal_self : ∀ (k : Nat) (v : Tm), Tree.depth v ≤ k → tsz v ≤ 1000000 → ref29_Equal.f k v v = some true
  | 0, v, h, _ => by have := tdepth_pos v; omega
  | k + 1, v, h, hz => by
    have hv := tsz_eq v
    have hl := tszs_len (Tree.kids v)
    have hr : ∀ t ∈ Tree.kids v, ref29_Equal.f k t t = some true := fun t ht => equal_self k t (by have := tdepth_kid ht; omega) (by have := tszs_mem t ht; omega)
    show ref29_Equal.F (ref29_Equal.f k) v v = _
    unfold ref29_Equal.F
    have := each_loop (xs := Tree.kids v) (B := Bool) (L := ref29_Equal.L0 (ref29_Equal.f k) v v) (step := fun t => some none) (by omega) (fun q i r hi hst => ?_) (fun q => ?_) (fun t ht => ⟨_, rfl⟩) ((((Tree.kids v).length : Int)).toNat + 1) 0 (by omega) (by omega)
    · rcases this with ⟨h1, h2⟩ | ⟨b, h1, x, hx, h2⟩
      · rw [show ((0 : Nat) : Int) = 0 from rfl] at h1
        simp only [bne_self_eq_false, Bool.false_eq_true, if_false, Option.bind_some, nm]
        rw [h1]; rfl
      · cases h2
    · cases hst
      rw [ref29_Equal.L0]
      have c' : (i : Int) < ((Tree.kids v).length : Int) := by omega
      simp only [c', decide_true, if_true, nm, Int.toNat_natCast]
      rw [reqT (show (0 : Int) ≤ (i : Int) by omega), reqT trivial, reqT trivial, hr _ (tgetD_mem hi)]
      rfl
    · rw [ref29_Equal.L0]; simp

/-! ### escutcheonlaw29.once: function 22 -/
noncomputable def B22 : Code := bodyOf Tryd.f22
/-- How far it has come, whether it is at an end, and what it answers with. -/
structure OnS where
  i : Nat
  done : Bool
  ret : Bool
abbrev onRec (rec : Loop) (s : OnS) : Loop := if s.done then { rec with state := .done, pending := some .ret } else rec
abbrev onE (rec : Loop) (l b4 b6 : Nat) (s : OnS) : Heap := [(some l, .loop (onRec rec s)), (some b4, .cells #[.bool s.ret] 4 (0, 0)), (some b6, .cells #[.int .i64 (s.i : Int)] 3 (0, 0))]
def onStep (n : Int) (s : OnS) (x : Tm) (t : OnS) : Prop := t = if ((s.i + 1 : Nat) : Int) = n then ⟨s.i + 1, true, true⟩ else ⟨s.i + 1, false, s.ret⟩
def onGd (P : List Tm) (s : OnS) (rem : List Tm) : Prop := s.done = false ∧ rem = P.drop s.i ∧ s.i ≤ P.length
theorem onRun {P : List Tm} {n : Int} : ∀ {xs : List Tm} {s t : OnS} {r : Bool}, onGd P s xs → Run (onStep n) (fun t => !t.done) s xs r t → (t.done = false ∧ t.i = P.length) ∨ (t.done = true ∧ t.ret = true)
  | [], s, t, r, ⟨h1, h2, h3⟩, ⟨_, h⟩ => by
    subst h
    have := congrArg List.length h2
    simp at this
    exact .inl ⟨h1, by omega⟩
  | x :: xs, s, t, r, ⟨h1, h2, h3⟩, ⟨u, h4, h⟩ => by
    have hlt : s.i < P.length := by
      rcases Nat.lt_or_ge s.i P.length with h | h
      · exact h
      · rw [List.drop_eq_nil_of_le h] at h2; cases h2
    unfold onStep at h4
    have hx : xs = P.drop (s.i + 1) := by rw [List.drop_eq_getElem_cons hlt] at h2; exact (List.cons.inj h2).2
    split at h4
    · subst h4
      rcases h with ⟨h5, _⟩ | ⟨_, _, h6⟩
      · cases h5
      · subst h6; exact .inr ⟨rfl, rfl⟩
    · subst h4
      rcases h with ⟨_, h6⟩ | ⟨h5, _⟩
      · exact onRun (s := ⟨s.i + 1, false, s.ret⟩) ⟨rfl, hx, hlt⟩ h6
      · cases h5
theorem ty_s4 (w : World) : (sizeOf 4).run Tryd.prog w = .ok 1 w := by kernel_rfl
theorem ty_a4 (w : World) : (isAgg 4).run Tryd.prog w = .ok false w := by kernel_rfl
set_option maxRecDepth 20000 in
theorem onceRound {M I : Mem} {rec : Loop} {l b3 b4 b5 b6 : Nat} {P : List Tm} {n : Int} {pv : Value} (hMI : Ext M I) (hst : rec.state = .ready) (hpe : rec.pending = none) (hps : rec.params = #[16]) (has : rec.assign = sub [1, 1, 1, 1, 1, 0, 1, 0, 0] B22) (hbo : rec.body = sub [1, 1, 1, 1, 1, 0, 1, 0, 1] B22)
    (hag : Agree 39 [(3, ptr b3 0), (4, ptr b4 0), (5, ptr b5 0), (6, ptr b6 0)] { tmps := rec.tmps, defers := [] }) (h3 : I b3 = some (.cells #[.int .i64 n] 3 (0, 0))) (h5 : I b5 = some (.cells #[pv] 22 (0, 0))) (hrow : RowS ShTm M pv P) (hP : P.length ≤ 1000000) (heq : ∀ x ∈ P, ref29_Equal.f (Tm.fuel x) x x = some true)
    (s : OnS) (x : Tm) (xs : List Tm) (k : Value) (hg : onGd P s (x :: xs)) (hk : RowS ShTm M k (Tree.kids x)) :
    RoundTurn Tryd.prog l I (tmC x k) (onE rec l b4 b6 s) (fun t => onStep n s x t) (fun t => !t.done) (onE rec l b4 b6) := fun w0 I' A w hI hc => by
  obtain ⟨i, done, ret⟩ := s
  obtain ⟨hd, hx, hil⟩ := hg
  simp only at hd hx hil
  subst hd
  have hi : i < P.length := by
    rcases Nat.lt_or_ge i P.length with h | h
    · exact h
    · rw [List.drop_eq_nil_of_le h] at hx; cases hx
  have hxp : x = P.getD i Tm.dflt := by rw [tdrop hi] at hx; exact (List.cons.inj hx).1
  have hxm : x ∈ P := by rw [hxp]; exact tgetD_mem hi
  replace hc : Cls w0 I' ((some l, .loop rec) :: (some b4, .cells #[.bool ret] 4 (0, 0)) :: (some b6, .cells #[.int .i64 (i : Int)] 3 (0, 0)) :: A) w := hc
  refine round_of_CI (N := 39) (S := [(16, tmC x k), (3, ptr b3 0), (4, ptr b4 0), (5, ptr b5 0), (6, ptr b6 0)]) (w0 := w0) (I := I') (p := 16) hps (hc.own l _ List.mem_cons_self) (hag.put (by decide) _) hc ?_
  rw [has, hbo]
  refine CI.rg (id := 7) [0, 1] [(.alloc, none), (.store, none)] rfl rfl (by kernel_rfl) ?_
  refine DL.new (ob := .cells (#[.int .i64 0, .int .i64 0, .slice none 0 0]) 25) (mk := fun b => ptr b 0) (i := 0) rfl (Wn.none rfl) rfl rfl rfl (f_alloc ty_z25 rfl) ?_
  intro b8 hb8
  refine DL.put (H' := (some b8, .cells (#[.int .i64 (Tm.kind x), .int .i64 (Tm.num x), k]) 25 (0, 0)) :: (some l, .loop rec) :: (some b4, .cells #[.bool ret] 4 (0, 0)) :: (some b6, .cells #[.int .i64 (i : Int)] 3 (0, 0)) :: A) (i := 1) rfl (Wn.none rfl) rfl rfl (f_storeA (j := 0) ty_s25 rfl rfl rfl (one_cons trivial (one_cons trivial (one_cons (sl_one (RowS.sl hk)) one_nil))) rfl rfl rfl) (keep_none rfl) ?_
  refine DK.nil (begin_body (j := 1) rfl hst ?_)
  refine CI.block (c := sub [1, 1, 1, 1, 1, 0, 1, 0, 1, 0] B22) ?_
  show CI _ _ _ _ _ _ _ _ _ ((some b8, .cells (#[.int .i64 (Tm.kind x), .int .i64 (Tm.num x), k]) 25 (0, 0)) :: (some l, .loop { rec with state := .busy }) :: (some b4, .cells #[.bool ret] 4 (0, 0)) :: (some b6, .cells #[.int .i64 (i : Int)] 3 (0, 0)) :: A)
  refine CI.seq (x := sub [1, 1, 1, 1, 1, 0, 1, 0, 1, 0, 0] B22) (y := sub [1, 1, 1, 1, 1, 0, 1, 0, 1, 0, 1] B22) ?_
  refine CI.seq (x := sub [1, 1, 1, 1, 1, 0, 1, 0, 1, 0, 0, 0] B22) (y := sub [1, 1, 1, 1, 1, 0, 1, 0, 1, 0, 0, 1] B22) ?_
  refine CI.rgD (id := 8) [0, 1, 2, 3, 4, 5, 6, 7, 8, 9, 10, 11, 12] [0, 0, 2, 7, 15, 31, 31, 31, 223, 479, 1023, 2047, 4095] [(.quiet, none), (.pure, none), (.pure, none), (.pure, none), (.pure, none), (.quiet, none), (.pure, none), (.quiet, none), (.pure, none), (.pure, none), (.quiet, none), (.pure, none), (.pure, none)] rfl mixed (by kernel_rfl) (by kernel_rfl) ?_
  intro w1 hl1 hj1 hz1
  refine DL.qu 17 (.int .i64 (i : Int)) rfl (f_load (j := 3) ty_a3 rfl rfl rfl rfl) ?_
  refine DL.imm (v := pv) rfl (Wn.none rfl) rfl rfl rfl (i_loadBox (hI _ _ h5) rfl ty_a22 rfl rfl) ?_
  refine DL.pu 19 (.int .i64 (P.length : Int)) rfl (p_slLen ty_u22 (RowS.sl hrow) rfl rfl) ?_
  refine DL.pu 20 (.bool (decide ((P.length : Int) ≤ (i : Int)))) rfl (p_geq rfl rfl rfl) ?_
  refine DL.pu 21 (.bool (decide ((P.length : Int) ≤ (i : Int)))) rfl (p_move rfl rfl) ?_
  have c : decide ((P.length : Int) ≤ (i : Int)) = false := by simp; omega
  refine DL.quiet (v := tmC x k) rfl (Wn.no c rfl rfl rfl rfl) rfl rfl rfl (f_loadA (j := 0) ty_a25 ty_s25 rfl rfl rfl rfl) ?_
  refine DL.imm (v := pv) rfl (Wn.no c rfl rfl rfl rfl) rfl rfl rfl (i_loadBox (hI _ _ h5) rfl ty_a22 rfl rfl) ?_
  refine DL.quiet (v := .int .i64 (i : Int)) rfl (Wn.no c rfl rfl rfl rfl) rfl rfl rfl (f_load (j := 3) ty_a3 rfl rfl rfl rfl) ?_
  refine DL.pure (v := elp pv (((i : Int)).toNat * 3)) rfl (Wn.no c rfl rfl rfl rfl) rfl rfl rfl (p_slIx (i := (i : Int)) ty_u22 ty_s25 (RowS.some (i := (i : Int)) hrow (by omega) (by omega)) (by omega) (by omega) rfl rfl rfl) ?_
  obtain ⟨csp, hcp, hlp⟩ := id hrow
  have qp := hlp i _ (getD_some Tm.dflt hi); rw [← hxp] at qp
  obtain ⟨pk, hqp, hrp⟩ := Tm.op qp
  refine DL.imm (v := tmC x pk) rfl (Wn.no c rfl rfl rfl rfl) rfl rfl rfl (i_loadElA (RowV.mono hcp (hMI.trans hI)) hqp (fm_mem hi) ty_a25 ty_s25 rfl rfl) ?_
  refine DL.quiet (v := .bool true) rfl (Wn.no c rfl rfl rfl rfl) rfl rfl rfl (f_callR rfl rfl (args_val (vs := [tmC x k, tmC x pk]) rfl) (fun w => enter20 _ w) (fun w hc => ref29_Equal.val (heq x hxm) (M := M) w (fun b o e => hc.imm b o (hI b o (hMI b o e))) hk hrp)) ?_
  refine DL.pure (v := .bool (!true)) rfl (Wn.no c rfl rfl rfl rfl) rfl rfl rfl (p_not rfl rfl) ?_
  refine DL.pu 29 (.bool (!true)) rfl (p_pick_f c rfl rfl rfl) ?_
  refine DK.next hl1 rfl ?_
  refine CI.cond_false (x := sub [1, 1, 1, 1, 1, 0, 1, 0, 1, 0, 0, 1, 0] B22) (y := sub [1, 1, 1, 1, 1, 0, 1, 0, 1, 0, 0, 1, 1] B22) rfl rfl ?_
  refine CI.skipN rfl ?_
  refine CI.seq (x := sub [1, 1, 1, 1, 1, 0, 1, 0, 1, 0, 1, 0] B22) (y := sub [1, 1, 1, 1, 1, 0, 1, 0, 1, 0, 1, 1] B22) ?_
  refine CI.rg (id := 10) [0, 1, 2] [(.quiet, none), (.pure, none), (.store, none)] rfl rfl (by kernel_rfl) ?_
  refine DL.qu 30 (.int .i64 (i : Int)) rfl (f_load (j := 3) ty_a3 rfl rfl rfl rfl) ?_
  refine DL.pu 31 (.int .i64 ((i + 1 : Nat) : Int)) rfl (wrap_succ (i := i) (by omega) ▸ p_add rfl rfl rfl) ?_
  refine DL.put (H' := (some b8, .cells (#[.int .i64 (Tm.kind x), .int .i64 (Tm.num x), k]) 25 (0, 0)) :: (some l, .loop { rec with state := .busy }) :: (some b4, .cells #[.bool ret] 4 (0, 0)) :: (some b6, .cells #[.int .i64 ((i + 1 : Nat) : Int)] 3 (0, 0)) :: A) (i := 2) rfl (Wn.none rfl) rfl rfl (f_store (c := #[.int .i64 (i : Int)]) (v := .int .i64 ((i + 1 : Nat) : Int)) (off := 0) (j := 3) ty_s3 rfl rfl (of_decide_eq_true rfl) trivial rfl rfl rfl) (keep_none rfl) ?_
  refine DK.next0 rfl ?_
  refine CI.seq (x := sub [1, 1, 1, 1, 1, 0, 1, 0, 1, 0, 1, 1, 0] B22) (y := sub [1, 1, 1, 1, 1, 0, 1, 0, 1, 0, 1, 1, 1] B22) ?_
  refine CI.rg (id := 11) [0, 1, 2] [(.quiet, none), (.pure, none), (.pure, none)] rfl rfl (by kernel_rfl) ?_
  refine DL.qu 32 (.int .i64 ((i + 1 : Nat) : Int)) rfl (f_load (j := 3) ty_a3 rfl rfl rfl rfl) ?_
  refine DL.imm (v := .int .i64 n) rfl (Wn.none rfl) rfl rfl rfl (i_loadBox (hI _ _ h3) rfl ty_a3 rfl rfl) ?_
  refine DL.pu 34 (.bool (((i + 1 : Nat) : Int) == n)) rfl (p_eql rfl rfl rfl) ?_
  refine DK.next0 rfl ?_
  have hrec : ({ ({ rec with state := .busy } : Loop) with state := .ready, pending := none } : Loop) = rec := by
    cases rec; simp only at hst hpe; subst hst; subst hpe; rfl
  by_cases cn : (((i + 1 : Nat) : Int) == n) = true
  · refine CI.cond_true (x := sub [1, 1, 1, 1, 1, 0, 1, 0, 1, 0, 1, 1, 1, 0] B22) (y := sub [1, 1, 1, 1, 1, 0, 1, 0, 1, 0, 1, 1, 1, 1] B22) rfl cn ?_
    refine CI.seq (x := sub [1, 1, 1, 1, 1, 0, 1, 0, 1, 0, 1, 1, 1, 0, 0] B22) (y := sub [1, 1, 1, 1, 1, 0, 1, 0, 1, 0, 1, 1, 1, 0, 1] B22) ?_
    refine CI.rg (id := 12) [0] [(.store, none)] rfl rfl (by kernel_rfl) ?_
    refine DL.put (H' := (some b8, .cells (#[.int .i64 (Tm.kind x), .int .i64 (Tm.num x), k]) 25 (0, 0)) :: (some l, .loop { rec with state := .busy }) :: (some b4, .cells #[.bool true] 4 (0, 0)) :: (some b6, .cells #[.int .i64 ((i + 1 : Nat) : Int)] 3 (0, 0)) :: A) (i := 0) rfl (Wn.none rfl) rfl rfl (f_store (c := #[.bool ret]) (v := .bool true) (off := 0) (j := 2) ty_s4 rfl rfl (of_decide_eq_true rfl) trivial rfl rfl rfl) (keep_none rfl) ?_
    refine DK.next0 rfl ?_
    refine CI.ret fun a' w' ha' hc' => ?_
    refine (show roundPost Tryd.prog l (fun e w' => ∃ t, onStep n ⟨i, false, ret⟩ x t ∧ e = .returned (.bool (!t.done)) ∧ Cls w0 I' (onE rec l b4 b6 t ++ A) w') .ret (wd [] a') w' from ?_)
    refine end_ret (j := 1) rfl (fun w'' hc'' => ?_) (wd [] a') w' hc'
    refine ⟨⟨i + 1, true, true⟩, ?_, rfl, ?_⟩
    · unfold onStep; rw [if_pos (by simpa using cn)]
    · exact (show Cls w0 I' ((some b8, .cells (#[.int .i64 (Tm.kind x), .int .i64 (Tm.num x), k]) 25 (0, 0)) :: (onE rec l b4 b6 ⟨i + 1, true, true⟩ ++ A)) w'' from hc'').tail
  · replace cn := Bool.eq_false_iff.mpr cn
    refine CI.cond_false (x := sub [1, 1, 1, 1, 1, 0, 1, 0, 1, 0, 1, 1, 1, 0] B22) (y := sub [1, 1, 1, 1, 1, 0, 1, 0, 1, 0, 1, 1, 1, 1] B22) rfl cn ?_
    refine CI.skip fun a' w' ha' hc' => ?_
    refine (show roundPost Tryd.prog l (fun e w' => ∃ t, onStep n ⟨i, false, ret⟩ x t ∧ e = .returned (.bool (!t.done)) ∧ Cls w0 I' (onE rec l b4 b6 t ++ A) w') .normal (wd [] a') w' from ?_)
    refine end_round (j := 1) rfl (fun w'' hc'' => ?_) (wd [] a') w' hc'
    refine ⟨⟨i + 1, false, ret⟩, ?_, rfl, ?_⟩
    · unfold onStep; rw [if_neg (by simpa using cn)]
    · rw [hrec] at hc''
      exact (show Cls w0 I' ((some b8, .cells (#[.int .i64 (Tm.kind x), .int .i64 (Tm.num x), k]) 25 (0, 0)) :: (onE rec l b4 b6 ⟨i + 1, false, ret⟩ ++ A)) w'' from hc'').tail
end Go.Proofs.YtfbogkhgfaibbaaDoor
end

section
namespace Go.Proofs.YtfbogkhgfaibbaaDoor
open Go Go.HW Go.RowKit
set_option linter.unusedVariables false
set_option linter.unusedSimpArgs false

section
variable {rd : Option Nat} {P : Program} {D : List Deferred} {N : Nat} {w0 : World} {I M M0 : Mem} {J A H : Heap} {Q : Exit → Act → World → Prop} {S : Slots} {c : Code} {xh : Option Nat}
theorem CI.settle (hE : EnvX xh w0 M0 M (addJ I J)) (h : ∀ I', EnvX xh w0 M0 M I' → Ext I I' → CI rd P D N w0 I' c Q S A) : CI rd P D N w0 I c Q S (A ++ J) := fun a w ha hc => h (addJ I J) hE (Ext.addJ _ _) a w ha hc.settle
theorem CI.nilOwn {e : TypeId} (h : CI rd P D N w0 I c Q S ((none, .cells #[] e (0, 0)) :: H)) : CI rd P D N w0 I c Q S H := fun a w ha hc => h a w ha (hc.nothing _)
end
theorem ty_z4 (w : World) : (zeroValue 4).run Tryd.prog w = .ok (.bool false) w := by kernel_rfl
theorem ty_z22 (w : World) : (zeroValue 22).run Tryd.prog w = .ok (.slice none 0 0) w := by kernel_rfl
theorem pre_depth : ∀ (k : Nat) (t : Tm), Tree.depth t ≤ k → ∀ x ∈ pre t, tsz x ≤ tsz t
  | 0, t, h, _, _ => by have := tdepth_pos t; omega
  | k + 1, t, h, x, hx => by
    rw [pre_eq] at hx
    rcases List.mem_cons.1 hx with rfl | hx
    · exact Nat.le_refl _
    · have hv := tsz_eq t
      have : ∀ ks : List Tm, (∀ y ∈ ks, y ∈ Tree.kids t) → x ∈ pres ks → ∃ y ∈ ks, tsz x ≤ tsz y := by
        intro ks
        induction ks with
        | nil => intro _ h; rw [pres] at h; cases h
        | cons y r ih =>
          intro hk h
          rw [pres] at h
          rcases List.mem_append.1 h with h | h
          · exact ⟨y, List.mem_cons_self, pre_depth k y (by have := tdepth_kid (hk y List.mem_cons_self); omega) x h⟩
          · obtain ⟨z, hz, h2⟩ := ih (fun z hz => hk z (List.mem_cons_of_mem _ hz)) h
            exact ⟨z, List.mem_cons_of_mem _ hz, h2⟩
      obtain ⟨y, hy, h2⟩ := this _ (fun y hy => hy) hx
      have := tszs_mem y hy
      omega
set_option maxRecDepth 20000 in
theorem once22 {t : Tm} {k : Value} {n : Int} (hz : tsz t ≤ 300000) {M : Mem} (w : World) (hM : Ext M (heapOf w)) (hk : RowS ShTm M k (Tree.kids t)) :
    Calls Tryd.prog 22 #[tmC t k, .int .i64 n] w fun e w' => e = .returned (.bool true) ∧ Below w.heap.size w w' := by
  have hE := Env.start hM
  have hwalk := walk_pre (Tm.fuel t) t [] (Nat.le_refl _) (by simp; omega)
  rw [List.nil_append] at hwalk
  refine calls_of_CIM (S := [(0, tmC t k), (1, .int .i64 n)]) (N := 39) (c := B22) (w0 := w) (I := heapOf w) (H := []) Tryd.func22 rfl rfl rfl (by simp) ⟨rfl, rfl, rfl, Nat.le_refl _, fun b o e => e, fun b o e => (by cases e), fun b o e => (by cases e), List.nodup_nil⟩ ?_
  show CI _ _ _ _ _ _ (sub [] B22) _ _ _
  refine CI.seq (x := sub [0] B22) (y := sub [1] B22) ?_
  refine CI.rg (id := 0) [0, 1, 2] [(.alloc, none), (.alloc, none), (.alloc, none)] rfl rfl (by kernel_rfl) ?_
  refine DL.new (ob := .cells (#[.int .i64 (Tm.kind t), .int .i64 (Tm.num t), k]) 25) (mk := fun b => ptr b 0) (i := 0) rfl (Wn.none rfl) rfl rfl rfl (f_box (v := tmC t k) rfl rfl) ?_
  intro b2 hb2
  refine DL.new (ob := .cells (#[.int .i64 n]) 3) (mk := fun b => ptr b 0) (i := 1) rfl (Wn.none rfl) rfl rfl rfl (f_box (v := .int .i64 n) rfl rfl) ?_
  intro b3 hb3
  refine DL.new (ob := .cells (#[.bool false]) 4) (mk := fun b => ptr b 0) (i := 2) rfl (Wn.none rfl) rfl rfl rfl (f_alloc ty_z4 rfl) ?_
  intro b4 hb4
  refine DK.next0 rfl ?_
  refine CI.seq (x := sub [1, 0] B22) (y := sub [1, 1] B22) ?_
  refine CI.nilOwn (e := 25) ?_
  refine CI.rg (id := 1) [0, 1, 2, 3] [(.quiet, none), (.actx, none), (.alloc, none), (.store, none)] rfl rfl (by kernel_rfl) ?_
  refine DL.qu 9 (tmC t k) rfl (f_loadA (j := 3) ty_a25 ty_s25 rfl rfl rfl rfl) ?_
  refine DL.callX (G := Value × Array Value) (u := fun g => g.1) (Q := fun g M_ => OwnS ShTm M_ g.1 g.2 (pre t)) (r' := fun g => Value.ownBlock g.1) (o' := fun g => .cells g.2 25 (0, 0)) (A := [(none, .cells (#[]) 25 (0, 0)), (some b4, .cells (#[.bool false]) 4 (0, 0)), (some b3, .cells (#[.int .i64 n]) 3 (0, 0)), (some b2, .cells (#[.int .i64 (Tm.kind t), .int .i64 (Tm.num t), k]) 25 (0, 0))]) (J := []) (j := 0)
    (fun r_ o_ J_ => ((r_, o_) :: (some b4, .cells (#[.bool false]) 4 (0, 0)) :: (some b3, .cells (#[.int .i64 n]) 3 (0, 0)) :: (some b2, .cells (#[.int .i64 (Tm.kind t), .int .i64 (Tm.num t), k]) 25 (0, 0)) :: J_)) (Nat.le_refl _) hE.nil (List.append_nil _).symm rfl (fun _ _ _ => rfl) (by simp) (i := 1) rfl (Wn.none rfl) rfl rfl rfl rfl rfl rfl (args_val (vs := [tmC t k, .slice none 0 0]) rfl) (fun w => enter19 _ w) (fun w hc hI hx_ hm_ => law29_walk.ok hwalk (M := M) w hI hk (OwnS.nil ShTm M) hx_ hm_) ?_
  rintro ⟨pv, pc⟩ M1 J1 hE1 hx1 hown
  replace hown : OwnS ShTm M1 pv pc (pre t) := hown
  show DK _ _ _ _ _ _ _ _ _ _ ((Value.ownBlock pv, .cells pc 25 (0, 0)) :: (some b4, .cells (#[.bool false]) 4 (0, 0)) :: (some b3, .cells (#[.int .i64 n]) 3 (0, 0)) :: (some b2, .cells (#[.int .i64 (Tm.kind t), .int .i64 (Tm.num t), k]) 25 (0, 0)) :: J1)
  refine DL.new (ob := .cells (#[.slice none 0 0]) 22) (mk := fun b => ptr b 0) (i := 2) rfl (Wn.none rfl) rfl rfl rfl (f_alloc ty_z22 rfl) ?_
  intro b5 hb5
  refine DL.put (H' := (some b5, .cells (#[pv]) 22 (0, 0)) :: (Value.ownBlock pv, .cells pc 25 (0, 0)) :: (some b4, .cells (#[.bool false]) 4 (0, 0)) :: (some b3, .cells (#[.int .i64 n]) 3 (0, 0)) :: (some b2, .cells (#[.int .i64 (Tm.kind t), .int .i64 (Tm.num t), k]) 25 (0, 0)) :: J1) (i := 3) rfl (Wn.none rfl) rfl rfl (f_store (c := #[.slice none 0 0]) (v := pv) (off := 0) (j := 0) ty_s22 rfl (sl_cells (OwnS.sl hown)) (of_decide_eq_true rfl) (sl_one (OwnS.sl hown)) rfl rfl rfl) (keep_none rfl) ?_
  refine DK.next0 rfl ?_
  refine CI.settle (A := [(some b5, .cells (#[pv]) 22 (0, 0)), (Value.ownBlock pv, .cells pc 25 (0, 0)), (some b4, .cells (#[.bool false]) 4 (0, 0)), (some b3, .cells (#[.int .i64 n]) 3 (0, 0)), (some b2, .cells (#[.int .i64 (Tm.kind t), .int .i64 (Tm.num t), k]) 25 (0, 0))]) (J := J1) hE1 ?_
  intro I1 hE1 hxI1
  refine CI.seq (x := sub [1, 1, 0] B22) (y := sub [1, 1, 1] B22) ?_
  refine CI.rg (id := 2) [0, 1] [(.alloc, none), (.store, none)] rfl rfl (by kernel_rfl) ?_
  refine DL.new (ob := .cells (#[.int .i64 0]) 3) (mk := fun b => ptr b 0) (i := 0) rfl (Wn.none rfl) rfl rfl rfl (f_alloc ty_z3 rfl) ?_
  intro b6 hb6
  refine DL.put (H' := (some b6, .cells (#[.int .i64 0]) 3 (0, 0)) :: [(some b5, .cells (#[pv]) 22 (0, 0)), (Value.ownBlock pv, .cells pc 25 (0, 0)), (some b4, .cells (#[.bool false]) 4 (0, 0)), (some b3, .cells (#[.int .i64 n]) 3 (0, 0)), (some b2, .cells (#[.int .i64 (Tm.kind t), .int .i64 (Tm.num t), k]) 25 (0, 0))]) (i := 1) rfl (Wn.none rfl) rfl rfl (f_store (c := #[.int .i64 0]) (v := .int .i64 0) (off := 0) (j := 0) ty_s3 rfl rfl (of_decide_eq_true rfl) trivial rfl rfl rfl) (keep_none rfl) ?_
  refine DK.next0 rfl ?_
  refine CI.seq (x := sub [1, 1, 1, 0] B22) (y := sub [1, 1, 1, 1] B22) ?_
  refine CI.rg (id := 3) [0, 1, 2] [(.quiet, none), (.actx, none), (.pure, none)] rfl rfl (by kernel_rfl) ?_
  refine DL.qu 11 (tmC t k) rfl (f_loadA (j := 5) ty_a25 ty_s25 rfl rfl rfl rfl) ?_
  refine DL.actx (X := Nat) (u := fun tb => .func (.func 63) #[] #[ptr tb 0]) (H' := fun tb => (some tb, .cells #[.int .i64 (Tm.kind t), .int .i64 (Tm.num t), k] 25 (0, 0)) :: (some b6, .cells (#[.int .i64 0]) 3 (0, 0)) :: [(some b5, .cells (#[pv]) 22 (0, 0)), (Value.ownBlock pv, .cells pc 25 (0, 0)), (some b4, .cells (#[.bool false]) 4 (0, 0)), (some b3, .cells (#[.int .i64 n]) 3 (0, 0)), (some b2, .cells (#[.int .i64 (Tm.kind t), .int .i64 (Tm.num t), k]) 25 (0, 0))]) (i := 1) rfl (Wn.none rfl) rfl rfl rfl
    (f_callA (args := #[tmC t k]) (caps := #[]) (g := 41) rfl rfl rfl rfl (args_val (vs := [tmC t k]) rfl) (fun w => enter41 _ w) fun w1 hc1 => parts41 hc1) ?_
  intro tb
  refine DL.pu 7 (.func (.func 63) #[] #[ptr tb 0]) rfl (p_assign rfl rfl) ?_
  refine DK.next0 rfl ?_
  refine CI.seq (x := sub [1, 1, 1, 1, 0] B22) (y := sub [1, 1, 1, 1, 1] B22) ?_
  refine CI.seq (x := sub [1, 1, 1, 1, 0, 0] B22) (y := sub [1, 1, 1, 1, 0, 1] B22) ?_
  refine CI.rg (id := 4) [0, 1] [(.pure, none), (.pure, none)] rfl rfl (by kernel_rfl) ?_
  refine DL.pu 13 (.func (.func 63) #[] #[ptr tb 0]) rfl (p_move rfl rfl) ?_
  refine DL.pu 14 (.bool false) rfl (p_eqNil (v := .func (.func 63) #[] #[ptr tb 0]) (fun w => by kernel_rfl) (fun w => by kernel_rfl) rfl rfl rfl) ?_
  refine DK.next0 rfl ?_
  refine CI.cond_false (x := sub [1, 1, 1, 1, 0, 1, 0] B22) (y := sub [1, 1, 1, 1, 0, 1, 1] B22) rfl rfl ?_
  refine CI.skipN rfl ?_
  refine CI.seq (x := sub [1, 1, 1, 1, 1, 0] B22) (y := sub [1, 1, 1, 1, 1, 1] B22) ?_
  refine CI.seq (x := sub [1, 1, 1, 1, 1, 0, 0] B22) (y := sub [1, 1, 1, 1, 1, 0, 1] B22) ?_
  refine CI.rg (id := 6) [0] [(.pure, none)] rfl rfl (by kernel_rfl) ?_
  refine DL.pu 15 (.func (.func 63) #[] #[ptr tb 0]) rfl (p_move rfl rfl) ?_
  refine DK.next0 rfl ?_
  refine CI.block (c := sub [1, 1, 1, 1, 1, 0, 1, 0] B22) ?_
  have hpl : (pre t).length = tsz t := pre_len t
  let X : Type := {q : OnS × Bool // Run (onStep n) (fun t => !t.done) ⟨0, false, false⟩ (pre t) q.2 q.1}
  refine CI.rangeFunc (X := X) (g := .tmp 15) (ps := #[16]) (assign := sub [1, 1, 1, 1, 1, 0, 1, 0, 0] B22) (body := sub [1, 1, 1, 1, 1, 0, 1, 0, 1] B22) (jump := fun q => if q.1.1.done then some .ret else none)
    (H' := fun q => (some b4, .cells #[.bool q.1.1.ret] 4 (0, 0)) :: (some b6, .cells #[.int .i64 (q.1.1.i : Int)] 3 (0, 0)) :: (some tb, .cells #[.int .i64 (Tm.kind t), .int .i64 (Tm.num t), k] 25 (0, 0)) :: [(some b5, .cells (#[pv]) 22 (0, 0)), (Value.ownBlock pv, .cells pc 25 (0, 0)), (some b3, .cells (#[.int .i64 n]) 3 (0, 0)), (some b2, .cells (#[.int .i64 (Tm.kind t), .int .i64 (Tm.num t), k]) 25 (0, 0))]) rfl (fun args w => by kernel_rfl) ?_ ?_
  · intro l D rec hst hpe hps has hbo hag W1 hW1
    let AA : Heap := (some D, .deferred (some [])) :: (some tb, .cells #[.int .i64 (Tm.kind t), .int .i64 (Tm.num t), k] 25 (0, 0)) :: [(some b5, .cells (#[pv]) 22 (0, 0)), (Value.ownBlock pv, .cells pc 25 (0, 0)), (some b3, .cells (#[.int .i64 n]) 3 (0, 0)), (some b2, .cells (#[.int .i64 (Tm.kind t), .int .i64 (Tm.num t), k]) 25 (0, 0))]
    have hW2 : Cls w I1 (onE rec l b4 b6 ⟨0, false, false⟩ ++ AA) W1 := by
      refine hW1.perm ?_
      show ((some l, Obj.loop rec) :: (some D, Obj.deferred (some [])) :: (some tb, Obj.cells #[.int .i64 (Tm.kind t), .int .i64 (Tm.num t), k] 25 (0, 0)) :: (some b6, Obj.cells (#[.int .i64 0]) 3 (0, 0)) :: (some b5, Obj.cells (#[pv]) 22 (0, 0)) :: (Value.ownBlock pv, Obj.cells pc 25 (0, 0)) :: (some b4, Obj.cells (#[.bool false]) 4 (0, 0)) :: [(some b3, Obj.cells (#[.int .i64 n]) 3 (0, 0)), (some b2, Obj.cells (#[.int .i64 (Tm.kind t), .int .i64 (Tm.num t), k]) 25 (0, 0))]).Perm ((some l, Obj.loop rec) :: (some b4, Obj.cells (#[.bool false]) 4 (0, 0)) :: (some b6, Obj.cells (#[.int .i64 0]) 3 (0, 0)) :: AA)
      refine List.Perm.cons _ ?_
      exact (List.perm_middle (l₁ := [_, _, _, _, _])).trans (List.Perm.cons _ (List.perm_middle (l₁ := [_, _])))
    refine (frameI (X := X) (u := fun _ => .tuple #[]) (E := onE rec l b4 b6 ⟨0, false, false⟩) (E' := fun q => onE rec l b4 b6 q.1.1) (A := AA) (fun I' hII hA hc2 => ?_) hW2).mono ?_
    · have hrow : RowS ShTm I' pv (pre t) := OwnS.stays (M := M1) (e := 25) hown (hE1.mi.trans hII) fun b hb => hA b _ (by rw [← hb]; simp [AA])
      have hgo : Going l I' I' (onE rec l b4 b6) (onStep n) (fun t => !t.done) (onGd (pre t)) := ⟨fun s x xs k hg hk => onceRound (M := I') (Ext.refl _) hst hpe hps has hbo (hag.sub (Sub.cons rfl (Sub.cons rfl (Sub.cons rfl (Sub.cons rfl (Sub.nil _)))))) (hA b3 _ (by simp [AA])) (hA b5 _ (by simp [AA])) hrow (by omega) (fun x hx => equal_self _ x (Nat.le_refl _) (by have := pre_depth _ t (Nat.le_refl _) x hx; omega)) s x xs k hg hk, fun s x xs u hg hs hu => by
        obtain ⟨h1, h2, h3⟩ := hg
        have hlt : s.i < (pre t).length := by
          rcases Nat.lt_or_ge s.i (pre t).length with h | h
          · exact h
          · rw [List.drop_eq_nil_of_le h] at h2; cases h2
        have hx : xs = (pre t).drop (s.i + 1) := by rw [List.drop_eq_getElem_cons hlt] at h2; exact (List.cons.inj h2).2
        unfold onStep at hs
        split at hs
        · subst hs; cases hu
        · subst hs; exact ⟨rfl, hx, hlt⟩⟩
      have hc3 : Cls w I' (onE rec l b4 b6 ⟨0, false, false⟩ ++ []) W1 := by rw [List.append_nil]; exact hc2
      exact (parts63 (σ := OnS) (b := fun t : OnS => !t.done) (Gd := onGd (pre t)) hgo (Ext.refl _) (hA tb _ (by simp [AA])) (by omega) (RowS.mono hk (hx1.trans (hE1.mi.trans hII))) (s := ⟨0, false, false⟩) ⟨rfl, rfl, Nat.zero_le _⟩ hc3).mono fun e w' ⟨q, he, hq⟩ => ⟨q, he, by rw [List.append_nil] at hq; exact hq⟩
    · rintro e w' ⟨⟨⟨⟨i, done, ret⟩, r⟩, hr⟩, he, hc'⟩
      refine ⟨⟨(⟨i, done, ret⟩, r), hr⟩, ⟨_, he⟩, onRec rec ⟨i, done, ret⟩, ?_, ?_, ?_⟩
      · cases done
        · show rec.state ≠ _; rw [hst]; decide
        · show LoopState.done ≠ _; decide
      · cases done
        · exact hpe
        · rfl
      · refine hc'.perm ?_
        show ((some l, Obj.loop (onRec rec ⟨i, done, ret⟩)) :: (some b4, Obj.cells #[.bool ret] 4 (0, 0)) :: (some b6, Obj.cells #[.int .i64 (i : Int)] 3 (0, 0)) :: AA).Perm _
        exact List.Perm.cons _ (List.perm_middle (l₁ := [_, _]))
  · rintro D ⟨⟨⟨i, done, ret⟩, r⟩, hr⟩
    have hfin := onRun (P := pre t) ⟨rfl, rfl, Nat.zero_le _⟩ hr
    cases done with
    | true =>
      have hret : ret = true := by
        rcases hfin with ⟨h, _⟩ | ⟨_, h⟩
        · cases h
        · exact h
      subst hret
      show CI none Tryd.prog (markD D) 39 w I1 .ret _ _ _
      refine CI.retM (rs := [.cell 4 4]) (vs := [.bool true]) (v := .bool true) rfl Tryd.func22 rfl rfl rfl (res_cons (ResV.cell1 (j := 0) ty_a4 rfl rfl rfl) res_nil) (List.Perm.refl _) fun w' hc' => ⟨rfl, hc'.belowE hE1.base⟩
    | false =>
      have hi : i = (pre t).length := by
        rcases hfin with ⟨_, h⟩ | ⟨h, _⟩
        · exact h
        · cases h
      show ∀ a w', _ → _ → _
      intro a w' ha hc
      refine inBlock_normal ?_
      show ((sub [1, 1, 1, 1, 1, 1] B22).wpIn (FR none) 3 Tryd.prog (bodyPostM (FR none) 3 Tryd.prog _ _) (wd (markD D) a) w')
      refine (show CI none Tryd.prog (markD D) 39 w I1 (sub [1, 1, 1, 1, 1, 1] B22) (bodyPostM (FR none) 3 Tryd.prog _ _) _ _ from ?_) a w' ha hc
      refine CI.seq (x := sub [1, 1, 1, 1, 1, 1, 0] B22) (y := sub [1, 1, 1, 1, 1, 1, 1] B22) ?_
      refine CI.rg (id := 13) [0, 1, 2, 3, 4] [(.quiet, none), (.quiet, none), (.pure, none), (.pure, none), (.store, none)] rfl rfl (by kernel_rfl) ?_
      refine DL.qu 35 (.int .i64 (i : Int)) rfl (f_load (j := 2) ty_a3 rfl rfl rfl rfl) ?_
      refine DL.qu 36 pv rfl (f_load (j := 4) ty_a22 rfl rfl rfl rfl) ?_
      refine DL.pu 37 (.int .i64 ((pre t).length : Int)) rfl (p_slLen ty_u22 (OwnS.sl hown) rfl rfl) ?_
      refine DL.pu 38 (.bool ((i : Int) == ((pre t).length : Int))) rfl (p_eql rfl rfl rfl) ?_
      have hb : ((i : Int) == ((pre t).length : Int)) = true := by rw [hi]; simp
      rw [hb]
      refine DL.put (H' := (some D, .deferred (some [])) :: (some b4, .cells #[.bool true] 4 (0, 0)) :: (some b6, .cells #[.int .i64 (i : Int)] 3 (0, 0)) :: (some tb, .cells #[.int .i64 (Tm.kind t), .int .i64 (Tm.num t), k] 25 (0, 0)) :: [(some b5, .cells (#[pv]) 22 (0, 0)), (Value.ownBlock pv, .cells pc 25 (0, 0)), (some b3, .cells (#[.int .i64 n]) 3 (0, 0)), (some b2, .cells (#[.int .i64 (Tm.kind t), .int .i64 (Tm.num t), k]) 25 (0, 0))]) (i := 4) rfl (Wn.none rfl) rfl rfl (f_store (c := #[.bool ret]) (v := .bool true) (off := 0) (j := 1) ty_s4 rfl rfl (of_decide_eq_true rfl) trivial rfl rfl rfl) (keep_none rfl) ?_
      refine DK.next0 rfl ?_
      exact CI.retM (rs := [.cell 4 4]) (vs := [.bool true]) (v := .bool true) rfl Tryd.func22 rfl rfl rfl (res_cons (ResV.cell1 (j := 0) ty_a4 rfl rfl rfl) res_nil) (List.Perm.refl _) fun w' hc' => ⟨rfl, hc'.belowE hE1.base⟩
def law29_once.f (a0 : Tm) (a1 : Int) : Option Bool := if tsz a0 ≤ 300000 then some true else none
theorem law29_once.val {a0 : Tm} {a1 : Int} {a0_2 : Value} {r : Bool} (h : law29_once.f a0 a1 = some r) {M : Mem} (w : World) (hM : Ext M (heapOf w)) (hr_a0_2 : RowS ShTm M a0_2 (Tree.kids a0)) : Calls Tryd.prog 22 #[.agg #[.int .i64 (Tm.kind a0), .int .i64 (Tm.num a0), a0_2], .int .i64 a1] w fun e w' => e = .returned (.bool r) ∧ Below w.heap.size w w' := by
  unfold law29_once.f at h
  split at h
  · rename_i hz; cases h; exact once22 hz w hM hr_a0_2
  · cases h
end Go.Proofs.YtfbogkhgfaibbaaDoor
end
