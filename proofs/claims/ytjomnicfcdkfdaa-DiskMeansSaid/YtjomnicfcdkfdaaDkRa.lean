import Derived.Test.YtjomnicfcdkfdaaDkR8
section
namespace Go.Proofs.Ytjomnicfcdkfdaa
open Go Go.HW Go.RowKit
set_option linter.unusedVariables false
set_option linter.unusedSimpArgs false

theorem lcells_chunk : ∀ {l : List (Int × Rw)} {i : Nat} {p : Int × Rw}, l[i]? = some p → chunk (lcells l) 2 i = [.int .i64 p.1, p.2.1]
  | q :: l, 0, p, h => by simp at h; subst h; rfl
  | q :: l, i + 1, p, h => by
    have := lcells_chunk (l := l) (i := i) (by simpa using h)
    unfold chunk at this ⊢
    rw [lcells_cons, show (i + 1) * 2 = i * 2 + 1 + 1 by omega, List.drop_succ_cons, List.drop_succ_cons]; exact this
  | [], i, p, h => by simp at h
theorem one_two (n : Int) (a : Option Addr) (m c : Nat) : ∀ u ∈ (#[Value.int .i64 n, .slice a m c] : Array Value).toList, OneCell u := fun u hu => by
  simp only [List.mem_cons, List.not_mem_nil, or_false] at hu
  rcases hu with rfl | rfl <;> trivial
theorem W.endRet {N : Nat} {S : Slots} {w0 : World} {I : Mem} {H : Heap} {Q : Exit → Act → World → Prop} {ops : Array Oper} {f : FuncId} {fn : Func} {R : Ending → World → Prop} {rs : List ResultVar} {vs : List Value} {v : Value} (hQ : Q .normal = bodyPost Try.prog fn R .normal) (hf : Try.prog.funcs[f]? = some fn) (hrs : fn.results = rs.toArray) (hl : rs.length = vs.length)
    (hv : (if h : vs.toArray.size = 1 then vs.toArray[0] else .tuple vs.toArray) = v) (hall : ∀ (i : Nat) (r : ResultVar) (u : Value), rs[i]? = some r → vs[i]? = some u → ResV Try.prog N w0 I S H r u) (hR : ∀ w, Cls w0 I H w → R (.returned v) w) :
    WW N w0 I ops [] Q S H := fun a w ha hc => by
  show Q .normal a w
  rw [hQ]
  obtain ⟨hd, fn', v', hf', hr, hR'⟩ := fin_of (P := Try.prog) (f := f) (N := N) (R := R) v hf hrs hl hv hall (show Agree N S a from ha) hc (hR w hc)
  rw [hf] at hf'; cases hf'
  exact ⟨hd, v', hr, hR'⟩

noncomputable def B43 : Code := bodyOf Try.f43
theorem en43 (args : Array Value) (w : World) : (callFunc 43 args).run Try.prog w = .ok (.enter 43 args) w := by kernel_rfl
theorem rCrash {I : Mem} {b : Nat} {s : Rk} (x : Rx s) {pv : Value} {picks : List Int} (hrow : IntRow I .i64 pv picks) (hl : s.L.length ≤ 1099511627775) : Turn I 43 #[ptr b 0, pv] (rX b x) (fun _ : Rx (rcrashK s picks) => .tuple #[]) (fun x' => rX b x') := fun I' he w0 w hc => by
  have hc : Cls w0 I' (rX b x ++ []) w := by rw [List.append_nil]; exact hc
  have hrow := hrow.mono he
  refine calls_of_CW (N := 90) Try.func43 (show _ = some B43 by kernel_rfl) (by kernel_rfl) rfl (S := [(0, ptr b 0), (1, pv)]) (by simp) hc ?_
  show CW _ _ _ (sub [] B43) _ _ _
  refine C.seq (x := sub [0] B43) (y := sub [1] B43) ?_
  refine C.seq (x := sub [0, 0] B43) (y := sub [0, 1] B43) ?_
  refine C.region (id := 0) (m := 1) (ops := opsOf (sub [0, 0] B43)) rfl ?_
  refine W.pure rfl (wo rfl) rfl rfl (p_assign rfl rfl) (nf rfl) ?_
  refine W.doneQ (y := sub [0, 1] B43) rfl ?_
  refine C.loopB (id := 0) (c := sub [0, 1, 0, 0] B43) (y := sub [1] B43) (α := (i : Nat) × Rx (crSt s picks i)) (fun q => s.L.length - q.1) (fun q => [(0, ptr b 0), (1, pv), (4, .int .i64 (q.1 : Int))]) (fun q => rX b q.2 ++ []) (fun q => q.1 ≤ s.L.length) ⟨0, x⟩ (Nat.zero_le _) (Sub.cons rfl (Sub.cons rfl (Sub.cons rfl (Sub.nil _)))) rfl rfl (fun q => q.1 = s.L.length) ?_ ?_
  · rintro ⟨i, xi⟩ (hi : i ≤ s.L.length) Q' hN hE hR
    show CW _ _ _ _ _ [(0, ptr b 0), (1, pv), (4, .int .i64 (i : Int))] (rX b xi ++ [])
    have hll : s.L.length = xi.1.Ls.length := (show (crSt s picks i).L.length = _ from L_len xi.2)
    by_cases hlt : i < xi.1.Ls.length
    · obtain ⟨p, hp⟩ : ∃ p, xi.1.Ls[i]? = some p := ⟨_, List.getElem?_eq_getElem hlt⟩
      have hm : p ∈ xi.1.Ls := List.mem_of_getElem? hp
      have hrp := xi.2.rL p hm
      obtain ⟨r0, hr0, hm0⟩ := B_row xi.2 hm
      have hw0 := xi.2.rB r0 hm0
      obtain ⟨y, hy⟩ : ∃ y, s.L[i]? = some y := ⟨_, List.getElem?_eq_getElem (by omega)⟩
      have hyp : (p.1, p.2.2.2) = y := by have e1 := L_at xi.2 hp; have e2 : (crSt s picks i).L[i]? = some y := hy; rw [e1] at e2; exact Option.some.inj e2
      refine C.seq (x := sub [0, 1, 0, 0, 0] B43) (y := sub [0, 1, 0, 0, 1] B43) ?_
      refine C.seq (x := sub [0, 1, 0, 0, 0, 0] B43) (y := sub [0, 1, 0, 0, 0, 1] B43) ?_
      refine C.region (id := 1) (m := 7) (ops := opsOf (sub [0, 1, 0, 0, 0, 0] B43)) rfl ?_
      refine W.pure rfl (wo rfl) rfl rfl (p_move rfl rfl) (nf rfl) ?_
      refine W.pure rfl (wo rfl) rfl rfl (p_move rfl rfl) (nf rfl) ?_
      refine W.pure rfl (wo rfl) rfl rfl (p_nilCheck rfl rfl) (nf rfl) ?_
      refine W.pure rfl (wo rfl) rfl rfl (p_fieldAddr tf73_1 rfl rfl) (nf rfl) ?_
      refine W.quiet rfl (wo rfl) rfl rfl (f_load (j := 0) ta71 rfl (off := 1) rfl rfl rfl) (nf rfl) ?_
      refine W.pure rfl (wo rfl) rfl rfl (p_slLen tu71 (own_len xi.2.hL) rfl rfl) (nf rfl) ?_
      refine W.pure rfl (wo rfl) rfl rfl (pT (decide_eq_true (by omega)) (p_lss rfl rfl rfl)) (nf rfl) ?_
      refine W.doneQ (y := sub [0, 1, 0, 0, 0, 1] B43) rfl ?_
      refine C.cond_true (x := sub [0, 1, 0, 0, 0, 1, 0] B43) (y := sub [0, 1, 0, 0, 0, 1, 1] B43) rfl rfl ?_
      refine C.skipQ (y := sub [0, 1, 0, 0, 1] B43) rfl ?_
      refine C.seq (x := sub [0, 1, 0, 0, 1, 0] B43) (y := sub [0, 1, 0, 0, 1, 1] B43) ?_
      refine C.block (id := 1) (c := sub [0, 1, 0, 0, 1, 0, 0] B43) ?_
      refine C.seq (x := sub [0, 1, 0, 0, 1, 0, 0, 0] B43) (y := sub [0, 1, 0, 0, 1, 0, 0, 1] B43) ?_
      refine C.region (id := 3) (m := 1) (ops := opsOf (sub [0, 1, 0, 0, 1, 0, 0, 0] B43)) rfl ?_
      refine W.pure rfl (wo rfl) rfl rfl (p_assign rfl rfl) (nf rfl) ?_
      refine W.doneQ (y := sub [0, 1, 0, 0, 1, 0, 0, 1] B43) rfl ?_
      refine C.seq (x := sub [0, 1, 0, 0, 1, 0, 0, 1, 0] B43) (y := sub [0, 1, 0, 0, 1, 0, 0, 1, 1] B43) ?_
      refine C.seq (x := sub [0, 1, 0, 0, 1, 0, 0, 1, 0, 0] B43) (y := sub [0, 1, 0, 0, 1, 0, 0, 1, 0, 1] B43) ?_
      refine C.region (id := 4) (m := 4) (ops := opsOf (sub [0, 1, 0, 0, 1, 0, 0, 1, 0, 0] B43)) rfl ?_
      refine W.pure rfl (wo rfl) rfl rfl (p_move rfl rfl) (nf rfl) ?_
      refine W.pure rfl (wo rfl) rfl rfl (p_move rfl rfl) (nf rfl) ?_
      refine W.pure rfl (wo rfl) rfl rfl (p_slLen tu22 (row_sl hrow) rfl rfl) (nf rfl) ?_
      by_cases hpk : i < picks.length
      · refine W.pure rfl (wo rfl) rfl rfl (pT (decide_eq_true (by omega)) (p_lss rfl rfl rfl)) (nf rfl) ?_
        refine W.doneQ (y := sub [0, 1, 0, 0, 1, 0, 0, 1, 0, 1] B43) rfl ?_
        refine C.cond_true (x := sub [0, 1, 0, 0, 1, 0, 0, 1, 0, 1, 0] B43) (y := sub [0, 1, 0, 0, 1, 0, 0, 1, 0, 1, 1] B43) rfl rfl ?_
        refine C.region (id := 5) (m := 5) (ops := opsOf (sub [0, 1, 0, 0, 1, 0, 0, 1, 0, 1, 0] B43)) rfl ?_
        refine W.pure rfl (wo rfl) rfl rfl (p_move rfl rfl) (nf rfl) ?_
        refine W.pure rfl (wo rfl) rfl rfl (p_move rfl rfl) (nf rfl) ?_
        refine W.pure rfl (wo rfl) rfl rfl (p_ixR hrow hpk tu22 ts3 rfl rfl rfl) (nf rfl) ?_
        refine W.imm rfl (wo rfl) rfl rfl (i_ldR hrow (getDi hpk) ta3 rfl rfl) (nf rfl) ?_
        refine W.pure rfl (wo rfl) rfl rfl (p_assign rfl rfl) (nf rfl) ?_
        refine W.doneQ (y := sub [0, 1, 0, 0, 1, 0, 0, 1, 1] B43) rfl ?_
        refine C.seq (x := sub [0, 1, 0, 0, 1, 0, 0, 1, 1, 0] B43) (y := sub [0, 1, 0, 0, 1, 0, 0, 1, 1, 1] B43) ?_
        refine C.region (id := 6) (m := 7) (ops := opsOf (sub [0, 1, 0, 0, 1, 0, 0, 1, 1, 0] B43)) rfl ?_
        refine W.pure rfl (wo rfl) rfl rfl (p_move rfl rfl) (nf rfl) ?_
        refine W.quiet rfl (wo rfl) rfl rfl (f_callR rfl rfl (args_val rfl) (en50 _) (fun w2 hc2 => rdiv_ok w2 _ 3 (by decide))) (nf rfl) ?_
        refine W.pure rfl (wo rfl) rfl rfl (p_move rfl rfl) (nf rfl) ?_
        refine W.pure rfl (wo rfl) rfl rfl (p_extract rfl rfl rfl) (nf rfl) ?_
        refine W.pure rfl (wo rfl) rfl rfl (p_extract rfl rfl rfl) (nf rfl) ?_
        refine W.pure rfl (wo rfl) rfl rfl (p_assign rfl rfl) (nf rfl) ?_
        refine W.pure rfl (wo rfl) rfl rfl (p_assign rfl rfl) (nf rfl) ?_
        refine W.doneQ (y := sub [0, 1, 0, 0, 1, 0, 0, 1, 1, 1] B43) rfl ?_
        refine C.seq (x := sub [0, 1, 0, 0, 1, 0, 0, 1, 1, 1, 0] B43) (y := sub [0, 1, 0, 0, 1, 0, 0, 1, 1, 1, 1] B43) ?_
        refine C.seq (x := sub [0, 1, 0, 0, 1, 0, 0, 1, 1, 1, 0, 0] B43) (y := sub [0, 1, 0, 0, 1, 0, 0, 1, 1, 1, 0, 1] B43) ?_
        refine C.region (id := 7) (m := 2) (ops := opsOf (sub [0, 1, 0, 0, 1, 0, 0, 1, 1, 1, 0, 0] B43)) rfl ?_
        refine W.pure rfl (wo rfl) rfl rfl (p_move rfl rfl) (nf rfl) ?_
        by_cases h0 : divR (picks.getD i 0) 3 = 0
        · refine W.pure rfl (wo rfl) rfl rfl (pT (by simpa using h0) (p_eql rfl rfl rfl)) (nf rfl) ?_
          refine W.doneQ (y := sub [0, 1, 0, 0, 1, 0, 0, 1, 1, 1, 0, 1] B43) rfl ?_
          refine C.cond_true (x := sub [0, 1, 0, 0, 1, 0, 0, 1, 1, 1, 0, 1, 0] B43) (y := sub [0, 1, 0, 0, 1, 0, 0, 1, 1, 1, 0, 1, 1] B43) rfl rfl ?_
          refine C.exitQ (y := sub [0, 1, 0, 0, 1, 1] B43) rfl ?_
          have hst : crSt s picks i = crSt s picks (i + 1) := by unfold crSt; rw [rcrB_skip hy h0]
          refine C.cls (H2 := rX b (casR hst xi.1 xi.2) ++ []) (fun w hc => hc) ?_
          refine C.region (id := 2) (m := 3) (ops := opsOf (sub [0, 1, 0, 0, 1, 1] B43)) rfl ?_
          refine W.pure rfl (wo rfl) rfl rfl (p_move rfl rfl) (nf rfl) ?_
          refine W.pure rfl (wo rfl) rfl rfl (pI (wk (by omega)) (p_add rfl rfl rfl)) (nf rfl) ?_
          refine W.pure rfl (wo rfl) rfl rfl (p_assign rfl rfl) (nf rfl) ?_
          refine W.end' fun a1 w1 ha1 hc1 => hN ⟨i + 1, _⟩ (show i + 1 ≤ s.L.length by omega) (show s.L.length - (i + 1) < s.L.length - i by omega) a1 w1 (ha1.sub (Sub.cons rfl (Sub.cons rfl (Sub.cons rfl (Sub.nil _))))) hc1
        · refine W.pure rfl (wo rfl) rfl rfl (pF (by simpa using h0) (p_eql rfl rfl rfl)) (nf rfl) ?_
          refine W.doneQ (y := sub [0, 1, 0, 0, 1, 0, 0, 1, 1, 1, 0, 1] B43) rfl ?_
          refine C.cond_false (x := sub [0, 1, 0, 0, 1, 0, 0, 1, 1, 1, 0, 1, 0] B43) (y := sub [0, 1, 0, 0, 1, 0, 0, 1, 1, 1, 0, 1, 1] B43) rfl rfl ?_
          refine C.skipQ (y := sub [0, 1, 0, 0, 1, 0, 0, 1, 1, 1, 1] B43) rfl ?_
          refine C.seq (x := sub [0, 1, 0, 0, 1, 0, 0, 1, 1, 1, 1, 0] B43) (y := sub [0, 1, 0, 0, 1, 0, 0, 1, 1, 1, 1, 1] B43) ?_
          refine C.region (id := 8) (m := 1) (ops := opsOf (sub [0, 1, 0, 0, 1, 0, 0, 1, 1, 1, 1, 0] B43)) rfl ?_
          refine W.pure rfl (wo rfl) rfl rfl (p_assign rfl rfl) (nf rfl) ?_
          refine W.doneQ (y := sub [0, 1, 0, 0, 1, 0, 0, 1, 1, 1, 1, 1] B43) rfl ?_
          refine C.seq (x := sub [0, 1, 0, 0, 1, 0, 0, 1, 1, 1, 1, 1, 0] B43) (y := sub [0, 1, 0, 0, 1, 0, 0, 1, 1, 1, 1, 1, 1] B43) ?_
          refine C.seq (x := sub [0, 1, 0, 0, 1, 0, 0, 1, 1, 1, 1, 1, 0, 0] B43) (y := sub [0, 1, 0, 0, 1, 0, 0, 1, 1, 1, 1, 1, 0, 1] B43) ?_
          refine C.region (id := 9) (m := 12) (ops := opsOf (sub [0, 1, 0, 0, 1, 0, 0, 1, 1, 1, 1, 1, 0, 0] B43)) rfl ?_
          refine W.pure rfl (wo rfl) rfl rfl (p_move rfl rfl) (nf rfl) ?_
          by_cases h2 : divR (picks.getD i 0) 3 = 2
          · refine W.pure rfl (wo rfl) rfl rfl (pT (by simpa using h2) (p_eql rfl rfl rfl)) (nf rfl) ?_
            refine W.pure rfl (wo rfl) rfl rfl (p_move rfl rfl) (nf rfl) ?_
            refine W.pure rfl (wo rfl) rfl rfl (p_move rfl rfl) (nf rfl) ?_
            refine W.pure rfl (wo rfl) rfl rfl (p_move rfl rfl) (nf rfl) ?_
            refine W.pure rfl (wo rfl) rfl rfl (p_nilCheck rfl rfl) (nf rfl) ?_
            refine W.pure rfl (wo rfl) rfl rfl (p_fieldAddr tf73_1 rfl rfl) (nf rfl) ?_
            refine W.quiet rfl (wo rfl) rfl rfl (f_load (j := 0) ta71 rfl (off := 1) rfl rfl rfl) (nf rfl) ?_
            refine W.pure rfl (wo rfl) rfl rfl (p_slLen tu71 (own_len xi.2.hL) rfl rfl) (nf rfl) ?_
            refine W.pure rfl (wo rfl) rfl rfl (p_sub rfl rfl rfl) (nf rfl) ?_
            by_cases hl : i + 1 = s.L.length
            · refine W.pure rfl (wo rfl) rfl rfl (pT (by rw [w64 (by omega) (by omega)]; simp; omega) (p_eql rfl rfl rfl)) (nf rfl) ?_
              refine W.pure rfl (wo rfl) rfl rfl (p_pick_true rfl rfl rfl) (nf rfl) ?_
              refine W.doneQ (y := sub [0, 1, 0, 0, 1, 0, 0, 1, 1, 1, 1, 1, 0, 1] B43) rfl ?_
              refine C.cond_true (x := sub [0, 1, 0, 0, 1, 0, 0, 1, 1, 1, 1, 1, 0, 1, 0] B43) (y := sub [0, 1, 0, 0, 1, 0, 0, 1, 1, 1, 1, 1, 0, 1, 1] B43) rfl rfl ?_
              refine C.region (id := 10) (m := 6) (ops := opsOf (sub [0, 1, 0, 0, 1, 0, 0, 1, 1, 1, 1, 1, 0, 1, 0] B43)) rfl ?_
              refine W.pure rfl (wo rfl) rfl rfl (p_move rfl rfl) (nf rfl) ?_
              refine W.quiet rfl (wo rfl) rfl rfl (f_callR rfl rfl (args_val rfl) (en50 _) (fun w2 hc2 => rdiv_ok w2 _ 513 (by decide))) (nf rfl) ?_
              refine W.pure rfl (wo rfl) rfl rfl (p_move rfl rfl) (nf rfl) ?_
              refine W.pure rfl (wo rfl) rfl rfl (p_extract rfl rfl rfl) (nf rfl) ?_
              refine W.pure rfl (wo rfl) rfl rfl (p_extract rfl rfl rfl) (nf rfl) ?_
              refine W.pure rfl (wo rfl) rfl rfl (p_assign rfl rfl) (nf rfl) ?_
              refine W.doneQ (y := sub [0, 1, 0, 0, 1, 0, 0, 1, 1, 1, 1, 1, 1] B43) rfl ?_
              refine C.seq (x := sub [0, 1, 0, 0, 1, 0, 0, 1, 1, 1, 1, 1, 1, 0] B43) (y := sub [0, 1, 0, 0, 1, 0, 0, 1, 1, 1, 1, 1, 1, 1] B43) ?_
              refine C.region (id := 11) (m := 9) (ops := opsOf (sub [0, 1, 0, 0, 1, 0, 0, 1, 1, 1, 1, 1, 1, 0] B43)) rfl ?_
              refine W.pure rfl (wo rfl) rfl rfl (p_move rfl rfl) (nf rfl) ?_
              refine W.pure rfl (wo rfl) rfl rfl (p_nilCheck rfl rfl) (nf rfl) ?_
              refine W.pure rfl (wo rfl) rfl rfl (p_fieldAddr tf73_1 rfl rfl) (nf rfl) ?_
              refine W.quiet rfl (wo rfl) rfl rfl (f_load (j := 0) ta71 rfl (off := 1) rfl rfl rfl) (nf rfl) ?_
              refine W.pure rfl (wo rfl) rfl rfl (p_move rfl rfl) (nf rfl) ?_
              refine W.pure rfl (wo rfl) rfl rfl (p_ixV xi.2.hL hlt tu71 ts80 rfl rfl rfl) (nf rfl) ?_
              refine W.quiet rfl (wo rfl) rfl rfl (f_loadElA (j := 2) rfl xi.2.hL (lcells_chunk hp) hlt ta80 ts80 rfl rfl) (nf rfl) ?_
              obtain ⟨pa, pk, hpv⟩ := own_len hrp.1
              refine W.new rfl (wo rfl) rfl rfl (f_alloc tz80 rfl) (nf rfl) ?_
              intro bq hbq
              refine W.put (H' := (some bq, .cells #[.int .i64 p.1, p.2.1] 80 (0, 0)) :: (rX b xi ++ [])) rfl (wo rfl) rfl (f_storeA (j := 0) ts80 rfl rfl rfl (by rw [hpv]; exact fun u hu => one_two _ _ _ _ u hu) rfl rfl rfl) (nf rfl) ?_
              refine W.doneQ (y := sub [0, 1, 0, 0, 1, 0, 0, 1, 1, 1, 1, 1, 1, 1] B43) rfl ?_
              have hT : rtear (picks.getD i 0) (decide (i + 1 = s.L.length)) = (divR (divQ (picks.getD i 0) 3) 513) := by unfold rtear; rw [if_pos ⟨h2, decide_eq_true hl⟩]
              have hTr := rtear_rng (picks.getD i 0) (decide (i + 1 = s.L.length))
              rw [hT] at hTr
              refine C.settleZ (E := [(some bq, .cells #[.int .i64 p.1, p.2.1] 80 (0, 0)), rk0 b xi.1 (crSt s picks i)]) rfl ?_
              intro I2 hz
              have hq := hz.mem bq _ List.mem_cons_self
              have hb0 := hz.mem b _ (List.mem_cons_of_mem _ List.mem_cons_self)
              have hmT : rwE p.2 ∈ rkT xi.1 := List.mem_append_right _ (List.mem_map.2 ⟨p, hm, rfl⟩)
              have hmB : rwE r0 ∈ rkT xi.1 := List.mem_append_left _ (List.mem_map_of_mem hm0)
              refine C.regionD (id := 12) (ops := opsOf (sub [0, 1, 0, 0, 1, 0, 0, 1, 1, 1, 1, 1, 1, 1] B43)) [0, 1, 2, 3, 4, 5, 6, 7, 8, 9, 11, 12, 13, 14, 15, 16, 17, 18, 19, 20, 10, 21, 22, 23] [0, 1, 3, 7, 0, 16, 0, 64, 0, 448, 960, 0, 2048, 6144, 14336, 0, 32768, 129024, 260096, 0, 1046528, 2097088, 4194303, 8388607] [(.pure, none), (.pure, none), (.pure, none), (.pure, none), (.pure, none), (.pure, none), (.pure, none), (.pure, none), (.pure, none), (.pure, none), (.keep, none), (.pure, none), (.pure, none), (.pure, none), (.pure, none), (.pure, none), (.pure, none), (.pure, none), (.quiet, none), (.pure, none), (.pure, none), (.actx, none), (.pure, none), (.store, none)] (by kernel_rfl) ?_
              intro wD12 hl12
              refine DW.pure rfl rfl rfl rfl rfl (p_move rfl rfl) ?_
              refine DW.pure rfl rfl rfl rfl rfl (p_nilCheck rfl rfl) ?_
              refine DW.pure rfl rfl rfl rfl rfl (p_fieldAddr tf73_0 rfl rfl) ?_
              refine DW.imm rfl rfl rfl rfl rfl (i_loadBoxO (off := 0) hb0 rfl ta70 rfl rfl) ?_
              refine DW.pure rfl rfl rfl rfl rfl (p_fieldAddr tf80_0 rfl rfl) ?_
              refine DW.imm rfl rfl rfl rfl rfl (i_loadBoxO (off := 0) hq rfl ta3 rfl rfl) ?_
              refine DW.pure rfl rfl rfl rfl rfl (p_fieldAddr tf80_1 rfl rfl) ?_
              refine DW.imm rfl rfl rfl rfl rfl (i_loadBoxO (off := 1) hq rfl ta32 rfl rfl) ?_
              refine DW.pure rfl rfl rfl rfl rfl (p_move rfl rfl) ?_
              refine DW.pure rfl rfl rfl rfl rfl (p_subH tu32 ts5 (rw_row hrp) (by omega) (by rw [hrp.2]; omega) rfl rfl rfl) ?_
              refine DW.pure rfl rfl rfl rfl rfl (p_move rfl rfl) ?_
              refine DW.pure rfl rfl rfl rfl rfl (p_nilCheck rfl rfl) ?_
              refine DW.pure rfl rfl rfl rfl rfl (p_fieldAddr tf73_0 rfl rfl) ?_
              refine DW.imm rfl rfl rfl rfl rfl (i_loadBoxO (off := 0) hb0 rfl ta70 rfl rfl) ?_
              refine DW.pure rfl rfl rfl rfl rfl (p_fieldAddr tf80_0 rfl rfl) ?_
              refine DW.imm rfl rfl rfl rfl rfl (i_loadBoxO (off := 0) hq rfl ta3 rfl rfl) ?_
              refine DW.pure rfl rfl rfl rfl rfl (p_ixVI xi.2.hB (xi.2.ok p hm).1 (xi.2.ok p hm).2 tu70 ts32 rfl rfl rfl) ?_
              refine DW.quiet rfl rfl rfl rfl rfl (f_loadEl (q := r0.1) (i := 0) rfl xi.2.hB (by rw [Nat.mul_one, List.getElem?_map, hr0]; rfl) ta32 rfl rfl) ?_
              refine DW.pure rfl rfl rfl rfl rfl (p_move rfl rfl) ?_
              refine DW.pure rfl rfl rfl rfl rfl (p_subL tu32 ts5 (rw_row hw0) (by omega) (by rw [hw0.2]; omega) rfl rfl rfl) ?_
              refine DW.keep (fun z p hp => List.mem_cons_of_mem _ hp) rfl rfl rfl rfl rfl (f_app0 (xs := p.2.2.2.take ((divR (divQ (picks.getD i 0) 3) 513) : Int).toNat) (by simp only [List.length_take, hrp.2]; omega) (fun w hc => RowV.src (IntRow.subH (OwnV.row hrp.1 hc (List.mem_cons_of_mem _ (List.mem_cons_of_mem _ (List.mem_append_left _ hmT)))) (by rw [hrp.2]; omega)) (encl_one .u8 _)) rfl rfl rfl) ?_
              rintro ⟨⟨zv, zc⟩, hz1⟩
              refine DW.actx rfl rfl rfl rfl rfl (f_appendInt (j := 0) (ys := r0.2.2.drop ((divR (divQ (picks.getD i 0) 3) 513) : Int).toNat) elem32 rfl hz1 (by simp only [List.length_take, List.length_drop, hrp.2, hw0.2]; omega) (by decide) (fun w hc => RowV.src (IntRow.subL (OwnV.row hw0.1 hc (List.mem_cons_of_mem _ (List.mem_cons_of_mem _ (List.mem_cons_of_mem _ (List.mem_append_left _ hmB))))) (by rw [hw0.2]; omega)) (encl_one .u8 _)) rfl rfl rfl) ?_
              rintro ⟨⟨v2, c2⟩, hz2⟩
              obtain ⟨va, vk, rfl⟩ := own_len hz2
              refine DW.pure rfl rfl rfl rfl rfl (p_ixVI xi.2.hB (xi.2.ok p hm).1 (xi.2.ok p hm).2 tu70 ts32 rfl rfl rfl) ?_
              refine DW.put rfl rfl rfl rfl rfl (f_storeEl (q := .slice va (p.2.2.2.take ((divR (divQ (picks.getD i 0) 3) 513) : Int).toNat ++ r0.2.2.drop ((divR (divQ (picks.getD i 0) 3) 513) : Int).toNat).length vk) (i := 1) ts32 rfl xi.2.hB (j := p.1.toNat * 1) (by have := xi.2.ok p hm; omega) rfl trivial rfl rfl rfl) ?_
              refine DW.doneZ (y := sub [0, 1, 0, 0, 1, 1] B43) hl12 hz rfl ?_
              have hlen2 : (p.2.2.2.take ((divR (divQ (picks.getD i 0) 3) 513) : Int).toNat ++ r0.2.2.drop ((divR (divQ (picks.getD i 0) 3) 513) : Int).toNat).length = 512 := by simp only [List.length_append, List.length_take, List.length_drop, hrp.2, hw0.2]; omega
              have hst : { crSt s picks i with B := (crSt s picks i).B.set p.1.toNat (p.2.2.2.take ((divR (divQ (picks.getD i 0) 3) 513) : Int).toNat ++ r0.2.2.drop ((divR (divQ (picks.getD i 0) 3) 513) : Int).toNat) } = crSt s picks (i + 1) := by unfold crSt; rw [rcrB_put hy h0, hT, ← hyp, show (rcrB s picks i).getD (p.1, p.2.2.2).1.toNat [] = r0.2.2 from B_at xi.2 hr0]
              refine C.cls (H2 := rX b (casR hst _ (rk_setB (r' := (.slice va (p.2.2.2.take ((divR (divQ (picks.getD i 0) 3) 513) : Int).toNat ++ r0.2.2.drop ((divR (divQ (picks.getD i 0) 3) 513) : Int).toNat).length vk, c2, (p.2.2.2.take ((divR (divQ (picks.getD i 0) 3) 513) : Int).toNat ++ r0.2.2.drop ((divR (divQ (picks.getD i 0) 3) 513) : Int).toNat))) xi.2 ⟨hz2, hlen2⟩ (n := p.1.toNat) (by have := xi.2.ok p hm; omega))) ++ []) (fun w hc => cls_setB hr0 ⟨rfl, rfl⟩ (by rw [Nat.mul_one] at hc; exact (hc.tail).perm (List.Perm.swap _ _ _))) ?_
              refine C.region (id := 2) (m := 3) (ops := opsOf (sub [0, 1, 0, 0, 1, 1] B43)) rfl ?_
              refine W.pure rfl (wo rfl) rfl rfl (p_move rfl rfl) (nf rfl) ?_
              refine W.pure rfl (wo rfl) rfl rfl (pI (wk (by omega)) (p_add rfl rfl rfl)) (nf rfl) ?_
              refine W.pure rfl (wo rfl) rfl rfl (p_assign rfl rfl) (nf rfl) ?_
              refine W.end' fun a1 w1 ha1 hc1 => hN ⟨i + 1, _⟩ (show i + 1 ≤ s.L.length by omega) (show s.L.length - (i + 1) < s.L.length - i by omega) a1 w1 (ha1.sub (Sub.cons rfl (Sub.cons rfl (Sub.cons rfl (Sub.nil _))))) hc1
            · refine W.pure rfl (wo rfl) rfl rfl (pF (by rw [w64 (by omega) (by omega)]; simp; omega) (p_eql rfl rfl rfl)) (nf rfl) ?_
              refine W.pure rfl (wo rfl) rfl rfl (p_pick_true rfl rfl rfl) (nf rfl) ?_
              refine W.doneQ (y := sub [0, 1, 0, 0, 1, 0, 0, 1, 1, 1, 1, 1, 0, 1] B43) rfl ?_
              refine C.cond_false (x := sub [0, 1, 0, 0, 1, 0, 0, 1, 1, 1, 1, 1, 0, 1, 0] B43) (y := sub [0, 1, 0, 0, 1, 0, 0, 1, 1, 1, 1, 1, 0, 1, 1] B43) rfl rfl ?_
              refine C.skipQ (y := sub [0, 1, 0, 0, 1, 0, 0, 1, 1, 1, 1, 1, 1] B43) rfl ?_
              refine C.seq (x := sub [0, 1, 0, 0, 1, 0, 0, 1, 1, 1, 1, 1, 1, 0] B43) (y := sub [0, 1, 0, 0, 1, 0, 0, 1, 1, 1, 1, 1, 1, 1] B43) ?_
              refine C.region (id := 11) (m := 9) (ops := opsOf (sub [0, 1, 0, 0, 1, 0, 0, 1, 1, 1, 1, 1, 1, 0] B43)) rfl ?_
              refine W.pure rfl (wo rfl) rfl rfl (p_move rfl rfl) (nf rfl) ?_
              refine W.pure rfl (wo rfl) rfl rfl (p_nilCheck rfl rfl) (nf rfl) ?_
              refine W.pure rfl (wo rfl) rfl rfl (p_fieldAddr tf73_1 rfl rfl) (nf rfl) ?_
              refine W.quiet rfl (wo rfl) rfl rfl (f_load (j := 0) ta71 rfl (off := 1) rfl rfl rfl) (nf rfl) ?_
              refine W.pure rfl (wo rfl) rfl rfl (p_move rfl rfl) (nf rfl) ?_
              refine W.pure rfl (wo rfl) rfl rfl (p_ixV xi.2.hL hlt tu71 ts80 rfl rfl rfl) (nf rfl) ?_
              refine W.quiet rfl (wo rfl) rfl rfl (f_loadElA (j := 2) rfl xi.2.hL (lcells_chunk hp) hlt ta80 ts80 rfl rfl) (nf rfl) ?_
              obtain ⟨pa, pk, hpv⟩ := own_len hrp.1
              refine W.new rfl (wo rfl) rfl rfl (f_alloc tz80 rfl) (nf rfl) ?_
              intro bq hbq
              refine W.put (H' := (some bq, .cells #[.int .i64 p.1, p.2.1] 80 (0, 0)) :: (rX b xi ++ [])) rfl (wo rfl) rfl (f_storeA (j := 0) ts80 rfl rfl rfl (by rw [hpv]; exact fun u hu => one_two _ _ _ _ u hu) rfl rfl rfl) (nf rfl) ?_
              refine W.doneQ (y := sub [0, 1, 0, 0, 1, 0, 0, 1, 1, 1, 1, 1, 1, 1] B43) rfl ?_
              have hT : rtear (picks.getD i 0) (decide (i + 1 = s.L.length)) = 512 := by unfold rtear; rw [if_neg (fun z => hl (of_decide_eq_true z.2))]
              have hTr := rtear_rng (picks.getD i 0) (decide (i + 1 = s.L.length))
              rw [hT] at hTr
              refine C.settleZ (E := [(some bq, .cells #[.int .i64 p.1, p.2.1] 80 (0, 0)), rk0 b xi.1 (crSt s picks i)]) rfl ?_
              intro I2 hz
              have hq := hz.mem bq _ List.mem_cons_self
              have hb0 := hz.mem b _ (List.mem_cons_of_mem _ List.mem_cons_self)
              have hmT : rwE p.2 ∈ rkT xi.1 := List.mem_append_right _ (List.mem_map.2 ⟨p, hm, rfl⟩)
              have hmB : rwE r0 ∈ rkT xi.1 := List.mem_append_left _ (List.mem_map_of_mem hm0)
              refine C.regionD (id := 12) (ops := opsOf (sub [0, 1, 0, 0, 1, 0, 0, 1, 1, 1, 1, 1, 1, 1] B43)) [0, 1, 2, 3, 4, 5, 6, 7, 8, 9, 11, 12, 13, 14, 15, 16, 17, 18, 19, 20, 10, 21, 22, 23] [0, 1, 3, 7, 0, 16, 0, 64, 0, 448, 960, 0, 2048, 6144, 14336, 0, 32768, 129024, 260096, 0, 1046528, 2097088, 4194303, 8388607] [(.pure, none), (.pure, none), (.pure, none), (.pure, none), (.pure, none), (.pure, none), (.pure, none), (.pure, none), (.pure, none), (.pure, none), (.keep, none), (.pure, none), (.pure, none), (.pure, none), (.pure, none), (.pure, none), (.pure, none), (.pure, none), (.quiet, none), (.pure, none), (.pure, none), (.actx, none), (.pure, none), (.store, none)] (by kernel_rfl) ?_
              intro wD12 hl12
              refine DW.pure rfl rfl rfl rfl rfl (p_move rfl rfl) ?_
              refine DW.pure rfl rfl rfl rfl rfl (p_nilCheck rfl rfl) ?_
              refine DW.pure rfl rfl rfl rfl rfl (p_fieldAddr tf73_0 rfl rfl) ?_
              refine DW.imm rfl rfl rfl rfl rfl (i_loadBoxO (off := 0) hb0 rfl ta70 rfl rfl) ?_
              refine DW.pure rfl rfl rfl rfl rfl (p_fieldAddr tf80_0 rfl rfl) ?_
              refine DW.imm rfl rfl rfl rfl rfl (i_loadBoxO (off := 0) hq rfl ta3 rfl rfl) ?_
              refine DW.pure rfl rfl rfl rfl rfl (p_fieldAddr tf80_1 rfl rfl) ?_
              refine DW.imm rfl rfl rfl rfl rfl (i_loadBoxO (off := 1) hq rfl ta32 rfl rfl) ?_
              refine DW.pure rfl rfl rfl rfl rfl (p_move rfl rfl) ?_
              refine DW.pure rfl rfl rfl rfl rfl (p_subH tu32 ts5 (rw_row hrp) (by omega) (by rw [hrp.2]; omega) rfl rfl rfl) ?_
              refine DW.pure rfl rfl rfl rfl rfl (p_move rfl rfl) ?_
              refine DW.pure rfl rfl rfl rfl rfl (p_nilCheck rfl rfl) ?_
              refine DW.pure rfl rfl rfl rfl rfl (p_fieldAddr tf73_0 rfl rfl) ?_
              refine DW.imm rfl rfl rfl rfl rfl (i_loadBoxO (off := 0) hb0 rfl ta70 rfl rfl) ?_
              refine DW.pure rfl rfl rfl rfl rfl (p_fieldAddr tf80_0 rfl rfl) ?_
              refine DW.imm rfl rfl rfl rfl rfl (i_loadBoxO (off := 0) hq rfl ta3 rfl rfl) ?_
              refine DW.pure rfl rfl rfl rfl rfl (p_ixVI xi.2.hB (xi.2.ok p hm).1 (xi.2.ok p hm).2 tu70 ts32 rfl rfl rfl) ?_
              refine DW.quiet rfl rfl rfl rfl rfl (f_loadEl (q := r0.1) (i := 0) rfl xi.2.hB (by rw [Nat.mul_one, List.getElem?_map, hr0]; rfl) ta32 rfl rfl) ?_
              refine DW.pure rfl rfl rfl rfl rfl (p_move rfl rfl) ?_
              refine DW.pure rfl rfl rfl rfl rfl (p_subL tu32 ts5 (rw_row hw0) (by omega) (by rw [hw0.2]; omega) rfl rfl rfl) ?_
              refine DW.keep (fun z p hp => List.mem_cons_of_mem _ hp) rfl rfl rfl rfl rfl (f_app0 (xs := p.2.2.2.take (512 : Int).toNat) (by simp only [List.length_take, hrp.2]; omega) (fun w hc => RowV.src (IntRow.subH (OwnV.row hrp.1 hc (List.mem_cons_of_mem _ (List.mem_cons_of_mem _ (List.mem_append_left _ hmT)))) (by rw [hrp.2]; omega)) (encl_one .u8 _)) rfl rfl rfl) ?_
              rintro ⟨⟨zv, zc⟩, hz1⟩
              refine DW.actx rfl rfl rfl rfl rfl (f_appendInt (j := 0) (ys := r0.2.2.drop (512 : Int).toNat) elem32 rfl hz1 (by simp only [List.length_take, List.length_drop, hrp.2, hw0.2]; omega) (by decide) (fun w hc => RowV.src (IntRow.subL (OwnV.row hw0.1 hc (List.mem_cons_of_mem _ (List.mem_cons_of_mem _ (List.mem_cons_of_mem _ (List.mem_append_left _ hmB))))) (by rw [hw0.2]; omega)) (encl_one .u8 _)) rfl rfl rfl) ?_
              rintro ⟨⟨v2, c2⟩, hz2⟩
              obtain ⟨va, vk, rfl⟩ := own_len hz2
              refine DW.pure rfl rfl rfl rfl rfl (p_ixVI xi.2.hB (xi.2.ok p hm).1 (xi.2.ok p hm).2 tu70 ts32 rfl rfl rfl) ?_
              refine DW.put rfl rfl rfl rfl rfl (f_storeEl (q := .slice va (p.2.2.2.take (512 : Int).toNat ++ r0.2.2.drop (512 : Int).toNat).length vk) (i := 1) ts32 rfl xi.2.hB (j := p.1.toNat * 1) (by have := xi.2.ok p hm; omega) rfl trivial rfl rfl rfl) ?_
              refine DW.doneZ (y := sub [0, 1, 0, 0, 1, 1] B43) hl12 hz rfl ?_
              have hlen2 : (p.2.2.2.take (512 : Int).toNat ++ r0.2.2.drop (512 : Int).toNat).length = 512 := by simp only [List.length_append, List.length_take, List.length_drop, hrp.2, hw0.2]; omega
              have hst : { crSt s picks i with B := (crSt s picks i).B.set p.1.toNat (p.2.2.2.take (512 : Int).toNat ++ r0.2.2.drop (512 : Int).toNat) } = crSt s picks (i + 1) := by unfold crSt; rw [rcrB_put hy h0, hT, ← hyp, show (rcrB s picks i).getD (p.1, p.2.2.2).1.toNat [] = r0.2.2 from B_at xi.2 hr0]
              refine C.cls (H2 := rX b (casR hst _ (rk_setB (r' := (.slice va (p.2.2.2.take (512 : Int).toNat ++ r0.2.2.drop (512 : Int).toNat).length vk, c2, (p.2.2.2.take (512 : Int).toNat ++ r0.2.2.drop (512 : Int).toNat))) xi.2 ⟨hz2, hlen2⟩ (n := p.1.toNat) (by have := xi.2.ok p hm; omega))) ++ []) (fun w hc => cls_setB hr0 ⟨rfl, rfl⟩ (by rw [Nat.mul_one] at hc; exact (hc.tail).perm (List.Perm.swap _ _ _))) ?_
              refine C.region (id := 2) (m := 3) (ops := opsOf (sub [0, 1, 0, 0, 1, 1] B43)) rfl ?_
              refine W.pure rfl (wo rfl) rfl rfl (p_move rfl rfl) (nf rfl) ?_
              refine W.pure rfl (wo rfl) rfl rfl (pI (wk (by omega)) (p_add rfl rfl rfl)) (nf rfl) ?_
              refine W.pure rfl (wo rfl) rfl rfl (p_assign rfl rfl) (nf rfl) ?_
              refine W.end' fun a1 w1 ha1 hc1 => hN ⟨i + 1, _⟩ (show i + 1 ≤ s.L.length by omega) (show s.L.length - (i + 1) < s.L.length - i by omega) a1 w1 (ha1.sub (Sub.cons rfl (Sub.cons rfl (Sub.cons rfl (Sub.nil _))))) hc1
          · refine W.pure rfl (wo rfl) rfl rfl (pF (by simpa using h2) (p_eql rfl rfl rfl)) (nf rfl) ?_
            refine W.pure rfl (wo rfl) rfl rfl (p_move rfl rfl) (nf rfl) ?_
            refine W.not rfl (wo rfl) rfl rfl ?_
            refine W.not rfl (wo rfl) rfl rfl ?_
            refine W.not rfl (wo rfl) rfl rfl ?_
            refine W.not rfl (wo rfl) rfl rfl ?_
            refine W.not rfl (wo rfl) rfl rfl ?_
            refine W.not rfl (wo rfl) rfl rfl ?_
            refine W.not rfl (wo rfl) rfl rfl ?_
            refine W.not rfl (wo rfl) rfl rfl ?_
            refine W.pure rfl (wo rfl) rfl rfl (p_pick_false rfl rfl rfl) (nf rfl) ?_
            refine W.doneQ (y := sub [0, 1, 0, 0, 1, 0, 0, 1, 1, 1, 1, 1, 0, 1] B43) rfl ?_
            refine C.cond_false (x := sub [0, 1, 0, 0, 1, 0, 0, 1, 1, 1, 1, 1, 0, 1, 0] B43) (y := sub [0, 1, 0, 0, 1, 0, 0, 1, 1, 1, 1, 1, 0, 1, 1] B43) rfl rfl ?_
            refine C.skipQ (y := sub [0, 1, 0, 0, 1, 0, 0, 1, 1, 1, 1, 1, 1] B43) rfl ?_
            refine C.seq (x := sub [0, 1, 0, 0, 1, 0, 0, 1, 1, 1, 1, 1, 1, 0] B43) (y := sub [0, 1, 0, 0, 1, 0, 0, 1, 1, 1, 1, 1, 1, 1] B43) ?_
            refine C.region (id := 11) (m := 9) (ops := opsOf (sub [0, 1, 0, 0, 1, 0, 0, 1, 1, 1, 1, 1, 1, 0] B43)) rfl ?_
            refine W.pure rfl (wo rfl) rfl rfl (p_move rfl rfl) (nf rfl) ?_
            refine W.pure rfl (wo rfl) rfl rfl (p_nilCheck rfl rfl) (nf rfl) ?_
            refine W.pure rfl (wo rfl) rfl rfl (p_fieldAddr tf73_1 rfl rfl) (nf rfl) ?_
            refine W.quiet rfl (wo rfl) rfl rfl (f_load (j := 0) ta71 rfl (off := 1) rfl rfl rfl) (nf rfl) ?_
            refine W.pure rfl (wo rfl) rfl rfl (p_move rfl rfl) (nf rfl) ?_
            refine W.pure rfl (wo rfl) rfl rfl (p_ixV xi.2.hL hlt tu71 ts80 rfl rfl rfl) (nf rfl) ?_
            refine W.quiet rfl (wo rfl) rfl rfl (f_loadElA (j := 2) rfl xi.2.hL (lcells_chunk hp) hlt ta80 ts80 rfl rfl) (nf rfl) ?_
            obtain ⟨pa, pk, hpv⟩ := own_len hrp.1
            refine W.new rfl (wo rfl) rfl rfl (f_alloc tz80 rfl) (nf rfl) ?_
            intro bq hbq
            refine W.put (H' := (some bq, .cells #[.int .i64 p.1, p.2.1] 80 (0, 0)) :: (rX b xi ++ [])) rfl (wo rfl) rfl (f_storeA (j := 0) ts80 rfl rfl rfl (by rw [hpv]; exact fun u hu => one_two _ _ _ _ u hu) rfl rfl rfl) (nf rfl) ?_
            refine W.doneQ (y := sub [0, 1, 0, 0, 1, 0, 0, 1, 1, 1, 1, 1, 1, 1] B43) rfl ?_
            have hT : rtear (picks.getD i 0) (decide (i + 1 = s.L.length)) = 512 := by unfold rtear; rw [if_neg (fun z => h2 z.1)]
            have hTr := rtear_rng (picks.getD i 0) (decide (i + 1 = s.L.length))
            rw [hT] at hTr
            refine C.settleZ (E := [(some bq, .cells #[.int .i64 p.1, p.2.1] 80 (0, 0)), rk0 b xi.1 (crSt s picks i)]) rfl ?_
            intro I2 hz
            have hq := hz.mem bq _ List.mem_cons_self
            have hb0 := hz.mem b _ (List.mem_cons_of_mem _ List.mem_cons_self)
            have hmT : rwE p.2 ∈ rkT xi.1 := List.mem_append_right _ (List.mem_map.2 ⟨p, hm, rfl⟩)
            have hmB : rwE r0 ∈ rkT xi.1 := List.mem_append_left _ (List.mem_map_of_mem hm0)
            refine C.regionD (id := 12) (ops := opsOf (sub [0, 1, 0, 0, 1, 0, 0, 1, 1, 1, 1, 1, 1, 1] B43)) [0, 1, 2, 3, 4, 5, 6, 7, 8, 9, 11, 12, 13, 14, 15, 16, 17, 18, 19, 20, 10, 21, 22, 23] [0, 1, 3, 7, 0, 16, 0, 64, 0, 448, 960, 0, 2048, 6144, 14336, 0, 32768, 129024, 260096, 0, 1046528, 2097088, 4194303, 8388607] [(.pure, none), (.pure, none), (.pure, none), (.pure, none), (.pure, none), (.pure, none), (.pure, none), (.pure, none), (.pure, none), (.pure, none), (.keep, none), (.pure, none), (.pure, none), (.pure, none), (.pure, none), (.pure, none), (.pure, none), (.pure, none), (.quiet, none), (.pure, none), (.pure, none), (.actx, none), (.pure, none), (.store, none)] (by kernel_rfl) ?_
            intro wD12 hl12
            refine DW.pure rfl rfl rfl rfl rfl (p_move rfl rfl) ?_
            refine DW.pure rfl rfl rfl rfl rfl (p_nilCheck rfl rfl) ?_
            refine DW.pure rfl rfl rfl rfl rfl (p_fieldAddr tf73_0 rfl rfl) ?_
            refine DW.imm rfl rfl rfl rfl rfl (i_loadBoxO (off := 0) hb0 rfl ta70 rfl rfl) ?_
            refine DW.pure rfl rfl rfl rfl rfl (p_fieldAddr tf80_0 rfl rfl) ?_
            refine DW.imm rfl rfl rfl rfl rfl (i_loadBoxO (off := 0) hq rfl ta3 rfl rfl) ?_
            refine DW.pure rfl rfl rfl rfl rfl (p_fieldAddr tf80_1 rfl rfl) ?_
            refine DW.imm rfl rfl rfl rfl rfl (i_loadBoxO (off := 1) hq rfl ta32 rfl rfl) ?_
            refine DW.pure rfl rfl rfl rfl rfl (p_move rfl rfl) ?_
            refine DW.pure rfl rfl rfl rfl rfl (p_subH tu32 ts5 (rw_row hrp) (by omega) (by rw [hrp.2]; omega) rfl rfl rfl) ?_
            refine DW.pure rfl rfl rfl rfl rfl (p_move rfl rfl) ?_
            refine DW.pure rfl rfl rfl rfl rfl (p_nilCheck rfl rfl) ?_
            refine DW.pure rfl rfl rfl rfl rfl (p_fieldAddr tf73_0 rfl rfl) ?_
            refine DW.imm rfl rfl rfl rfl rfl (i_loadBoxO (off := 0) hb0 rfl ta70 rfl rfl) ?_
            refine DW.pure rfl rfl rfl rfl rfl (p_fieldAddr tf80_0 rfl rfl) ?_
            refine DW.imm rfl rfl rfl rfl rfl (i_loadBoxO (off := 0) hq rfl ta3 rfl rfl) ?_
            refine DW.pure rfl rfl rfl rfl rfl (p_ixVI xi.2.hB (xi.2.ok p hm).1 (xi.2.ok p hm).2 tu70 ts32 rfl rfl rfl) ?_
            refine DW.quiet rfl rfl rfl rfl rfl (f_loadEl (q := r0.1) (i := 0) rfl xi.2.hB (by rw [Nat.mul_one, List.getElem?_map, hr0]; rfl) ta32 rfl rfl) ?_
            refine DW.pure rfl rfl rfl rfl rfl (p_move rfl rfl) ?_
            refine DW.pure rfl rfl rfl rfl rfl (p_subL tu32 ts5 (rw_row hw0) (by omega) (by rw [hw0.2]; omega) rfl rfl rfl) ?_
            refine DW.keep (fun z p hp => List.mem_cons_of_mem _ hp) rfl rfl rfl rfl rfl (f_app0 (xs := p.2.2.2.take (512 : Int).toNat) (by simp only [List.length_take, hrp.2]; omega) (fun w hc => RowV.src (IntRow.subH (OwnV.row hrp.1 hc (List.mem_cons_of_mem _ (List.mem_cons_of_mem _ (List.mem_append_left _ hmT)))) (by rw [hrp.2]; omega)) (encl_one .u8 _)) rfl rfl rfl) ?_
            rintro ⟨⟨zv, zc⟩, hz1⟩
            refine DW.actx rfl rfl rfl rfl rfl (f_appendInt (j := 0) (ys := r0.2.2.drop (512 : Int).toNat) elem32 rfl hz1 (by simp only [List.length_take, List.length_drop, hrp.2, hw0.2]; omega) (by decide) (fun w hc => RowV.src (IntRow.subL (OwnV.row hw0.1 hc (List.mem_cons_of_mem _ (List.mem_cons_of_mem _ (List.mem_cons_of_mem _ (List.mem_append_left _ hmB))))) (by rw [hw0.2]; omega)) (encl_one .u8 _)) rfl rfl rfl) ?_
            rintro ⟨⟨v2, c2⟩, hz2⟩
            obtain ⟨va, vk, rfl⟩ := own_len hz2
            refine DW.pure rfl rfl rfl rfl rfl (p_ixVI xi.2.hB (xi.2.ok p hm).1 (xi.2.ok p hm).2 tu70 ts32 rfl rfl rfl) ?_
            refine DW.put rfl rfl rfl rfl rfl (f_storeEl (q := .slice va (p.2.2.2.take (512 : Int).toNat ++ r0.2.2.drop (512 : Int).toNat).length vk) (i := 1) ts32 rfl xi.2.hB (j := p.1.toNat * 1) (by have := xi.2.ok p hm; omega) rfl trivial rfl rfl rfl) ?_
            refine DW.doneZ (y := sub [0, 1, 0, 0, 1, 1] B43) hl12 hz rfl ?_
            have hlen2 : (p.2.2.2.take (512 : Int).toNat ++ r0.2.2.drop (512 : Int).toNat).length = 512 := by simp only [List.length_append, List.length_take, List.length_drop, hrp.2, hw0.2]; omega
            have hst : { crSt s picks i with B := (crSt s picks i).B.set p.1.toNat (p.2.2.2.take (512 : Int).toNat ++ r0.2.2.drop (512 : Int).toNat) } = crSt s picks (i + 1) := by unfold crSt; rw [rcrB_put hy h0, hT, ← hyp, show (rcrB s picks i).getD (p.1, p.2.2.2).1.toNat [] = r0.2.2 from B_at xi.2 hr0]
            refine C.cls (H2 := rX b (casR hst _ (rk_setB (r' := (.slice va (p.2.2.2.take (512 : Int).toNat ++ r0.2.2.drop (512 : Int).toNat).length vk, c2, (p.2.2.2.take (512 : Int).toNat ++ r0.2.2.drop (512 : Int).toNat))) xi.2 ⟨hz2, hlen2⟩ (n := p.1.toNat) (by have := xi.2.ok p hm; omega))) ++ []) (fun w hc => cls_setB hr0 ⟨rfl, rfl⟩ (by rw [Nat.mul_one] at hc; exact (hc.tail).perm (List.Perm.swap _ _ _))) ?_
            refine C.region (id := 2) (m := 3) (ops := opsOf (sub [0, 1, 0, 0, 1, 1] B43)) rfl ?_
            refine W.pure rfl (wo rfl) rfl rfl (p_move rfl rfl) (nf rfl) ?_
            refine W.pure rfl (wo rfl) rfl rfl (pI (wk (by omega)) (p_add rfl rfl rfl)) (nf rfl) ?_
            refine W.pure rfl (wo rfl) rfl rfl (p_assign rfl rfl) (nf rfl) ?_
            refine W.end' fun a1 w1 ha1 hc1 => hN ⟨i + 1, _⟩ (show i + 1 ≤ s.L.length by omega) (show s.L.length - (i + 1) < s.L.length - i by omega) a1 w1 (ha1.sub (Sub.cons rfl (Sub.cons rfl (Sub.cons rfl (Sub.nil _))))) hc1
      · refine W.pure rfl (wo rfl) rfl rfl (pF (decide_eq_false (by omega)) (p_lss rfl rfl rfl)) (nf rfl) ?_
        refine W.doneQ (y := sub [0, 1, 0, 0, 1, 0, 0, 1, 0, 1] B43) rfl ?_
        refine C.cond_false (x := sub [0, 1, 0, 0, 1, 0, 0, 1, 0, 1, 0] B43) (y := sub [0, 1, 0, 0, 1, 0, 0, 1, 0, 1, 1] B43) rfl rfl ?_
        refine C.skipQ (y := sub [0, 1, 0, 0, 1, 0, 0, 1, 1] B43) rfl ?_
        refine C.seq (x := sub [0, 1, 0, 0, 1, 0, 0, 1, 1, 0] B43) (y := sub [0, 1, 0, 0, 1, 0, 0, 1, 1, 1] B43) ?_
        refine C.region (id := 6) (m := 7) (ops := opsOf (sub [0, 1, 0, 0, 1, 0, 0, 1, 1, 0] B43)) rfl ?_
        refine W.pure rfl (wo rfl) rfl rfl (p_move rfl rfl) (nf rfl) ?_
        refine W.quiet rfl (wo rfl) rfl rfl (f_callR rfl rfl (args_val rfl) (en50 _) (fun w2 hc2 => rdiv_ok w2 _ 3 (by decide))) (nf rfl) ?_
        refine W.pure rfl (wo rfl) rfl rfl (p_move rfl rfl) (nf rfl) ?_
        refine W.pure rfl (wo rfl) rfl rfl (p_extract rfl rfl rfl) (nf rfl) ?_
        refine W.pure rfl (wo rfl) rfl rfl (p_extract rfl rfl rfl) (nf rfl) ?_
        refine W.pure rfl (wo rfl) rfl rfl (p_assign rfl rfl) (nf rfl) ?_
        refine W.pure rfl (wo rfl) rfl rfl (p_assign rfl rfl) (nf rfl) ?_
        refine W.doneQ (y := sub [0, 1, 0, 0, 1, 0, 0, 1, 1, 1] B43) rfl ?_
        refine C.seq (x := sub [0, 1, 0, 0, 1, 0, 0, 1, 1, 1, 0] B43) (y := sub [0, 1, 0, 0, 1, 0, 0, 1, 1, 1, 1] B43) ?_
        refine C.seq (x := sub [0, 1, 0, 0, 1, 0, 0, 1, 1, 1, 0, 0] B43) (y := sub [0, 1, 0, 0, 1, 0, 0, 1, 1, 1, 0, 1] B43) ?_
        refine C.region (id := 7) (m := 2) (ops := opsOf (sub [0, 1, 0, 0, 1, 0, 0, 1, 1, 1, 0, 0] B43)) rfl ?_
        refine W.pure rfl (wo rfl) rfl rfl (p_move rfl rfl) (nf rfl) ?_
        refine W.pure rfl (wo rfl) rfl rfl (pT (by decide) (p_eql rfl rfl rfl)) (nf rfl) ?_
        refine W.doneQ (y := sub [0, 1, 0, 0, 1, 0, 0, 1, 1, 1, 0, 1] B43) rfl ?_
        refine C.cond_true (x := sub [0, 1, 0, 0, 1, 0, 0, 1, 1, 1, 0, 1, 0] B43) (y := sub [0, 1, 0, 0, 1, 0, 0, 1, 1, 1, 0, 1, 1] B43) rfl rfl ?_
        refine C.exitQ (y := sub [0, 1, 0, 0, 1, 1] B43) rfl ?_
        have h0 : divR (picks.getD i 0) 3 = 0 := by rw [getD0 hpk]; rfl
        have hst : crSt s picks i = crSt s picks (i + 1) := by unfold crSt; rw [rcrB_skip hy h0]
        refine C.cls (H2 := rX b (casR hst xi.1 xi.2) ++ []) (fun w hc => hc) ?_
        refine C.region (id := 2) (m := 3) (ops := opsOf (sub [0, 1, 0, 0, 1, 1] B43)) rfl ?_
        refine W.pure rfl (wo rfl) rfl rfl (p_move rfl rfl) (nf rfl) ?_
        refine W.pure rfl (wo rfl) rfl rfl (pI (wk (by omega)) (p_add rfl rfl rfl)) (nf rfl) ?_
        refine W.pure rfl (wo rfl) rfl rfl (p_assign rfl rfl) (nf rfl) ?_
        refine W.end' fun a1 w1 ha1 hc1 => hN ⟨i + 1, _⟩ (show i + 1 ≤ s.L.length by omega) (show s.L.length - (i + 1) < s.L.length - i by omega) a1 w1 (ha1.sub (Sub.cons rfl (Sub.cons rfl (Sub.cons rfl (Sub.nil _))))) hc1
    · refine C.seq (x := sub [0, 1, 0, 0, 0] B43) (y := sub [0, 1, 0, 0, 1] B43) ?_
      refine C.seq (x := sub [0, 1, 0, 0, 0, 0] B43) (y := sub [0, 1, 0, 0, 0, 1] B43) ?_
      refine C.region (id := 1) (m := 7) (ops := opsOf (sub [0, 1, 0, 0, 0, 0] B43)) rfl ?_
      refine W.pure rfl (wo rfl) rfl rfl (p_move rfl rfl) (nf rfl) ?_
      refine W.pure rfl (wo rfl) rfl rfl (p_move rfl rfl) (nf rfl) ?_
      refine W.pure rfl (wo rfl) rfl rfl (p_nilCheck rfl rfl) (nf rfl) ?_
      refine W.pure rfl (wo rfl) rfl rfl (p_fieldAddr tf73_1 rfl rfl) (nf rfl) ?_
      refine W.quiet rfl (wo rfl) rfl rfl (f_load (j := 0) ta71 rfl (off := 1) rfl rfl rfl) (nf rfl) ?_
      refine W.pure rfl (wo rfl) rfl rfl (p_slLen tu71 (own_len xi.2.hL) rfl rfl) (nf rfl) ?_
      refine W.pure rfl (wo rfl) rfl rfl (pF (decide_eq_false (by omega)) (p_lss rfl rfl rfl)) (nf rfl) ?_
      refine W.doneQ (y := sub [0, 1, 0, 0, 0, 1] B43) rfl ?_
      refine C.cond_false (x := sub [0, 1, 0, 0, 0, 1, 0] B43) (y := sub [0, 1, 0, 0, 0, 1, 1] B43) rfl rfl ?_
      exact C.exit fun a1 w1 ha1 hc1 => hE (show i = s.L.length by omega) a1 w1 (ha1.sub (Sub.cons rfl (Sub.cons rfl (Sub.cons rfl (Sub.nil _))))) hc1
  rintro ⟨i, xi⟩ (hi : i ≤ s.L.length) (hie : i = s.L.length)
  subst hie
  show CW _ _ _ _ _ [(0, ptr b 0), (1, pv), (4, .int .i64 (s.L.length : Int))] (rX b xi ++ [])
  refine C.region (id := 13) (m := 12) (ops := opsOf (sub [1] B43)) rfl ?_
  refine W.pure rfl (wo rfl) rfl rfl (p_move rfl rfl) (nf rfl) ?_
  refine W.pure rfl (wo rfl) rfl rfl (p_move rfl rfl) (nf rfl) ?_
  refine W.pure rfl (wo rfl) rfl rfl (p_move rfl rfl) (nf rfl) ?_
  refine W.pure rfl (wo rfl) rfl rfl (p_nilCheck rfl rfl) (nf rfl) ?_
  refine W.pure rfl (wo rfl) rfl rfl (p_fieldAddr tf73_1 rfl rfl) (nf rfl) ?_
  refine W.put rfl (wo rfl) rfl (f_st0 (k := 1) (u := .slice none 0 0) ts71 rfl trivial (show 1 < 4 by decide) rfl rfl rfl) (nf rfl) ?_
  refine W.pure rfl (wo rfl) rfl rfl (p_nilCheck rfl rfl) (nf rfl) ?_
  refine W.pure rfl (wo rfl) rfl rfl (p_fieldAddr tf73_2 rfl rfl) (nf rfl) ?_
  refine W.put rfl (wo rfl) rfl (f_st0 (k := 2) (u := .int .i64 (-1)) ts3 rfl trivial (show 2 < 4 by decide) rfl rfl rfl) (nf rfl) ?_
  refine W.pure rfl (wo rfl) rfl rfl (p_nilCheck rfl rfl) (nf rfl) ?_
  refine W.pure rfl (wo rfl) rfl rfl (p_fieldAddr tf73_3 rfl rfl) (nf rfl) ?_
  refine W.put rfl (wo rfl) rfl (f_st0 (k := 3) (u := .bool false) ts4 rfl trivial (show 3 < 4 by decide) rfl rfl rfl) (nf rfl) ?_
  exact W.endRet (R := fun e w' => ∃ x' : Rx (rcrashK s picks), e = .returned (.tuple #[]) ∧ Cls w0 I' (rX b x') w') (rs := []) (vs := []) rfl Try.func43 rfl rfl rfl res_nil fun w1 hc1 => ⟨⟨_, rk_same (rk_nilL xi.2) rfl rfl⟩, rfl, cls_nilL0 (s' := rcrashK s picks) hc1⟩

end Go.Proofs.Ytjomnicfcdkfdaa
end

section
namespace Go.Proofs.Ytjomnicfcdkfdaa
open Go Go.HW Go.RowKit
set_option linter.unusedVariables false
set_option linter.unusedSimpArgs false

theorem bu73 (w : World) : (Instr.build 73 #[(2, .int .i64 (-1))]).run Try.prog w = .ok (.agg #[.slice none 0 0, .slice none 0 0, .int .i64 (-1), .bool false]) w := by kernel_rfl
def g00 : Rg := ⟨.slice none 0 0, #[], .slice none 0 0, #[], [], []⟩
theorem g00_ok : RkO g00 (rnewK 0) := ⟨OwnV.nil 1, OwnV.nil 2, fun r hr => (by cases hr), fun p hp => (by cases hp), rfl, rfl, fun p hp => (by cases hp)⟩
theorem cls_new0 {w0 w : World} {I : Mem} {b : Nat} {R : Heap} (h : Cls w0 I (rk0 b g00 (rnewK 0) :: R) w) : Cls w0 I (rkH b g00 (rnewK 0) ++ R) w := by
  have h1 := cls_addNil (o := .cells #[] 32 (0, 0)) (cls_addNil (o := .cells #[] 80 (0, 0)) h)
  refine h1.perm ?_
  show (_ :: _ :: _ :: R).Perm (_ :: _ :: _ :: R)
  refine (List.Perm.cons _ (List.Perm.swap _ _ _)).trans ?_
  exact List.Perm.swap _ _ _
theorem rk_pushB {g : Rg} {s : Rk} (h : RkO g s) {r' : Rw} (hr : rwOk r') {v : Value} {c : Array Value} (hz : OwnV v c 1 (g.Bs.length + 1) (g.Bs.map (·.1) ++ [r'.1])) : RkO { g with vB := v, cB := c, Bs := g.Bs ++ [r'] } { s with B := s.B ++ [r'.2.2] } := by
  refine ⟨?_, h.hL, fun r hm => ?_, h.rL, ?_, h.sL, fun p hp => ?_⟩
  · show OwnV v c 1 (g.Bs ++ [r']).length ((g.Bs ++ [r']).map (·.1))
    rw [List.length_append, List.map_append]; exact hz
  · rcases List.mem_append.1 hm with hm | hm
    · exact h.rB r hm
    · rw [List.mem_singleton.1 hm]; exact hr
  · show s.B ++ [r'.2.2] = (g.Bs ++ [r']).map _
    rw [List.map_append, h.sB]; rfl
  · have := h.ok p hp
    show 0 ≤ p.1 ∧ p.1 < ((g.Bs ++ [r']).length : Int)
    rw [List.length_append]; simp only [List.length_singleton]; omega
theorem cls_pushB {w0 w : World} {I : Mem} {b : Nat} {g : Rg} {s' : Rk} {x : Option Nat × Obj} {r' : Rw} {v : Value} {c : Array Value} {R : Heap} (h : Cls w0 I (x :: rwE r' :: rk0 b { g with vB := v, cB := c, Bs := g.Bs ++ [r'] } s' :: (v.ownBlock, .cells c 32 (0, 0)) :: (g.vL.ownBlock, .cells g.cL 80 (0, 0)) :: (rkT g ++ R)) w) : Cls w0 I (rkH b { g with vB := v, cB := c, Bs := g.Bs ++ [r'] } s' ++ R) w := by
  refine (h.tail).perm ?_
  show (rwE r' :: _ :: _ :: _ :: (rkT g ++ R)).Perm (_ :: _ :: _ :: (rkT _ ++ R))
  have e : rkT { g with vB := v, cB := c, Bs := g.Bs ++ [r'] } = g.Bs.map rwE ++ rwE r' :: g.Ls.map fun p => rwE p.2 := by unfold rkT; simp
  rw [e]
  refine (List.Perm.swap _ _ _).trans (List.Perm.cons _ ?_)
  refine (List.Perm.swap _ _ _).trans (List.Perm.cons _ ?_)
  refine (List.Perm.swap _ _ _).trans (List.Perm.cons _ ?_)
  unfold rkT
  rw [List.append_assoc, List.append_assoc]
  exact (List.perm_middle (l₁ := g.Bs.map rwE) (a := rwE r') (l₂ := (g.Ls.map fun p => rwE p.2) ++ R)).symm
theorem rnew_succ (i : Nat) : { rnewK i with B := (rnewK i).B ++ [zeros] } = rnewK (i + 1) := by
  unfold rnewK; rw [List.replicate_succ']
theorem fill70 (v : Value) (h : ∃ a n c, v = .slice a n c) : Instr.fill (fun i => some (i * 1, 1)) ((Array.range (1 * 1)).map (fun x => (Value.slice none 0 0).cells[x % (Value.slice none 0 0).cells.size]!)) [(0, v)] = some #[v] := by
  obtain ⟨a, n, c, rfl⟩ := h; kernel_rfl

noncomputable def B22 : Code := bodyOf Try.f22
theorem en22 (args : Array Value) (w : World) : (callFunc 22 args).run Try.prog w = .ok (.enter 22 args) w := by kernel_rfl
theorem rNew {I : Mem} (n : Nat) (hn : n ≤ 1000000) : Turn I 22 #[.int .i64 (n : Int)] [] (fun p : Nat × Rx (rnewK n) => ptr p.1 0) (fun p => rX p.1 p.2) := fun I' he w0 w hc => by
  refine calls_of_CW (N := 23) Try.func22 (show _ = some B22 by kernel_rfl) (by kernel_rfl) rfl (S := [(0, .int .i64 (n : Int))]) (by simp) hc ?_
  show CW _ _ _ (sub [] B22) _ _ _
  refine C.seq (x := sub [0] B22) (y := sub [1] B22) ?_
  refine C.region (id := 0) (m := 1) (ops := opsOf (sub [0] B22)) rfl ?_
  refine W.pure rfl (wo rfl) rfl rfl (p_assign (v := .pointer none) rfl rfl) (nf rfl) ?_
  refine W.doneQ (y := sub [1] B22) rfl ?_
  refine C.seq (x := sub [1, 0] B22) (y := sub [1, 1] B22) ?_
  refine C.region (id := 1) (m := 3) (ops := opsOf (sub [1, 0] B22)) rfl ?_
  refine W.pure rfl (wo rfl) rfl rfl (p_build (vs := [(2, .int .i64 (-1))]) (fun w => bu73 w) rfl rfl) (nf rfl) ?_
  refine W.new rfl (wo rfl) rfl rfl (f_box rfl rfl) (nf rfl) ?_
  intro b hb
  refine W.pure rfl (wo rfl) rfl rfl (p_assign rfl rfl) (nf rfl) ?_
  refine W.doneQ (y := sub [1, 1] B22) rfl ?_
  refine C.seq (x := sub [1, 1, 0] B22) (y := sub [1, 1, 1] B22) ?_
  refine C.seq (x := sub [1, 1, 0, 0] B22) (y := sub [1, 1, 0, 1] B22) ?_
  refine C.cls (H2 := rX b (⟨g00, g00_ok⟩ : Rx (rnewK 0)) ++ []) (fun w hc => cls_new0 hc) ?_
  refine C.region (id := 2) (m := 1) (ops := opsOf (sub [1, 1, 0, 0] B22)) rfl ?_
  refine W.pure rfl (wo rfl) rfl rfl (p_assign rfl rfl) (nf rfl) ?_
  refine W.doneQ (y := sub [1, 1, 0, 1] B22) rfl ?_
  refine C.loopB (id := 0) (c := sub [1, 1, 0, 1, 0, 0] B22) (y := sub [1, 1, 1] B22) (α := (i : Nat) × Rx (rnewK i)) (fun q => n - q.1) (fun q => [(0, .int .i64 (n : Int)), (3, ptr b 0), (4, .int .i64 (q.1 : Int))]) (fun q => rX b q.2 ++ []) (fun q => q.1 ≤ n) ⟨0, ⟨g00, g00_ok⟩⟩ (Nat.zero_le _) (Sub.cons rfl (Sub.cons rfl (Sub.cons rfl (Sub.nil _)))) rfl rfl (fun q => q.1 = n) ?_ ?_
  · rintro ⟨i, xi⟩ (hi : i ≤ n) Q' hN hE hR
    show CW _ _ _ _ _ [(0, .int .i64 (n : Int)), (3, ptr b 0), (4, .int .i64 (i : Int))] (rX b xi ++ [])
    by_cases hlt : i < n
    · refine C.seq (x := sub [1, 1, 0, 1, 0, 0, 0] B22) (y := sub [1, 1, 0, 1, 0, 0, 1] B22) ?_
      refine C.seq (x := sub [1, 1, 0, 1, 0, 0, 0, 0] B22) (y := sub [1, 1, 0, 1, 0, 0, 0, 1] B22) ?_
      refine C.region (id := 3) (m := 3) (ops := opsOf (sub [1, 1, 0, 1, 0, 0, 0, 0] B22)) rfl ?_
      refine W.pure rfl (wo rfl) rfl rfl (p_move rfl rfl) (nf rfl) ?_
      refine W.pure rfl (wo rfl) rfl rfl (p_move rfl rfl) (nf rfl) ?_
      refine W.pure rfl (wo rfl) rfl rfl (pT (decide_eq_true (by omega)) (p_lss rfl rfl rfl)) (nf rfl) ?_
      refine W.doneQ (y := sub [1, 1, 0, 1, 0, 0, 0, 1] B22) rfl ?_
      refine C.cond_true (x := sub [1, 1, 0, 1, 0, 0, 0, 1, 0] B22) (y := sub [1, 1, 0, 1, 0, 0, 0, 1, 1] B22) rfl rfl ?_
      refine C.skipQ (y := sub [1, 1, 0, 1, 0, 0, 1] B22) rfl ?_
      refine C.seq (x := sub [1, 1, 0, 1, 0, 0, 1, 0] B22) (y := sub [1, 1, 0, 1, 0, 0, 1, 1] B22) ?_
      refine C.block (id := 1) (c := sub [1, 1, 0, 1, 0, 0, 1, 0, 0] B22) ?_
      refine C.regionD (id := 5) (ops := opsOf (sub [1, 1, 0, 1, 0, 0, 1, 0, 0] B22)) [0, 1, 2, 3, 4, 5, 6, 7, 8, 9, 10] [0, 0, 2, 6, 14, 0, 32, 126, 255, 511, 1023] [(.pure, none), (.pure, none), (.pure, none), (.pure, none), (.quiet, none), (.alloc, none), (.alloc, none), (.actx, none), (.pure, none), (.pure, none), (.store, none)] (by kernel_rfl) ?_
      intro wD5 hl5
      refine DW.pure rfl rfl rfl rfl rfl (p_move rfl rfl) ?_
      refine DW.pure rfl rfl rfl rfl rfl (p_move rfl rfl) ?_
      refine DW.pure rfl rfl rfl rfl rfl (p_nilCheck rfl rfl) ?_
      refine DW.pure rfl rfl rfl rfl rfl (p_fieldAddr tf73_0 rfl rfl) ?_
      refine DW.quiet rfl rfl rfl rfl rfl (f_load (j := 0) ta70 rfl (off := 0) rfl rfl rfl) ?_
      refine DW.new rfl rfl rfl rfl rfl (f_make (n := 512) elem32 (by decide) (by decide) rfl rfl rfl) ?_
      intro br hbr
      refine DW.new rfl rfl rfl rfl rfl (f_buildS (n := 1) (vs := [(0, .slice (some ⟨br, 0, none⟩) 512 512)]) elem70 (by decide) (by decide) (fill70 _ ⟨_, _, _, rfl⟩) rfl (args_val2 rfl)) ?_
      intro bw hbw
      refine DW.actx rfl rfl rfl rfl rfl (f_append (j := 3) (m := 1) (news := [.slice (some ⟨br, 0, none⟩) 512 512]) elem70 rfl xi.2.hB (by rw [← B_len xi.2]; show (List.replicate i zeros).length + 1 ≤ _; rw [List.length_replicate]; omega) (by decide) (fun w hc => OwnV.src (e := 32) (cur := #[.slice (some ⟨br, 0, none⟩) 512 512]) (v := .slice (some ⟨bw, 0, none⟩) 1 1) (OwnV.fresh (Nat.le_refl _) (by decide) rfl rfl rfl) hc List.mem_cons_self (fun u hu => by rw [List.mem_singleton.1 hu]; rfl)) rfl rfl rfl) ?_
      rintro ⟨⟨v2, c2⟩, hz2⟩
      obtain ⟨va, vk, rfl⟩ := own_len hz2
      refine DW.pure rfl rfl rfl rfl rfl (p_nilCheck rfl rfl) ?_
      refine DW.pure rfl rfl rfl rfl rfl (p_fieldAddr tf73_0 rfl rfl) ?_
      refine DW.put rfl rfl rfl rfl rfl (f_store (j := 2) (off := 0) (v := .slice va (xi.1.Bs.length + 1) vk) ts70 rfl rfl (show 0 < 4 by decide) trivial rfl rfl rfl) ?_
      refine DW.doneQ (y := sub [1, 1, 0, 1, 0, 0, 1, 1] B22) hl5 rfl ?_
      refine C.cls (H2 := rX b (casR (rnew_succ i) _ (rk_pushB (r' := (.slice (some ⟨br, 0, none⟩) 512 512, enc .u8 zeros, zeros)) xi.2 ⟨own_new List.length_replicate (by decide), List.length_replicate⟩ hz2)) ++ []) (fun w hc => cls_pushB hc) ?_
      refine C.region (id := 4) (m := 3) (ops := opsOf (sub [1, 1, 0, 1, 0, 0, 1, 1] B22)) rfl ?_
      refine W.pure rfl (wo rfl) rfl rfl (p_move rfl rfl) (nf rfl) ?_
      refine W.pure rfl (wo rfl) rfl rfl (pI (wk (by omega)) (p_add rfl rfl rfl)) (nf rfl) ?_
      refine W.pure rfl (wo rfl) rfl rfl (p_assign rfl rfl) (nf rfl) ?_
      refine W.end' fun a1 w1 ha1 hc1 => hN ⟨i + 1, _⟩ (show i + 1 ≤ n by omega) (show n - (i + 1) < n - i by omega) a1 w1 (ha1.sub (Sub.cons rfl (Sub.cons rfl (Sub.cons rfl (Sub.nil _))))) hc1
    · refine C.seq (x := sub [1, 1, 0, 1, 0, 0, 0] B22) (y := sub [1, 1, 0, 1, 0, 0, 1] B22) ?_
      refine C.seq (x := sub [1, 1, 0, 1, 0, 0, 0, 0] B22) (y := sub [1, 1, 0, 1, 0, 0, 0, 1] B22) ?_
      refine C.region (id := 3) (m := 3) (ops := opsOf (sub [1, 1, 0, 1, 0, 0, 0, 0] B22)) rfl ?_
      refine W.pure rfl (wo rfl) rfl rfl (p_move rfl rfl) (nf rfl) ?_
      refine W.pure rfl (wo rfl) rfl rfl (p_move rfl rfl) (nf rfl) ?_
      refine W.pure rfl (wo rfl) rfl rfl (pF (decide_eq_false (by omega)) (p_lss rfl rfl rfl)) (nf rfl) ?_
      refine W.doneQ (y := sub [1, 1, 0, 1, 0, 0, 0, 1] B22) rfl ?_
      refine C.cond_false (x := sub [1, 1, 0, 1, 0, 0, 0, 1, 0] B22) (y := sub [1, 1, 0, 1, 0, 0, 0, 1, 1] B22) rfl rfl ?_
      exact C.exit fun a1 w1 ha1 hc1 => hE (show i = n by omega) a1 w1 (ha1.sub (Sub.cons rfl (Sub.cons rfl (Sub.cons rfl (Sub.nil _))))) hc1
  rintro ⟨i, xi⟩ (hi : i ≤ n) (hie : i = n)
  have hie := hie.symm
  subst hie
  show CW _ _ _ _ _ [(0, .int .i64 (n : Int)), (3, ptr b 0), (4, .int .i64 (n : Int))] (rX b xi ++ [])
  refine C.seq (x := sub [1, 1, 1, 0] B22) (y := sub [1, 1, 1, 1] B22) ?_
  refine C.region (id := 6) (m := 2) (ops := opsOf (sub [1, 1, 1, 0] B22)) rfl ?_
  refine W.pure rfl (wo rfl) rfl rfl (p_move rfl rfl) (nf rfl) ?_
  refine W.pure rfl (wo rfl) rfl rfl (p_assign rfl rfl) (nf rfl) ?_
  refine W.doneQ (y := sub [1, 1, 1, 1] B22) rfl ?_
  exact C.ret (R := fun e w' => ∃ p : Nat × Rx (rnewK n), e = .returned (ptr p.1 0) ∧ Cls w0 I' (rX p.1 p.2) w') (rs := [.tmp 2]) (vs := [ptr b 0]) rfl Try.func22 rfl rfl rfl (res_cons (ResV.tmp rfl) res_nil) fun w1 hc1 => ⟨(b, xi), rfl, by rw [List.append_nil] at hc1; exact hc1⟩

end Go.Proofs.Ytjomnicfcdkfdaa
end
