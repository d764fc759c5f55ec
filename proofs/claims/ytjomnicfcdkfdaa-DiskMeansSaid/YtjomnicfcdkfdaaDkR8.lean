import Derived.Test.YtjomnicfcdkfdaaDkR6
section
namespace Go.Proofs.Ytjomnicfcdkfdaa
open Go Go.HW Go.RowKit
set_option linter.unusedVariables false
set_option linter.unusedSimpArgs false

noncomputable def B41 : Code := bodyOf Try.f41
theorem en41 (args : Array Value) (w : World) : (callFunc 41 args).run Try.prog w = .ok (.enter 41 args) w := by kernel_rfl
theorem rSync {I : Mem} {b : Nat} {s s2 : Rk} {e : Int} (x : Rx s) (hK : rsyncK s = (e, s2)) (hl : s.L.length ≤ 1099511627775) : Turn I 41 #[ptr b 0] (rX b x) (fun _ : Rx s2 => .int .i64 e) (fun x' => rX b x') := fun I' he w0 w hc => by
  have hc : Cls w0 I' (rX b x ++ []) w := by rw [List.append_nil]; exact hc
  have hlS : ∀ e1 s1, rstepK s = (e1, s1) → s1.L.length ≤ 1099511627775 := fun e1 s1 h => by rw [rstep_L h]; exact hl
  refine calls_of_CW (N := 48) Try.func41 (show _ = some B41 by kernel_rfl) (by kernel_rfl) rfl (S := [(0, ptr b 0)]) (by simp) hc ?_
  show CW _ _ _ (sub [] B41) _ _ _
  refine C.seq (x := sub [0] B41) (y := sub [1] B41) ?_
  refine C.region (id := 0) (m := 1) (ops := opsOf (sub [0] B41)) rfl ?_
  refine W.pure rfl (wo rfl) rfl rfl (p_assign rfl rfl) (nf rfl) ?_
  refine W.doneQ (y := sub [1] B41) rfl ?_
  refine C.seq (x := sub [1, 0] B41) (y := sub [1, 1] B41) ?_
  refine C.region (id := 1) (m := 3) (ops := opsOf (sub [1, 0] B41)) rfl ?_
  refine W.pure rfl (wo rfl) rfl rfl (p_move rfl rfl) (nf rfl) ?_
  obtain ⟨e1, s1, hS⟩ : ∃ e1 s1, rstepK s = (e1, s1) := ⟨_, _, rfl⟩
  have hl1 := hlS e1 s1 hS
  refine W.c11 rfl (wo rfl) rfl rfl rfl (rStep x hS) (en49 _) rfl rfl rfl (args_val rfl) ?_
  intro x2
  refine W.pure rfl (wo rfl) rfl rfl (p_assign rfl rfl) (nf rfl) ?_
  refine W.doneQ (y := sub [1, 1] B41) rfl ?_
  refine C.seq (x := sub [1, 1, 0] B41) (y := sub [1, 1, 1] B41) ?_
  refine C.seq (x := sub [1, 1, 0, 0] B41) (y := sub [1, 1, 0, 1] B41) ?_
  by_cases h3 : e1 = 0
  · subst h3
    refine C.region (id := 2) (m := 1) (ops := opsOf (sub [1, 1, 0, 0] B41)) rfl ?_
    refine W.pure rfl (wo rfl) rfl rfl (p_assign rfl rfl) (nf rfl) ?_
    refine W.doneQ (y := sub [1, 1, 0, 1] B41) rfl ?_
    refine C.loopB (id := 0) (c := sub [1, 1, 0, 1, 0, 0] B41) (y := sub [1, 1, 1] B41) (α := (i : Nat) × Rx (stB s1 i)) (fun q => s1.L.length - q.1) (fun q => [(0, ptr b 0), (3, .int .i64 0), (4, .int .i64 (q.1 : Int))]) (fun q => rX b q.2 ++ []) (fun q => q.1 ≤ s1.L.length) ⟨0, x2⟩ (Nat.zero_le _) (Sub.cons rfl (Sub.cons rfl (Sub.cons rfl (Sub.nil _)))) rfl rfl (fun q => q.1 = s1.L.length) ?_ ?_
    · rintro ⟨i, xi⟩ (hi : i ≤ s1.L.length) Q' hN hE hR
      show CW _ _ _ _ _ [(0, ptr b 0), (3, .int .i64 0), (4, .int .i64 (i : Int))] (rX b xi ++ [])
      have hll : s1.L.length = xi.1.Ls.length := (show (stB s1 i).L.length = _ from L_len xi.2)
      by_cases hlt : i < xi.1.Ls.length
      · obtain ⟨p, hp⟩ : ∃ p, xi.1.Ls[i]? = some p := ⟨_, List.getElem?_eq_getElem hlt⟩
        have hm : p ∈ xi.1.Ls := List.mem_of_getElem? hp
        have hrp := xi.2.rL p hm
        obtain ⟨r0, hr0, hm0⟩ := B_row xi.2 hm
        have hst : { stB s1 i with B := (stB s1 i).B.set p.1.toNat p.2.2.2 } = stB s1 (i + 1) := by unfold stB; rw [rsetB_succ (show s1.L[i]? = _ from L_at xi.2 hp)]
        refine C.seq (x := sub [1, 1, 0, 1, 0, 0, 0] B41) (y := sub [1, 1, 0, 1, 0, 0, 1] B41) ?_
        refine C.seq (x := sub [1, 1, 0, 1, 0, 0, 0, 0] B41) (y := sub [1, 1, 0, 1, 0, 0, 0, 1] B41) ?_
        refine C.region (id := 3) (m := 11) (ops := opsOf (sub [1, 1, 0, 1, 0, 0, 0, 0] B41)) rfl ?_
        refine W.pure rfl (wo rfl) rfl rfl (p_move rfl rfl) (nf rfl) ?_
        refine W.pure rfl (wo rfl) rfl rfl (p_move rfl rfl) (nf rfl) ?_
        refine W.pure rfl (wo rfl) rfl rfl (p_nilCheck rfl rfl) (nf rfl) ?_
        refine W.pure rfl (wo rfl) rfl rfl (p_fieldAddr tf73_1 rfl rfl) (nf rfl) ?_
        refine W.quiet rfl (wo rfl) rfl rfl (f_load (j := 0) ta71 rfl (off := 1) rfl rfl rfl) (nf rfl) ?_
        refine W.pure rfl (wo rfl) rfl rfl (p_slLen tu71 (own_len xi.2.hL) rfl rfl) (nf rfl) ?_
        refine W.pure rfl (wo rfl) rfl rfl (pT (decide_eq_true (by omega)) (p_lss rfl rfl rfl)) (nf rfl) ?_
        refine W.pure rfl (wo rfl) rfl rfl (p_move rfl rfl) (nf rfl) ?_
        refine W.pure rfl (wo rfl) rfl rfl (p_move rfl rfl) (nf rfl) ?_
        refine W.pure rfl (wo rfl) rfl rfl (pT (by rfl) (p_eql rfl rfl rfl)) (nf rfl) ?_
        refine W.pure rfl (wo rfl) rfl rfl (p_pick_true rfl rfl rfl) (nf rfl) ?_
        refine W.doneQ (y := sub [1, 1, 0, 1, 0, 0, 0, 1] B41) rfl ?_
        refine C.cond_true (x := sub [1, 1, 0, 1, 0, 0, 0, 1, 0] B41) (y := sub [1, 1, 0, 1, 0, 0, 0, 1, 1] B41) rfl rfl ?_
        refine C.skipQ (y := sub [1, 1, 0, 1, 0, 0, 1] B41) rfl ?_
        refine C.seq (x := sub [1, 1, 0, 1, 0, 0, 1, 0] B41) (y := sub [1, 1, 0, 1, 0, 0, 1, 1] B41) ?_
        refine C.block (id := 1) (c := sub [1, 1, 0, 1, 0, 0, 1, 0, 0] B41) ?_
        refine C.regionD (id := 5) (ops := opsOf (sub [1, 1, 0, 1, 0, 0, 1, 0, 0] B41)) [0, 1, 2, 3, 4, 5, 6, 7, 8, 9, 10, 11, 12, 13, 14, 15, 16, 17, 18, 19, 20, 21, 22] [0, 1, 3, 7, 0, 16, 48, 112, 0, 496, 1008, 2032, 0, 4096, 12288, 28672, 0, 126976, 258048, 520192, 1044480, 2097151, 4194303] [(.pure, none), (.pure, none), (.pure, none), (.quiet, none), (.pure, none), (.pure, none), (.pure, none), (.quiet, none), (.pure, none), (.pure, none), (.pure, none), (.quiet, none), (.pure, none), (.pure, none), (.pure, none), (.quiet, none), (.pure, none), (.pure, none), (.pure, none), (.quiet, none), (.keep, none), (.pure, none), (.store, none)] (by kernel_rfl) ?_
        intro wD5 hl5
        refine DW.pure rfl rfl rfl rfl rfl (p_move rfl rfl) ?_
        refine DW.pure rfl rfl rfl rfl rfl (p_nilCheck rfl rfl) ?_
        refine DW.pure rfl rfl rfl rfl rfl (p_fieldAddr tf73_0 rfl rfl) ?_
        refine DW.quiet rfl rfl rfl rfl rfl (f_load (j := 0) ta70 rfl (off := 0) rfl rfl rfl) ?_
        refine DW.pure rfl rfl rfl rfl rfl (p_move rfl rfl) ?_
        refine DW.pure rfl rfl rfl rfl rfl (p_nilCheck rfl rfl) ?_
        refine DW.pure rfl rfl rfl rfl rfl (p_fieldAddr tf73_1 rfl rfl) ?_
        refine DW.quiet rfl rfl rfl rfl rfl (f_load (j := 0) ta71 rfl (off := 1) rfl rfl rfl) ?_
        refine DW.pure rfl rfl rfl rfl rfl (p_move rfl rfl) ?_
        refine DW.pure rfl rfl rfl rfl rfl (p_ixV xi.2.hL hlt tu71 ts80 rfl rfl rfl) ?_
        refine DW.pure rfl rfl rfl rfl rfl (p_fieldEl (own_plain xi.2.hL hlt) tf80_0 rfl rfl) ?_
        refine DW.quiet rfl rfl rfl rfl rfl (f_loadEl (i := 2) rfl xi.2.hL (lcells_0 hp).1 ta3 rfl rfl) ?_
        refine DW.pure rfl rfl rfl rfl rfl (p_move rfl rfl) ?_
        refine DW.pure rfl rfl rfl rfl rfl (p_nilCheck rfl rfl) ?_
        refine DW.pure rfl rfl rfl rfl rfl (p_fieldAddr tf73_1 rfl rfl) ?_
        refine DW.quiet rfl rfl rfl rfl rfl (f_load (j := 0) ta71 rfl (off := 1) rfl rfl rfl) ?_
        refine DW.pure rfl rfl rfl rfl rfl (p_move rfl rfl) ?_
        refine DW.pure rfl rfl rfl rfl rfl (p_ixV xi.2.hL hlt tu71 ts80 rfl rfl rfl) ?_
        refine DW.pure rfl rfl rfl rfl rfl (p_fieldEl (own_plain xi.2.hL hlt) tf80_1 rfl rfl) ?_
        refine DW.quiet rfl rfl rfl rfl rfl (f_loadEl (i := 2) rfl xi.2.hL (lcells_0 hp).2 ta32 rfl rfl) ?_
        refine DW.keep (fun z p hp => List.mem_cons_of_mem _ hp) rfl rfl rfl rfl rfl (f_app0 (xs := p.2.2.2) (by rw [hrp.2]; decide) (fun w hc => rw_src hrp (List.mem_append_left _ (mem_L hm)) hc) rfl rfl rfl) ?_
        rintro ⟨⟨zv, zc⟩, hz⟩
        obtain ⟨za, zk, rfl⟩ := own_len hz
        refine DW.pure rfl rfl rfl rfl rfl (p_ixVI xi.2.hB (xi.2.ok p hm).1 (xi.2.ok p hm).2 tu70 ts32 rfl rfl rfl) ?_
        refine DW.put rfl rfl rfl rfl rfl (f_storeEl (q := .slice za p.2.2.2.length zk) (i := 2) ts32 rfl xi.2.hB (j := p.1.toNat * 1) (by have := xi.2.ok p hm; omega) rfl trivial rfl rfl rfl) ?_
        refine DW.doneQ (y := sub [1, 1, 0, 1, 0, 0, 1, 1] B41) hl5 rfl ?_
        refine C.cls (H2 := rX b (casR hst _ (rk_setB (r' := (.slice za p.2.2.2.length zk, zc, p.2.2.2)) xi.2 ⟨hz, hrp.2⟩ (n := p.1.toNat) (by have := xi.2.ok p hm; omega))) ++ []) (fun w hc => cls_setB hr0 ⟨rfl, rfl⟩ (by rw [Nat.mul_one] at hc; exact hc)) ?_
        refine C.region (id := 4) (m := 3) (ops := opsOf (sub [1, 1, 0, 1, 0, 0, 1, 1] B41)) rfl ?_
        refine W.pure rfl (wo rfl) rfl rfl (p_move rfl rfl) (nf rfl) ?_
        refine W.pure rfl (wo rfl) rfl rfl (pI (wk (by omega)) (p_add rfl rfl rfl)) (nf rfl) ?_
        refine W.pure rfl (wo rfl) rfl rfl (p_assign rfl rfl) (nf rfl) ?_
        refine W.end' fun a1 w1 ha1 hc1 => hN ⟨i + 1, _⟩ (show i + 1 ≤ s1.L.length by omega) (show s1.L.length - (i + 1) < s1.L.length - i by omega) a1 w1 (ha1.sub (Sub.cons rfl (Sub.cons rfl (Sub.cons rfl (Sub.nil _))))) hc1
      · refine C.seq (x := sub [1, 1, 0, 1, 0, 0, 0] B41) (y := sub [1, 1, 0, 1, 0, 0, 1] B41) ?_
        refine C.seq (x := sub [1, 1, 0, 1, 0, 0, 0, 0] B41) (y := sub [1, 1, 0, 1, 0, 0, 0, 1] B41) ?_
        refine C.region (id := 3) (m := 11) (ops := opsOf (sub [1, 1, 0, 1, 0, 0, 0, 0] B41)) rfl ?_
        refine W.pure rfl (wo rfl) rfl rfl (p_move rfl rfl) (nf rfl) ?_
        refine W.pure rfl (wo rfl) rfl rfl (p_move rfl rfl) (nf rfl) ?_
        refine W.pure rfl (wo rfl) rfl rfl (p_nilCheck rfl rfl) (nf rfl) ?_
        refine W.pure rfl (wo rfl) rfl rfl (p_fieldAddr tf73_1 rfl rfl) (nf rfl) ?_
        refine W.quiet rfl (wo rfl) rfl rfl (f_load (j := 0) ta71 rfl (off := 1) rfl rfl rfl) (nf rfl) ?_
        refine W.pure rfl (wo rfl) rfl rfl (p_slLen tu71 (own_len xi.2.hL) rfl rfl) (nf rfl) ?_
        refine W.pure rfl (wo rfl) rfl rfl (pF (decide_eq_false (by omega)) (p_lss rfl rfl rfl)) (nf rfl) ?_
        refine W.pure rfl (wo rfl) rfl rfl (p_move rfl rfl) (nf rfl) ?_
        refine W.not rfl (wo rfl) rfl rfl ?_
        refine W.not rfl (wo rfl) rfl rfl ?_
        refine W.pure rfl (wo rfl) rfl rfl (p_pick_false rfl rfl rfl) (nf rfl) ?_
        refine W.doneQ (y := sub [1, 1, 0, 1, 0, 0, 0, 1] B41) rfl ?_
        refine C.cond_false (x := sub [1, 1, 0, 1, 0, 0, 0, 1, 0] B41) (y := sub [1, 1, 0, 1, 0, 0, 0, 1, 1] B41) rfl rfl ?_
        exact C.exit fun a1 w1 ha1 hc1 => hE (show i = s1.L.length by omega) a1 w1 (ha1.sub (Sub.cons rfl (Sub.cons rfl (Sub.cons rfl (Sub.nil _))))) hc1
    rintro ⟨i, xi⟩ (hi : i ≤ s1.L.length) (hie : i = s1.L.length)
    subst hie
    show CW _ _ _ _ _ [(0, ptr b 0), (3, .int .i64 0), (4, .int .i64 (s1.L.length : Int))] (rX b xi ++ [])
    refine C.seq (x := sub [1, 1, 1, 0] B41) (y := sub [1, 1, 1, 1] B41) ?_
    refine C.seq (x := sub [1, 1, 1, 0, 0] B41) (y := sub [1, 1, 1, 0, 1] B41) ?_
    refine C.region (id := 6) (m := 2) (ops := opsOf (sub [1, 1, 1, 0, 0] B41)) rfl ?_
    refine W.pure rfl (wo rfl) rfl rfl (p_move rfl rfl) (nf rfl) ?_
    refine W.pure rfl (wo rfl) rfl rfl (pT (by rfl) (p_eql rfl rfl rfl)) (nf rfl) ?_
    refine W.doneQ (y := sub [1, 1, 1, 0, 1] B41) rfl ?_
    refine C.cond_true (x := sub [1, 1, 1, 0, 1, 0] B41) (y := sub [1, 1, 1, 0, 1, 1] B41) rfl rfl ?_
    refine C.region (id := 7) (m := 4) (ops := opsOf (sub [1, 1, 1, 0, 1, 0] B41)) rfl ?_
    refine W.pure rfl (wo rfl) rfl rfl (p_move rfl rfl) (nf rfl) ?_
    refine W.pure rfl (wo rfl) rfl rfl (p_nilCheck rfl rfl) (nf rfl) ?_
    refine W.pure rfl (wo rfl) rfl rfl (p_fieldAddr tf73_1 rfl rfl) (nf rfl) ?_
    refine W.put rfl (wo rfl) rfl (f_st0 (k := 1) (u := .slice none 0 0) ts71 rfl trivial (show 1 < 4 by decide) rfl rfl rfl) (nf rfl) ?_
    refine W.doneQ (y := sub [1, 1, 1, 1] B41) rfl ?_
    refine C.seq (x := sub [1, 1, 1, 1, 0] B41) (y := sub [1, 1, 1, 1, 1] B41) ?_
    refine C.region (id := 8) (m := 2) (ops := opsOf (sub [1, 1, 1, 1, 0] B41)) rfl ?_
    refine W.pure rfl (wo rfl) rfl rfl (p_move rfl rfl) (nf rfl) ?_
    refine W.pure rfl (wo rfl) rfl rfl (p_assign rfl rfl) (nf rfl) ?_
    refine W.doneQ (y := sub [1, 1, 1, 1, 1] B41) rfl ?_
    obtain ⟨rfl, rfl⟩ : 0 = e ∧ { stB s1 s1.L.length with L := [] } = s2 := Prod.mk.inj ((show rsyncK s = (0, { stB s1 s1.L.length with L := [] }) from by unfold rsyncK; rw [hS]; exact if_pos rfl).symm.trans hK)
    exact C.ret (R := fun e' w' => ∃ x' : Rx { stB s1 s1.L.length with L := [] }, e' = .returned (.int .i64 0) ∧ Cls w0 I' (rX b x') w') (rs := [.tmp 2]) (vs := [.int .i64 0]) rfl Try.func41 rfl rfl rfl (res_cons (ResV.tmp rfl) res_nil) fun w1 hc1 => ⟨⟨_, rk_nilL xi.2⟩, rfl, cls_nilL0 hc1⟩
  · refine C.region (id := 2) (m := 1) (ops := opsOf (sub [1, 1, 0, 0] B41)) rfl ?_
    refine W.pure rfl (wo rfl) rfl rfl (p_assign rfl rfl) (nf rfl) ?_
    refine W.doneQ (y := sub [1, 1, 0, 1] B41) rfl ?_
    refine C.loopB (id := 0) (c := sub [1, 1, 0, 1, 0, 0] B41) (y := sub [1, 1, 1] B41) (α := Unit) (fun _ => 0) (fun _ => [(0, ptr b 0), (3, .int .i64 e1), (4, .int .i64 (0 : Int))]) (fun _ => rX b x2 ++ []) (fun _ => True) () trivial (Sub.cons rfl (Sub.cons rfl (Sub.cons rfl (Sub.nil _)))) rfl rfl (fun _ => True) ?_ ?_
    · intro _ _ Q' hN hE hR
      refine C.seq (x := sub [1, 1, 0, 1, 0, 0, 0] B41) (y := sub [1, 1, 0, 1, 0, 0, 1] B41) ?_
      refine C.seq (x := sub [1, 1, 0, 1, 0, 0, 0, 0] B41) (y := sub [1, 1, 0, 1, 0, 0, 0, 1] B41) ?_
      refine C.region (id := 3) (m := 11) (ops := opsOf (sub [1, 1, 0, 1, 0, 0, 0, 0] B41)) rfl ?_
      refine W.pure rfl (wo rfl) rfl rfl (p_move rfl rfl) (nf rfl) ?_
      refine W.pure rfl (wo rfl) rfl rfl (p_move rfl rfl) (nf rfl) ?_
      refine W.pure rfl (wo rfl) rfl rfl (p_nilCheck rfl rfl) (nf rfl) ?_
      refine W.pure rfl (wo rfl) rfl rfl (p_fieldAddr tf73_1 rfl rfl) (nf rfl) ?_
      refine W.quiet rfl (wo rfl) rfl rfl (f_load (j := 0) ta71 rfl (off := 1) rfl rfl rfl) (nf rfl) ?_
      refine W.pure rfl (wo rfl) rfl rfl (p_slLen tu71 (own_len x2.2.hL) rfl rfl) (nf rfl) ?_
      by_cases hl0 : 0 < x2.1.Ls.length
      · refine W.pure rfl (wo rfl) rfl rfl (pT (decide_eq_true (by omega)) (p_lss rfl rfl rfl)) (nf rfl) ?_
        refine W.pure rfl (wo rfl) rfl rfl (p_move rfl rfl) (nf rfl) ?_
        refine W.pure rfl (wo rfl) rfl rfl (p_move rfl rfl) (nf rfl) ?_
        refine W.pure rfl (wo rfl) rfl rfl (pF (by simpa using h3) (p_eql rfl rfl rfl)) (nf rfl) ?_
        refine W.pure rfl (wo rfl) rfl rfl (p_pick_true rfl rfl rfl) (nf rfl) ?_
        refine W.doneQ (y := sub [1, 1, 0, 1, 0, 0, 0, 1] B41) rfl ?_
        refine C.cond_false (x := sub [1, 1, 0, 1, 0, 0, 0, 1, 0] B41) (y := sub [1, 1, 0, 1, 0, 0, 0, 1, 1] B41) rfl rfl ?_
        exact C.exit fun a1 w1 ha1 hc1 => hE trivial a1 w1 (ha1.sub (Sub.cons rfl (Sub.cons rfl (Sub.cons rfl (Sub.nil _))))) hc1
      · refine W.pure rfl (wo rfl) rfl rfl (pF (decide_eq_false (by omega)) (p_lss rfl rfl rfl)) (nf rfl) ?_
        refine W.pure rfl (wo rfl) rfl rfl (p_move rfl rfl) (nf rfl) ?_
        refine W.not rfl (wo rfl) rfl rfl ?_
        refine W.not rfl (wo rfl) rfl rfl ?_
        refine W.pure rfl (wo rfl) rfl rfl (p_pick_false rfl rfl rfl) (nf rfl) ?_
        refine W.doneQ (y := sub [1, 1, 0, 1, 0, 0, 0, 1] B41) rfl ?_
        refine C.cond_false (x := sub [1, 1, 0, 1, 0, 0, 0, 1, 0] B41) (y := sub [1, 1, 0, 1, 0, 0, 0, 1, 1] B41) rfl rfl ?_
        exact C.exit fun a1 w1 ha1 hc1 => hE trivial a1 w1 (ha1.sub (Sub.cons rfl (Sub.cons rfl (Sub.cons rfl (Sub.nil _))))) hc1
    intro _ _ _
    refine C.seq (x := sub [1, 1, 1, 0] B41) (y := sub [1, 1, 1, 1] B41) ?_
    refine C.seq (x := sub [1, 1, 1, 0, 0] B41) (y := sub [1, 1, 1, 0, 1] B41) ?_
    refine C.region (id := 6) (m := 2) (ops := opsOf (sub [1, 1, 1, 0, 0] B41)) rfl ?_
    refine W.pure rfl (wo rfl) rfl rfl (p_move rfl rfl) (nf rfl) ?_
    refine W.pure rfl (wo rfl) rfl rfl (pF (by simpa using h3) (p_eql rfl rfl rfl)) (nf rfl) ?_
    refine W.doneQ (y := sub [1, 1, 1, 0, 1] B41) rfl ?_
    refine C.cond_false (x := sub [1, 1, 1, 0, 1, 0] B41) (y := sub [1, 1, 1, 0, 1, 1] B41) rfl rfl ?_
    refine C.skipQ (y := sub [1, 1, 1, 1] B41) rfl ?_
    refine C.seq (x := sub [1, 1, 1, 1, 0] B41) (y := sub [1, 1, 1, 1, 1] B41) ?_
    refine C.region (id := 8) (m := 2) (ops := opsOf (sub [1, 1, 1, 1, 0] B41)) rfl ?_
    refine W.pure rfl (wo rfl) rfl rfl (p_move rfl rfl) (nf rfl) ?_
    refine W.pure rfl (wo rfl) rfl rfl (p_assign rfl rfl) (nf rfl) ?_
    refine W.doneQ (y := sub [1, 1, 1, 1, 1] B41) rfl ?_
    obtain ⟨rfl, rfl⟩ : e1 = e ∧ s1 = s2 := Prod.mk.inj ((show rsyncK s = (e1, s1) from by unfold rsyncK; rw [hS]; exact if_neg h3).symm.trans hK)
    exact C.ret (R := fun e' w' => ∃ x' : Rx s1, e' = .returned (.int .i64 e1) ∧ Cls w0 I' (rX b x') w') (rs := [.tmp 2]) (vs := [.int .i64 e1]) rfl Try.func41 rfl rfl rfl (res_cons (ResV.tmp rfl) res_nil) fun w1 hc1 => ⟨x2, rfl, by rw [List.append_nil] at hc1; exact hc1⟩

end Go.Proofs.Ytjomnicfcdkfdaa
end

section
namespace Go.Proofs.Ytjomnicfcdkfdaa
open Go Go.HW Go.RowKit
set_option linter.unusedVariables false
set_option linter.unusedSimpArgs false

theorem edW_hit {p y : Wr} {n a z : Int} (he : (p.1 == n) = true) (hy : p = y) : edW n a z y = (p.1, p.2.set a.toNat (ixor .u8 (p.2.getD a.toNat 0) z)) := by
  subst hy; unfold edW; rw [if_pos he]; rfl

noncomputable def B44 : Code := bodyOf Try.f44
theorem en44 (args : Array Value) (w : World) : (callFunc 44 args).run Try.prog w = .ok (.enter 44 args) w := by kernel_rfl
theorem rEdit {I : Mem} {b : Nat} {s s2 : Rk} {e : Int} (x : Rx s) (n a z : Int) (hK : reditK s n a z = (e, s2)) (hl : s.L.length ≤ 1099511627775) : Turn I 44 #[ptr b 0, .int .i64 n, .int .i64 a, .int .u8 z] (rX b x) (fun _ : Rx s2 => .int .i64 e) (fun x' => rX b x') := fun I' he w0 w hc => by
  refine calls_of_CW (N := 85) Try.func44 (show _ = some B44 by kernel_rfl) (by kernel_rfl) rfl (S := [(0, ptr b 0), (1, .int .i64 n), (2, .int .i64 a), (3, .int .u8 z)]) (by simp) hc ?_
  show CW _ _ _ (sub [] B44) _ _ _
  refine C.seq (x := sub [0] B44) (y := sub [1] B44) ?_
  refine C.region (id := 0) (m := 1) (ops := opsOf (sub [0] B44)) rfl ?_
  refine W.pure rfl (wo rfl) rfl rfl (p_assign rfl rfl) (nf rfl) ?_
  refine W.doneQ (y := sub [1] B44) rfl ?_
  refine C.seq (x := sub [1, 0] B44) (y := sub [1, 1] B44) ?_
  refine C.seq (x := sub [1, 0, 0] B44) (y := sub [1, 0, 1] B44) ?_
  refine C.region (id := 1) (m := 12) (ops := opsOf (sub [1, 0, 0] B44)) rfl ?_
  refine W.pure rfl (wo rfl) rfl rfl (p_move rfl rfl) (nf rfl) ?_
  refine W.pure rfl (wo rfl) rfl rfl (p_move rfl rfl) (nf rfl) ?_
  refine W.quiet rfl (wo rfl) rfl rfl (f_callR (v := .bool (hasL s.B.length n)) rfl rfl (args_val rfl) (en48 _) (fun w1 hc1 => rhas_x (g := x.1) (s2 := s) x List.mem_cons_self hc1 n)) (nf rfl) ?_
  refine W.pure rfl (wo rfl) rfl rfl (p_not rfl rfl) (nf rfl) ?_
  by_cases h1 : hasL s.B.length n = false
  · refine W.pure rfl (wo rfl) rfl rfl (pT (by rw [h1]; rfl) (p_move rfl rfl)) (nf rfl) ?_
    refine W.not rfl (wo rfl) rfl rfl ?_
    refine W.not rfl (wo rfl) rfl rfl ?_
    refine W.pure rfl (wo rfl) rfl rfl (p_pick_true rfl rfl rfl) (nf rfl) ?_
    refine W.pure rfl (wo rfl) rfl rfl (p_move rfl rfl) (nf rfl) ?_
    refine W.not rfl (wo rfl) rfl rfl ?_
    refine W.not rfl (wo rfl) rfl rfl ?_
    refine W.pure rfl (wo rfl) rfl rfl (p_pick_true rfl rfl rfl) (nf rfl) ?_
    refine W.doneQ (y := sub [1, 0, 1] B44) rfl ?_
    refine C.cond_true (x := sub [1, 0, 1, 0] B44) (y := sub [1, 0, 1, 1] B44) rfl rfl ?_
    refine C.seq (x := sub [1, 0, 1, 0, 0] B44) (y := sub [1, 0, 1, 0, 1] B44) ?_
    refine C.region (id := 2) (m := 1) (ops := opsOf (sub [1, 0, 1, 0, 0] B44)) rfl ?_
    refine W.pure rfl (wo rfl) rfl rfl (p_assign rfl rfl) (nf rfl) ?_
    refine W.doneQ (y := sub [1, 0, 1, 0, 1] B44) rfl ?_
    obtain ⟨rfl, rfl⟩ : 2 = e ∧ s = s2 := Prod.mk.inj ((show reditK s n a z = (2, s) from by unfold reditK; rw [if_pos h1]).symm.trans hK)
    exact C.ret (R := fun e' w' => ∃ x' : Rx s, e' = .returned (.int .i64 2) ∧ Cls w0 I' (rX b x') w') (rs := [.tmp 8]) (vs := [.int .i64 2]) rfl Try.func44 rfl rfl rfl (res_cons (ResV.tmp rfl) res_nil) fun w1 hc1 => ⟨x, rfl, hc1⟩
  · refine W.pure rfl (wo rfl) rfl rfl (pF (by simpa using h1) (p_move rfl rfl)) (nf rfl) ?_
    refine W.pure rfl (wo rfl) rfl rfl (p_move rfl rfl) (nf rfl) ?_
    by_cases h2 : a < 0
    · refine W.pure rfl (wo rfl) rfl rfl (pT (decide_eq_true h2) (p_lss rfl rfl rfl)) (nf rfl) ?_
      refine W.pure rfl (wo rfl) rfl rfl (p_pick_false rfl rfl rfl) (nf rfl) ?_
      refine W.pure rfl (wo rfl) rfl rfl (p_move rfl rfl) (nf rfl) ?_
      refine W.not rfl (wo rfl) rfl rfl ?_
      refine W.not rfl (wo rfl) rfl rfl ?_
      refine W.pure rfl (wo rfl) rfl rfl (p_pick_true rfl rfl rfl) (nf rfl) ?_
      refine W.doneQ (y := sub [1, 0, 1] B44) rfl ?_
      refine C.cond_true (x := sub [1, 0, 1, 0] B44) (y := sub [1, 0, 1, 1] B44) rfl rfl ?_
      refine C.seq (x := sub [1, 0, 1, 0, 0] B44) (y := sub [1, 0, 1, 0, 1] B44) ?_
      refine C.region (id := 2) (m := 1) (ops := opsOf (sub [1, 0, 1, 0, 0] B44)) rfl ?_
      refine W.pure rfl (wo rfl) rfl rfl (p_assign rfl rfl) (nf rfl) ?_
      refine W.doneQ (y := sub [1, 0, 1, 0, 1] B44) rfl ?_
      obtain ⟨rfl, rfl⟩ : 2 = e ∧ s = s2 := Prod.mk.inj ((show reditK s n a z = (2, s) from by unfold reditK; rw [if_neg h1, if_pos h2]).symm.trans hK)
      exact C.ret (R := fun e' w' => ∃ x' : Rx s, e' = .returned (.int .i64 2) ∧ Cls w0 I' (rX b x') w') (rs := [.tmp 8]) (vs := [.int .i64 2]) rfl Try.func44 rfl rfl rfl (res_cons (ResV.tmp rfl) res_nil) fun w1 hc1 => ⟨x, rfl, hc1⟩
    · refine W.pure rfl (wo rfl) rfl rfl (pF (decide_eq_false h2) (p_lss rfl rfl rfl)) (nf rfl) ?_
      refine W.pure rfl (wo rfl) rfl rfl (p_pick_false rfl rfl rfl) (nf rfl) ?_
      refine W.pure rfl (wo rfl) rfl rfl (p_move rfl rfl) (nf rfl) ?_
      refine W.pure rfl (wo rfl) rfl rfl (p_move rfl rfl) (nf rfl) ?_
      by_cases h3 : 512 ≤ a
      · refine W.pure rfl (wo rfl) rfl rfl (pT (decide_eq_true h3) (p_geq rfl rfl rfl)) (nf rfl) ?_
        refine W.pure rfl (wo rfl) rfl rfl (p_pick_false rfl rfl rfl) (nf rfl) ?_
        refine W.doneQ (y := sub [1, 0, 1] B44) rfl ?_
        refine C.cond_true (x := sub [1, 0, 1, 0] B44) (y := sub [1, 0, 1, 1] B44) rfl rfl ?_
        refine C.seq (x := sub [1, 0, 1, 0, 0] B44) (y := sub [1, 0, 1, 0, 1] B44) ?_
        refine C.region (id := 2) (m := 1) (ops := opsOf (sub [1, 0, 1, 0, 0] B44)) rfl ?_
        refine W.pure rfl (wo rfl) rfl rfl (p_assign rfl rfl) (nf rfl) ?_
        refine W.doneQ (y := sub [1, 0, 1, 0, 1] B44) rfl ?_
        obtain ⟨rfl, rfl⟩ : 2 = e ∧ s = s2 := Prod.mk.inj ((show reditK s n a z = (2, s) from by unfold reditK; rw [if_neg h1, if_neg h2, if_pos h3]).symm.trans hK)
        exact C.ret (R := fun e' w' => ∃ x' : Rx s, e' = .returned (.int .i64 2) ∧ Cls w0 I' (rX b x') w') (rs := [.tmp 8]) (vs := [.int .i64 2]) rfl Try.func44 rfl rfl rfl (res_cons (ResV.tmp rfl) res_nil) fun w1 hc1 => ⟨x, rfl, hc1⟩
      · refine W.pure rfl (wo rfl) rfl rfl (pF (decide_eq_false h3) (p_geq rfl rfl rfl)) (nf rfl) ?_
        refine W.pure rfl (wo rfl) rfl rfl (p_pick_false rfl rfl rfl) (nf rfl) ?_
        refine W.doneQ (y := sub [1, 0, 1] B44) rfl ?_
        refine C.cond_false (x := sub [1, 0, 1, 0] B44) (y := sub [1, 0, 1, 1] B44) rfl rfl ?_
        refine C.skipQ (y := sub [1, 1] B44) rfl ?_
        refine C.seq (x := sub [1, 1, 0] B44) (y := sub [1, 1, 1] B44) ?_
        have hn : 0 ≤ n ∧ n < (s.B.length : Int) := hasL_iff (by simpa using h1)
        obtain ⟨r0, hr0, hm0⟩ := has_row x.2 (n := n) (by simpa using h1)
        have hw0 := x.2.rB r0 hm0
        refine C.regionD (id := 3) (ops := opsOf (sub [1, 1, 0] B44)) [0, 1, 2, 3, 4, 5, 6, 7, 8, 9, 10, 11, 12, 13, 14, 15, 16, 17, 18, 19, 20, 21] [0, 1, 3, 7, 0, 31, 63, 0, 0, 256, 768, 1792, 0, 7936, 16128, 0, 65280, 130816, 0, 524032, 1048575, 2097151] [(.pure, none), (.pure, none), (.pure, none), (.quiet, none), (.pure, none), (.pure, none), (.quiet, none), (.pure, none), (.pure, none), (.pure, none), (.pure, none), (.quiet, none), (.pure, none), (.pure, none), (.quiet, none), (.pure, none), (.pure, none), (.quiet, none), (.pure, none), (.pure, none), (.pure, none), (.store, none)] (by kernel_rfl) ?_
        intro wD3 hl3
        refine DW.pure rfl rfl rfl rfl rfl (p_move rfl rfl) ?_
        refine DW.pure rfl rfl rfl rfl rfl (p_nilCheck rfl rfl) ?_
        refine DW.pure rfl rfl rfl rfl rfl (p_fieldAddr tf73_0 rfl rfl) ?_
        refine DW.quiet rfl rfl rfl rfl rfl (f_load (j := 0) ta70 rfl (off := 0) rfl rfl rfl) ?_
        refine DW.pure rfl rfl rfl rfl rfl (p_move rfl rfl) ?_
        refine DW.pure rfl rfl rfl rfl rfl (p_ixVI x.2.hB hn.1 (by rw [← B_len x.2]; exact hn.2) tu70 ts32 rfl rfl rfl) ?_
        refine DW.quiet rfl rfl rfl rfl rfl (f_loadEl (q := r0.1) (i := 1) rfl x.2.hB (by rw [Nat.mul_one, List.getElem?_map, hr0]; rfl) ta32 rfl rfl) ?_
        refine DW.pure rfl rfl rfl rfl rfl (p_move rfl rfl) ?_
        refine DW.pure rfl rfl rfl rfl rfl (p_move rfl rfl) ?_
        refine DW.pure rfl rfl rfl rfl rfl (p_nilCheck rfl rfl) ?_
        refine DW.pure rfl rfl rfl rfl rfl (p_fieldAddr tf73_0 rfl rfl) ?_
        refine DW.quiet rfl rfl rfl rfl rfl (f_load (j := 0) ta70 rfl (off := 0) rfl rfl rfl) ?_
        refine DW.pure rfl rfl rfl rfl rfl (p_move rfl rfl) ?_
        refine DW.pure rfl rfl rfl rfl rfl (p_ixVI x.2.hB hn.1 (by rw [← B_len x.2]; exact hn.2) tu70 ts32 rfl rfl rfl) ?_
        refine DW.quiet rfl rfl rfl rfl rfl (f_loadEl (q := r0.1) (i := 1) rfl x.2.hB (by rw [Nat.mul_one, List.getElem?_map, hr0]; rfl) ta32 rfl rfl) ?_
        refine DW.pure rfl rfl rfl rfl rfl (p_move rfl rfl) ?_
        refine DW.pure rfl rfl rfl rfl rfl (p_ixVI hw0.1 (j := a) (by omega) (by rw [hw0.2]; omega) tu32 ts5 rfl rfl rfl) ?_
        refine DW.quiet rfl rfl rfl rfl rfl (f_loadEl (i := n.toNat + 3) (rk_B hr0) hw0.1 (rw_cell hw0 (by omega)) ta5 rfl rfl) ?_
        refine DW.pure rfl rfl rfl rfl rfl (p_move rfl rfl) ?_
        refine DW.pure rfl rfl rfl rfl rfl (p_xor rfl rfl rfl) ?_
        refine DW.pure rfl rfl rfl rfl rfl (p_ixVI hw0.1 (j := a) (by omega) (by rw [hw0.2]; omega) tu32 ts5 rfl rfl rfl) ?_
        refine DW.put rfl rfl rfl rfl rfl (f_storeEl (q := .int .u8 (ixor .u8 (r0.2.2.getD a.toNat 0) z)) (i := n.toNat + 3) ts5 (rk_B hr0) hw0.1 (j := a.toNat * 1) (by rw [hw0.2]; omega) rfl trivial rfl rfl rfl) ?_
        refine DW.doneQ (y := sub [1, 1, 1] B44) hl3 rfl ?_
        refine C.seq (x := sub [1, 1, 1, 0] B44) (y := sub [1, 1, 1, 1] B44) ?_
        refine C.seq (x := sub [1, 1, 1, 0, 0] B44) (y := sub [1, 1, 1, 0, 1] B44) ?_
        have hst0 : { s with B := s.B.set n.toNat (r0.2.2.set a.toNat (ixor .u8 (r0.2.2.getD a.toNat 0) z)) } = edSt s n a z 0 := by unfold edSt xorAt; rw [edL_0, B_at x.2 hr0]
        refine C.cls (H2 := rX b (casR hst0 _ (rk_edB x.2 hr0 (j := a.toNat) (by omega) (ixor .u8 (r0.2.2.getD a.toNat 0) z)))) (fun w hc => by rw [Nat.mul_one] at hc; have e := rkH_setB (b := b) (s := s) (r' := (r0.1, r0.2.1.setIfInBounds a.toNat (.int .u8 (ixor .u8 (r0.2.2.getD a.toNat 0) z)), r0.2.2.set a.toNat (ixor .u8 (r0.2.2.getD a.toNat 0) z))) (List.getElem?_eq_some_iff.1 hr0).1; exact cls_to hc e) ?_
        refine C.region (id := 4) (m := 1) (ops := opsOf (sub [1, 1, 1, 0, 0] B44)) rfl ?_
        refine W.pure rfl (wo rfl) rfl rfl (p_assign rfl rfl) (nf rfl) ?_
        refine W.doneQ (y := sub [1, 1, 1, 0, 1] B44) rfl ?_
        refine C.loopB (id := 0) (c := sub [1, 1, 1, 0, 1, 0, 0] B44) (y := sub [1, 1, 1, 1] B44) (α := (i : Nat) × Rx (edSt s n a z i)) (fun q => s.L.length - q.1) (fun q => [(0, ptr b 0), (1, .int .i64 n), (2, .int .i64 a), (3, .int .u8 z), (9, .int .i64 (q.1 : Int))]) (fun q => rX b q.2) (fun q => q.1 ≤ s.L.length) ⟨0, (casR hst0 _ (rk_edB x.2 hr0 (j := a.toNat) (by omega) (ixor .u8 (r0.2.2.getD a.toNat 0) z)))⟩ (Nat.zero_le _) (Sub.cons rfl (Sub.cons rfl (Sub.cons rfl (Sub.cons rfl (Sub.cons rfl (Sub.nil _)))))) rfl rfl (fun q => q.1 = s.L.length) ?_ ?_
        · rintro ⟨i, xi⟩ (hi : i ≤ s.L.length) Q' hN hE hR
          show CW _ _ _ _ _ [(0, ptr b 0), (1, .int .i64 n), (2, .int .i64 a), (3, .int .u8 z), (9, .int .i64 (i : Int))] (rX b xi)
          have hll : s.L.length = xi.1.Ls.length := by rw [← L_len xi.2]; exact (edL_len s.L n a z i hi).symm
          by_cases hlt : i < xi.1.Ls.length
          · obtain ⟨p, hp⟩ : ∃ p, xi.1.Ls[i]? = some p := ⟨_, List.getElem?_eq_getElem hlt⟩
            have hm : p ∈ xi.1.Ls := List.mem_of_getElem? hp
            have hrp := xi.2.rL p hm
            obtain ⟨y, hy⟩ : ∃ y, s.L[i]? = some y := ⟨_, List.getElem?_eq_getElem (by omega)⟩
            have hyp : (p.1, p.2.2.2) = y := by have e1 := L_at xi.2 hp; have e2 : (edSt s n a z i).L[i]? = some y := edL_get hy; rw [e1] at e2; exact Option.some.inj e2
            refine C.seq (x := sub [1, 1, 1, 0, 1, 0, 0, 0] B44) (y := sub [1, 1, 1, 0, 1, 0, 0, 1] B44) ?_
            refine C.seq (x := sub [1, 1, 1, 0, 1, 0, 0, 0, 0] B44) (y := sub [1, 1, 1, 0, 1, 0, 0, 0, 1] B44) ?_
            refine C.region (id := 5) (m := 7) (ops := opsOf (sub [1, 1, 1, 0, 1, 0, 0, 0, 0] B44)) rfl ?_
            refine W.pure rfl (wo rfl) rfl rfl (p_move rfl rfl) (nf rfl) ?_
            refine W.pure rfl (wo rfl) rfl rfl (p_move rfl rfl) (nf rfl) ?_
            refine W.pure rfl (wo rfl) rfl rfl (p_nilCheck rfl rfl) (nf rfl) ?_
            refine W.pure rfl (wo rfl) rfl rfl (p_fieldAddr tf73_1 rfl rfl) (nf rfl) ?_
            refine W.quiet rfl (wo rfl) rfl rfl (f_load (j := 0) ta71 rfl (off := 1) rfl rfl rfl) (nf rfl) ?_
            refine W.pure rfl (wo rfl) rfl rfl (p_slLen tu71 (own_len xi.2.hL) rfl rfl) (nf rfl) ?_
            refine W.pure rfl (wo rfl) rfl rfl (pT (decide_eq_true (by omega)) (p_lss rfl rfl rfl)) (nf rfl) ?_
            refine W.doneQ (y := sub [1, 1, 1, 0, 1, 0, 0, 0, 1] B44) rfl ?_
            refine C.cond_true (x := sub [1, 1, 1, 0, 1, 0, 0, 0, 1, 0] B44) (y := sub [1, 1, 1, 0, 1, 0, 0, 0, 1, 1] B44) rfl rfl ?_
            refine C.skipQ (y := sub [1, 1, 1, 0, 1, 0, 0, 1] B44) rfl ?_
            refine C.seq (x := sub [1, 1, 1, 0, 1, 0, 0, 1, 0] B44) (y := sub [1, 1, 1, 0, 1, 0, 0, 1, 1] B44) ?_
            refine C.block (id := 1) (c := sub [1, 1, 1, 0, 1, 0, 0, 1, 0, 0] B44) ?_
            refine C.seq (x := sub [1, 1, 1, 0, 1, 0, 0, 1, 0, 0, 0] B44) (y := sub [1, 1, 1, 0, 1, 0, 0, 1, 0, 0, 1] B44) ?_
            refine C.region (id := 7) (m := 10) (ops := opsOf (sub [1, 1, 1, 0, 1, 0, 0, 1, 0, 0, 0] B44)) rfl ?_
            refine W.pure rfl (wo rfl) rfl rfl (p_move rfl rfl) (nf rfl) ?_
            refine W.pure rfl (wo rfl) rfl rfl (p_nilCheck rfl rfl) (nf rfl) ?_
            refine W.pure rfl (wo rfl) rfl rfl (p_fieldAddr tf73_1 rfl rfl) (nf rfl) ?_
            refine W.quiet rfl (wo rfl) rfl rfl (f_load (j := 0) ta71 rfl (off := 1) rfl rfl rfl) (nf rfl) ?_
            refine W.pure rfl (wo rfl) rfl rfl (p_move rfl rfl) (nf rfl) ?_
            refine W.pure rfl (wo rfl) rfl rfl (p_ixV xi.2.hL hlt tu71 ts80 rfl rfl rfl) (nf rfl) ?_
            refine W.pure rfl (wo rfl) rfl rfl (p_fieldEl (own_plain xi.2.hL hlt) tf80_0 rfl rfl) (nf rfl) ?_
            refine W.quiet rfl (wo rfl) rfl rfl (f_loadEl (i := 2) rfl xi.2.hL (lcells_0 hp).1 ta3 rfl rfl) (nf rfl) ?_
            refine W.pure rfl (wo rfl) rfl rfl (p_move rfl rfl) (nf rfl) ?_
            by_cases he : p.1 = n
            · refine W.pure rfl (wo rfl) rfl rfl (pT (by simpa using he) (p_eql rfl rfl rfl)) (nf rfl) ?_
              refine W.doneQ (y := sub [1, 1, 1, 0, 1, 0, 0, 1, 0, 0, 1] B44) rfl ?_
              refine C.cond_true (x := sub [1, 1, 1, 0, 1, 0, 0, 1, 0, 0, 1, 0] B44) (y := sub [1, 1, 1, 0, 1, 0, 0, 1, 0, 0, 1, 1] B44) rfl rfl ?_
              refine C.regionD (id := 8) (ops := opsOf (sub [1, 1, 1, 0, 1, 0, 0, 1, 0, 0, 1, 0] B44)) [0, 1, 2, 3, 4, 5, 6, 7, 8, 9, 10, 11, 12, 13, 14, 15, 16, 17, 18, 19, 20, 21, 22, 23] [0, 1, 3, 7, 0, 31, 63, 127, 0, 0, 512, 1536, 3584, 0, 15872, 32256, 65024, 0, 261632, 523776, 0, 2096640, 4194303, 8388607] [(.pure, none), (.pure, none), (.pure, none), (.quiet, none), (.pure, none), (.pure, none), (.pure, none), (.quiet, none), (.pure, none), (.pure, none), (.pure, none), (.pure, none), (.quiet, none), (.pure, none), (.pure, none), (.pure, none), (.quiet, none), (.pure, none), (.pure, none), (.quiet, none), (.pure, none), (.pure, none), (.pure, none), (.store, none)] (by kernel_rfl) ?_
              intro wD8 hl8
              refine DW.pure rfl rfl rfl rfl rfl (p_move rfl rfl) ?_
              refine DW.pure rfl rfl rfl rfl rfl (p_nilCheck rfl rfl) ?_
              refine DW.pure rfl rfl rfl rfl rfl (p_fieldAddr tf73_1 rfl rfl) ?_
              refine DW.quiet rfl rfl rfl rfl rfl (f_load (j := 0) ta71 rfl (off := 1) rfl rfl rfl) ?_
              refine DW.pure rfl rfl rfl rfl rfl (p_move rfl rfl) ?_
              refine DW.pure rfl rfl rfl rfl rfl (p_ixV xi.2.hL hlt tu71 ts80 rfl rfl rfl) ?_
              refine DW.pure rfl rfl rfl rfl rfl (p_fieldEl (own_plain xi.2.hL hlt) tf80_1 rfl rfl) ?_
              refine DW.quiet rfl rfl rfl rfl rfl (f_loadEl (i := 2) rfl xi.2.hL (lcells_0 hp).2 ta32 rfl rfl) ?_
              refine DW.pure rfl rfl rfl rfl rfl (p_move rfl rfl) ?_
              refine DW.pure rfl rfl rfl rfl rfl (p_move rfl rfl) ?_
              refine DW.pure rfl rfl rfl rfl rfl (p_nilCheck rfl rfl) ?_
              refine DW.pure rfl rfl rfl rfl rfl (p_fieldAddr tf73_1 rfl rfl) ?_
              refine DW.quiet rfl rfl rfl rfl rfl (f_load (j := 0) ta71 rfl (off := 1) rfl rfl rfl) ?_
              refine DW.pure rfl rfl rfl rfl rfl (p_move rfl rfl) ?_
              refine DW.pure rfl rfl rfl rfl rfl (p_ixV xi.2.hL hlt tu71 ts80 rfl rfl rfl) ?_
              refine DW.pure rfl rfl rfl rfl rfl (p_fieldEl (own_plain xi.2.hL hlt) tf80_1 rfl rfl) ?_
              refine DW.quiet rfl rfl rfl rfl rfl (f_loadEl (i := 2) rfl xi.2.hL (lcells_0 hp).2 ta32 rfl rfl) ?_
              refine DW.pure rfl rfl rfl rfl rfl (p_move rfl rfl) ?_
              refine DW.pure rfl rfl rfl rfl rfl (p_ixVI hrp.1 (j := a) (by omega) (by rw [hrp.2]; omega) tu32 ts5 rfl rfl rfl) ?_
              refine DW.quiet rfl rfl rfl rfl rfl (f_loadEl (i := xi.1.Bs.length + i + 3) (rk_L hp) hrp.1 (rw_cell hrp (by omega)) ta5 rfl rfl) ?_
              refine DW.pure rfl rfl rfl rfl rfl (p_move rfl rfl) ?_
              refine DW.pure rfl rfl rfl rfl rfl (p_xor rfl rfl rfl) ?_
              refine DW.pure rfl rfl rfl rfl rfl (p_ixVI hrp.1 (j := a) (by omega) (by rw [hrp.2]; omega) tu32 ts5 rfl rfl rfl) ?_
              refine DW.put rfl rfl rfl rfl rfl (f_storeEl (q := .int .u8 (ixor .u8 (p.2.2.2.getD a.toNat 0) z)) (i := xi.1.Bs.length + i + 3) ts5 (rk_L hp) hrp.1 (j := a.toNat * 1) (by rw [hrp.2]; omega) rfl trivial rfl rfl rfl) ?_
              refine DW.doneQ (y := sub [1, 1, 1, 0, 1, 0, 0, 1, 1] B44) hl8 rfl ?_
              have hst : { edSt s n a z i with L := (edSt s n a z i).L.set i (p.1, p.2.2.2.set a.toNat (ixor .u8 (p.2.2.2.getD a.toNat 0) z)) } = edSt s n a z (i + 1) := by unfold edSt; rw [edL_succ hy, edW_hit (by simpa using he) hyp]
              refine C.cls (H2 := rX b (casR hst _ (rk_edL xi.2 hp (j := a.toNat) (by omega) (ixor .u8 (p.2.2.2.getD a.toNat 0) z)))) (fun w hc => by rw [Nat.mul_one] at hc; have e := rkH_setL (b := b) (s := edSt s n a z i) (r' := (p.2.1, p.2.2.1.setIfInBounds a.toNat (.int .u8 (ixor .u8 (p.2.2.2.getD a.toNat 0) z)), p.2.2.2.set a.toNat (ixor .u8 (p.2.2.2.getD a.toNat 0) z))) hp; exact cls_to hc e) ?_
              refine C.region (id := 6) (m := 3) (ops := opsOf (sub [1, 1, 1, 0, 1, 0, 0, 1, 1] B44)) rfl ?_
              refine W.pure rfl (wo rfl) rfl rfl (p_move rfl rfl) (nf rfl) ?_
              refine W.pure rfl (wo rfl) rfl rfl (pI (wk (by omega)) (p_add rfl rfl rfl)) (nf rfl) ?_
              refine W.pure rfl (wo rfl) rfl rfl (p_assign rfl rfl) (nf rfl) ?_
              refine W.end' fun a1 w1 ha1 hc1 => hN ⟨i + 1, _⟩ (show i + 1 ≤ s.L.length by omega) (show s.L.length - (i + 1) < s.L.length - i by omega) a1 w1 (ha1.sub (Sub.cons rfl (Sub.cons rfl (Sub.cons rfl (Sub.cons rfl (Sub.cons rfl (Sub.nil _))))))) hc1
            · refine W.pure rfl (wo rfl) rfl rfl (pF (by simpa using he) (p_eql rfl rfl rfl)) (nf rfl) ?_
              refine W.doneQ (y := sub [1, 1, 1, 0, 1, 0, 0, 1, 0, 0, 1] B44) rfl ?_
              refine C.cond_false (x := sub [1, 1, 1, 0, 1, 0, 0, 1, 0, 0, 1, 0] B44) (y := sub [1, 1, 1, 0, 1, 0, 0, 1, 0, 0, 1, 1] B44) rfl rfl ?_
              refine C.skipQ (y := sub [1, 1, 1, 0, 1, 0, 0, 1, 1] B44) rfl ?_
              have hst : edSt s n a z i = edSt s n a z (i + 1) := by unfold edSt; rw [edL_same hy (by rw [← hyp]; simpa using he)]
              refine C.cls (H2 := rX b (casR hst xi.1 xi.2)) (fun w hc => hc) ?_
              refine C.region (id := 6) (m := 3) (ops := opsOf (sub [1, 1, 1, 0, 1, 0, 0, 1, 1] B44)) rfl ?_
              refine W.pure rfl (wo rfl) rfl rfl (p_move rfl rfl) (nf rfl) ?_
              refine W.pure rfl (wo rfl) rfl rfl (pI (wk (by omega)) (p_add rfl rfl rfl)) (nf rfl) ?_
              refine W.pure rfl (wo rfl) rfl rfl (p_assign rfl rfl) (nf rfl) ?_
              refine W.end' fun a1 w1 ha1 hc1 => hN ⟨i + 1, _⟩ (show i + 1 ≤ s.L.length by omega) (show s.L.length - (i + 1) < s.L.length - i by omega) a1 w1 (ha1.sub (Sub.cons rfl (Sub.cons rfl (Sub.cons rfl (Sub.cons rfl (Sub.cons rfl (Sub.nil _))))))) hc1
          · refine C.seq (x := sub [1, 1, 1, 0, 1, 0, 0, 0] B44) (y := sub [1, 1, 1, 0, 1, 0, 0, 1] B44) ?_
            refine C.seq (x := sub [1, 1, 1, 0, 1, 0, 0, 0, 0] B44) (y := sub [1, 1, 1, 0, 1, 0, 0, 0, 1] B44) ?_
            refine C.region (id := 5) (m := 7) (ops := opsOf (sub [1, 1, 1, 0, 1, 0, 0, 0, 0] B44)) rfl ?_
            refine W.pure rfl (wo rfl) rfl rfl (p_move rfl rfl) (nf rfl) ?_
            refine W.pure rfl (wo rfl) rfl rfl (p_move rfl rfl) (nf rfl) ?_
            refine W.pure rfl (wo rfl) rfl rfl (p_nilCheck rfl rfl) (nf rfl) ?_
            refine W.pure rfl (wo rfl) rfl rfl (p_fieldAddr tf73_1 rfl rfl) (nf rfl) ?_
            refine W.quiet rfl (wo rfl) rfl rfl (f_load (j := 0) ta71 rfl (off := 1) rfl rfl rfl) (nf rfl) ?_
            refine W.pure rfl (wo rfl) rfl rfl (p_slLen tu71 (own_len xi.2.hL) rfl rfl) (nf rfl) ?_
            refine W.pure rfl (wo rfl) rfl rfl (pF (decide_eq_false (by omega)) (p_lss rfl rfl rfl)) (nf rfl) ?_
            refine W.doneQ (y := sub [1, 1, 1, 0, 1, 0, 0, 0, 1] B44) rfl ?_
            refine C.cond_false (x := sub [1, 1, 1, 0, 1, 0, 0, 0, 1, 0] B44) (y := sub [1, 1, 1, 0, 1, 0, 0, 0, 1, 1] B44) rfl rfl ?_
            exact C.exit fun a1 w1 ha1 hc1 => hE (show i = s.L.length by omega) a1 w1 (ha1.sub (Sub.cons rfl (Sub.cons rfl (Sub.cons rfl (Sub.cons rfl (Sub.cons rfl (Sub.nil _))))))) hc1
        rintro ⟨i, xi⟩ (hi : i ≤ s.L.length) (hie : i = s.L.length)
        subst hie
        show CW _ _ _ _ _ [(0, ptr b 0), (1, .int .i64 n), (2, .int .i64 a), (3, .int .u8 z), (9, .int .i64 (s.L.length : Int))] (rX b xi)
        refine C.seq (x := sub [1, 1, 1, 1, 0] B44) (y := sub [1, 1, 1, 1, 1] B44) ?_
        refine C.region (id := 9) (m := 1) (ops := opsOf (sub [1, 1, 1, 1, 0] B44)) rfl ?_
        refine W.pure rfl (wo rfl) rfl rfl (p_assign rfl rfl) (nf rfl) ?_
        refine W.doneQ (y := sub [1, 1, 1, 1, 1] B44) rfl ?_
        obtain ⟨rfl, rfl⟩ : 0 = e ∧ edSt s n a z s.L.length = s2 := Prod.mk.inj ((show reditK s n a z = (0, edSt s n a z s.L.length) from by unfold reditK edSt; rw [if_neg h1, if_neg h2, if_neg h3, edL_full]).symm.trans hK)
        exact C.ret (R := fun e' w' => ∃ x' : Rx (edSt s n a z s.L.length), e' = .returned (.int .i64 0) ∧ Cls w0 I' (rX b x') w') (rs := [.tmp 8]) (vs := [.int .i64 0]) rfl Try.func44 rfl rfl rfl (res_cons (ResV.tmp rfl) res_nil) fun w1 hc1 => ⟨xi, rfl, hc1⟩

end Go.Proofs.Ytjomnicfcdkfdaa
end
