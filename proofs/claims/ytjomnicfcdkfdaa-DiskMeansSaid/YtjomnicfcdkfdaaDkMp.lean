import Derived.Test.YtjomnicfcdkfdaaDkMo
namespace Go.Proofs.Ytjomnicfcdkfdaa
open Go Go.HW Go.RowKit
set_option linter.unusedVariables false
set_option linter.unusedSimpArgs false

theorem heads {s : Dk} {n : Int} {xs pb : List Int} {last : Wr} {t k : Nat} {prev : List Int} (hk : k ≤ t) (hT : TornAt s n xs last t prev) (hpb : pb = last.2) : bytesL (xs.take k) = bytesL (pb.take k) := by
  have := hT.ht
  have := hT.len.1
  rw [hT.hb, hpb, List.take_append_of_le_length (by rw [List.length_take]; omega), List.take_take, Nat.min_eq_left hk]
theorem tears_next {s : Dk} {g : Rg} {r : Rk} (h : RkO g r) (hs : Sim s r) {n : Int} {xs pb : List Int} {last : Wr} {t k : Nat} {prev : List Int} {r0 : Rw} (hT : TornAt s n xs last t prev) (hpb : pb = last.2) (hbm : r0.2.2 = mget s.set n) (h1 : ¬ bytesL (xs.drop k) = bytesL (r0.2.2.drop k))
    (hno : ∀ j, j < g.Ls.length → ∀ q, g.Ls[j]? = some q → q.1 = n → ¬ bytesL (xs.drop k) = bytesL (q.2.2.2.drop k)) (hk : k ≤ t) : k + 1 ≤ t := by
  rcases Nat.lt_or_ge k t with h2 | h2
  · omega
  · exfalso
    obtain rfl : k = t := by omega
    have hd : xs.drop k = prev.drop k := by
      have := hT.ht
      have := hT.len.1
      rw [hT.hb, List.drop_append_of_le_length (by rw [List.length_take]; omega), List.drop_of_length_le (by rw [List.length_take]; omega), List.nil_append]
    rcases hT.hp with e | ⟨w, hw, e1, e2⟩
    · exact h1 (by rw [hd, e, hbm])
    · rw [← hs.L, h.sL] at hw
      obtain ⟨p, hp, rfl⟩ := List.mem_map.1 hw
      obtain ⟨j, hj, he⟩ := List.getElem_of_mem hp
      exact hno j hj p (by rw [List.getElem?_eq_getElem hj, he]) e1 (by rw [hd, e2])

noncomputable def B27 : Code := bodyOf Try.f27
theorem en27 (args : Array Value) (w : World) : (callFunc 27 args).run Try.prog w = .ok (.enter 27 args) w := by kernel_rfl
theorem tTears {I : Mem} {b : Nat} {s : Dk} {r : Rk} {xs : List Int} (x : Rx r) (y : Ox .u8 xs) (hs : Sim s r) {n : Int} (hd : hasD s n = true) (hl : s.late.length ≤ 1000000) {last : Wr} {t : Nat} {prev : List Int} (hT : TornAt s n xs last t prev) : Turn I 27 #[ptr b 0, .int .i64 n, y.1.1] (rX b x ++ oX y) (fun _ : Unit => .bool true) (fun _ => rX b x ++ oX y) := fun I' he w0 w hc => by
  have hc : Cls w0 I' (rX b x ++ (oX y ++ [])) w := by rw [List.append_nil]; exact hc
  obtain ⟨hn, r0, hr0, hm0, hbm⟩ := sim_row x.2 hs hd
  have hw0 := x.2.rB r0 hm0
  have hll : x.1.Ls.length ≤ 1000000 := by rw [← L_len x.2, hs.L]; exact hl
  have h0 : 0 < x.1.Ls.length := by rw [← L_len x.2, hs.L]; exact hT.h0
  have hlast : x.1.Ls.length - 1 < x.1.Ls.length := by omega
  obtain ⟨pl, hpl⟩ : ∃ p, x.1.Ls[x.1.Ls.length - 1]? = some p := ⟨_, List.getElem?_eq_getElem hlast⟩
  have hml : pl ∈ x.1.Ls := List.mem_of_getElem? hpl
  have hrl := x.2.rL pl hml
  have hpe : (pl.1, pl.2.2.2) = last := by
    have e1 := L_at x.2 hpl
    rw [hs.L, ← L_len x.2, hs.L, hT.hl] at e1
    exact (Option.some.inj e1).symm
  have hpn : pl.1 = n := by rw [← hT.hn, ← hpe]
  have hpb : pl.2.2.2 = last.2 := by rw [← hpe]
  have hxl : xs.length = 512 := by
    have h1 := hT.len; have h2 := hT.ht
    rw [hT.hb]; simp only [List.length_append, List.length_take, List.length_drop]; omega
  refine calls_of_CW (N := 116) Try.func27 (show _ = some B27 by kernel_rfl) (by kernel_rfl) rfl (S := [(0, ptr b 0), (1, .int .i64 n), (2, y.1.1)]) (by simp) hc ?_
  show CW _ _ _ (sub [] B27) _ _ _
  refine C.seq (x := sub [0] B27) (y := sub [1] B27) ?_
  refine C.region (id := 0) (m := 1) (ops := opsOf (sub [0] B27)) rfl ?_
  refine W.pure rfl (wo rfl) rfl rfl (p_assign rfl rfl) (nf rfl) ?_
  refine W.doneQ (y := sub [1] B27) rfl ?_
  refine C.seq (x := sub [1, 0] B27) (y := sub [1, 1] B27) ?_
  refine C.seq (x := sub [1, 0, 0] B27) (y := sub [1, 0, 1] B27) ?_
  refine C.regionD (id := 1) (ops := opsOf (sub [1, 0, 0] B27)) [0, 1, 2, 3, 4, 5, 6, 7, 8, 9, 10, 11, 12, 13, 14, 15, 16, 17, 18, 19, 20, 21, 22, 23, 24, 25, 26, 27] [0, 1, 3, 7, 15, 31, 63, 127, 255, 511, 1023, 127, 2175, 6271, 14463, 30847, 63615, 131071, 262143, 524287, 127, 2097151, 4194303, 8388607, 16777215, 33554431, 67108863, 134217727] [(.pure, none), (.pure, none), (.pure, none), (.quiet, none), (.pure, none), (.pure, none), (.pure, none), (.pure, none), (.pure, none), (.pure, none), (.quiet, none), (.pure, none), (.pure, none), (.pure, none), (.quiet, none), (.pure, none), (.pure, none), (.pure, none), (.pure, none), (.quiet, none), (.pure, none), (.pure, none), (.pure, none), (.pure, none), (.pure, none), (.pure, none), (.pure, none), (.pure, none)] (by kernel_rfl) ?_
  intro wD1 hl1
  refine DW.pure rfl rfl rfl rfl rfl (p_move rfl rfl) ?_
  refine DW.pure rfl rfl rfl rfl rfl (p_nilCheck rfl rfl) ?_
  refine DW.pure rfl rfl rfl rfl rfl (p_fieldAddr tf73_1 rfl rfl) ?_
  refine DW.quiet rfl rfl rfl rfl rfl (f_load (j := 0) ta71 rfl (off := 1) rfl rfl rfl) ?_
  refine DW.pure rfl rfl rfl rfl rfl (p_slLen tu71 (own_len x.2.hL) rfl rfl) ?_
  refine DW.pure rfl rfl rfl rfl rfl (pF (by rw [beq_eq_false_iff_ne]; omega) (p_eql rfl rfl rfl)) ?_
  refine DW.pure rfl rfl rfl rfl rfl (p_move rfl rfl) ?_
  refine DV.pure rfl (wo rfl) rfl rfl rfl (p_move rfl rfl) ?_
  refine DV.pure rfl (wo rfl) rfl rfl rfl (p_nilCheck rfl rfl) ?_
  refine DV.pure rfl (wo rfl) rfl rfl rfl (p_fieldAddr tf73_1 rfl rfl) ?_
  refine DV.quiet rfl (wo rfl) rfl rfl rfl (f_load (j := 0) ta71 rfl (off := 1) rfl rfl rfl) ?_
  refine DV.pure rfl (wo rfl) rfl rfl rfl (p_move rfl rfl) ?_
  refine DV.pure rfl (wo rfl) rfl rfl rfl (p_nilCheck rfl rfl) ?_
  refine DV.pure rfl (wo rfl) rfl rfl rfl (p_fieldAddr tf73_1 rfl rfl) ?_
  refine DV.quiet rfl (wo rfl) rfl rfl rfl (f_load (j := 0) ta71 rfl (off := 1) rfl rfl rfl) ?_
  refine DV.pure rfl (wo rfl) rfl rfl rfl (p_slLen tu71 (own_len x.2.hL) rfl rfl) ?_
  refine DV.pure rfl (wo rfl) rfl rfl rfl (pI (wlast h0 (by omega)) (p_sub rfl rfl rfl)) ?_
  refine DV.pure rfl (wo rfl) rfl rfl rfl (p_ixV x.2.hL hlast tu71 ts80 rfl rfl rfl) ?_
  refine DV.pure rfl (wo rfl) rfl rfl rfl (p_fieldEl (own_plain x.2.hL hlast) tf80_0 rfl rfl) ?_
  refine DV.quiet rfl (wo rfl) rfl rfl rfl (f_loadEl (i := 2) rfl x.2.hL (lcells_0 hpl).1 ta3 rfl rfl) ?_
  refine DV.pure rfl (wo rfl) rfl rfl rfl (p_move rfl rfl) ?_
  refine DV.pure rfl (wo rfl) rfl rfl rfl (pF (by rw [hpn]; simp) (p_neq rfl rfl rfl)) ?_
  refine DW.pure rfl rfl rfl rfl rfl (p_pick_false rfl rfl rfl) ?_
  refine DW.pure rfl rfl rfl rfl rfl (p_move rfl rfl) ?_
  refine DV.pure rfl (wo rfl) rfl rfl rfl (p_move rfl rfl) ?_
  refine DV.pure rfl (wo rfl) rfl rfl rfl (p_slLen tu32 (ox_sl y) rfl rfl) ?_
  refine DV.pure rfl (wo rfl) rfl rfl rfl (pF (by rw [hxl]; rfl) (p_neq rfl rfl rfl)) ?_
  refine DW.pure rfl rfl rfl rfl rfl (p_pick_false rfl rfl rfl) ?_
  refine DW.doneQ (y := sub [1, 0, 1] B27) hl1 rfl ?_
  refine C.cond_false (x := sub [1, 0, 1, 0] B27) (y := sub [1, 0, 1, 1] B27) rfl rfl ?_
  refine C.skipQ (y := sub [1, 1] B27) rfl ?_
  refine C.seq (x := sub [1, 1, 0] B27) (y := sub [1, 1, 1] B27) ?_
  refine C.regionD (id := 3) (ops := opsOf (sub [1, 1, 0] B27)) [0, 1, 2, 3, 4, 5, 6, 7, 8, 9, 10, 11, 12, 13] [0, 1, 3, 7, 0, 16, 48, 112, 240, 496, 1023, 2047, 4095, 8191] [(.pure, none), (.pure, none), (.pure, none), (.quiet, none), (.pure, none), (.pure, none), (.pure, none), (.quiet, none), (.pure, none), (.pure, none), (.pure, none), (.pure, none), (.quiet, none), (.pure, none)] (by kernel_rfl) ?_
  intro wD3 hl3
  refine DW.pure rfl rfl rfl rfl rfl (p_move rfl rfl) ?_
  refine DW.pure rfl rfl rfl rfl rfl (p_nilCheck rfl rfl) ?_
  refine DW.pure rfl rfl rfl rfl rfl (p_fieldAddr tf73_1 rfl rfl) ?_
  refine DW.quiet rfl rfl rfl rfl rfl (f_load (j := 0) ta71 rfl (off := 1) rfl rfl rfl) ?_
  refine DW.pure rfl rfl rfl rfl rfl (p_move rfl rfl) ?_
  refine DW.pure rfl rfl rfl rfl rfl (p_nilCheck rfl rfl) ?_
  refine DW.pure rfl rfl rfl rfl rfl (p_fieldAddr tf73_1 rfl rfl) ?_
  refine DW.quiet rfl rfl rfl rfl rfl (f_load (j := 0) ta71 rfl (off := 1) rfl rfl rfl) ?_
  refine DW.pure rfl rfl rfl rfl rfl (p_slLen tu71 (own_len x.2.hL) rfl rfl) ?_
  refine DW.pure rfl rfl rfl rfl rfl (pI (wlast h0 (by omega)) (p_sub rfl rfl rfl)) ?_
  refine DW.pure rfl rfl rfl rfl rfl (p_ixV x.2.hL hlast tu71 ts80 rfl rfl rfl) ?_
  refine DW.pure rfl rfl rfl rfl rfl (p_fieldEl (own_plain x.2.hL hlast) tf80_1 rfl rfl) ?_
  refine DW.quiet rfl rfl rfl rfl rfl (f_loadEl (i := 2) rfl x.2.hL (lcells_0 hpl).2 ta32 rfl rfl) ?_
  refine DW.pure rfl rfl rfl rfl rfl (p_assign rfl rfl) ?_
  refine DW.doneQ (y := sub [1, 1, 1] B27) hl3 rfl ?_
  refine C.seq (x := sub [1, 1, 1, 0] B27) (y := sub [1, 1, 1, 1] B27) ?_
  refine C.seq (x := sub [1, 1, 1, 0, 0] B27) (y := sub [1, 1, 1, 0, 1] B27) ?_
  refine C.region (id := 4) (m := 1) (ops := opsOf (sub [1, 1, 1, 0, 0] B27)) rfl ?_
  refine W.pure rfl (wo rfl) rfl rfl (p_assign rfl rfl) (nf rfl) ?_
  refine W.doneQ (y := sub [1, 1, 1, 0, 1] B27) rfl ?_
  refine C.loopB (id := 0) (c := sub [1, 1, 1, 0, 1, 0, 0] B27) (y := sub [1, 1, 1, 1] B27) (fun k : Nat => 513 - k) (fun k => [(0, ptr b 0), (1, .int .i64 n), (2, y.1.1), (7, pl.2.1), (8, .int .i64 (k : Int))]) (fun k => rX b x ++ (oX y ++ [])) (fun k => k ≤ t) 0 (Nat.zero_le _) (Sub.cons rfl (Sub.cons rfl (Sub.cons rfl (Sub.cons rfl (Sub.cons rfl (Sub.nil _)))))) rfl rfl (fun k => False) ?_ ?_
  · intro k hk Q' hN hE hR
    have ht5 := hT.ht
    refine C.seq (x := sub [1, 1, 1, 0, 1, 0, 0, 0] B27) (y := sub [1, 1, 1, 0, 1, 0, 0, 1] B27) ?_
    refine C.seq (x := sub [1, 1, 1, 0, 1, 0, 0, 0, 0] B27) (y := sub [1, 1, 1, 0, 1, 0, 0, 0, 1] B27) ?_
    refine C.region (id := 5) (m := 2) (ops := opsOf (sub [1, 1, 1, 0, 1, 0, 0, 0, 0] B27)) rfl ?_
    refine W.pure rfl (wo rfl) rfl rfl (p_move rfl rfl) (nf rfl) ?_
    refine W.pure rfl (wo rfl) rfl rfl (pT (decide_eq_true (by omega)) (p_leq rfl rfl rfl)) (nf rfl) ?_
    refine W.doneQ (y := sub [1, 1, 1, 0, 1, 0, 0, 0, 1] B27) rfl ?_
    refine C.cond_true (x := sub [1, 1, 1, 0, 1, 0, 0, 0, 1, 0] B27) (y := sub [1, 1, 1, 0, 1, 0, 0, 0, 1, 1] B27) rfl rfl ?_
    refine C.skipQ (y := sub [1, 1, 1, 0, 1, 0, 0, 1] B27) rfl ?_
    refine C.seq (x := sub [1, 1, 1, 0, 1, 0, 0, 1, 0] B27) (y := sub [1, 1, 1, 0, 1, 0, 0, 1, 1] B27) ?_
    refine C.block (id := 1) (c := sub [1, 1, 1, 0, 1, 0, 0, 1, 0, 0] B27) ?_
    refine C.seq (x := sub [1, 1, 1, 0, 1, 0, 0, 1, 0, 0, 0] B27) (y := sub [1, 1, 1, 0, 1, 0, 0, 1, 0, 0, 1] B27) ?_
    refine C.seq (x := sub [1, 1, 1, 0, 1, 0, 0, 1, 0, 0, 0, 0] B27) (y := sub [1, 1, 1, 0, 1, 0, 0, 1, 0, 0, 0, 1] B27) ?_
    refine C.regionD (id := 7) (ops := opsOf (sub [1, 1, 1, 0, 1, 0, 0, 1, 0, 0, 0, 0] B27)) [0, 1, 2, 3, 4, 5, 6, 7, 8] [0, 0, 3, 7, 0, 0, 48, 112, 255] [(.pure, none), (.pure, none), (.pure, none), (.quiet, none), (.pure, none), (.pure, none), (.pure, none), (.quiet, none), (.pure, none)] (by kernel_rfl) ?_
    intro wD7 hl7
    refine DW.pure rfl rfl rfl rfl rfl (p_move rfl rfl) ?_
    refine DW.pure rfl rfl rfl rfl rfl (p_move rfl rfl) ?_
    refine DW.pure rfl rfl rfl rfl rfl (p_subH tu32 ts5 (ox_row y) (by omega) (by omega) rfl rfl rfl) ?_
    refine DW.quiet rfl rfl rfl rfl rfl (q_oxHead y (List.mem_append_right _ (List.mem_append_left _ (List.mem_singleton.2 rfl))) (k := k) (by omega) rfl rfl) ?_
    refine DW.pure rfl rfl rfl rfl rfl (p_move rfl rfl) ?_
    refine DW.pure rfl rfl rfl rfl rfl (p_move rfl rfl) ?_
    refine DW.pure rfl rfl rfl rfl rfl (p_subH tu32 ts5 (rw_row hrl) (by omega) (by rw [hrl.2]; omega) rfl rfl rfl) ?_
    refine DW.quiet rfl rfl rfl rfl rfl (q_rwHead hrl (List.mem_append_left _ (mem_L hml)) (k := k) (by omega) rfl rfl) ?_
    refine DW.pure rfl rfl rfl rfl rfl (pF (by rw [heads (t := t) hk hT hpb]; simp) (p_strNe rfl rfl rfl)) ?_
    refine DW.doneQ (y := sub [1, 1, 1, 0, 1, 0, 0, 1, 0, 0, 0, 1] B27) hl7 rfl ?_
    refine C.cond_false (x := sub [1, 1, 1, 0, 1, 0, 0, 1, 0, 0, 0, 1, 0] B27) (y := sub [1, 1, 1, 0, 1, 0, 0, 1, 0, 0, 0, 1, 1] B27) rfl rfl ?_
    refine C.skipQ (y := sub [1, 1, 1, 0, 1, 0, 0, 1, 0, 0, 1] B27) rfl ?_
    refine C.seq (x := sub [1, 1, 1, 0, 1, 0, 0, 1, 0, 0, 1, 0] B27) (y := sub [1, 1, 1, 0, 1, 0, 0, 1, 0, 0, 1, 1] B27) ?_
    refine C.seq (x := sub [1, 1, 1, 0, 1, 0, 0, 1, 0, 0, 1, 0, 0] B27) (y := sub [1, 1, 1, 0, 1, 0, 0, 1, 0, 0, 1, 0, 1] B27) ?_
    refine C.regionD (id := 9) (ops := opsOf (sub [1, 1, 1, 0, 1, 0, 0, 1, 0, 0, 1, 0, 0] B27)) [0, 1, 2, 3, 4, 5, 6, 7, 8, 9, 10, 11, 12, 13, 14] [0, 0, 3, 7, 0, 16, 48, 112, 0, 496, 1008, 0, 4080, 8176, 16383] [(.pure, none), (.pure, none), (.pure, none), (.quiet, none), (.pure, none), (.pure, none), (.pure, none), (.quiet, none), (.pure, none), (.pure, none), (.quiet, none), (.pure, none), (.pure, none), (.quiet, none), (.pure, none)] (by kernel_rfl) ?_
    intro wD9 hl9
    refine DW.pure rfl rfl rfl rfl rfl (p_move rfl rfl) ?_
    refine DW.pure rfl rfl rfl rfl rfl (p_move rfl rfl) ?_
    refine DW.pure rfl rfl rfl rfl rfl (p_subL tu32 ts5 (ox_row y) (by omega) (by omega) rfl rfl rfl) ?_
    refine DW.quiet rfl rfl rfl rfl rfl (q_oxTail y (List.mem_append_right _ (List.mem_append_left _ (List.mem_singleton.2 rfl))) (k := k) (by omega) rfl rfl) ?_
    refine DW.pure rfl rfl rfl rfl rfl (p_move rfl rfl) ?_
    refine DW.pure rfl rfl rfl rfl rfl (p_nilCheck rfl rfl) ?_
    refine DW.pure rfl rfl rfl rfl rfl (p_fieldAddr tf73_0 rfl rfl) ?_
    refine DW.quiet rfl rfl rfl rfl rfl (f_load (j := 0) ta70 rfl (off := 0) rfl rfl rfl) ?_
    refine DW.pure rfl rfl rfl rfl rfl (p_move rfl rfl) ?_
    refine DW.pure rfl rfl rfl rfl rfl (p_ixVI x.2.hB hn.1 hn.2 tu70 ts32 rfl rfl rfl) ?_
    refine DW.quiet rfl rfl rfl rfl rfl (f_loadEl (q := r0.1) (i := 1) rfl x.2.hB (by rw [Nat.mul_one, List.getElem?_map, hr0]; rfl) ta32 rfl rfl) ?_
    refine DW.pure rfl rfl rfl rfl rfl (p_move rfl rfl) ?_
    refine DW.pure rfl rfl rfl rfl rfl (p_subL tu32 ts5 (rw_row hw0) (by omega) (by rw [hw0.2]; omega) rfl rfl rfl) ?_
    refine DW.quiet rfl rfl rfl rfl rfl (q_rwTail hw0 (List.mem_append_left _ (mem_B hm0)) (k := k) (by omega) rfl rfl) ?_
    by_cases h1 : bytesL (xs.drop k) = bytesL (r0.2.2.drop k)
    · refine DW.pure rfl rfl rfl rfl rfl (pT (by simpa using h1) (p_strEq rfl rfl rfl)) ?_
      refine DW.doneQ (y := sub [1, 1, 1, 0, 1, 0, 0, 1, 0, 0, 1, 0, 1] B27) hl9 rfl ?_
      refine C.cond_true (x := sub [1, 1, 1, 0, 1, 0, 0, 1, 0, 0, 1, 0, 1, 0] B27) (y := sub [1, 1, 1, 0, 1, 0, 0, 1, 0, 0, 1, 0, 1, 1] B27) rfl rfl ?_
      refine C.seq (x := sub [1, 1, 1, 0, 1, 0, 0, 1, 0, 0, 1, 0, 1, 0, 0] B27) (y := sub [1, 1, 1, 0, 1, 0, 0, 1, 0, 0, 1, 0, 1, 0, 1] B27) ?_
      refine C.region (id := 10) (m := 1) (ops := opsOf (sub [1, 1, 1, 0, 1, 0, 0, 1, 0, 0, 1, 0, 1, 0, 0] B27)) rfl ?_
      refine W.pure rfl (wo rfl) rfl rfl (p_assign rfl rfl) (nf rfl) ?_
      refine W.doneQ (y := sub [1, 1, 1, 0, 1, 0, 0, 1, 0, 0, 1, 0, 1, 0, 1] B27) rfl ?_
      exact C.retL (R := fun e w' => ∃ _y : Unit, e = .returned (.bool true) ∧ Cls w0 I' (rX b x ++ oX y) w') (rs := [.tmp 6]) (vs := [.bool true]) (fun a w h => hR a w h) Try.func27 rfl rfl rfl (res_cons (ResV.tmp rfl) res_nil) fun w1 hc1 => ⟨(), rfl, by rw [List.append_nil] at hc1; exact hc1⟩
    · refine DW.pure rfl rfl rfl rfl rfl (pF (by simpa using h1) (p_strEq rfl rfl rfl)) ?_
      refine DW.doneQ (y := sub [1, 1, 1, 0, 1, 0, 0, 1, 0, 0, 1, 0, 1] B27) hl9 rfl ?_
      refine C.cond_false (x := sub [1, 1, 1, 0, 1, 0, 0, 1, 0, 0, 1, 0, 1, 0] B27) (y := sub [1, 1, 1, 0, 1, 0, 0, 1, 0, 0, 1, 0, 1, 1] B27) rfl rfl ?_
      refine C.skipQ (y := sub [1, 1, 1, 0, 1, 0, 0, 1, 0, 0, 1, 1] B27) rfl ?_
      refine C.seq (x := sub [1, 1, 1, 0, 1, 0, 0, 1, 0, 0, 1, 1, 0] B27) (y := sub [1, 1, 1, 0, 1, 0, 0, 1, 0, 0, 1, 1, 1] B27) ?_
      refine C.region (id := 11) (m := 1) (ops := opsOf (sub [1, 1, 1, 0, 1, 0, 0, 1, 0, 0, 1, 1, 0] B27)) rfl ?_
      refine W.pure rfl (wo rfl) rfl rfl (p_assign rfl rfl) (nf rfl) ?_
      refine W.doneQ (y := sub [1, 1, 1, 0, 1, 0, 0, 1, 0, 0, 1, 1, 1] B27) rfl ?_
      refine C.loopB (id := 2) (c := sub [1, 1, 1, 0, 1, 0, 0, 1, 0, 0, 1, 1, 1, 0, 0] B27) (y := sub [1, 1, 1, 0, 1, 0, 0, 1, 1] B27) (fun i : Nat => x.1.Ls.length - i) (fun i => [(0, ptr b 0), (1, .int .i64 n), (2, y.1.1), (7, pl.2.1), (8, .int .i64 (k : Int)), (9, .int .i64 (i : Int))]) (fun i => rX b x ++ (oX y ++ [])) (fun i => i ≤ x.1.Ls.length ∧ ∀ j, j < i → ∀ q, x.1.Ls[j]? = some q → q.1 = n → ¬ bytesL (xs.drop k) = bytesL (q.2.2.2.drop k)) 0 ⟨Nat.zero_le _, fun j hj => by omega⟩ (Sub.cons rfl (Sub.cons rfl (Sub.cons rfl (Sub.cons rfl (Sub.cons rfl (Sub.cons rfl (Sub.nil _))))))) rfl rfl (fun i => i = x.1.Ls.length) ?_ ?_
      · rintro i ⟨hi, hno⟩ Q2 hN2 hE2 hR2
        by_cases hlt : i < x.1.Ls.length
        · obtain ⟨p, hp⟩ : ∃ p, x.1.Ls[i]? = some p := ⟨_, List.getElem?_eq_getElem hlt⟩
          have hm : p ∈ x.1.Ls := List.mem_of_getElem? hp
          have hrp := x.2.rL p hm
          refine C.seq (x := sub [1, 1, 1, 0, 1, 0, 0, 1, 0, 0, 1, 1, 1, 0, 0, 0] B27) (y := sub [1, 1, 1, 0, 1, 0, 0, 1, 0, 0, 1, 1, 1, 0, 0, 1] B27) ?_
          refine C.seq (x := sub [1, 1, 1, 0, 1, 0, 0, 1, 0, 0, 1, 1, 1, 0, 0, 0, 0] B27) (y := sub [1, 1, 1, 0, 1, 0, 0, 1, 0, 0, 1, 1, 1, 0, 0, 0, 1] B27) ?_
          refine C.region (id := 12) (m := 7) (ops := opsOf (sub [1, 1, 1, 0, 1, 0, 0, 1, 0, 0, 1, 1, 1, 0, 0, 0, 0] B27)) rfl ?_
          refine W.pure rfl (wo rfl) rfl rfl (p_move rfl rfl) (nf rfl) ?_
          refine W.pure rfl (wo rfl) rfl rfl (p_move rfl rfl) (nf rfl) ?_
          refine W.pure rfl (wo rfl) rfl rfl (p_nilCheck rfl rfl) (nf rfl) ?_
          refine W.pure rfl (wo rfl) rfl rfl (p_fieldAddr tf73_1 rfl rfl) (nf rfl) ?_
          refine W.quiet rfl (wo rfl) rfl rfl (f_load (j := 0) ta71 rfl (off := 1) rfl rfl rfl) (nf rfl) ?_
          refine W.pure rfl (wo rfl) rfl rfl (p_slLen tu71 (own_len x.2.hL) rfl rfl) (nf rfl) ?_
          refine W.pure rfl (wo rfl) rfl rfl (pT (decide_eq_true (by omega)) (p_lss rfl rfl rfl)) (nf rfl) ?_
          refine W.doneQ (y := sub [1, 1, 1, 0, 1, 0, 0, 1, 0, 0, 1, 1, 1, 0, 0, 0, 1] B27) rfl ?_
          refine C.cond_true (x := sub [1, 1, 1, 0, 1, 0, 0, 1, 0, 0, 1, 1, 1, 0, 0, 0, 1, 0] B27) (y := sub [1, 1, 1, 0, 1, 0, 0, 1, 0, 0, 1, 1, 1, 0, 0, 0, 1, 1] B27) rfl rfl ?_
          refine C.skipQ (y := sub [1, 1, 1, 0, 1, 0, 0, 1, 0, 0, 1, 1, 1, 0, 0, 1] B27) rfl ?_
          refine C.seq (x := sub [1, 1, 1, 0, 1, 0, 0, 1, 0, 0, 1, 1, 1, 0, 0, 1, 0] B27) (y := sub [1, 1, 1, 0, 1, 0, 0, 1, 0, 0, 1, 1, 1, 0, 0, 1, 1] B27) ?_
          refine C.block (id := 3) (c := sub [1, 1, 1, 0, 1, 0, 0, 1, 0, 0, 1, 1, 1, 0, 0, 1, 0, 0] B27) ?_
          refine C.seq (x := sub [1, 1, 1, 0, 1, 0, 0, 1, 0, 0, 1, 1, 1, 0, 0, 1, 0, 0, 0] B27) (y := sub [1, 1, 1, 0, 1, 0, 0, 1, 0, 0, 1, 1, 1, 0, 0, 1, 0, 0, 1] B27) ?_
          refine C.regionD (id := 14) (ops := opsOf (sub [1, 1, 1, 0, 1, 0, 0, 1, 0, 0, 1, 1, 1, 0, 0, 1, 0, 0, 0] B27)) [0, 1, 2, 3, 4, 5, 6, 7, 8, 9, 10, 11, 12, 13, 14, 15, 16, 17, 18, 19, 20, 21, 22, 23, 24, 25, 26, 27] [0, 1, 3, 7, 0, 31, 63, 127, 0, 511, 1023, 2047, 2047, 8191, 16383, 2047, 34815, 100351, 231423, 2047, 1017855, 2066431, 4163583, 2047, 16746495, 33523711, 67108863, 134217727] [(.pure, none), (.pure, none), (.pure, none), (.quiet, none), (.pure, none), (.pure, none), (.pure, none), (.quiet, none), (.pure, none), (.pure, none), (.pure, none), (.pure, none), (.pure, none), (.pure, none), (.quiet, none), (.pure, none), (.pure, none), (.pure, none), (.quiet, none), (.pure, none), (.pure, none), (.pure, none), (.quiet, none), (.pure, none), (.pure, none), (.quiet, none), (.pure, none), (.pure, none)] (by kernel_rfl) ?_
          intro wD14 hl14
          refine DW.pure rfl rfl rfl rfl rfl (p_move rfl rfl) ?_
          refine DW.pure rfl rfl rfl rfl rfl (p_nilCheck rfl rfl) ?_
          refine DW.pure rfl rfl rfl rfl rfl (p_fieldAddr tf73_1 rfl rfl) ?_
          refine DW.quiet rfl rfl rfl rfl rfl (f_load (j := 0) ta71 rfl (off := 1) rfl rfl rfl) ?_
          refine DW.pure rfl rfl rfl rfl rfl (p_move rfl rfl) ?_
          refine DW.pure rfl rfl rfl rfl rfl (p_ixV x.2.hL hlt tu71 ts80 rfl rfl rfl) ?_
          refine DW.pure rfl rfl rfl rfl rfl (p_fieldEl (own_plain x.2.hL hlt) tf80_0 rfl rfl) ?_
          refine DW.quiet rfl rfl rfl rfl rfl (f_loadEl (i := 2) rfl x.2.hL (lcells_0 hp).1 ta3 rfl rfl) ?_
          refine DW.pure rfl rfl rfl rfl rfl (p_move rfl rfl) ?_
          by_cases he : p.1 = n
          · refine DW.pure rfl rfl rfl rfl rfl (pT (by simpa using he) (p_eql rfl rfl rfl)) ?_
            refine DW.pure rfl rfl rfl rfl rfl (p_move rfl rfl) ?_
            refine DV.pure rfl (wo rfl) rfl rfl rfl (p_move rfl rfl) ?_
            refine DV.pure rfl (wo rfl) rfl rfl rfl (p_move rfl rfl) ?_
            refine DV.pure rfl (wo rfl) rfl rfl rfl (p_subL tu32 ts5 (ox_row y) (by omega) (by omega) rfl rfl rfl) ?_
            refine DV.quiet rfl (wo rfl) rfl rfl rfl (q_oxTail y (List.mem_append_right _ (List.mem_append_left _ (List.mem_singleton.2 rfl))) (k := k) (by omega) rfl rfl) ?_
            refine DV.pure rfl (wo rfl) rfl rfl rfl (p_move rfl rfl) ?_
            refine DV.pure rfl (wo rfl) rfl rfl rfl (p_nilCheck rfl rfl) ?_
            refine DV.pure rfl (wo rfl) rfl rfl rfl (p_fieldAddr tf73_1 rfl rfl) ?_
            refine DV.quiet rfl (wo rfl) rfl rfl rfl (f_load (j := 0) ta71 rfl (off := 1) rfl rfl rfl) ?_
            refine DV.pure rfl (wo rfl) rfl rfl rfl (p_move rfl rfl) ?_
            refine DV.pure rfl (wo rfl) rfl rfl rfl (p_ixV x.2.hL hlt tu71 ts80 rfl rfl rfl) ?_
            refine DV.pure rfl (wo rfl) rfl rfl rfl (p_fieldEl (own_plain x.2.hL hlt) tf80_1 rfl rfl) ?_
            refine DV.quiet rfl (wo rfl) rfl rfl rfl (f_loadEl (i := 2) rfl x.2.hL (lcells_0 hp).2 ta32 rfl rfl) ?_
            refine DV.pure rfl (wo rfl) rfl rfl rfl (p_move rfl rfl) ?_
            refine DV.pure rfl (wo rfl) rfl rfl rfl (p_subL tu32 ts5 (rw_row hrp) (by omega) (by rw [hrp.2]; omega) rfl rfl rfl) ?_
            refine DV.quiet rfl (wo rfl) rfl rfl rfl (q_rwTail hrp (List.mem_append_left _ (mem_L hm)) (k := k) (by omega) rfl rfl) ?_
            by_cases h2 : bytesL (xs.drop k) = bytesL (p.2.2.2.drop k)
            · refine DV.pure rfl (wo rfl) rfl rfl rfl (pT (by simpa using h2) (p_strEq rfl rfl rfl)) ?_
              refine DW.pure rfl rfl rfl rfl rfl (p_pick_true rfl rfl rfl) ?_
              refine DW.doneQ (y := sub [1, 1, 1, 0, 1, 0, 0, 1, 0, 0, 1, 1, 1, 0, 0, 1, 0, 0, 1] B27) hl14 rfl ?_
              refine C.cond_true (x := sub [1, 1, 1, 0, 1, 0, 0, 1, 0, 0, 1, 1, 1, 0, 0, 1, 0, 0, 1, 0] B27) (y := sub [1, 1, 1, 0, 1, 0, 0, 1, 0, 0, 1, 1, 1, 0, 0, 1, 0, 0, 1, 1] B27) rfl rfl ?_
              refine C.seq (x := sub [1, 1, 1, 0, 1, 0, 0, 1, 0, 0, 1, 1, 1, 0, 0, 1, 0, 0, 1, 0, 0] B27) (y := sub [1, 1, 1, 0, 1, 0, 0, 1, 0, 0, 1, 1, 1, 0, 0, 1, 0, 0, 1, 0, 1] B27) ?_
              refine C.region (id := 15) (m := 1) (ops := opsOf (sub [1, 1, 1, 0, 1, 0, 0, 1, 0, 0, 1, 1, 1, 0, 0, 1, 0, 0, 1, 0, 0] B27)) rfl ?_
              refine W.pure rfl (wo rfl) rfl rfl (p_assign rfl rfl) (nf rfl) ?_
              refine W.doneQ (y := sub [1, 1, 1, 0, 1, 0, 0, 1, 0, 0, 1, 1, 1, 0, 0, 1, 0, 0, 1, 0, 1] B27) rfl ?_
              exact C.retL (R := fun e w' => ∃ _y : Unit, e = .returned (.bool true) ∧ Cls w0 I' (rX b x ++ oX y) w') (rs := [.tmp 6]) (vs := [.bool true]) (fun a w h => hR2 a w (hR a w h)) Try.func27 rfl rfl rfl (res_cons (ResV.tmp rfl) res_nil) fun w1 hc1 => ⟨(), rfl, by rw [List.append_nil] at hc1; exact hc1⟩
            · refine DV.pure rfl (wo rfl) rfl rfl rfl (pF (by simpa using h2) (p_strEq rfl rfl rfl)) ?_
              refine DW.pure rfl rfl rfl rfl rfl (p_pick_true rfl rfl rfl) ?_
              refine DW.doneQ (y := sub [1, 1, 1, 0, 1, 0, 0, 1, 0, 0, 1, 1, 1, 0, 0, 1, 0, 0, 1] B27) hl14 rfl ?_
              refine C.cond_false (x := sub [1, 1, 1, 0, 1, 0, 0, 1, 0, 0, 1, 1, 1, 0, 0, 1, 0, 0, 1, 0] B27) (y := sub [1, 1, 1, 0, 1, 0, 0, 1, 0, 0, 1, 1, 1, 0, 0, 1, 0, 0, 1, 1] B27) rfl rfl ?_
              refine C.skipQ (y := sub [1, 1, 1, 0, 1, 0, 0, 1, 0, 0, 1, 1, 1, 0, 0, 1, 1] B27) rfl ?_
              refine C.region (id := 13) (m := 3) (ops := opsOf (sub [1, 1, 1, 0, 1, 0, 0, 1, 0, 0, 1, 1, 1, 0, 0, 1, 1] B27)) rfl ?_
              refine W.pure rfl (wo rfl) rfl rfl (p_move rfl rfl) (nf rfl) ?_
              refine W.pure rfl (wo rfl) rfl rfl (pI (wk (by omega)) (p_add rfl rfl rfl)) (nf rfl) ?_
              refine W.pure rfl (wo rfl) rfl rfl (p_assign rfl rfl) (nf rfl) ?_
              refine W.end' fun a1 w1 ha1 hc1 => hN2 (i + 1) ⟨by omega, fun j hj q hq e1 => ?_⟩ (by omega) a1 w1 (ha1.sub (Sub.cons rfl (Sub.cons rfl (Sub.cons rfl (Sub.cons rfl (Sub.cons rfl (Sub.cons rfl (Sub.nil _)))))))) hc1
              rcases Nat.lt_or_ge j i with h3 | h3
              · exact hno j h3 q hq e1
              · obtain rfl : j = i := by omega
                rw [hp] at hq; cases hq
                exact h2
          · refine DW.pure rfl rfl rfl rfl rfl (pF (by simpa using he) (p_eql rfl rfl rfl)) ?_
            refine DW.pure rfl rfl rfl rfl rfl (p_move rfl rfl) ?_
            refine DV.not rfl (wo rfl) rfl rfl ?_
            refine DV.not rfl (wo rfl) rfl rfl ?_
            refine DV.not rfl (wo rfl) rfl rfl ?_
            refine DV.not rfl (wo rfl) rfl rfl ?_
            refine DV.not rfl (wo rfl) rfl rfl ?_
            refine DV.not rfl (wo rfl) rfl rfl ?_
            refine DV.not rfl (wo rfl) rfl rfl ?_
            refine DV.not rfl (wo rfl) rfl rfl ?_
            refine DV.not rfl (wo rfl) rfl rfl ?_
            refine DV.not rfl (wo rfl) rfl rfl ?_
            refine DV.not rfl (wo rfl) rfl rfl ?_
            refine DV.not rfl (wo rfl) rfl rfl ?_
            refine DV.not rfl (wo rfl) rfl rfl ?_
            refine DV.not rfl (wo rfl) rfl rfl ?_
            refine DV.not rfl (wo rfl) rfl rfl ?_
            refine DV.not rfl (wo rfl) rfl rfl ?_
            refine DW.pure rfl rfl rfl rfl rfl (p_pick_false rfl rfl rfl) ?_
            refine DW.doneQ (y := sub [1, 1, 1, 0, 1, 0, 0, 1, 0, 0, 1, 1, 1, 0, 0, 1, 0, 0, 1] B27) hl14 rfl ?_
            refine C.cond_false (x := sub [1, 1, 1, 0, 1, 0, 0, 1, 0, 0, 1, 1, 1, 0, 0, 1, 0, 0, 1, 0] B27) (y := sub [1, 1, 1, 0, 1, 0, 0, 1, 0, 0, 1, 1, 1, 0, 0, 1, 0, 0, 1, 1] B27) rfl rfl ?_
            refine C.skipQ (y := sub [1, 1, 1, 0, 1, 0, 0, 1, 0, 0, 1, 1, 1, 0, 0, 1, 1] B27) rfl ?_
            refine C.region (id := 13) (m := 3) (ops := opsOf (sub [1, 1, 1, 0, 1, 0, 0, 1, 0, 0, 1, 1, 1, 0, 0, 1, 1] B27)) rfl ?_
            refine W.pure rfl (wo rfl) rfl rfl (p_move rfl rfl) (nf rfl) ?_
            refine W.pure rfl (wo rfl) rfl rfl (pI (wk (by omega)) (p_add rfl rfl rfl)) (nf rfl) ?_
            refine W.pure rfl (wo rfl) rfl rfl (p_assign rfl rfl) (nf rfl) ?_
            refine W.end' fun a1 w1 ha1 hc1 => hN2 (i + 1) ⟨by omega, fun j hj q hq e1 => ?_⟩ (by omega) a1 w1 (ha1.sub (Sub.cons rfl (Sub.cons rfl (Sub.cons rfl (Sub.cons rfl (Sub.cons rfl (Sub.cons rfl (Sub.nil _)))))))) hc1
            rcases Nat.lt_or_ge j i with h3 | h3
            · exact hno j h3 q hq e1
            · obtain rfl : j = i := by omega
              rw [hp] at hq; cases hq
              exact absurd e1 he
        · refine C.seq (x := sub [1, 1, 1, 0, 1, 0, 0, 1, 0, 0, 1, 1, 1, 0, 0, 0] B27) (y := sub [1, 1, 1, 0, 1, 0, 0, 1, 0, 0, 1, 1, 1, 0, 0, 1] B27) ?_
          refine C.seq (x := sub [1, 1, 1, 0, 1, 0, 0, 1, 0, 0, 1, 1, 1, 0, 0, 0, 0] B27) (y := sub [1, 1, 1, 0, 1, 0, 0, 1, 0, 0, 1, 1, 1, 0, 0, 0, 1] B27) ?_
          refine C.region (id := 12) (m := 7) (ops := opsOf (sub [1, 1, 1, 0, 1, 0, 0, 1, 0, 0, 1, 1, 1, 0, 0, 0, 0] B27)) rfl ?_
          refine W.pure rfl (wo rfl) rfl rfl (p_move rfl rfl) (nf rfl) ?_
          refine W.pure rfl (wo rfl) rfl rfl (p_move rfl rfl) (nf rfl) ?_
          refine W.pure rfl (wo rfl) rfl rfl (p_nilCheck rfl rfl) (nf rfl) ?_
          refine W.pure rfl (wo rfl) rfl rfl (p_fieldAddr tf73_1 rfl rfl) (nf rfl) ?_
          refine W.quiet rfl (wo rfl) rfl rfl (f_load (j := 0) ta71 rfl (off := 1) rfl rfl rfl) (nf rfl) ?_
          refine W.pure rfl (wo rfl) rfl rfl (p_slLen tu71 (own_len x.2.hL) rfl rfl) (nf rfl) ?_
          refine W.pure rfl (wo rfl) rfl rfl (pF (decide_eq_false (by omega)) (p_lss rfl rfl rfl)) (nf rfl) ?_
          refine W.doneQ (y := sub [1, 1, 1, 0, 1, 0, 0, 1, 0, 0, 1, 1, 1, 0, 0, 0, 1] B27) rfl ?_
          refine C.cond_false (x := sub [1, 1, 1, 0, 1, 0, 0, 1, 0, 0, 1, 1, 1, 0, 0, 0, 1, 0] B27) (y := sub [1, 1, 1, 0, 1, 0, 0, 1, 0, 0, 1, 1, 1, 0, 0, 0, 1, 1] B27) rfl rfl ?_
          exact C.exit fun a1 w1 ha1 hc1 => hE2 (show i = x.1.Ls.length by omega) a1 w1 (ha1.sub (Sub.cons rfl (Sub.cons rfl (Sub.cons rfl (Sub.cons rfl (Sub.cons rfl (Sub.cons rfl (Sub.nil _)))))))) hc1
      rintro i ⟨hi, hno⟩ hie
      subst hie
      refine C.region (id := 6) (m := 3) (ops := opsOf (sub [1, 1, 1, 0, 1, 0, 0, 1, 1] B27)) rfl ?_
      refine W.pure rfl (wo rfl) rfl rfl (p_move rfl rfl) (nf rfl) ?_
      refine W.pure rfl (wo rfl) rfl rfl (pI (wk (by omega)) (p_add rfl rfl rfl)) (nf rfl) ?_
      refine W.pure rfl (wo rfl) rfl rfl (p_assign rfl rfl) (nf rfl) ?_
      refine W.end' fun a1 w1 ha1 hc1 => hN (k + 1) (tears_next x.2 hs hT hpb hbm h1 hno hk) (by omega) a1 w1 (ha1.sub (Sub.cons rfl (Sub.cons rfl (Sub.cons rfl (Sub.cons rfl (Sub.cons rfl (Sub.nil _))))))) hc1
  exact fun k hk h => h.elim

end Go.Proofs.Ytjomnicfcdkfdaa
