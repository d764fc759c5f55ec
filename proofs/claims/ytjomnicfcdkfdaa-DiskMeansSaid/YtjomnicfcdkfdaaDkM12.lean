import Derived.Test.YtjomnicfcdkfdaaDkM11
namespace Go.Proofs.Ytjomnicfcdkfdaa
open Go Go.HW Go.RowKit
set_option linter.unusedVariables false
set_option linter.unusedSimpArgs false

theorem tu22 (w : World) : (underlying 22).run Try.prog w = .ok (.slice 3) w := by kernel_rfl
theorem getD0 {l : List Int} {k : Nat} (h : ¬ k < l.length) : l.getD k 0 = 0 := by rw [List.getD_eq_getElem?_getD, List.getElem?_eq_none (by omega)]; rfl
theorem howK_eq (p : Int) : (IntKind.i64.wrap (p.tmod 3 + 3)).tmod 3 = howK p := rfl
theorem tear_1 {p : Int} {l : Bool} (h : ¬ howK p = 2) : tearK p l = 512 := by unfold tearK; rw [if_neg (fun x => h x.1)]
theorem tear_2 {p : Int} : tearK p false = 512 := by unfold tearK; rw [if_neg (fun x => by cases x.2)]
theorem tear_3 {p : Int} (h : howK p = 2) (h2 : (floorK p).tmod 513 < 0) : tearK p true = IntKind.i64.wrap ((floorK p).tmod 513 + 513) := by unfold tearK; rw [if_pos ⟨h, rfl⟩, if_pos h2]
theorem tear_4 {p : Int} (h : howK p = 2) (h2 : ¬ (floorK p).tmod 513 < 0) : tearK p true = (floorK p).tmod 513 := by unfold tearK; rw [if_pos ⟨h, rfl⟩, if_neg h2]

theorem crash_ok {w0 w : World} {I : Mem} {b m : Nat} {v : Value} {cur : Array Value} {s : Dk} (hc : Cls w0 I (dkH b m v cur s) w) (ho : DkO v cur s) {pv : Value} {picks : List Int} (hpk : IntRow I .i64 pv picks) (hl : s.late.length ≤ 1099511627775) : Calls Try.prog 18 #[ptr b 0, pv] w (fun e w' => e = .returned (.int .i64 0) ∧ Cls w0 I (dkH b m (.slice none 0 0) #[] { s with set := crK s picks s.late.length, late := [], armed := false, dead := false, fuse := 0 }) w') := by
  obtain ⟨cs, hcs, hch⟩ := id ho.hr
  have hlf : Full s.late := fun p hp => by
    obtain ⟨i, hi, rfl⟩ := List.getElem_of_mem hp
    exact late_len ho (List.getElem?_eq_getElem hi)
  refine calls_of_CW (N := 90) Try.func18 (show _ = some B18 by kernel_rfl) (by kernel_rfl) rfl (S := [(0, ptr b 0), (1, pv)]) (by simp) hc ?_
  show CW _ _ _ (sub [] B18) _ _ _
  refine C.seq (x := sub [0] B18) (y := sub [1] B18) ?_
  refine C.region (id := 0) (m := 1) (ops := opsOf (sub [0] B18)) rfl ?_
  refine W.pure rfl (wo rfl) rfl rfl (p_assign rfl rfl) (nf rfl) ?_
  refine W.doneQ (y := sub [1] B18) rfl ?_
  refine C.seq (x := sub [1, 0] B18) (y := sub [1, 1] B18) ?_
  refine C.seq (x := sub [1, 0, 0] B18) (y := sub [1, 0, 1] B18) ?_
  refine C.region (id := 1) (m := 3) (ops := opsOf (sub [1, 0, 0] B18)) rfl ?_
  refine W.pure rfl (wo rfl) rfl rfl (p_move rfl rfl) (nf rfl) ?_
  refine W.quiet rfl (wo rfl) rfl rfl (f_callR rfl rfl (args_val (vs := [ptr b 0]) rfl) (en32 _) (fun w2 hc2 => there_ok (M := heapOf w2) (fun _ _ e => e) (ho.M (b := b) (m := m) hc2 (fun p hp => by first | exact hp | exact List.mem_cons_of_mem _ hp | exact List.mem_cons_of_mem _ (List.mem_cons_of_mem _ hp) | exact List.mem_append_left _ hp)))) (nf rfl) ?_
  refine W.pure rfl (wo rfl) rfl rfl (p_not rfl rfl) (nf rfl) ?_
  refine W.doneQ (y := sub [1, 0, 1] B18) rfl ?_
  refine C.cond_false (x := sub [1, 0, 1, 0] B18) (y := sub [1, 0, 1, 1] B18) rfl rfl ?_
  refine C.skipQ (y := sub [1, 1] B18) rfl ?_
  refine C.seq (x := sub [1, 1, 0] B18) (y := sub [1, 1, 1] B18) ?_
  refine C.seq (x := sub [1, 1, 0, 0] B18) (y := sub [1, 1, 0, 1] B18) ?_
  refine C.region (id := 3) (m := 6) (ops := opsOf (sub [1, 1, 0, 0] B18)) rfl ?_
  refine W.pure rfl (wo rfl) rfl rfl (p_move rfl rfl) (nf rfl) ?_
  refine W.pure rfl (wo rfl) rfl rfl (p_nilCheck rfl rfl) (nf rfl) ?_
  refine W.pure rfl (wo rfl) rfl rfl (p_fieldAddr tf61_2 rfl rfl) (nf rfl) ?_
  refine W.quiet rfl (wo rfl) rfl rfl (f_load (j := 0) ta59 rfl (off := 2) rfl rfl rfl) (nf rfl) ?_
  refine W.pure rfl (wo rfl) rfl rfl (p_slLen tu59 ho.hr.sl rfl rfl) (nf rfl) ?_
  refine W.pure rfl (wo rfl) rfl rfl (p_move rfl rfl) (nf rfl) ?_
  refine W.doneQ (y := sub [1, 1, 0, 1] B18) rfl ?_
  refine C.loopB (id := 0) (c := sub [1, 1, 0, 1, 0, 0] B18) (y := sub [1, 1, 1] B18) (fun k : Nat => s.late.length - k) (fun k => [(0, ptr b 0), (1, pv), (17, v), (18, .int .i64 (s.late.length : Int)), (19, .int .i64 (k : Int))]) (fun k => dkH b m v cur { s with set := crK s picks k }) (fun k => k ≤ s.late.length) 0 (Nat.zero_le _) (Sub.cons rfl (Sub.cons rfl (Sub.cons rfl (Sub.cons rfl (Sub.cons rfl (Sub.nil _)))))) rfl rfl (fun k => k = s.late.length) ?_ ?_
  · intro k hk Q' hN hE hR
    by_cases hlt : k < s.late.length
    · obtain ⟨y, hy⟩ : ∃ y, s.late[k]? = some y := ⟨_, List.getElem?_eq_getElem hlt⟩
      have hy2 := late_len ho hy
      have hcf := crK_full (picks := picks) ho.hs hlf k
      have hml := mget_len hcf y.1
      have hte := tear_lt (picks.getD k 0) (decide (k + 1 = s.late.length))
      have hnb : (y.2.take (tearK (picks.getD k 0) (decide (k + 1 = s.late.length))).toNat ++ (mget (crK s picks k) y.1).drop (tearK (picks.getD k 0) (decide (k + 1 = s.late.length))).toNat).length = 512 := by rw [List.length_append, List.length_take, List.length_drop, hy2, hml]; omega
      by_cases hh : howK (picks.getD k 0) = 0
      · refine C.seq (x := sub [1, 1, 0, 1, 0, 0, 0] B18) (y := sub [1, 1, 0, 1, 0, 0, 1] B18) ?_
        refine C.region (id := 4) (m := 1) (ops := opsOf (sub [1, 1, 0, 1, 0, 0, 0] B18)) rfl ?_
        refine W.pure rfl (wo rfl) rfl rfl (pT (decide_eq_true (by omega)) (p_lss rfl rfl rfl)) (nf rfl) ?_
        refine W.doneQ (y := sub [1, 1, 0, 1, 0, 0, 1] B18) rfl ?_
        refine C.seq (x := sub [1, 1, 0, 1, 0, 0, 1, 0] B18) (y := sub [1, 1, 0, 1, 0, 0, 1, 1] B18) ?_
        refine C.cond_true (x := sub [1, 1, 0, 1, 0, 0, 1, 0, 0] B18) (y := sub [1, 1, 0, 1, 0, 0, 1, 0, 1] B18) rfl rfl ?_
        refine C.skipQ (y := sub [1, 1, 0, 1, 0, 0, 1, 1] B18) rfl ?_
        refine C.seq (x := sub [1, 1, 0, 1, 0, 0, 1, 1, 0] B18) (y := sub [1, 1, 0, 1, 0, 0, 1, 1, 1] B18) ?_
        refine C.block (id := 1) (c := sub [1, 1, 0, 1, 0, 0, 1, 1, 0, 0] B18) ?_
        refine C.seq (x := sub [1, 1, 0, 1, 0, 0, 1, 1, 0, 0, 0] B18) (y := sub [1, 1, 0, 1, 0, 0, 1, 1, 0, 0, 1] B18) ?_
        refine C.region (id := 5) (m := 6) (ops := opsOf (sub [1, 1, 0, 1, 0, 0, 1, 1, 0, 0, 0] B18)) rfl ?_
        refine W.pure rfl (wo rfl) rfl rfl (p_move rfl rfl) (nf rfl) ?_
        refine W.pure rfl (wo rfl) rfl rfl (p_slIx tu59 ts64 (OwnV.some hcs (Int.natCast_nonneg k) (by exact_mod_cast hlt)) (Int.natCast_nonneg k) (by exact_mod_cast hlt) rfl rfl rfl) (nf rfl) ?_
        refine W.quiet rfl (wo rfl) rfl rfl (f_loadElA (j := 2) rfl hcs (hch k y hy).1 hlt ta64 ts64 rfl rfl) (nf rfl) ?_
        refine W.new rfl (wo rfl) rfl rfl (f_alloc tz64 rfl) (nf rfl) ?_
        intro b6 hb6
        refine W.pure rfl (wo rfl) rfl rfl (p_assign rfl rfl) (nf rfl) ?_
        refine W.put (H' := (some b6, .cells (wrc y) 64 (0, 0)) :: dkH b m v cur { s with set := crK s picks k }) rfl (wo rfl) rfl (f_storeA (j := 0) (c2 := wrc y) ts64 rfl (wrc_size hy2) (wrc_size List.length_replicate) wrc_one rfl rfl rfl) (nf rfl) ?_
        refine W.doneQ (y := sub [1, 1, 0, 1, 0, 0, 1, 1, 0, 0, 1] B18) rfl ?_
        refine C.seq (x := sub [1, 1, 0, 1, 0, 0, 1, 1, 0, 0, 1, 0] B18) (y := sub [1, 1, 0, 1, 0, 0, 1, 1, 0, 0, 1, 1] B18) ?_
        refine C.region (id := 6) (m := 1) (ops := opsOf (sub [1, 1, 0, 1, 0, 0, 1, 1, 0, 0, 1, 0] B18)) rfl ?_
        refine W.pure rfl (wo rfl) rfl rfl (p_assign rfl rfl) (nf rfl) ?_
        refine W.doneQ (y := sub [1, 1, 0, 1, 0, 0, 1, 1, 0, 0, 1, 1] B18) rfl ?_
        refine C.seq (x := sub [1, 1, 0, 1, 0, 0, 1, 1, 0, 0, 1, 1, 0] B18) (y := sub [1, 1, 0, 1, 0, 0, 1, 1, 0, 0, 1, 1, 1] B18) ?_
        refine C.join (y := sub [1, 1, 0, 1, 0, 0, 1, 1, 0, 0, 1, 1, 1] B18) [(0, ptr b 0), (1, pv), (17, v), (18, .int .i64 (s.late.length : Int)), (19, .int .i64 (k : Int)), (5, .int .i64 (k : Int)), (6, ptr b6 0), (7, .int .i64 (picks.getD k 0))] ((some b6, .cells (wrc y) 64 (0, 0)) :: dkH b m v cur { s with set := crK s picks k }) rfl ?_ ?_
        · intro QJ hJ
          by_cases hp : k < picks.length
          · refine C.seq (x := sub [1, 1, 0, 1, 0, 0, 1, 1, 0, 0, 1, 1, 0, 0] B18) (y := sub [1, 1, 0, 1, 0, 0, 1, 1, 0, 0, 1, 1, 0, 1] B18) ?_
            refine C.region (id := 7) (m := 4) (ops := opsOf (sub [1, 1, 0, 1, 0, 0, 1, 1, 0, 0, 1, 1, 0, 0] B18)) rfl ?_
            refine W.pure rfl (wo rfl) rfl rfl (p_move rfl rfl) (nf rfl) ?_
            refine W.pure rfl (wo rfl) rfl rfl (p_move rfl rfl) (nf rfl) ?_
            refine W.pure rfl (wo rfl) rfl rfl (p_slLen tu22 hpk.sl rfl rfl) (nf rfl) ?_
            refine W.pure rfl (wo rfl) rfl rfl (pT (decide_eq_true (by omega)) (p_lss rfl rfl rfl)) (nf rfl) ?_
            refine W.doneQ (y := sub [1, 1, 0, 1, 0, 0, 1, 1, 0, 0, 1, 1, 0, 1] B18) rfl ?_
            refine C.cond_true (x := sub [1, 1, 0, 1, 0, 0, 1, 1, 0, 0, 1, 1, 0, 1, 0] B18) (y := sub [1, 1, 0, 1, 0, 0, 1, 1, 0, 0, 1, 1, 0, 1, 1] B18) rfl rfl ?_
            refine C.region (id := 8) (m := 5) (ops := opsOf (sub [1, 1, 0, 1, 0, 0, 1, 1, 0, 0, 1, 1, 0, 1, 0] B18)) rfl ?_
            refine W.pure rfl (wo rfl) rfl rfl (p_move rfl rfl) (nf rfl) ?_
            refine W.pure rfl (wo rfl) rfl rfl (p_move rfl rfl) (nf rfl) ?_
            refine W.pure rfl (wo rfl) rfl rfl (p_slIx1 tu22 ts3 (RowV.some hpk (Int.natCast_nonneg k) (by omega)) (Int.natCast_nonneg k) (by omega) rfl rfl rfl) (nf rfl) ?_
            refine W.imm rfl (wo rfl) rfl rfl (i_loadEl hpk (encl_get .i64 hp) ta3 rfl rfl) (nf rfl) ?_
            refine W.pure rfl (wo rfl) rfl rfl (p_assign rfl rfl) (nf rfl) ?_
            exact W.end' fun a1 w1 ha1 hc1 => hJ a1 w1 (ha1.sub (Sub.cons rfl (Sub.cons rfl (Sub.cons rfl (Sub.cons rfl (Sub.cons rfl (Sub.cons rfl (Sub.cons rfl (Sub.cons rfl (Sub.nil _)))))))))) hc1
          · refine C.seq (x := sub [1, 1, 0, 1, 0, 0, 1, 1, 0, 0, 1, 1, 0, 0] B18) (y := sub [1, 1, 0, 1, 0, 0, 1, 1, 0, 0, 1, 1, 0, 1] B18) ?_
            refine C.region (id := 7) (m := 4) (ops := opsOf (sub [1, 1, 0, 1, 0, 0, 1, 1, 0, 0, 1, 1, 0, 0] B18)) rfl ?_
            refine W.pure rfl (wo rfl) rfl rfl (p_move rfl rfl) (nf rfl) ?_
            refine W.pure rfl (wo rfl) rfl rfl (p_move rfl rfl) (nf rfl) ?_
            refine W.pure rfl (wo rfl) rfl rfl (p_slLen tu22 hpk.sl rfl rfl) (nf rfl) ?_
            refine W.pure rfl (wo rfl) rfl rfl (pF (decide_eq_false (by omega)) (p_lss rfl rfl rfl)) (nf rfl) ?_
            refine W.doneQ (y := sub [1, 1, 0, 1, 0, 0, 1, 1, 0, 0, 1, 1, 0, 1] B18) rfl ?_
            refine C.cond_false (x := sub [1, 1, 0, 1, 0, 0, 1, 1, 0, 0, 1, 1, 0, 1, 0] B18) (y := sub [1, 1, 0, 1, 0, 0, 1, 1, 0, 0, 1, 1, 0, 1, 1] B18) rfl rfl ?_
            exact C.skipE fun a1 w1 ha1 hc1 => hJ a1 w1 (ha1.sub (Sub.cons rfl (Sub.cons rfl (Sub.cons rfl (Sub.cons rfl (Sub.cons rfl (Sub.cons rfl (Sub.cons rfl (Sub.cons (by rw [show picks.getD k 0 = 0 from getD0 hp]; rfl) (Sub.nil _)))))))))) hc1
        refine C.seq (x := sub [1, 1, 0, 1, 0, 0, 1, 1, 0, 0, 1, 1, 1, 0] B18) (y := sub [1, 1, 0, 1, 0, 0, 1, 1, 0, 0, 1, 1, 1, 1] B18) ?_
        refine C.region (id := 9) (m := 6) (ops := opsOf (sub [1, 1, 0, 1, 0, 0, 1, 1, 0, 0, 1, 1, 1, 0] B18)) rfl ?_
        refine W.pure rfl (wo rfl) rfl rfl (p_move rfl rfl) (nf rfl) ?_
        refine W.pure rfl (wo rfl) rfl rfl (p_rem (by decide) rfl rfl rfl) (nf rfl) ?_
        refine W.pure rfl (wo rfl) rfl rfl (p_add rfl rfl rfl) (nf rfl) ?_
        refine W.pure rfl (wo rfl) rfl rfl (pI (howK_eq _) (p_rem (by decide) rfl rfl rfl)) (nf rfl) ?_
        refine W.pure rfl (wo rfl) rfl rfl (p_assign rfl rfl) (nf rfl) ?_
        refine W.pure rfl (wo rfl) rfl rfl (p_assign rfl rfl) (nf rfl) ?_
        refine W.doneQ (y := sub [1, 1, 0, 1, 0, 0, 1, 1, 0, 0, 1, 1, 1, 1] B18) rfl ?_
        refine C.seq (x := sub [1, 1, 0, 1, 0, 0, 1, 1, 0, 0, 1, 1, 1, 1, 0] B18) (y := sub [1, 1, 0, 1, 0, 0, 1, 1, 0, 0, 1, 1, 1, 1, 1] B18) ?_
        refine C.join (y := sub [1, 1, 0, 1, 0, 0, 1, 1, 0, 0, 1, 1, 1, 1, 1] B18) [(0, ptr b 0), (1, pv), (17, v), (18, .int .i64 (s.late.length : Int)), (19, .int .i64 (k : Int)), (5, .int .i64 (k : Int)), (6, ptr b6 0), (7, .int .i64 (picks.getD k 0)), (8, .int .i64 (howK (picks.getD k 0))), (9, .int .i64 (tearK (picks.getD k 0) (decide (k + 1 = s.late.length))))] ((some b6, .cells (wrc y) 64 (0, 0)) :: dkH b m v cur { s with set := crK s picks k }) rfl ?_ ?_
        · intro QJ hJ
          have e : IntKind.i64.wrap ((s.late.length : Int) - 1) = (s.late.length : Int) - 1 := w64 (by omega) (by omega)
          by_cases h2 : howK (picks.getD k 0) = 2
          · by_cases hlst : k + 1 = s.late.length
            · by_cases h3 : (floorK (picks.getD k 0)).tmod 513 < 0
              · refine C.seq (x := sub [1, 1, 0, 1, 0, 0, 1, 1, 0, 0, 1, 1, 1, 1, 0, 0] B18) (y := sub [1, 1, 0, 1, 0, 0, 1, 1, 0, 0, 1, 1, 1, 1, 0, 1] B18) ?_
                refine C.region (id := 10) (m := 12) (ops := opsOf (sub [1, 1, 0, 1, 0, 0, 1, 1, 0, 0, 1, 1, 1, 1, 0, 0] B18)) rfl ?_
                refine W.pure rfl (wo rfl) rfl rfl (p_move rfl rfl) (nf rfl) ?_
                refine W.pure rfl (wo rfl) rfl rfl (pT (by rw [h2]; rfl) (p_eql rfl rfl rfl)) (nf rfl) ?_
                refine W.pure rfl (wo rfl) rfl rfl (p_move rfl rfl) (nf rfl) ?_
                refine W.pure rfl (wo rfl) rfl rfl (p_move rfl rfl) (nf rfl) ?_
                refine W.pure rfl (wo rfl) rfl rfl (p_move rfl rfl) (nf rfl) ?_
                refine W.pure rfl (wo rfl) rfl rfl (p_nilCheck rfl rfl) (nf rfl) ?_
                refine W.pure rfl (wo rfl) rfl rfl (p_fieldAddr tf61_2 rfl rfl) (nf rfl) ?_
                refine W.quiet rfl (wo rfl) rfl rfl (f_load (j := 1) ta59 rfl (off := 2) rfl rfl rfl) (nf rfl) ?_
                refine W.pure rfl (wo rfl) rfl rfl (p_slLen tu59 ho.hr.sl rfl rfl) (nf rfl) ?_
                refine W.pure rfl (wo rfl) rfl rfl (p_sub rfl rfl rfl) (nf rfl) ?_
                refine W.pure rfl (wo rfl) rfl rfl (pT (by rw [e]; simp; omega) (p_eql rfl rfl rfl)) (nf rfl) ?_
                refine W.pure rfl (wo rfl) rfl rfl (p_pick_true rfl rfl rfl) (nf rfl) ?_
                refine W.doneQ (y := sub [1, 1, 0, 1, 0, 0, 1, 1, 0, 0, 1, 1, 1, 1, 0, 1] B18) rfl ?_
                refine C.cond_true (x := sub [1, 1, 0, 1, 0, 0, 1, 1, 0, 0, 1, 1, 1, 1, 0, 1, 0] B18) (y := sub [1, 1, 0, 1, 0, 0, 1, 1, 0, 0, 1, 1, 1, 1, 0, 1, 1] B18) rfl rfl ?_
                refine C.seq (x := sub [1, 1, 0, 1, 0, 0, 1, 1, 0, 0, 1, 1, 1, 1, 0, 1, 0, 0] B18) (y := sub [1, 1, 0, 1, 0, 0, 1, 1, 0, 0, 1, 1, 1, 1, 0, 1, 0, 1] B18) ?_
                refine C.region (id := 11) (m := 4) (ops := opsOf (sub [1, 1, 0, 1, 0, 0, 1, 1, 0, 0, 1, 1, 1, 1, 0, 1, 0, 0] B18)) rfl ?_
                refine W.pure rfl (wo rfl) rfl rfl (p_move rfl rfl) (nf rfl) ?_
                refine W.quiet rfl (wo rfl) rfl rfl (f_callR rfl rfl (args_val (vs := [.int .i64 (picks.getD k 0), .int .i64 3]) rfl) (en35 _) (fun w2 hc2 => floor_ok w2 (picks.getD k 0))) (nf rfl) ?_
                refine W.pure rfl (wo rfl) rfl rfl (p_rem (by decide) rfl rfl rfl) (nf rfl) ?_
                refine W.pure rfl (wo rfl) rfl rfl (p_assign rfl rfl) (nf rfl) ?_
                refine W.doneQ (y := sub [1, 1, 0, 1, 0, 0, 1, 1, 0, 0, 1, 1, 1, 1, 0, 1, 0, 1] B18) rfl ?_
                refine C.seq (x := sub [1, 1, 0, 1, 0, 0, 1, 1, 0, 0, 1, 1, 1, 1, 0, 1, 0, 1, 0] B18) (y := sub [1, 1, 0, 1, 0, 0, 1, 1, 0, 0, 1, 1, 1, 1, 0, 1, 0, 1, 1] B18) ?_
                refine C.region (id := 12) (m := 2) (ops := opsOf (sub [1, 1, 0, 1, 0, 0, 1, 1, 0, 0, 1, 1, 1, 1, 0, 1, 0, 1, 0] B18)) rfl ?_
                refine W.pure rfl (wo rfl) rfl rfl (p_move rfl rfl) (nf rfl) ?_
                refine W.pure rfl (wo rfl) rfl rfl (pT (decide_eq_true h3) (p_lss rfl rfl rfl)) (nf rfl) ?_
                refine W.doneQ (y := sub [1, 1, 0, 1, 0, 0, 1, 1, 0, 0, 1, 1, 1, 1, 0, 1, 0, 1, 1] B18) rfl ?_
                refine C.cond_true (x := sub [1, 1, 0, 1, 0, 0, 1, 1, 0, 0, 1, 1, 1, 1, 0, 1, 0, 1, 1, 0] B18) (y := sub [1, 1, 0, 1, 0, 0, 1, 1, 0, 0, 1, 1, 1, 1, 0, 1, 0, 1, 1, 1] B18) rfl rfl ?_
                refine C.region (id := 13) (m := 3) (ops := opsOf (sub [1, 1, 0, 1, 0, 0, 1, 1, 0, 0, 1, 1, 1, 1, 0, 1, 0, 1, 1, 0] B18)) rfl ?_
                refine W.pure rfl (wo rfl) rfl rfl (p_move rfl rfl) (nf rfl) ?_
                refine W.pure rfl (wo rfl) rfl rfl (p_add rfl rfl rfl) (nf rfl) ?_
                refine W.pure rfl (wo rfl) rfl rfl (p_assign rfl rfl) (nf rfl) ?_
                exact W.end' fun a1 w1 ha1 hc1 => hJ a1 w1 (ha1.sub (Sub.cons rfl (Sub.cons rfl (Sub.cons rfl (Sub.cons rfl (Sub.cons rfl (Sub.cons rfl (Sub.cons rfl (Sub.cons rfl (Sub.cons rfl (Sub.cons (by rw [show (decide (k + 1 = s.late.length)) = true from decide_eq_true hlst, tear_3 h2 h3]; rfl) (Sub.nil _)))))))))))) hc1
              · refine C.seq (x := sub [1, 1, 0, 1, 0, 0, 1, 1, 0, 0, 1, 1, 1, 1, 0, 0] B18) (y := sub [1, 1, 0, 1, 0, 0, 1, 1, 0, 0, 1, 1, 1, 1, 0, 1] B18) ?_
                refine C.region (id := 10) (m := 12) (ops := opsOf (sub [1, 1, 0, 1, 0, 0, 1, 1, 0, 0, 1, 1, 1, 1, 0, 0] B18)) rfl ?_
                refine W.pure rfl (wo rfl) rfl rfl (p_move rfl rfl) (nf rfl) ?_
                refine W.pure rfl (wo rfl) rfl rfl (pT (by rw [h2]; rfl) (p_eql rfl rfl rfl)) (nf rfl) ?_
                refine W.pure rfl (wo rfl) rfl rfl (p_move rfl rfl) (nf rfl) ?_
                refine W.pure rfl (wo rfl) rfl rfl (p_move rfl rfl) (nf rfl) ?_
                refine W.pure rfl (wo rfl) rfl rfl (p_move rfl rfl) (nf rfl) ?_
                refine W.pure rfl (wo rfl) rfl rfl (p_nilCheck rfl rfl) (nf rfl) ?_
                refine W.pure rfl (wo rfl) rfl rfl (p_fieldAddr tf61_2 rfl rfl) (nf rfl) ?_
                refine W.quiet rfl (wo rfl) rfl rfl (f_load (j := 1) ta59 rfl (off := 2) rfl rfl rfl) (nf rfl) ?_
                refine W.pure rfl (wo rfl) rfl rfl (p_slLen tu59 ho.hr.sl rfl rfl) (nf rfl) ?_
                refine W.pure rfl (wo rfl) rfl rfl (p_sub rfl rfl rfl) (nf rfl) ?_
                refine W.pure rfl (wo rfl) rfl rfl (pT (by rw [e]; simp; omega) (p_eql rfl rfl rfl)) (nf rfl) ?_
                refine W.pure rfl (wo rfl) rfl rfl (p_pick_true rfl rfl rfl) (nf rfl) ?_
                refine W.doneQ (y := sub [1, 1, 0, 1, 0, 0, 1, 1, 0, 0, 1, 1, 1, 1, 0, 1] B18) rfl ?_
                refine C.cond_true (x := sub [1, 1, 0, 1, 0, 0, 1, 1, 0, 0, 1, 1, 1, 1, 0, 1, 0] B18) (y := sub [1, 1, 0, 1, 0, 0, 1, 1, 0, 0, 1, 1, 1, 1, 0, 1, 1] B18) rfl rfl ?_
                refine C.seq (x := sub [1, 1, 0, 1, 0, 0, 1, 1, 0, 0, 1, 1, 1, 1, 0, 1, 0, 0] B18) (y := sub [1, 1, 0, 1, 0, 0, 1, 1, 0, 0, 1, 1, 1, 1, 0, 1, 0, 1] B18) ?_
                refine C.region (id := 11) (m := 4) (ops := opsOf (sub [1, 1, 0, 1, 0, 0, 1, 1, 0, 0, 1, 1, 1, 1, 0, 1, 0, 0] B18)) rfl ?_
                refine W.pure rfl (wo rfl) rfl rfl (p_move rfl rfl) (nf rfl) ?_
                refine W.quiet rfl (wo rfl) rfl rfl (f_callR rfl rfl (args_val (vs := [.int .i64 (picks.getD k 0), .int .i64 3]) rfl) (en35 _) (fun w2 hc2 => floor_ok w2 (picks.getD k 0))) (nf rfl) ?_
                refine W.pure rfl (wo rfl) rfl rfl (p_rem (by decide) rfl rfl rfl) (nf rfl) ?_
                refine W.pure rfl (wo rfl) rfl rfl (p_assign rfl rfl) (nf rfl) ?_
                refine W.doneQ (y := sub [1, 1, 0, 1, 0, 0, 1, 1, 0, 0, 1, 1, 1, 1, 0, 1, 0, 1] B18) rfl ?_
                refine C.seq (x := sub [1, 1, 0, 1, 0, 0, 1, 1, 0, 0, 1, 1, 1, 1, 0, 1, 0, 1, 0] B18) (y := sub [1, 1, 0, 1, 0, 0, 1, 1, 0, 0, 1, 1, 1, 1, 0, 1, 0, 1, 1] B18) ?_
                refine C.region (id := 12) (m := 2) (ops := opsOf (sub [1, 1, 0, 1, 0, 0, 1, 1, 0, 0, 1, 1, 1, 1, 0, 1, 0, 1, 0] B18)) rfl ?_
                refine W.pure rfl (wo rfl) rfl rfl (p_move rfl rfl) (nf rfl) ?_
                refine W.pure rfl (wo rfl) rfl rfl (pF (decide_eq_false h3) (p_lss rfl rfl rfl)) (nf rfl) ?_
                refine W.doneQ (y := sub [1, 1, 0, 1, 0, 0, 1, 1, 0, 0, 1, 1, 1, 1, 0, 1, 0, 1, 1] B18) rfl ?_
                refine C.cond_false (x := sub [1, 1, 0, 1, 0, 0, 1, 1, 0, 0, 1, 1, 1, 1, 0, 1, 0, 1, 1, 0] B18) (y := sub [1, 1, 0, 1, 0, 0, 1, 1, 0, 0, 1, 1, 1, 1, 0, 1, 0, 1, 1, 1] B18) rfl rfl ?_
                exact C.skipE fun a1 w1 ha1 hc1 => hJ a1 w1 (ha1.sub (Sub.cons rfl (Sub.cons rfl (Sub.cons rfl (Sub.cons rfl (Sub.cons rfl (Sub.cons rfl (Sub.cons rfl (Sub.cons rfl (Sub.cons rfl (Sub.cons (by rw [show (decide (k + 1 = s.late.length)) = true from decide_eq_true hlst, tear_4 h2 h3]; rfl) (Sub.nil _)))))))))))) hc1
            · refine C.seq (x := sub [1, 1, 0, 1, 0, 0, 1, 1, 0, 0, 1, 1, 1, 1, 0, 0] B18) (y := sub [1, 1, 0, 1, 0, 0, 1, 1, 0, 0, 1, 1, 1, 1, 0, 1] B18) ?_
              refine C.region (id := 10) (m := 12) (ops := opsOf (sub [1, 1, 0, 1, 0, 0, 1, 1, 0, 0, 1, 1, 1, 1, 0, 0] B18)) rfl ?_
              refine W.pure rfl (wo rfl) rfl rfl (p_move rfl rfl) (nf rfl) ?_
              refine W.pure rfl (wo rfl) rfl rfl (pT (by rw [h2]; rfl) (p_eql rfl rfl rfl)) (nf rfl) ?_
              refine W.pure rfl (wo rfl) rfl rfl (p_move rfl rfl) (nf rfl) ?_
              refine W.pure rfl (wo rfl) rfl rfl (p_move rfl rfl) (nf rfl) ?_
              refine W.pure rfl (wo rfl) rfl rfl (p_move rfl rfl) (nf rfl) ?_
              refine W.pure rfl (wo rfl) rfl rfl (p_nilCheck rfl rfl) (nf rfl) ?_
              refine W.pure rfl (wo rfl) rfl rfl (p_fieldAddr tf61_2 rfl rfl) (nf rfl) ?_
              refine W.quiet rfl (wo rfl) rfl rfl (f_load (j := 1) ta59 rfl (off := 2) rfl rfl rfl) (nf rfl) ?_
              refine W.pure rfl (wo rfl) rfl rfl (p_slLen tu59 ho.hr.sl rfl rfl) (nf rfl) ?_
              refine W.pure rfl (wo rfl) rfl rfl (p_sub rfl rfl rfl) (nf rfl) ?_
              refine W.pure rfl (wo rfl) rfl rfl (pF (by rw [e]; simp; omega) (p_eql rfl rfl rfl)) (nf rfl) ?_
              refine W.pure rfl (wo rfl) rfl rfl (p_pick_true rfl rfl rfl) (nf rfl) ?_
              refine W.doneQ (y := sub [1, 1, 0, 1, 0, 0, 1, 1, 0, 0, 1, 1, 1, 1, 0, 1] B18) rfl ?_
              refine C.cond_false (x := sub [1, 1, 0, 1, 0, 0, 1, 1, 0, 0, 1, 1, 1, 1, 0, 1, 0] B18) (y := sub [1, 1, 0, 1, 0, 0, 1, 1, 0, 0, 1, 1, 1, 1, 0, 1, 1] B18) rfl rfl ?_
              exact C.skipE fun a1 w1 ha1 hc1 => hJ a1 w1 (ha1.sub (Sub.cons rfl (Sub.cons rfl (Sub.cons rfl (Sub.cons rfl (Sub.cons rfl (Sub.cons rfl (Sub.cons rfl (Sub.cons rfl (Sub.cons rfl (Sub.cons (by rw [show (decide (k + 1 = s.late.length)) = false from decide_eq_false hlst, tear_2]; rfl) (Sub.nil _)))))))))))) hc1
          · refine C.seq (x := sub [1, 1, 0, 1, 0, 0, 1, 1, 0, 0, 1, 1, 1, 1, 0, 0] B18) (y := sub [1, 1, 0, 1, 0, 0, 1, 1, 0, 0, 1, 1, 1, 1, 0, 1] B18) ?_
            refine C.region (id := 10) (m := 12) (ops := opsOf (sub [1, 1, 0, 1, 0, 0, 1, 1, 0, 0, 1, 1, 1, 1, 0, 0] B18)) rfl ?_
            refine W.pure rfl (wo rfl) rfl rfl (p_move rfl rfl) (nf rfl) ?_
            refine W.pure rfl (wo rfl) rfl rfl (pF (by simpa using h2) (p_eql rfl rfl rfl)) (nf rfl) ?_
            refine W.pure rfl (wo rfl) rfl rfl (p_move rfl rfl) (nf rfl) ?_
            refine W.not rfl (wo rfl) rfl rfl ?_
            refine W.not rfl (wo rfl) rfl rfl ?_
            refine W.not rfl (wo rfl) rfl rfl ?_
            refine W.not rfl (wo rfl) rfl rfl ?_
            refine W.not rfl (wo rfl) rfl rfl ?_
            refine W.not rfl (wo rfl) rfl rfl ?_
            refine W.not rfl (wo rfl) rfl rfl ?_
            refine W.not rfl (wo rfl) rfl rfl ?_
            refine W.pure rfl (wo rfl) rfl rfl (p_pick_false rfl rfl rfl) (nf rfl) ?_
            refine W.doneQ (y := sub [1, 1, 0, 1, 0, 0, 1, 1, 0, 0, 1, 1, 1, 1, 0, 1] B18) rfl ?_
            refine C.cond_false (x := sub [1, 1, 0, 1, 0, 0, 1, 1, 0, 0, 1, 1, 1, 1, 0, 1, 0] B18) (y := sub [1, 1, 0, 1, 0, 0, 1, 1, 0, 0, 1, 1, 1, 1, 0, 1, 1] B18) rfl rfl ?_
            exact C.skipE fun a1 w1 ha1 hc1 => hJ a1 w1 (ha1.sub (Sub.cons rfl (Sub.cons rfl (Sub.cons rfl (Sub.cons rfl (Sub.cons rfl (Sub.cons rfl (Sub.cons rfl (Sub.cons rfl (Sub.cons rfl (Sub.cons (by rw [tear_1 h2]; rfl) (Sub.nil _)))))))))))) hc1
        refine C.seq (x := sub [1, 1, 0, 1, 0, 0, 1, 1, 0, 0, 1, 1, 1, 1, 1, 0] B18) (y := sub [1, 1, 0, 1, 0, 0, 1, 1, 0, 0, 1, 1, 1, 1, 1, 1] B18) ?_
        refine C.region (id := 14) (m := 2) (ops := opsOf (sub [1, 1, 0, 1, 0, 0, 1, 1, 0, 0, 1, 1, 1, 1, 1, 0] B18)) rfl ?_
        refine W.pure rfl (wo rfl) rfl rfl (p_move rfl rfl) (nf rfl) ?_
        refine W.pure rfl (wo rfl) rfl rfl (pF (by simpa using hh) (p_neq rfl rfl rfl)) (nf rfl) ?_
        refine W.doneQ (y := sub [1, 1, 0, 1, 0, 0, 1, 1, 0, 0, 1, 1, 1, 1, 1, 1] B18) rfl ?_
        refine C.cond_false (x := sub [1, 1, 0, 1, 0, 0, 1, 1, 0, 0, 1, 1, 1, 1, 1, 1, 0] B18) (y := sub [1, 1, 0, 1, 0, 0, 1, 1, 0, 0, 1, 1, 1, 1, 1, 1, 1] B18) rfl rfl ?_
        refine C.skipQ (y := sub [1, 1, 0, 1, 0, 0, 1, 1, 1] B18) rfl ?_
        refine C.region (id := 18) (m := 2) (ops := opsOf (sub [1, 1, 0, 1, 0, 0, 1, 1, 1] B18)) rfl ?_
        refine W.pure rfl (wo rfl) rfl rfl (pI (wk (by omega)) (p_add rfl rfl rfl)) (nf rfl) ?_
        refine W.pure rfl (wo rfl) rfl rfl (p_move rfl rfl) (nf rfl) ?_
        refine W.end' fun a1 w1 ha1 hc1 => hN (k + 1) (by omega) (by omega) a1 w1 (ha1.sub (Sub.cons rfl (Sub.cons rfl (Sub.cons rfl (Sub.cons rfl (Sub.cons rfl (Sub.nil _))))))) ?_
        rw [crK_skip hy hh]; exact hc1.fewer (List.sublist_cons_self _ _)
      · refine C.seq (x := sub [1, 1, 0, 1, 0, 0, 0] B18) (y := sub [1, 1, 0, 1, 0, 0, 1] B18) ?_
        refine C.region (id := 4) (m := 1) (ops := opsOf (sub [1, 1, 0, 1, 0, 0, 0] B18)) rfl ?_
        refine W.pure rfl (wo rfl) rfl rfl (pT (decide_eq_true (by omega)) (p_lss rfl rfl rfl)) (nf rfl) ?_
        refine W.doneQ (y := sub [1, 1, 0, 1, 0, 0, 1] B18) rfl ?_
        refine C.seq (x := sub [1, 1, 0, 1, 0, 0, 1, 0] B18) (y := sub [1, 1, 0, 1, 0, 0, 1, 1] B18) ?_
        refine C.cond_true (x := sub [1, 1, 0, 1, 0, 0, 1, 0, 0] B18) (y := sub [1, 1, 0, 1, 0, 0, 1, 0, 1] B18) rfl rfl ?_
        refine C.skipQ (y := sub [1, 1, 0, 1, 0, 0, 1, 1] B18) rfl ?_
        refine C.seq (x := sub [1, 1, 0, 1, 0, 0, 1, 1, 0] B18) (y := sub [1, 1, 0, 1, 0, 0, 1, 1, 1] B18) ?_
        refine C.block (id := 1) (c := sub [1, 1, 0, 1, 0, 0, 1, 1, 0, 0] B18) ?_
        refine C.seq (x := sub [1, 1, 0, 1, 0, 0, 1, 1, 0, 0, 0] B18) (y := sub [1, 1, 0, 1, 0, 0, 1, 1, 0, 0, 1] B18) ?_
        refine C.region (id := 5) (m := 6) (ops := opsOf (sub [1, 1, 0, 1, 0, 0, 1, 1, 0, 0, 0] B18)) rfl ?_
        refine W.pure rfl (wo rfl) rfl rfl (p_move rfl rfl) (nf rfl) ?_
        refine W.pure rfl (wo rfl) rfl rfl (p_slIx tu59 ts64 (OwnV.some hcs (Int.natCast_nonneg k) (by exact_mod_cast hlt)) (Int.natCast_nonneg k) (by exact_mod_cast hlt) rfl rfl rfl) (nf rfl) ?_
        refine W.quiet rfl (wo rfl) rfl rfl (f_loadElA (j := 2) rfl hcs (hch k y hy).1 hlt ta64 ts64 rfl rfl) (nf rfl) ?_
        refine W.new rfl (wo rfl) rfl rfl (f_alloc tz64 rfl) (nf rfl) ?_
        intro b6 hb6
        refine W.pure rfl (wo rfl) rfl rfl (p_assign rfl rfl) (nf rfl) ?_
        refine W.put (H' := (some b6, .cells (wrc y) 64 (0, 0)) :: dkH b m v cur { s with set := crK s picks k }) rfl (wo rfl) rfl (f_storeA (j := 0) (c2 := wrc y) ts64 rfl (wrc_size hy2) (wrc_size List.length_replicate) wrc_one rfl rfl rfl) (nf rfl) ?_
        refine W.doneQ (y := sub [1, 1, 0, 1, 0, 0, 1, 1, 0, 0, 1] B18) rfl ?_
        refine C.seq (x := sub [1, 1, 0, 1, 0, 0, 1, 1, 0, 0, 1, 0] B18) (y := sub [1, 1, 0, 1, 0, 0, 1, 1, 0, 0, 1, 1] B18) ?_
        refine C.region (id := 6) (m := 1) (ops := opsOf (sub [1, 1, 0, 1, 0, 0, 1, 1, 0, 0, 1, 0] B18)) rfl ?_
        refine W.pure rfl (wo rfl) rfl rfl (p_assign rfl rfl) (nf rfl) ?_
        refine W.doneQ (y := sub [1, 1, 0, 1, 0, 0, 1, 1, 0, 0, 1, 1] B18) rfl ?_
        refine C.seq (x := sub [1, 1, 0, 1, 0, 0, 1, 1, 0, 0, 1, 1, 0] B18) (y := sub [1, 1, 0, 1, 0, 0, 1, 1, 0, 0, 1, 1, 1] B18) ?_
        refine C.join (y := sub [1, 1, 0, 1, 0, 0, 1, 1, 0, 0, 1, 1, 1] B18) [(0, ptr b 0), (1, pv), (17, v), (18, .int .i64 (s.late.length : Int)), (19, .int .i64 (k : Int)), (5, .int .i64 (k : Int)), (6, ptr b6 0), (7, .int .i64 (picks.getD k 0))] ((some b6, .cells (wrc y) 64 (0, 0)) :: dkH b m v cur { s with set := crK s picks k }) rfl ?_ ?_
        · intro QJ hJ
          by_cases hp : k < picks.length
          · refine C.seq (x := sub [1, 1, 0, 1, 0, 0, 1, 1, 0, 0, 1, 1, 0, 0] B18) (y := sub [1, 1, 0, 1, 0, 0, 1, 1, 0, 0, 1, 1, 0, 1] B18) ?_
            refine C.region (id := 7) (m := 4) (ops := opsOf (sub [1, 1, 0, 1, 0, 0, 1, 1, 0, 0, 1, 1, 0, 0] B18)) rfl ?_
            refine W.pure rfl (wo rfl) rfl rfl (p_move rfl rfl) (nf rfl) ?_
            refine W.pure rfl (wo rfl) rfl rfl (p_move rfl rfl) (nf rfl) ?_
            refine W.pure rfl (wo rfl) rfl rfl (p_slLen tu22 hpk.sl rfl rfl) (nf rfl) ?_
            refine W.pure rfl (wo rfl) rfl rfl (pT (decide_eq_true (by omega)) (p_lss rfl rfl rfl)) (nf rfl) ?_
            refine W.doneQ (y := sub [1, 1, 0, 1, 0, 0, 1, 1, 0, 0, 1, 1, 0, 1] B18) rfl ?_
            refine C.cond_true (x := sub [1, 1, 0, 1, 0, 0, 1, 1, 0, 0, 1, 1, 0, 1, 0] B18) (y := sub [1, 1, 0, 1, 0, 0, 1, 1, 0, 0, 1, 1, 0, 1, 1] B18) rfl rfl ?_
            refine C.region (id := 8) (m := 5) (ops := opsOf (sub [1, 1, 0, 1, 0, 0, 1, 1, 0, 0, 1, 1, 0, 1, 0] B18)) rfl ?_
            refine W.pure rfl (wo rfl) rfl rfl (p_move rfl rfl) (nf rfl) ?_
            refine W.pure rfl (wo rfl) rfl rfl (p_move rfl rfl) (nf rfl) ?_
            refine W.pure rfl (wo rfl) rfl rfl (p_slIx1 tu22 ts3 (RowV.some hpk (Int.natCast_nonneg k) (by omega)) (Int.natCast_nonneg k) (by omega) rfl rfl rfl) (nf rfl) ?_
            refine W.imm rfl (wo rfl) rfl rfl (i_loadEl hpk (encl_get .i64 hp) ta3 rfl rfl) (nf rfl) ?_
            refine W.pure rfl (wo rfl) rfl rfl (p_assign rfl rfl) (nf rfl) ?_
            exact W.end' fun a1 w1 ha1 hc1 => hJ a1 w1 (ha1.sub (Sub.cons rfl (Sub.cons rfl (Sub.cons rfl (Sub.cons rfl (Sub.cons rfl (Sub.cons rfl (Sub.cons rfl (Sub.cons rfl (Sub.nil _)))))))))) hc1
          · refine C.seq (x := sub [1, 1, 0, 1, 0, 0, 1, 1, 0, 0, 1, 1, 0, 0] B18) (y := sub [1, 1, 0, 1, 0, 0, 1, 1, 0, 0, 1, 1, 0, 1] B18) ?_
            refine C.region (id := 7) (m := 4) (ops := opsOf (sub [1, 1, 0, 1, 0, 0, 1, 1, 0, 0, 1, 1, 0, 0] B18)) rfl ?_
            refine W.pure rfl (wo rfl) rfl rfl (p_move rfl rfl) (nf rfl) ?_
            refine W.pure rfl (wo rfl) rfl rfl (p_move rfl rfl) (nf rfl) ?_
            refine W.pure rfl (wo rfl) rfl rfl (p_slLen tu22 hpk.sl rfl rfl) (nf rfl) ?_
            refine W.pure rfl (wo rfl) rfl rfl (pF (decide_eq_false (by omega)) (p_lss rfl rfl rfl)) (nf rfl) ?_
            refine W.doneQ (y := sub [1, 1, 0, 1, 0, 0, 1, 1, 0, 0, 1, 1, 0, 1] B18) rfl ?_
            refine C.cond_false (x := sub [1, 1, 0, 1, 0, 0, 1, 1, 0, 0, 1, 1, 0, 1, 0] B18) (y := sub [1, 1, 0, 1, 0, 0, 1, 1, 0, 0, 1, 1, 0, 1, 1] B18) rfl rfl ?_
            exact C.skipE fun a1 w1 ha1 hc1 => hJ a1 w1 (ha1.sub (Sub.cons rfl (Sub.cons rfl (Sub.cons rfl (Sub.cons rfl (Sub.cons rfl (Sub.cons rfl (Sub.cons rfl (Sub.cons (by rw [show picks.getD k 0 = 0 from getD0 hp]; rfl) (Sub.nil _)))))))))) hc1
        refine C.seq (x := sub [1, 1, 0, 1, 0, 0, 1, 1, 0, 0, 1, 1, 1, 0] B18) (y := sub [1, 1, 0, 1, 0, 0, 1, 1, 0, 0, 1, 1, 1, 1] B18) ?_
        refine C.region (id := 9) (m := 6) (ops := opsOf (sub [1, 1, 0, 1, 0, 0, 1, 1, 0, 0, 1, 1, 1, 0] B18)) rfl ?_
        refine W.pure rfl (wo rfl) rfl rfl (p_move rfl rfl) (nf rfl) ?_
        refine W.pure rfl (wo rfl) rfl rfl (p_rem (by decide) rfl rfl rfl) (nf rfl) ?_
        refine W.pure rfl (wo rfl) rfl rfl (p_add rfl rfl rfl) (nf rfl) ?_
        refine W.pure rfl (wo rfl) rfl rfl (pI (howK_eq _) (p_rem (by decide) rfl rfl rfl)) (nf rfl) ?_
        refine W.pure rfl (wo rfl) rfl rfl (p_assign rfl rfl) (nf rfl) ?_
        refine W.pure rfl (wo rfl) rfl rfl (p_assign rfl rfl) (nf rfl) ?_
        refine W.doneQ (y := sub [1, 1, 0, 1, 0, 0, 1, 1, 0, 0, 1, 1, 1, 1] B18) rfl ?_
        refine C.seq (x := sub [1, 1, 0, 1, 0, 0, 1, 1, 0, 0, 1, 1, 1, 1, 0] B18) (y := sub [1, 1, 0, 1, 0, 0, 1, 1, 0, 0, 1, 1, 1, 1, 1] B18) ?_
        refine C.join (y := sub [1, 1, 0, 1, 0, 0, 1, 1, 0, 0, 1, 1, 1, 1, 1] B18) [(0, ptr b 0), (1, pv), (17, v), (18, .int .i64 (s.late.length : Int)), (19, .int .i64 (k : Int)), (5, .int .i64 (k : Int)), (6, ptr b6 0), (7, .int .i64 (picks.getD k 0)), (8, .int .i64 (howK (picks.getD k 0))), (9, .int .i64 (tearK (picks.getD k 0) (decide (k + 1 = s.late.length))))] ((some b6, .cells (wrc y) 64 (0, 0)) :: dkH b m v cur { s with set := crK s picks k }) rfl ?_ ?_
        · intro QJ hJ
          have e : IntKind.i64.wrap ((s.late.length : Int) - 1) = (s.late.length : Int) - 1 := w64 (by omega) (by omega)
          by_cases h2 : howK (picks.getD k 0) = 2
          · by_cases hlst : k + 1 = s.late.length
            · by_cases h3 : (floorK (picks.getD k 0)).tmod 513 < 0
              · refine C.seq (x := sub [1, 1, 0, 1, 0, 0, 1, 1, 0, 0, 1, 1, 1, 1, 0, 0] B18) (y := sub [1, 1, 0, 1, 0, 0, 1, 1, 0, 0, 1, 1, 1, 1, 0, 1] B18) ?_
                refine C.region (id := 10) (m := 12) (ops := opsOf (sub [1, 1, 0, 1, 0, 0, 1, 1, 0, 0, 1, 1, 1, 1, 0, 0] B18)) rfl ?_
                refine W.pure rfl (wo rfl) rfl rfl (p_move rfl rfl) (nf rfl) ?_
                refine W.pure rfl (wo rfl) rfl rfl (pT (by rw [h2]; rfl) (p_eql rfl rfl rfl)) (nf rfl) ?_
                refine W.pure rfl (wo rfl) rfl rfl (p_move rfl rfl) (nf rfl) ?_
                refine W.pure rfl (wo rfl) rfl rfl (p_move rfl rfl) (nf rfl) ?_
                refine W.pure rfl (wo rfl) rfl rfl (p_move rfl rfl) (nf rfl) ?_
                refine W.pure rfl (wo rfl) rfl rfl (p_nilCheck rfl rfl) (nf rfl) ?_
                refine W.pure rfl (wo rfl) rfl rfl (p_fieldAddr tf61_2 rfl rfl) (nf rfl) ?_
                refine W.quiet rfl (wo rfl) rfl rfl (f_load (j := 1) ta59 rfl (off := 2) rfl rfl rfl) (nf rfl) ?_
                refine W.pure rfl (wo rfl) rfl rfl (p_slLen tu59 ho.hr.sl rfl rfl) (nf rfl) ?_
                refine W.pure rfl (wo rfl) rfl rfl (p_sub rfl rfl rfl) (nf rfl) ?_
                refine W.pure rfl (wo rfl) rfl rfl (pT (by rw [e]; simp; omega) (p_eql rfl rfl rfl)) (nf rfl) ?_
                refine W.pure rfl (wo rfl) rfl rfl (p_pick_true rfl rfl rfl) (nf rfl) ?_
                refine W.doneQ (y := sub [1, 1, 0, 1, 0, 0, 1, 1, 0, 0, 1, 1, 1, 1, 0, 1] B18) rfl ?_
                refine C.cond_true (x := sub [1, 1, 0, 1, 0, 0, 1, 1, 0, 0, 1, 1, 1, 1, 0, 1, 0] B18) (y := sub [1, 1, 0, 1, 0, 0, 1, 1, 0, 0, 1, 1, 1, 1, 0, 1, 1] B18) rfl rfl ?_
                refine C.seq (x := sub [1, 1, 0, 1, 0, 0, 1, 1, 0, 0, 1, 1, 1, 1, 0, 1, 0, 0] B18) (y := sub [1, 1, 0, 1, 0, 0, 1, 1, 0, 0, 1, 1, 1, 1, 0, 1, 0, 1] B18) ?_
                refine C.region (id := 11) (m := 4) (ops := opsOf (sub [1, 1, 0, 1, 0, 0, 1, 1, 0, 0, 1, 1, 1, 1, 0, 1, 0, 0] B18)) rfl ?_
                refine W.pure rfl (wo rfl) rfl rfl (p_move rfl rfl) (nf rfl) ?_
                refine W.quiet rfl (wo rfl) rfl rfl (f_callR rfl rfl (args_val (vs := [.int .i64 (picks.getD k 0), .int .i64 3]) rfl) (en35 _) (fun w2 hc2 => floor_ok w2 (picks.getD k 0))) (nf rfl) ?_
                refine W.pure rfl (wo rfl) rfl rfl (p_rem (by decide) rfl rfl rfl) (nf rfl) ?_
                refine W.pure rfl (wo rfl) rfl rfl (p_assign rfl rfl) (nf rfl) ?_
                refine W.doneQ (y := sub [1, 1, 0, 1, 0, 0, 1, 1, 0, 0, 1, 1, 1, 1, 0, 1, 0, 1] B18) rfl ?_
                refine C.seq (x := sub [1, 1, 0, 1, 0, 0, 1, 1, 0, 0, 1, 1, 1, 1, 0, 1, 0, 1, 0] B18) (y := sub [1, 1, 0, 1, 0, 0, 1, 1, 0, 0, 1, 1, 1, 1, 0, 1, 0, 1, 1] B18) ?_
                refine C.region (id := 12) (m := 2) (ops := opsOf (sub [1, 1, 0, 1, 0, 0, 1, 1, 0, 0, 1, 1, 1, 1, 0, 1, 0, 1, 0] B18)) rfl ?_
                refine W.pure rfl (wo rfl) rfl rfl (p_move rfl rfl) (nf rfl) ?_
                refine W.pure rfl (wo rfl) rfl rfl (pT (decide_eq_true h3) (p_lss rfl rfl rfl)) (nf rfl) ?_
                refine W.doneQ (y := sub [1, 1, 0, 1, 0, 0, 1, 1, 0, 0, 1, 1, 1, 1, 0, 1, 0, 1, 1] B18) rfl ?_
                refine C.cond_true (x := sub [1, 1, 0, 1, 0, 0, 1, 1, 0, 0, 1, 1, 1, 1, 0, 1, 0, 1, 1, 0] B18) (y := sub [1, 1, 0, 1, 0, 0, 1, 1, 0, 0, 1, 1, 1, 1, 0, 1, 0, 1, 1, 1] B18) rfl rfl ?_
                refine C.region (id := 13) (m := 3) (ops := opsOf (sub [1, 1, 0, 1, 0, 0, 1, 1, 0, 0, 1, 1, 1, 1, 0, 1, 0, 1, 1, 0] B18)) rfl ?_
                refine W.pure rfl (wo rfl) rfl rfl (p_move rfl rfl) (nf rfl) ?_
                refine W.pure rfl (wo rfl) rfl rfl (p_add rfl rfl rfl) (nf rfl) ?_
                refine W.pure rfl (wo rfl) rfl rfl (p_assign rfl rfl) (nf rfl) ?_
                exact W.end' fun a1 w1 ha1 hc1 => hJ a1 w1 (ha1.sub (Sub.cons rfl (Sub.cons rfl (Sub.cons rfl (Sub.cons rfl (Sub.cons rfl (Sub.cons rfl (Sub.cons rfl (Sub.cons rfl (Sub.cons rfl (Sub.cons (by rw [show (decide (k + 1 = s.late.length)) = true from decide_eq_true hlst, tear_3 h2 h3]; rfl) (Sub.nil _)))))))))))) hc1
              · refine C.seq (x := sub [1, 1, 0, 1, 0, 0, 1, 1, 0, 0, 1, 1, 1, 1, 0, 0] B18) (y := sub [1, 1, 0, 1, 0, 0, 1, 1, 0, 0, 1, 1, 1, 1, 0, 1] B18) ?_
                refine C.region (id := 10) (m := 12) (ops := opsOf (sub [1, 1, 0, 1, 0, 0, 1, 1, 0, 0, 1, 1, 1, 1, 0, 0] B18)) rfl ?_
                refine W.pure rfl (wo rfl) rfl rfl (p_move rfl rfl) (nf rfl) ?_
                refine W.pure rfl (wo rfl) rfl rfl (pT (by rw [h2]; rfl) (p_eql rfl rfl rfl)) (nf rfl) ?_
                refine W.pure rfl (wo rfl) rfl rfl (p_move rfl rfl) (nf rfl) ?_
                refine W.pure rfl (wo rfl) rfl rfl (p_move rfl rfl) (nf rfl) ?_
                refine W.pure rfl (wo rfl) rfl rfl (p_move rfl rfl) (nf rfl) ?_
                refine W.pure rfl (wo rfl) rfl rfl (p_nilCheck rfl rfl) (nf rfl) ?_
                refine W.pure rfl (wo rfl) rfl rfl (p_fieldAddr tf61_2 rfl rfl) (nf rfl) ?_
                refine W.quiet rfl (wo rfl) rfl rfl (f_load (j := 1) ta59 rfl (off := 2) rfl rfl rfl) (nf rfl) ?_
                refine W.pure rfl (wo rfl) rfl rfl (p_slLen tu59 ho.hr.sl rfl rfl) (nf rfl) ?_
                refine W.pure rfl (wo rfl) rfl rfl (p_sub rfl rfl rfl) (nf rfl) ?_
                refine W.pure rfl (wo rfl) rfl rfl (pT (by rw [e]; simp; omega) (p_eql rfl rfl rfl)) (nf rfl) ?_
                refine W.pure rfl (wo rfl) rfl rfl (p_pick_true rfl rfl rfl) (nf rfl) ?_
                refine W.doneQ (y := sub [1, 1, 0, 1, 0, 0, 1, 1, 0, 0, 1, 1, 1, 1, 0, 1] B18) rfl ?_
                refine C.cond_true (x := sub [1, 1, 0, 1, 0, 0, 1, 1, 0, 0, 1, 1, 1, 1, 0, 1, 0] B18) (y := sub [1, 1, 0, 1, 0, 0, 1, 1, 0, 0, 1, 1, 1, 1, 0, 1, 1] B18) rfl rfl ?_
                refine C.seq (x := sub [1, 1, 0, 1, 0, 0, 1, 1, 0, 0, 1, 1, 1, 1, 0, 1, 0, 0] B18) (y := sub [1, 1, 0, 1, 0, 0, 1, 1, 0, 0, 1, 1, 1, 1, 0, 1, 0, 1] B18) ?_
                refine C.region (id := 11) (m := 4) (ops := opsOf (sub [1, 1, 0, 1, 0, 0, 1, 1, 0, 0, 1, 1, 1, 1, 0, 1, 0, 0] B18)) rfl ?_
                refine W.pure rfl (wo rfl) rfl rfl (p_move rfl rfl) (nf rfl) ?_
                refine W.quiet rfl (wo rfl) rfl rfl (f_callR rfl rfl (args_val (vs := [.int .i64 (picks.getD k 0), .int .i64 3]) rfl) (en35 _) (fun w2 hc2 => floor_ok w2 (picks.getD k 0))) (nf rfl) ?_
                refine W.pure rfl (wo rfl) rfl rfl (p_rem (by decide) rfl rfl rfl) (nf rfl) ?_
                refine W.pure rfl (wo rfl) rfl rfl (p_assign rfl rfl) (nf rfl) ?_
                refine W.doneQ (y := sub [1, 1, 0, 1, 0, 0, 1, 1, 0, 0, 1, 1, 1, 1, 0, 1, 0, 1] B18) rfl ?_
                refine C.seq (x := sub [1, 1, 0, 1, 0, 0, 1, 1, 0, 0, 1, 1, 1, 1, 0, 1, 0, 1, 0] B18) (y := sub [1, 1, 0, 1, 0, 0, 1, 1, 0, 0, 1, 1, 1, 1, 0, 1, 0, 1, 1] B18) ?_
                refine C.region (id := 12) (m := 2) (ops := opsOf (sub [1, 1, 0, 1, 0, 0, 1, 1, 0, 0, 1, 1, 1, 1, 0, 1, 0, 1, 0] B18)) rfl ?_
                refine W.pure rfl (wo rfl) rfl rfl (p_move rfl rfl) (nf rfl) ?_
                refine W.pure rfl (wo rfl) rfl rfl (pF (decide_eq_false h3) (p_lss rfl rfl rfl)) (nf rfl) ?_
                refine W.doneQ (y := sub [1, 1, 0, 1, 0, 0, 1, 1, 0, 0, 1, 1, 1, 1, 0, 1, 0, 1, 1] B18) rfl ?_
                refine C.cond_false (x := sub [1, 1, 0, 1, 0, 0, 1, 1, 0, 0, 1, 1, 1, 1, 0, 1, 0, 1, 1, 0] B18) (y := sub [1, 1, 0, 1, 0, 0, 1, 1, 0, 0, 1, 1, 1, 1, 0, 1, 0, 1, 1, 1] B18) rfl rfl ?_
                exact C.skipE fun a1 w1 ha1 hc1 => hJ a1 w1 (ha1.sub (Sub.cons rfl (Sub.cons rfl (Sub.cons rfl (Sub.cons rfl (Sub.cons rfl (Sub.cons rfl (Sub.cons rfl (Sub.cons rfl (Sub.cons rfl (Sub.cons (by rw [show (decide (k + 1 = s.late.length)) = true from decide_eq_true hlst, tear_4 h2 h3]; rfl) (Sub.nil _)))))))))))) hc1
            · refine C.seq (x := sub [1, 1, 0, 1, 0, 0, 1, 1, 0, 0, 1, 1, 1, 1, 0, 0] B18) (y := sub [1, 1, 0, 1, 0, 0, 1, 1, 0, 0, 1, 1, 1, 1, 0, 1] B18) ?_
              refine C.region (id := 10) (m := 12) (ops := opsOf (sub [1, 1, 0, 1, 0, 0, 1, 1, 0, 0, 1, 1, 1, 1, 0, 0] B18)) rfl ?_
              refine W.pure rfl (wo rfl) rfl rfl (p_move rfl rfl) (nf rfl) ?_
              refine W.pure rfl (wo rfl) rfl rfl (pT (by rw [h2]; rfl) (p_eql rfl rfl rfl)) (nf rfl) ?_
              refine W.pure rfl (wo rfl) rfl rfl (p_move rfl rfl) (nf rfl) ?_
              refine W.pure rfl (wo rfl) rfl rfl (p_move rfl rfl) (nf rfl) ?_
              refine W.pure rfl (wo rfl) rfl rfl (p_move rfl rfl) (nf rfl) ?_
              refine W.pure rfl (wo rfl) rfl rfl (p_nilCheck rfl rfl) (nf rfl) ?_
              refine W.pure rfl (wo rfl) rfl rfl (p_fieldAddr tf61_2 rfl rfl) (nf rfl) ?_
              refine W.quiet rfl (wo rfl) rfl rfl (f_load (j := 1) ta59 rfl (off := 2) rfl rfl rfl) (nf rfl) ?_
              refine W.pure rfl (wo rfl) rfl rfl (p_slLen tu59 ho.hr.sl rfl rfl) (nf rfl) ?_
              refine W.pure rfl (wo rfl) rfl rfl (p_sub rfl rfl rfl) (nf rfl) ?_
              refine W.pure rfl (wo rfl) rfl rfl (pF (by rw [e]; simp; omega) (p_eql rfl rfl rfl)) (nf rfl) ?_
              refine W.pure rfl (wo rfl) rfl rfl (p_pick_true rfl rfl rfl) (nf rfl) ?_
              refine W.doneQ (y := sub [1, 1, 0, 1, 0, 0, 1, 1, 0, 0, 1, 1, 1, 1, 0, 1] B18) rfl ?_
              refine C.cond_false (x := sub [1, 1, 0, 1, 0, 0, 1, 1, 0, 0, 1, 1, 1, 1, 0, 1, 0] B18) (y := sub [1, 1, 0, 1, 0, 0, 1, 1, 0, 0, 1, 1, 1, 1, 0, 1, 1] B18) rfl rfl ?_
              exact C.skipE fun a1 w1 ha1 hc1 => hJ a1 w1 (ha1.sub (Sub.cons rfl (Sub.cons rfl (Sub.cons rfl (Sub.cons rfl (Sub.cons rfl (Sub.cons rfl (Sub.cons rfl (Sub.cons rfl (Sub.cons rfl (Sub.cons (by rw [show (decide (k + 1 = s.late.length)) = false from decide_eq_false hlst, tear_2]; rfl) (Sub.nil _)))))))))))) hc1
          · refine C.seq (x := sub [1, 1, 0, 1, 0, 0, 1, 1, 0, 0, 1, 1, 1, 1, 0, 0] B18) (y := sub [1, 1, 0, 1, 0, 0, 1, 1, 0, 0, 1, 1, 1, 1, 0, 1] B18) ?_
            refine C.region (id := 10) (m := 12) (ops := opsOf (sub [1, 1, 0, 1, 0, 0, 1, 1, 0, 0, 1, 1, 1, 1, 0, 0] B18)) rfl ?_
            refine W.pure rfl (wo rfl) rfl rfl (p_move rfl rfl) (nf rfl) ?_
            refine W.pure rfl (wo rfl) rfl rfl (pF (by simpa using h2) (p_eql rfl rfl rfl)) (nf rfl) ?_
            refine W.pure rfl (wo rfl) rfl rfl (p_move rfl rfl) (nf rfl) ?_
            refine W.not rfl (wo rfl) rfl rfl ?_
            refine W.not rfl (wo rfl) rfl rfl ?_
            refine W.not rfl (wo rfl) rfl rfl ?_
            refine W.not rfl (wo rfl) rfl rfl ?_
            refine W.not rfl (wo rfl) rfl rfl ?_
            refine W.not rfl (wo rfl) rfl rfl ?_
            refine W.not rfl (wo rfl) rfl rfl ?_
            refine W.not rfl (wo rfl) rfl rfl ?_
            refine W.pure rfl (wo rfl) rfl rfl (p_pick_false rfl rfl rfl) (nf rfl) ?_
            refine W.doneQ (y := sub [1, 1, 0, 1, 0, 0, 1, 1, 0, 0, 1, 1, 1, 1, 0, 1] B18) rfl ?_
            refine C.cond_false (x := sub [1, 1, 0, 1, 0, 0, 1, 1, 0, 0, 1, 1, 1, 1, 0, 1, 0] B18) (y := sub [1, 1, 0, 1, 0, 0, 1, 1, 0, 0, 1, 1, 1, 1, 0, 1, 1] B18) rfl rfl ?_
            exact C.skipE fun a1 w1 ha1 hc1 => hJ a1 w1 (ha1.sub (Sub.cons rfl (Sub.cons rfl (Sub.cons rfl (Sub.cons rfl (Sub.cons rfl (Sub.cons rfl (Sub.cons rfl (Sub.cons rfl (Sub.cons rfl (Sub.cons (by rw [tear_1 h2]; rfl) (Sub.nil _)))))))))))) hc1
        refine C.seq (x := sub [1, 1, 0, 1, 0, 0, 1, 1, 0, 0, 1, 1, 1, 1, 1, 0] B18) (y := sub [1, 1, 0, 1, 0, 0, 1, 1, 0, 0, 1, 1, 1, 1, 1, 1] B18) ?_
        refine C.region (id := 14) (m := 2) (ops := opsOf (sub [1, 1, 0, 1, 0, 0, 1, 1, 0, 0, 1, 1, 1, 1, 1, 0] B18)) rfl ?_
        refine W.pure rfl (wo rfl) rfl rfl (p_move rfl rfl) (nf rfl) ?_
        refine W.pure rfl (wo rfl) rfl rfl (pT (by simpa using hh) (p_neq rfl rfl rfl)) (nf rfl) ?_
        refine W.doneQ (y := sub [1, 1, 0, 1, 0, 0, 1, 1, 0, 0, 1, 1, 1, 1, 1, 1] B18) rfl ?_
        refine C.cond_true (x := sub [1, 1, 0, 1, 0, 0, 1, 1, 0, 0, 1, 1, 1, 1, 1, 1, 0] B18) (y := sub [1, 1, 0, 1, 0, 0, 1, 1, 0, 0, 1, 1, 1, 1, 1, 1, 1] B18) rfl rfl ?_
        refine C.seq (x := sub [1, 1, 0, 1, 0, 0, 1, 1, 0, 0, 1, 1, 1, 1, 1, 1, 0, 0] B18) (y := sub [1, 1, 0, 1, 0, 0, 1, 1, 0, 0, 1, 1, 1, 1, 1, 1, 0, 1] B18) ?_
        refine C.regionD (id := 15) (ops := opsOf (sub [1, 1, 0, 1, 0, 0, 1, 1, 0, 0, 1, 1, 1, 1, 1, 1, 0, 0] B18)) [0, 1, 2, 3, 4, 5, 6, 7, 8] [0, 1, 3, 7, 0, 16, 63, 0, 255] [(.pure, none), (.pure, none), (.pure, none), (.quiet, none), (.pure, none), (.quiet, none), (.quiet, none), (.alloc, none), (.store, none)] (by kernel_rfl) ?_
        intro wD15 hl15
        refine DW.pure rfl rfl rfl rfl rfl (p_move rfl rfl) ?_
        refine DW.pure rfl rfl rfl rfl rfl (p_nilCheck rfl rfl) ?_
        refine DW.pure rfl rfl rfl rfl rfl (p_fieldAddr tf61_1 rfl rfl) ?_
        refine DW.quiet rfl rfl rfl rfl rfl (f_load (j := 1) ta58 rfl (off := 1) rfl rfl rfl) ?_
        refine DW.pure rfl rfl rfl rfl rfl (p_fieldAddr tf64_0 rfl rfl) ?_
        refine DW.quiet rfl rfl rfl rfl rfl (f_load (j := 0) ta3 rfl (off := 0) (wrc_0 y) rfl rfl) ?_
        refine DW.quiet rfl rfl rfl rfl rfl (f_mget (j := 2) tu58 tu3 tz62 rfl rfl rfl rfl) ?_
        refine DW.new rfl rfl rfl rfl rfl (f_alloc tz62 rfl) ?_
        intro b10 hb10
        refine DW.put (H' := (some b10, .cells (enc .u8 (mget (crK s picks k) y.1)) 62 (0, 0)) :: (some b6, .cells (wrc y) 64 (0, 0)) :: dkH b m v cur { s with set := crK s picks k }) rfl rfl rfl rfl rfl (f_storeA (j := 0) (c2 := enc .u8 (mget (crK s picks k) y.1)) ts62 rfl (by rw [enc_size]; exact hml) (by rw [show (Blk zeros).cells = enc .u8 zeros from rfl, enc_size]; exact List.length_replicate) (enc_oneCell _ _) rfl rfl rfl) ?_
        refine DW.doneQ (y := sub [1, 1, 0, 1, 0, 0, 1, 1, 0, 0, 1, 1, 1, 1, 1, 1, 0, 1] B18) hl15 rfl ?_
        refine C.seq (x := sub [1, 1, 0, 1, 0, 0, 1, 1, 0, 0, 1, 1, 1, 1, 1, 1, 0, 1, 0] B18) (y := sub [1, 1, 0, 1, 0, 0, 1, 1, 0, 0, 1, 1, 1, 1, 1, 1, 0, 1, 1] B18) ?_
        refine C.regionD (id := 16) (ops := opsOf (sub [1, 1, 0, 1, 0, 0, 1, 1, 0, 0, 1, 1, 1, 1, 1, 1, 0, 1, 0] B18)) [0, 1, 2, 3, 4, 5] [0, 1, 0, 0, 12, 31] [(.pure, none), (.pure, none), (.pure, none), (.pure, none), (.pure, none), (.actx, none)] (by kernel_rfl) ?_
        intro wD16 hl16
        refine DW.pure rfl rfl rfl rfl rfl (p_move rfl rfl) ?_
        refine DW.pure rfl rfl rfl rfl rfl (p_slAH tu62 ts5 hte.1 hte.2 (by decide) rfl rfl rfl) ?_
        refine DW.pure rfl rfl rfl rfl rfl (p_fieldAddr tf64_1 rfl rfl) ?_
        refine DW.pure rfl rfl rfl rfl rfl (p_move rfl rfl) ?_
        refine DW.pure rfl rfl rfl rfl rfl (p_slAH tu62 ts5 hte.1 hte.2 (by decide) rfl rfl rfl) ?_
        refine DW.actx rfl rfl rfl rfl rfl (f_copyPart (i := 0) (j := 1) (n := (tearK (picks.getD k 0) (decide (k + 1 = s.late.length))).toNat) (xs := mget (crK s picks k) y.1) (u := y) (by omega) hml hy2 rfl rfl rfl rfl rfl) ?_
        intro _
        show DD _ _ _ _ _ _ _ _ _ ((some b10, .cells (enc .u8 (y.2.take (tearK (picks.getD k 0) (decide (k + 1 = s.late.length))).toNat ++ (mget (crK s picks k) y.1).drop (tearK (picks.getD k 0) (decide (k + 1 = s.late.length))).toNat)) 62 (0, 0)) :: (some b6, .cells (wrc y) 64 (0, 0)) :: dkH b m v cur { s with set := crK s picks k })
        refine DW.doneQ (y := sub [1, 1, 0, 1, 0, 0, 1, 1, 0, 0, 1, 1, 1, 1, 1, 1, 0, 1, 1] B18) hl16 rfl ?_
        refine C.regionD (id := 17) (ops := opsOf (sub [1, 1, 0, 1, 0, 0, 1, 1, 0, 0, 1, 1, 1, 1, 1, 1, 0, 1, 1] B18)) [0, 1, 2, 3, 4, 5, 6, 7] [0, 1, 3, 7, 0, 16, 0, 127] [(.pure, none), (.pure, none), (.pure, none), (.quiet, none), (.pure, none), (.quiet, none), (.quiet, none), (.store, none)] (by kernel_rfl) ?_
        intro wD17 hl17
        refine DW.pure rfl rfl rfl rfl rfl (p_move rfl rfl) ?_
        refine DW.pure rfl rfl rfl rfl rfl (p_nilCheck rfl rfl) ?_
        refine DW.pure rfl rfl rfl rfl rfl (p_fieldAddr tf61_1 rfl rfl) ?_
        refine DW.quiet rfl rfl rfl rfl rfl (f_load (j := 2) ta58 rfl (off := 1) rfl rfl rfl) ?_
        refine DW.pure rfl rfl rfl rfl rfl (p_fieldAddr tf64_0 rfl rfl) ?_
        refine DW.quiet rfl rfl rfl rfl rfl (f_load (j := 1) ta3 rfl (off := 0) (wrc_0 y) rfl rfl) ?_
        refine DW.quiet rfl rfl rfl rfl rfl (f_loadA (j := 0) ta62 ts62 rfl (by rw [enc_size]; exact hnb) rfl rfl) ?_
        refine DW.put (H' := (some b10, .cells (enc .u8 (y.2.take (tearK (picks.getD k 0) (decide (k + 1 = s.late.length))).toNat ++ (mget (crK s picks k) y.1).drop (tearK (picks.getD k 0) (decide (k + 1 = s.late.length))).toNat)) 62 (0, 0)) :: (some b6, .cells (wrc y) 64 (0, 0)) :: dkH b m v cur { s with set := mput (crK s picks k) y.1 (y.2.take (tearK (picks.getD k 0) (decide (k + 1 = s.late.length))).toNat ++ (mget (crK s picks k) y.1).drop (tearK (picks.getD k 0) (decide (k + 1 = s.late.length))).toNat) }) rfl rfl rfl rfl rfl (f_mput (j := 3) tu58 tu3 rfl rfl rfl rfl rfl) ?_
        refine DW.doneQ (y := sub [1, 1, 0, 1, 0, 0, 1, 1, 1] B18) hl17 rfl ?_
        refine C.region (id := 18) (m := 2) (ops := opsOf (sub [1, 1, 0, 1, 0, 0, 1, 1, 1] B18)) rfl ?_
        refine W.pure rfl (wo rfl) rfl rfl (pI (wk (by omega)) (p_add rfl rfl rfl)) (nf rfl) ?_
        refine W.pure rfl (wo rfl) rfl rfl (p_move rfl rfl) (nf rfl) ?_
        refine W.end' fun a1 w1 ha1 hc1 => hN (k + 1) (by omega) (by omega) a1 w1 (ha1.sub (Sub.cons rfl (Sub.cons rfl (Sub.cons rfl (Sub.cons rfl (Sub.cons rfl (Sub.nil _))))))) ?_
        rw [crK_put hy hh]; exact (hc1.fewer (List.sublist_cons_self _ _)).fewer (List.sublist_cons_self _ _)
    · refine C.seq (x := sub [1, 1, 0, 1, 0, 0, 0] B18) (y := sub [1, 1, 0, 1, 0, 0, 1] B18) ?_
      refine C.region (id := 4) (m := 1) (ops := opsOf (sub [1, 1, 0, 1, 0, 0, 0] B18)) rfl ?_
      refine W.pure rfl (wo rfl) rfl rfl (pF (decide_eq_false (by omega)) (p_lss rfl rfl rfl)) (nf rfl) ?_
      refine W.doneQ (y := sub [1, 1, 0, 1, 0, 0, 1] B18) rfl ?_
      refine C.seq (x := sub [1, 1, 0, 1, 0, 0, 1, 0] B18) (y := sub [1, 1, 0, 1, 0, 0, 1, 1] B18) ?_
      refine C.cond_false (x := sub [1, 1, 0, 1, 0, 0, 1, 0, 0] B18) (y := sub [1, 1, 0, 1, 0, 0, 1, 0, 1] B18) rfl rfl ?_
      exact C.exit fun a1 w1 ha1 hc1 => hE (by omega) a1 w1 (ha1.sub (Sub.cons rfl (Sub.cons rfl (Sub.cons rfl (Sub.cons rfl (Sub.cons rfl (Sub.nil _))))))) hc1
  intro k hk hke
  subst hke
  refine C.seq (x := sub [1, 1, 1, 0] B18) (y := sub [1, 1, 1, 1] B18) ?_
  refine C.region (id := 19) (m := 16) (ops := opsOf (sub [1, 1, 1, 0] B18)) rfl ?_
  refine W.pure rfl (wo rfl) rfl rfl (p_move rfl rfl) (nf rfl) ?_
  refine W.pure rfl (wo rfl) rfl rfl (p_move rfl rfl) (nf rfl) ?_
  refine W.pure rfl (wo rfl) rfl rfl (p_move rfl rfl) (nf rfl) ?_
  refine W.pure rfl (wo rfl) rfl rfl (p_move rfl rfl) (nf rfl) ?_
  refine W.pure rfl (wo rfl) rfl rfl (p_nilCheck rfl rfl) (nf rfl) ?_
  refine W.pure rfl (wo rfl) rfl rfl (p_fieldAddr tf61_2 rfl rfl) (nf rfl) ?_
  refine W.put (H' := [dk1 b m (.slice none 0 0) { s with set := crK s picks s.late.length, late := [] }, (some m, dmap (crK s picks s.late.length)), (v.ownBlock, .cells cur 64 (0, 0))]) rfl (wo rfl) rfl (f_stDkL (s := { s with set := crK s picks s.late.length }) (s2 := { s with set := crK s picks s.late.length, late := [] }) (j := 0) ts59 rfl trivial rfl rfl rfl rfl) (nf rfl) ?_
  refine W.pure rfl (wo rfl) rfl rfl (p_nilCheck rfl rfl) (nf rfl) ?_
  refine W.pure rfl (wo rfl) rfl rfl (p_fieldAddr tf61_4 rfl rfl) (nf rfl) ?_
  refine W.put (H' := [dk1 b m (.slice none 0 0) { s with set := crK s picks s.late.length, late := [], armed := false }, (some m, dmap (crK s picks s.late.length)), (v.ownBlock, .cells cur 64 (0, 0))]) rfl (wo rfl) rfl (f_stDk (s := { s with set := crK s picks s.late.length, late := [] }) (s2 := { s with set := crK s picks s.late.length, late := [], armed := false }) (k := 4) (u := .bool false) (j := 0) ts4 rfl trivial rfl (by decide) rfl rfl rfl) (nf rfl) ?_
  refine W.pure rfl (wo rfl) rfl rfl (p_nilCheck rfl rfl) (nf rfl) ?_
  refine W.pure rfl (wo rfl) rfl rfl (p_fieldAddr tf61_5 rfl rfl) (nf rfl) ?_
  refine W.put (H' := [dk1 b m (.slice none 0 0) { s with set := crK s picks s.late.length, late := [], armed := false, dead := false }, (some m, dmap (crK s picks s.late.length)), (v.ownBlock, .cells cur 64 (0, 0))]) rfl (wo rfl) rfl (f_stDk (s := { s with set := crK s picks s.late.length, late := [], armed := false }) (s2 := { s with set := crK s picks s.late.length, late := [], armed := false, dead := false }) (k := 5) (u := .bool false) (j := 0) ts4 rfl trivial rfl (by decide) rfl rfl rfl) (nf rfl) ?_
  refine W.pure rfl (wo rfl) rfl rfl (p_nilCheck rfl rfl) (nf rfl) ?_
  refine W.pure rfl (wo rfl) rfl rfl (p_fieldAddr tf61_3 rfl rfl) (nf rfl) ?_
  refine W.put (H' := [dk1 b m (.slice none 0 0) { s with set := crK s picks s.late.length, late := [], armed := false, dead := false, fuse := 0 }, (some m, dmap (crK s picks s.late.length)), (v.ownBlock, .cells cur 64 (0, 0))]) rfl (wo rfl) rfl (f_stDk (s := { s with set := crK s picks s.late.length, late := [], armed := false, dead := false }) (s2 := { s with set := crK s picks s.late.length, late := [], armed := false, dead := false, fuse := 0 }) (k := 3) (u := .int .i64 0) (j := 0) ts3 rfl trivial rfl (by decide) rfl rfl rfl) (nf rfl) ?_
  refine W.doneQ (y := sub [1, 1, 1, 1] B18) rfl ?_
  refine C.seq (x := sub [1, 1, 1, 1, 0] B18) (y := sub [1, 1, 1, 1, 1] B18) ?_
  refine C.region (id := 20) (m := 1) (ops := opsOf (sub [1, 1, 1, 1, 0] B18)) rfl ?_
  refine W.pure rfl (wo rfl) rfl rfl (p_assign rfl rfl) (nf rfl) ?_
  refine W.doneQ (y := sub [1, 1, 1, 1, 1] B18) rfl ?_
  exact C.ret (R := fun e w' => e = .returned (.int .i64 0) ∧ Cls w0 I (dkH b m (.slice none 0 0) #[] { s with set := crK s picks s.late.length, late := [], armed := false, dead := false, fuse := 0 }) w') (rs := [.tmp 4]) (vs := [.int .i64 0]) rfl Try.func18 rfl rfl rfl (res_cons (ResV.tmp rfl) res_nil) fun w1 hc1 => ⟨rfl, cls_drop hc1⟩

end Go.Proofs.Ytjomnicfcdkfdaa
