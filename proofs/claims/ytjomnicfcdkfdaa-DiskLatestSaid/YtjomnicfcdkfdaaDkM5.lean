import Derived.Test.YtjomnicfcdkfdaaDkM4
namespace Go.Proofs.Ytjomnicfcdkfdaa
open Go Go.HW Go.RowKit
set_option linter.unusedVariables false
set_option linter.unusedSimpArgs false

theorem f_stDkL {o : Oper} {S : Slots} {w0 : World} {I : Mem} {H : Heap} {t : TypeId} {x y : Operand} {b m j : Nat} {v u : Value} {s s2 : Dk} (hs : ∀ w, (sizeOf t).run Try.prog w = .ok 1 w) (hn : u.cells = #[u]) (h1 : OneCell u) (hH : H[j]? = some (dk1 b m v s))
    (ho : o.op = .store t x y) (hx : ev S x = some (ptr b 2)) (hy : ev S y = some u) (he : (some b, Obj.cells ((#[.int .i64 s.n, .map (some m), v, .int .i64 s.fuse, .bool s.armed, .bool s.dead] : Array Value).setIfInBounds 2 u) 61 (0, 0)) = dk1 b m u s2 := by rfl) : FPut Try.prog o w0 I S H (H.set j (dk1 b m u s2)) := by
  rw [← he]
  exact f_store hs hH hn (show 2 < 6 by decide) h1 ho hx hy
theorem cls_drop {w0 w : World} {I : Mem} {a c : Option Nat × Obj} {p : Option Nat × Obj} (hc : Cls w0 I [a, c, p] w) : Cls w0 I [a, c, (none, .cells #[] 64 (0, 0))] w := by
  have h1 : Cls w0 I [a, c] w := hc.fewer (by simp)
  exact ((h1.nothing (.cells #[] 64 (0, 0))).perm (List.perm_append_comm (l₁ := [(none, Obj.cells #[] 64 (0, 0))]) (l₂ := [a, c])))

theorem sync_2 {s1 : Dk} (hl : s1.late.length ≤ 1099511627775) {w0 w : World} {I : Mem} {b m : Nat} {v : Value} {cur : Array Value} {s : Dk} (hc : Cls w0 I (dkH b m v cur s) w) (ho : DkO v cur s) (ho1 : DkO v cur s1) (hstep : ∀ w2, Cls w0 I (dkH b m v cur s) w2 → Calls Try.prog 33 #[ptr b 0] w2 fun e w' => e = .returned (.int .i64 0) ∧ Cls w0 I (dkH b m v cur s1) w') : Calls Try.prog 14 #[ptr b 0] w (fun e w' => e = .returned (.int .i64 0) ∧ Cls w0 I (dkH b m (.slice none 0 0) #[] { s1 with set := setK s1 s1.late.length, late := [] }) w') := by
  obtain ⟨cs, hcs, hch⟩ := id ho1.hr
  refine calls_of_CW (N := 35) Try.func14 (show _ = some B14 by kernel_rfl) (by kernel_rfl) rfl (S := [(0, ptr b 0)]) (by simp) hc ?_
  show CW _ _ _ (sub [] B14) _ _ _
  refine C.seq (x := sub [0] B14) (y := sub [1] B14) ?_
  refine C.region (id := 0) (m := 1) (ops := opsOf (sub [0] B14)) rfl ?_
  refine W.pure rfl (wo rfl) rfl rfl (p_assign rfl rfl) (nf rfl) ?_
  refine W.doneQ (y := sub [1] B14) rfl ?_
  refine C.seq (x := sub [1, 0] B14) (y := sub [1, 1] B14) ?_
  refine C.seq (x := sub [1, 0, 0] B14) (y := sub [1, 0, 1] B14) ?_
  refine C.region (id := 1) (m := 3) (ops := opsOf (sub [1, 0, 0] B14)) rfl ?_
  refine W.pure rfl (wo rfl) rfl rfl (p_move rfl rfl) (nf rfl) ?_
  refine W.quiet rfl (wo rfl) rfl rfl (f_callR rfl rfl (args_val (vs := [ptr b 0]) rfl) (en32 _) (fun w2 hc2 => there_ok (M := heapOf w2) (fun _ _ e => e) (ho.M (b := b) (m := m) hc2 (fun p hp => by first | exact hp | exact List.mem_cons_of_mem _ hp | exact List.mem_cons_of_mem _ (List.mem_cons_of_mem _ hp) | exact List.mem_append_left _ hp)))) (nf rfl) ?_
  refine W.pure rfl (wo rfl) rfl rfl (p_not rfl rfl) (nf rfl) ?_
  refine W.doneQ (y := sub [1, 0, 1] B14) rfl ?_
  refine C.cond_false (x := sub [1, 0, 1, 0] B14) (y := sub [1, 0, 1, 1] B14) rfl rfl ?_
  refine C.skipQ (y := sub [1, 1] B14) rfl ?_
  refine C.seq (x := sub [1, 1, 0] B14) (y := sub [1, 1, 1] B14) ?_
  refine C.region (id := 3) (m := 3) (ops := opsOf (sub [1, 1, 0] B14)) rfl ?_
  refine W.pure rfl (wo rfl) rfl rfl (p_move rfl rfl) (nf rfl) ?_
  refine W.callX (X := Unit) (u := fun _ => .int .i64 0) (H' := fun _ => dkH b m v cur s1) rfl (wo rfl) rfl rfl rfl rfl rfl (args_val (vs := [ptr b 0]) rfl) (en33 _) (fun w2 hc2 => (hstep w2 hc2).mono fun e w3 ⟨h1, h2⟩ => ⟨(), h1, h2⟩) ?_
  intro _
  refine W.pure rfl (wo rfl) rfl rfl (p_assign rfl rfl) (nf rfl) ?_
  refine W.doneQ (y := sub [1, 1, 1] B14) rfl ?_
  refine C.seq (x := sub [1, 1, 1, 0] B14) (y := sub [1, 1, 1, 1] B14) ?_
  refine C.seq (x := sub [1, 1, 1, 0, 0] B14) (y := sub [1, 1, 1, 0, 1] B14) ?_
  refine C.region (id := 4) (m := 2) (ops := opsOf (sub [1, 1, 1, 0, 0] B14)) rfl ?_
  refine W.pure rfl (wo rfl) rfl rfl (p_move rfl rfl) (nf rfl) ?_
  refine W.pure rfl (wo rfl) rfl rfl (pT (beq_self_eq_true _) (p_eql rfl rfl rfl)) (nf rfl) ?_
  refine W.doneQ (y := sub [1, 1, 1, 0, 1] B14) rfl ?_
  refine C.cond_true (x := sub [1, 1, 1, 0, 1, 0] B14) (y := sub [1, 1, 1, 0, 1, 1] B14) rfl rfl ?_
  refine C.seq (x := sub [1, 1, 1, 0, 1, 0, 0] B14) (y := sub [1, 1, 1, 0, 1, 0, 1] B14) ?_
  refine C.seq (x := sub [1, 1, 1, 0, 1, 0, 0, 0] B14) (y := sub [1, 1, 1, 0, 1, 0, 0, 1] B14) ?_
  refine C.region (id := 5) (m := 6) (ops := opsOf (sub [1, 1, 1, 0, 1, 0, 0, 0] B14)) rfl ?_
  refine W.pure rfl (wo rfl) rfl rfl (p_move rfl rfl) (nf rfl) ?_
  refine W.pure rfl (wo rfl) rfl rfl (p_nilCheck rfl rfl) (nf rfl) ?_
  refine W.pure rfl (wo rfl) rfl rfl (p_fieldAddr tf61_2 rfl rfl) (nf rfl) ?_
  refine W.quiet rfl (wo rfl) rfl rfl (f_load (j := 0) ta59 rfl (off := 2) rfl rfl rfl) (nf rfl) ?_
  refine W.pure rfl (wo rfl) rfl rfl (p_slLen tu59 hcs.sl rfl rfl) (nf rfl) ?_
  refine W.pure rfl (wo rfl) rfl rfl (p_move rfl rfl) (nf rfl) ?_
  refine W.doneQ (y := sub [1, 1, 1, 0, 1, 0, 0, 1] B14) rfl ?_
  refine C.loopB (id := 0) (c := sub [1, 1, 1, 0, 1, 0, 0, 1, 0, 0] B14) (y := sub [1, 1, 1, 0, 1, 0, 1] B14) (fun k : Nat => s1.late.length - k) (fun k => [(0, ptr b 0), (3, .int .i64 0), (16, v), (17, .int .i64 (s1.late.length : Int)), (18, .int .i64 (k : Int))]) (fun k => dkH b m v cur { s1 with set := setK s1 k }) (fun k => k ≤ s1.late.length) 0 (Nat.zero_le _) (Sub.cons rfl (Sub.cons rfl (Sub.cons rfl (Sub.cons rfl (Sub.cons rfl (Sub.nil _)))))) rfl rfl (fun k => k = s1.late.length) ?_ ?_
  · intro k hk Q' hN hE hR
    by_cases hlt : k < s1.late.length
    · obtain ⟨x, hx⟩ : ∃ x, s1.late[k]? = some x := ⟨_, List.getElem?_eq_getElem hlt⟩
      have hx2 := late_len ho1 hx
      refine C.seq (x := sub [1, 1, 1, 0, 1, 0, 0, 1, 0, 0, 0] B14) (y := sub [1, 1, 1, 0, 1, 0, 0, 1, 0, 0, 1] B14) ?_
      refine C.region (id := 6) (m := 1) (ops := opsOf (sub [1, 1, 1, 0, 1, 0, 0, 1, 0, 0, 0] B14)) rfl ?_
      refine W.pure rfl (wo rfl) rfl rfl (pT (decide_eq_true (by exact_mod_cast hlt)) (p_lss rfl rfl rfl)) (nf rfl) ?_
      refine W.doneQ (y := sub [1, 1, 1, 0, 1, 0, 0, 1, 0, 0, 1] B14) rfl ?_
      refine C.seq (x := sub [1, 1, 1, 0, 1, 0, 0, 1, 0, 0, 1, 0] B14) (y := sub [1, 1, 1, 0, 1, 0, 0, 1, 0, 0, 1, 1] B14) ?_
      refine C.cond_true (x := sub [1, 1, 1, 0, 1, 0, 0, 1, 0, 0, 1, 0, 0] B14) (y := sub [1, 1, 1, 0, 1, 0, 0, 1, 0, 0, 1, 0, 1] B14) rfl rfl ?_
      refine C.skipQ (y := sub [1, 1, 1, 0, 1, 0, 0, 1, 0, 0, 1, 1] B14) rfl ?_
      refine C.seq (x := sub [1, 1, 1, 0, 1, 0, 0, 1, 0, 0, 1, 1, 0] B14) (y := sub [1, 1, 1, 0, 1, 0, 0, 1, 0, 0, 1, 1, 1] B14) ?_
      refine C.block (id := 1) (c := sub [1, 1, 1, 0, 1, 0, 0, 1, 0, 0, 1, 1, 0, 0] B14) ?_
      refine C.seq (x := sub [1, 1, 1, 0, 1, 0, 0, 1, 0, 0, 1, 1, 0, 0, 0] B14) (y := sub [1, 1, 1, 0, 1, 0, 0, 1, 0, 0, 1, 1, 0, 0, 1] B14) ?_
      refine C.region (id := 7) (m := 4) (ops := opsOf (sub [1, 1, 1, 0, 1, 0, 0, 1, 0, 0, 1, 1, 0, 0, 0] B14)) rfl ?_
      refine W.pure rfl (wo rfl) rfl rfl (p_slIx tu59 ts64 (OwnV.some hcs (Int.natCast_nonneg k) (by exact_mod_cast hlt)) (Int.natCast_nonneg k) (by exact_mod_cast hlt) rfl rfl rfl) (nf rfl) ?_
      refine W.quiet rfl (wo rfl) rfl rfl (f_loadElA (j := 2) rfl hcs (hch k x hx).1 hlt ta64 ts64 rfl rfl) (nf rfl) ?_
      refine W.new rfl (wo rfl) rfl rfl (f_alloc tz64 rfl) (nf rfl) ?_
      intro b5 hb5
      refine W.put (H' := (some b5, .cells (wrc x) 64 (0, 0)) :: dkH b m v cur { s1 with set := setK s1 k }) rfl (wo rfl) rfl (f_storeA (j := 0) (c2 := wrc x) ts64 rfl (wrc_size hx2) (wrc_size List.length_replicate) wrc_one rfl rfl rfl) (nf rfl) ?_
      refine W.doneQ (y := sub [1, 1, 1, 0, 1, 0, 0, 1, 0, 0, 1, 1, 0, 0, 1] B14) rfl ?_
      refine C.regionD (id := 8) (ops := opsOf (sub [1, 1, 1, 0, 1, 0, 0, 1, 0, 0, 1, 1, 0, 0, 1] B14)) [0, 1, 2, 3, 4, 5, 6, 7, 8] [0, 1, 3, 7, 0, 16, 0, 64, 255] [(.pure, none), (.pure, none), (.pure, none), (.quiet, none), (.pure, none), (.quiet, none), (.pure, none), (.quiet, none), (.store, none)] (by kernel_rfl) ?_
      intro wD8 hl8
      refine DW.pure rfl rfl rfl rfl rfl (p_move rfl rfl) ?_
      refine DW.pure rfl rfl rfl rfl rfl (p_nilCheck rfl rfl) ?_
      refine DW.pure rfl rfl rfl rfl rfl (p_fieldAddr tf61_1 rfl rfl) ?_
      refine DW.quiet rfl rfl rfl rfl rfl (f_load (j := 1) ta58 rfl (off := 1) rfl rfl rfl) ?_
      refine DW.pure rfl rfl rfl rfl rfl (p_fieldAddr tf64_0 rfl rfl) ?_
      refine DW.quiet rfl rfl rfl rfl rfl (f_load (j := 0) ta3 rfl (off := 0) (wrc_0 x) rfl rfl) ?_
      refine DW.pure rfl rfl rfl rfl rfl (p_fieldAddr tf64_1 rfl rfl) ?_
      refine DW.quiet rfl rfl rfl rfl rfl (f_loadSubA (j := 0) (off := 1) (vs := encl .u8 x.2) ta62 ts62 rfl (by simp [encl, hx2]) (wrc_drop hx2) rfl rfl) ?_
      refine DW.put (H' := (some b5, .cells (wrc x) 64 (0, 0)) :: dkH b m v cur { s1 with set := mput (setK s1 k) x.1 x.2 }) rfl rfl rfl rfl rfl (f_mput (j := 2) tu58 tu3 rfl rfl rfl rfl rfl) ?_
      refine DW.doneQ (y := sub [1, 1, 1, 0, 1, 0, 0, 1, 0, 0, 1, 1, 1] B14) hl8 rfl ?_
      refine C.region (id := 9) (m := 2) (ops := opsOf (sub [1, 1, 1, 0, 1, 0, 0, 1, 0, 0, 1, 1, 1] B14)) rfl ?_
      refine W.pure rfl (wo rfl) rfl rfl (pI (wk (by omega)) (p_add rfl rfl rfl)) (nf rfl) ?_
      refine W.pure rfl (wo rfl) rfl rfl (p_move rfl rfl) (nf rfl) ?_
      refine W.end' fun a1 w1 ha1 hc1 => hN (k + 1) (by omega) (by omega) a1 w1 (ha1.sub (Sub.cons rfl (Sub.cons rfl (Sub.cons rfl (Sub.cons rfl (Sub.cons rfl (Sub.nil _))))))) ?_
      rw [← setK_succ hx]; exact hc1.fewer (List.sublist_cons_self _ _)
    · refine C.seq (x := sub [1, 1, 1, 0, 1, 0, 0, 1, 0, 0, 0] B14) (y := sub [1, 1, 1, 0, 1, 0, 0, 1, 0, 0, 1] B14) ?_
      refine C.region (id := 6) (m := 1) (ops := opsOf (sub [1, 1, 1, 0, 1, 0, 0, 1, 0, 0, 0] B14)) rfl ?_
      refine W.pure rfl (wo rfl) rfl rfl (pF (decide_eq_false (by omega)) (p_lss rfl rfl rfl)) (nf rfl) ?_
      refine W.doneQ (y := sub [1, 1, 1, 0, 1, 0, 0, 1, 0, 0, 1] B14) rfl ?_
      refine C.seq (x := sub [1, 1, 1, 0, 1, 0, 0, 1, 0, 0, 1, 0] B14) (y := sub [1, 1, 1, 0, 1, 0, 0, 1, 0, 0, 1, 1] B14) ?_
      refine C.cond_false (x := sub [1, 1, 1, 0, 1, 0, 0, 1, 0, 0, 1, 0, 0] B14) (y := sub [1, 1, 1, 0, 1, 0, 0, 1, 0, 0, 1, 0, 1] B14) rfl rfl ?_
      exact C.exit fun a1 w1 ha1 hc1 => hE (by omega) a1 w1 (ha1.sub (Sub.cons rfl (Sub.cons rfl (Sub.cons rfl (Sub.cons rfl (Sub.cons rfl (Sub.nil _))))))) hc1
  intro k hk hke
  subst hke
  refine C.region (id := 10) (m := 4) (ops := opsOf (sub [1, 1, 1, 0, 1, 0, 1] B14)) rfl ?_
  refine W.pure rfl (wo rfl) rfl rfl (p_move rfl rfl) (nf rfl) ?_
  refine W.pure rfl (wo rfl) rfl rfl (p_nilCheck rfl rfl) (nf rfl) ?_
  refine W.pure rfl (wo rfl) rfl rfl (p_fieldAddr tf61_2 rfl rfl) (nf rfl) ?_
  refine W.put (H' := [dk1 b m (.slice none 0 0) { s1 with set := setK s1 s1.late.length, late := [] }, (some m, dmap (setK s1 s1.late.length)), (v.ownBlock, .cells cur 64 (0, 0))]) rfl (wo rfl) rfl (f_stDkL (s := { s1 with set := setK s1 s1.late.length }) (s2 := { s1 with set := setK s1 s1.late.length, late := [] }) (j := 0) ts59 rfl trivial rfl rfl rfl rfl) (nf rfl) ?_
  refine W.doneQ (y := sub [1, 1, 1, 1] B14) rfl ?_
  refine C.seq (x := sub [1, 1, 1, 1, 0] B14) (y := sub [1, 1, 1, 1, 1] B14) ?_
  refine C.region (id := 11) (m := 2) (ops := opsOf (sub [1, 1, 1, 1, 0] B14)) rfl ?_
  refine W.pure rfl (wo rfl) rfl rfl (p_move rfl rfl) (nf rfl) ?_
  refine W.pure rfl (wo rfl) rfl rfl (p_assign rfl rfl) (nf rfl) ?_
  refine W.doneQ (y := sub [1, 1, 1, 1, 1] B14) rfl ?_
  exact C.ret (R := fun e w' => e = .returned (.int .i64 0) ∧ Cls w0 I (dkH b m (.slice none 0 0) #[] { s1 with set := setK s1 s1.late.length, late := [] }) w') (rs := [.tmp 2]) (vs := [.int .i64 0]) rfl Try.func14 rfl rfl rfl (res_cons (ResV.tmp rfl) res_nil) fun w1 hc1 => ⟨rfl, cls_drop hc1⟩

end Go.Proofs.Ytjomnicfcdkfdaa
