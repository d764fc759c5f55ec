import Derived.Test.YtjomnicfcdkfdaaDkM7
namespace Go.Proofs.Ytjomnicfcdkfdaa
open Go Go.HW Go.RowKit
set_option linter.unusedVariables false
set_option linter.unusedSimpArgs false

noncomputable def B19 : Code := bodyOf Try.f19
theorem en19 (args : Array Value) (w : World) : (callFunc 19 args).run Try.prog w = .ok (.enter 19 args) w := by kernel_rfl
theorem ta61 (w : World) : (isAgg 61).run Try.prog w = .ok true w := by kernel_rfl
theorem ts61 (w : World) : (sizeOf 61).run Try.prog w = .ok 6 w := by kernel_rfl
theorem tz61 (w : World) : (zeroValue 61).run Try.prog w = .ok (.agg #[.int .i64 0, .map none, .slice none 0 0, .int .i64 0, .bool false, .bool false]) w := by kernel_rfl
theorem ts58 (w : World) : (sizeOf 58).run Try.prog w = .ok 1 w := by kernel_rfl
theorem f_stDkM {o : Oper} {S : Slots} {w0 : World} {I : Mem} {H : Heap} {t : TypeId} {x y : Operand} {b m m2 j : Nat} {v : Value} {s : Dk} (hs : ∀ w, (sizeOf t).run Try.prog w = .ok 1 w) (hH : H[j]? = some (dk1 b m v s))
    (ho : o.op = .store t x y) (hx : ev S x = some (ptr b 1)) (hy : ev S y = some (.map (some m2))) : FPut Try.prog o w0 I S H (H.set j (dk1 b m2 v s)) :=
  f_store (c := #[.int .i64 s.n, .map (some m), v, .int .i64 s.fuse, .bool s.armed, .bool s.dead]) hs hH rfl (show 1 < 6 by decide) trivial ho hx hy
theorem dk_one {m : Nat} {v : Value} {s : Dk} {n : Nat} (hv : ∃ a c, v = .slice a n c) : ∀ u ∈ (#[.int .i64 s.n, .map (some m), v, .int .i64 s.fuse, .bool s.armed, .bool s.dead] : Array Value).toList, OneCell u := fun u hu => by
  obtain ⟨a, c, rfl⟩ := hv
  simp at hu
  rcases hu with rfl | rfl | rfl | rfl | rfl | rfl <;> trivial

theorem copy_ok {w0 w : World} {I : Mem} {b m : Nat} {v : Value} {cur : Array Value} {s : Dk} (hc : Cls w0 I (dkH b m v cur s) w) (ho : DkO v cur s) (hl0 : s.late.length ≤ 137438953472) : Calls Try.prog 19 #[ptr b 0] w (fun e w' => ∃ b2 m2 v2 cur2, e = .returned (ptr b2 0) ∧ DkO v2 cur2 s ∧ Cls w0 I (dkH b2 m2 v2 cur2 s ++ dkH b m v cur s) w') := by
  refine calls_of_CW (N := 22) Try.func19 (show _ = some B19 by kernel_rfl) (by kernel_rfl) rfl (S := [(0, ptr b 0)]) (by simp) hc ?_
  show CW _ _ _ (sub [] B19) _ _ _
  refine C.seq (x := sub [0] B19) (y := sub [1] B19) ?_
  refine C.region (id := 0) (m := 1) (ops := opsOf (sub [0] B19)) rfl ?_
  refine W.pure rfl (wo rfl) rfl rfl (p_assign rfl rfl) (nf rfl) ?_
  refine W.doneQ (y := sub [1] B19) rfl ?_
  refine C.seq (x := sub [1, 0] B19) (y := sub [1, 1] B19) ?_
  refine C.seq (x := sub [1, 0, 0] B19) (y := sub [1, 0, 1] B19) ?_
  refine C.region (id := 1) (m := 3) (ops := opsOf (sub [1, 0, 0] B19)) rfl ?_
  refine W.pure rfl (wo rfl) rfl rfl (p_move rfl rfl) (nf rfl) ?_
  refine W.quiet rfl (wo rfl) rfl rfl (f_callR rfl rfl (args_val (vs := [ptr b 0]) rfl) (en32 _) (fun w2 hc2 => there_ok (M := heapOf w2) (fun _ _ e => e) (ho.M (b := b) (m := m) hc2 (fun p hp => by first | exact hp | exact List.mem_cons_of_mem _ hp | exact List.mem_cons_of_mem _ (List.mem_cons_of_mem _ hp) | exact List.mem_append_left _ hp)))) (nf rfl) ?_
  refine W.pure rfl (wo rfl) rfl rfl (p_not rfl rfl) (nf rfl) ?_
  refine W.doneQ (y := sub [1, 0, 1] B19) rfl ?_
  refine C.cond_false (x := sub [1, 0, 1, 0] B19) (y := sub [1, 0, 1, 1] B19) rfl rfl ?_
  refine C.skipQ (y := sub [1, 1] B19) rfl ?_
  refine C.seq (x := sub [1, 1, 0] B19) (y := sub [1, 1, 1] B19) ?_
  refine C.region (id := 3) (m := 5) (ops := opsOf (sub [1, 1, 0] B19)) rfl ?_
  refine W.pure rfl (wo rfl) rfl rfl (p_move rfl rfl) (nf rfl) ?_
  refine W.pure rfl (wo rfl) rfl rfl (p_nilCheck rfl rfl) (nf rfl) ?_
  refine W.quiet rfl (wo rfl) rfl rfl (f_loadA (j := 0) ta61 ts61 rfl rfl rfl rfl) (nf rfl) ?_
  refine W.new rfl (wo rfl) rfl rfl (f_alloc tz61 rfl) (nf rfl) ?_
  intro b2 hb2
  refine W.put (H' := dk1 b2 m v s :: dkH b m v cur s) rfl (wo rfl) rfl (f_storeA (j := 0) (c2 := #[.int .i64 s.n, .map (some m), v, .int .i64 s.fuse, .bool s.armed, .bool s.dead]) ts61 rfl rfl rfl (dk_one ho.hr.sl) rfl rfl rfl) (nf rfl) ?_
  refine W.doneQ (y := sub [1, 1, 1] B19) rfl ?_
  refine C.seq (x := sub [1, 1, 1, 0] B19) (y := sub [1, 1, 1, 1] B19) ?_
  refine C.regionD (id := 4) (ops := opsOf (sub [1, 1, 1, 0] B19)) [0, 1, 2, 3, 5, 6, 7, 8, 4, 9, 10, 11, 12, 13] [0, 1, 3, 7, 15, 0, 32, 96, 224, 511, 1023, 2047, 4095, 8191] [(.pure, none), (.pure, none), (.pure, none), (.look, some 1), (.keep, none), (.pure, none), (.pure, none), (.pure, none), (.look, some 1), (.keep, none), (.pure, none), (.store, none), (.pure, none), (.store, none)] (by kernel_rfl) ?_
  intro wD hl
  refine DW.pure rfl rfl rfl rfl rfl (p_move rfl rfl) ?_
  refine DW.pure rfl rfl rfl rfl rfl (p_nilCheck rfl rfl) ?_
  refine DW.pure rfl rfl rfl rfl rfl (p_fieldAddr tf61_1 rfl rfl) ?_
  refine DW.look (b := b) rfl rfl rfl rfl rfl rfl rfl (List.mem_of_getElem? (i := 1) rfl) (b_load (off := 1) ta58 rfl rfl rfl) ?_
  refine DW.pure rfl rfl rfl rfl rfl (p_move rfl rfl) ?_
  refine DW.pure rfl rfl rfl rfl rfl (p_nilCheck rfl rfl) ?_
  refine DW.pure rfl rfl rfl rfl rfl (p_fieldAddr tf61_2 rfl rfl) ?_
  refine DW.look (b := b) rfl rfl rfl rfl rfl rfl rfl (List.mem_of_getElem? (i := 1) rfl) (b_load (off := 2) ta59 rfl rfl rfl) ?_
  refine DW.keep (X := Nat) (u := fun m2 => .map (some m2)) (H' := fun m2 => (some m2, dmap s.set) :: dk1 b2 m v s :: dkH b m v cur s) (fun x p hp => List.mem_cons_of_mem _ hp) rfl rfl rfl rfl rfl (f_callX rfl rfl rfl (args_val (vs := [.map (some m)]) rfl) (en36 _) (fun w hc => clonem_ok (j := 2) hc rfl)) ?_
  intro m2
  refine DW.keep (X := {x : Value × Array Value // OwnS ShWr (fun _ => none) x.1 x.2 s.late}) (u := fun x => x.1.1) (H' := fun x => (x.1.1.ownBlock, .cells x.1.2 64 (0, 0)) :: (some m2, dmap s.set) :: dk1 b2 m v s :: dkH b m v cur s) (fun x p hp => List.mem_cons_of_mem _ hp) rfl rfl rfl rfl rfl (f_callX rfl rfl rfl (args_val (vs := [v]) rfl) (en37 _) (fun w hc => (clones_ok (j := 4) hc ho.hr rfl hl0).mono fun e w' ⟨v2, cur2, h1, h2, h3⟩ => ⟨⟨(v2, cur2), h2⟩, h1, h3⟩)) ?_
  rintro ⟨⟨v2, cur2⟩, ho2⟩
  refine DW.pure rfl rfl rfl rfl rfl (p_fieldAddr tf61_1 rfl rfl) ?_
  refine DW.put (H' := (v2.ownBlock, .cells cur2 64 (0, 0)) :: (some m2, dmap s.set) :: dk1 b2 m2 v s :: dkH b m v cur s) rfl rfl rfl rfl rfl (f_stDkM (j := 2) (m := m) (v := v) (s := s) ts58 rfl rfl rfl rfl) ?_
  refine DW.pure rfl rfl rfl rfl rfl (p_fieldAddr tf61_2 rfl rfl) ?_
  refine DW.put (H' := (v2.ownBlock, .cells cur2 64 (0, 0)) :: (some m2, dmap s.set) :: dk1 b2 m2 v2 s :: dkH b m v cur s) rfl rfl rfl rfl rfl (f_stDkL (s := s) (s2 := s) (m := m2) (v := v) (j := 2) ts59 (sl_cells ho2.sl) (sl_one ho2.sl) rfl rfl rfl rfl) ?_
  refine DW.doneQ (y := sub [1, 1, 1, 1] B19) hl rfl ?_
  refine C.seq (x := sub [1, 1, 1, 1, 0] B19) (y := sub [1, 1, 1, 1, 1] B19) ?_
  refine C.region (id := 5) (m := 1) (ops := opsOf (sub [1, 1, 1, 1, 0] B19)) rfl ?_
  refine W.pure rfl (wo rfl) rfl rfl (p_assign rfl rfl) (nf rfl) ?_
  refine W.doneQ (y := sub [1, 1, 1, 1, 1] B19) rfl ?_
  exact C.ret (R := fun e w' => ∃ b2 m2 v2 cur2, e = .returned (ptr b2 0) ∧ DkO v2 cur2 s ∧ Cls w0 I (dkH b2 m2 v2 cur2 s ++ dkH b m v cur s) w') (rs := [.tmp 2]) (vs := [ptr b2 0]) rfl Try.func19 rfl rfl rfl (res_cons (ResV.tmp rfl) res_nil) fun w1 hc1 => ⟨b2, m2, v2, cur2, rfl, ⟨ho2, ho.hs⟩, hc1.perm ((List.reverse_perm [dk1 b2 m2 v2 s, (some m2, dmap s.set), (v2.ownBlock, Obj.cells cur2 64 (0, 0))]).append_right _)⟩

noncomputable def B20 : Code := bodyOf Try.f20
theorem en20 (args : Array Value) (w : World) : (callFunc 20 args).run Try.prog w = .ok (.enter 20 args) w := by kernel_rfl
theorem en38 (args : Array Value) (w : World) : (callFunc 38 args).run Try.prog w = .ok (.enter 38 args) w := by kernel_rfl

theorem lfind_len : ∀ {l : List Wr} {n : Int} {b : List Int}, (∀ p ∈ l, p.2.length = 512) → lfind l n = some b → b.length = 512
  | [], _, _, _, h => by cases h
  | (a, c) :: r, n, b, hl, h => by
    unfold lfind at h
    split at h
    · cases h; exact hl (a, c) (by simp)
    · exact lfind_len (fun p hp => hl p (by simp [hp])) h
theorem rd_len {s : Dk} (hs : Full s.set) (hl : Full s.late) (n : Int) : (rd s n).length = 512 := by
  unfold rd
  cases h : lfind s.late.reverse n with
  | none => exact mget_len hs n
  | some b => exact lfind_len (fun p hp => hl p (by simpa using hp)) h
theorem DkM.late {M : Mem} {b m : Nat} {v : Value} {s : Dk} (h : DkM M b m v s) : Full s.late := fun p hp => by
  obtain ⟨cs, _, h2⟩ := h.hr
  obtain ⟨i, hi, rfl⟩ := List.getElem_of_mem hp
  exact (h2 i _ (List.getElem?_eq_getElem hi)).2
theorem p_slA {P : Program} {o : Oper} {S : Slots} {t e n b sz : Nat} {x : Operand} (hu : ∀ w, (underlying t).run P w = .ok (.array n e) w) (hs : ∀ w, (sizeOf e).run P w = .ok sz w) (ho : o.op = .slice t x none none none) (hx : ev S x = some (ptr b 0)) (hn : 0 < n) : FPure P o S (.slice (some ⟨b, 0, none⟩) n n) := fun ρ hρ w => by
  simp only [execOp, ho, hρ _ _ hx, Option.map_none]
  refine val_run ?_
  unfold Instr.sliceAt
  refine (run_of_bind (hu w)).trans ?_
  refine (run_of_bind (a := ⟨b, 0, none⟩) (w' := w) rfl).trans ?_
  refine (run_of_bind (a := (0, n, n)) (w' := w) rfl).trans ?_
  refine (run_of_bind (hs w)).trans ?_
  rw [if_neg (by omega)]
  simp [Addr.add]
theorem ts5 (w : World) : (sizeOf 5).run Try.prog w = .ok 1 w := by kernel_rfl

theorem own_arr {xs : List Int} {b : Nat} (h : xs.length = 512) : IntOwn .u8 (.slice (some ⟨b, 0, none⟩) 512 512) (enc .u8 xs) xs := by
  unfold IntOwn
  rw [h]
  exact OwnV.fresh (Nat.le_refl _) (by simp [maxLen]) (by rw [enc_size, h]) (by rw [List.take_of_length_le]; rfl; simp [enc, h]) (by simp [encl, h])

theorem readm_ok {w0 w : World} {I : Mem} {H : Heap} (hc : Cls w0 I H w) {b m : Nat} {v : Value} {s : Dk} (hd : ∀ w, Cls w0 I H w → DkM (heapOf w) b m v s) (hl0 : s.late.length ≤ 1099511627776) (n : Int) (h : hasD s n = true) : Calls Try.prog 20 #[ptr b 0, .int .i64 n] w (fun e w' => ∃ v2 cur2, e = .returned (.tuple #[v2, .int .i64 0]) ∧ IntOwn .u8 v2 cur2 (rd s n) ∧ Cls w0 I ((v2.ownBlock, .cells cur2 62 (0, 0)) :: H) w') := by
  have hrl : (rd s n).length = 512 := rd_len (hd w hc).hs (hd w hc).late n
  refine calls_of_CW (N := 20) Try.func20 (show _ = some B20 by kernel_rfl) (by kernel_rfl) rfl (S := [(0, ptr b 0), (1, .int .i64 n)]) (by simp) hc ?_
  show CW _ _ _ (sub [] B20) _ _ _
  refine C.seq (x := sub [0] B20) (y := sub [1] B20) ?_
  refine C.region (id := 0) (m := 2) (ops := opsOf (sub [0] B20)) rfl ?_
  refine W.pure rfl (wo rfl) rfl rfl (p_assign rfl rfl) (nf rfl) ?_
  refine W.pure rfl (wo rfl) rfl rfl (p_assign rfl rfl) (nf rfl) ?_
  refine W.doneQ (y := sub [1] B20) rfl ?_
  refine C.seq (x := sub [1, 0] B20) (y := sub [1, 1] B20) ?_
  refine C.block (id := 0) (c := sub [1, 0, 0] B20) ?_
  refine C.seq (x := sub [1, 0, 0, 0] B20) (y := sub [1, 0, 0, 1] B20) ?_
  refine C.region (id := 1) (m := 4) (ops := opsOf (sub [1, 0, 0, 0] B20)) rfl ?_
  refine W.pure rfl (wo rfl) rfl rfl (p_move rfl rfl) (nf rfl) ?_
  refine W.quiet rfl (wo rfl) rfl rfl (f_callR rfl rfl (args_val (vs := [ptr b 0]) rfl) (en32 _) (fun w2 hc2 => there_ok (M := heapOf w2) (fun _ _ e => e) (hd w2 hc2))) (nf rfl) ?_
  refine W.pure rfl (wo rfl) rfl rfl (p_not rfl rfl) (nf rfl) ?_
  refine W.pure rfl (wo rfl) rfl rfl (p_assign rfl rfl) (nf rfl) ?_
  refine W.doneQ (y := sub [1, 0, 0, 1] B20) rfl ?_
  refine C.cond_false (x := sub [1, 0, 0, 1, 0] B20) (y := sub [1, 0, 0, 1, 1] B20) rfl rfl ?_
  refine C.seq (x := sub [1, 0, 0, 1, 1, 0] B20) (y := sub [1, 0, 0, 1, 1, 1] B20) ?_
  refine C.region (id := 3) (m := 5) (ops := opsOf (sub [1, 0, 0, 1, 1, 0] B20)) rfl ?_
  refine W.pure rfl (wo rfl) rfl rfl (p_move rfl rfl) (nf rfl) ?_
  refine W.pure rfl (wo rfl) rfl rfl (p_move rfl rfl) (nf rfl) ?_
  refine W.quiet rfl (wo rfl) rfl rfl (qT (h) (f_callR rfl rfl (args_val (vs := [ptr b 0, .int .i64 n]) rfl) (en34 _) (fun w2 hc2 => has_ok (M := heapOf w2) (fun _ _ e => e) (hd w2 hc2) n))) (nf rfl) ?_
  refine W.pure rfl (wo rfl) rfl rfl (p_not rfl rfl) (nf rfl) ?_
  refine W.pure rfl (wo rfl) rfl rfl (p_assign rfl rfl) (nf rfl) ?_
  refine W.doneQ (y := sub [1, 0, 0, 1, 1, 1] B20) rfl ?_
  refine C.cond_false (x := sub [1, 0, 0, 1, 1, 1, 0] B20) (y := sub [1, 0, 0, 1, 1, 1, 1] B20) rfl rfl ?_
  refine C.skipQ (y := sub [1, 1] B20) rfl ?_
  refine C.seq (x := sub [1, 1, 0] B20) (y := sub [1, 1, 1] B20) ?_
  refine C.region (id := 5) (m := 5) (ops := opsOf (sub [1, 1, 0] B20)) rfl ?_
  refine W.pure rfl (wo rfl) rfl rfl (p_move rfl rfl) (nf rfl) ?_
  refine W.pure rfl (wo rfl) rfl rfl (p_move rfl rfl) (nf rfl) ?_
  refine W.quiet rfl (wo rfl) rfl rfl (f_callR rfl rfl (args_val (vs := [ptr b 0, .int .i64 n]) rfl) (en38 _) (fun w2 hc2 => read_ok (M := heapOf w2) (fun _ _ e => e) (hd w2 hc2) hl0 n)) (nf rfl) ?_
  refine W.new rfl (wo rfl) rfl rfl (f_alloc tz62 rfl) (nf rfl) ?_
  intro br hbr
  refine W.put (H' := (some br, .cells (enc .u8 (rd s n)) 62 (0, 0)) :: H) rfl (wo rfl) rfl (f_storeA (j := 0) (c2 := enc .u8 (rd s n)) ts62 rfl (by rw [enc_size]; exact hrl) (by rw [show (Blk zeros).cells = enc .u8 zeros from rfl, enc_size]; exact List.length_replicate) (enc_oneCell _ _) rfl rfl rfl) (nf rfl) ?_
  refine W.doneQ (y := sub [1, 1, 1] B20) rfl ?_
  refine C.seq (x := sub [1, 1, 1, 0] B20) (y := sub [1, 1, 1, 1] B20) ?_
  refine C.region (id := 6) (m := 3) (ops := opsOf (sub [1, 1, 1, 0] B20)) rfl ?_
  refine W.pure rfl (wo rfl) rfl rfl (p_slA tu62 ts5 rfl rfl (by decide)) (nf rfl) ?_
  refine W.pure rfl (wo rfl) rfl rfl (p_assign rfl rfl) (nf rfl) ?_
  refine W.pure rfl (wo rfl) rfl rfl (p_assign rfl rfl) (nf rfl) ?_
  refine W.doneQ (y := sub [1, 1, 1, 1] B20) rfl ?_
  exact C.ret (R := fun e w' => ∃ v2 cur2, e = .returned (.tuple #[v2, .int .i64 0]) ∧ IntOwn .u8 v2 cur2 (rd s n) ∧ Cls w0 I ((v2.ownBlock, .cells cur2 62 (0, 0)) :: H) w') (rs := [.tmp 4, .tmp 5]) (vs := [.slice (some ⟨br, 0, none⟩) 512 512, .int .i64 0]) rfl Try.func20 rfl rfl rfl (res_cons (ResV.tmp rfl) (res_cons (ResV.tmp rfl) res_nil)) fun w1 hc1 => ⟨.slice (some ⟨br, 0, none⟩) 512 512, enc .u8 (rd s n), rfl, own_arr hrl, hc1⟩

end Go.Proofs.Ytjomnicfcdkfdaa
