import Derived.Test.YtjhknfpociahoaaDoorDe6
namespace Go.Proofs.YtjhknfpociahoaaDoor
open Go Go.HW Go.RowKit
set_option linter.unusedVariables false
set_option linter.unusedSimpArgs false

/-- A slice whose cells stand as the call begins; what its elements bear stays. -/
def RowX {α : Type} (s : Shape α) (M M2 : Mem) (v : Value) (xs : List α) : Prop := ∃ cs, RowV M2 v s.n xs.length cs ∧ ∀ i x, xs[i]? = some x → s.rep M (chunk cs s.n i) x
theorem RowX.sl {α : Type} {s : Shape α} {M M2 : Mem} {v : Value} {xs : List α} (h : RowX s M M2 v xs) : ∃ a c, v = .slice a xs.length c := by obtain ⟨cs, h1, _⟩ := h; exact h1.sl
theorem RowX.V {α : Type} {s : Shape α} {M M2 : Mem} {v : Value} {xs : List α} (h : RowX s M M2 v xs) : ∃ cs, RowV M2 v s.n xs.length cs := by obtain ⟨cs, h1, _⟩ := h; exact ⟨cs, h1⟩
theorem RowX.srcC {α : Type} {s : Shape α} {M M2 : Mem} {v : Value} {xs : List α} {w0 : World} {I : Mem} {H : Heap} (h : RowX s M M2 v xs) (hi : ∀ w, Cls w0 I H w → Imm M2 w) : ∃ ds, (∀ i x, xs[i]? = some x → s.rep M (chunk ds s.n i) x) ∧ ∀ w, Cls w0 I H w → Src w v xs.length s.n ds := by
  obtain ⟨cs, h1, h2⟩ := h
  exact ⟨cs, h2, fun w hc => (h1.world (hi w hc)).src (chunks_one h1.1 h2)⟩
theorem RowX.mono {α : Type} {s : Shape α} {M M2 M3 : Mem} {v : Value} {xs : List α} (h : RowX s M M2 v xs) (he : ∀ b o, M2 b = some o → M3 b = some o) : RowX s M M3 v xs := by
  obtain ⟨cs, h1, h2⟩ := h
  exact ⟨cs, h1.mono he, h2⟩
theorem OwnS.rowX {α : Type} {s : Shape α} {M : Mem} {v : Value} {cur : Array Value} {xs : List α} {e i : Nat} {w0 w : World} {I : Mem} {H : Heap} (h : OwnS s M v cur xs) (hc : Cls w0 I H w) (hH : H[i]? = some (v.ownBlock, .cells cur e (0, 0))) : RowX s M (heapOf w) v xs := by
  obtain ⟨cs, h1, h2⟩ := h
  exact ⟨cs, OwnV.row h1 hc (List.mem_of_getElem? hH), h2⟩

set_option maxRecDepth 20000 in
theorem slices_Clone_41.okX {a0 : List Int} {a0_v : Value} {r : List Int} (h : slices_Clone_41.f a0 = some r) {M : Mem} (w : World) (hM : Ext M (heapOf w)) (hr_a0 : IntRow (heapOf w) .u8 a0_v a0) : Calls Tryd.prog 41 #[a0_v] w (PostF (G := Value) (fun g => g) (fun g M_ => (IntRow M_ .u8 g r)) M w) := by
  unfold slices_Clone_41.f at h
  have hE := Env.start hM
  refine calls_of_TT (N := 8) (S := [(0, a0_v)]) (c := B41) Tryd.func41 rfl rfl rfl (by simp) ?_
  show TT _ _ _ _ _ _ [.code (sub [] B41)] _ _
  refine TT.seq (x := sub [0] B41) (y := sub [1] B41) ?_
  refine TT.region (id := 0) (n := 1) (ops := (opsOf (sub [0] B41))) [(.pure, none)] rfl ?_
  show DL _ _ _ _ _ _ _ _ _ _ [0] _ _
  refine DL.pu 2 (.slice none 0 0) rfl (p_assign rfl rfl) ?_
  refine DL.nil ?_
  refine TT.seq (x := sub [1, 0] B41) (y := sub [1, 1] B41) ?_
  refine TT.seq (x := sub [1, 0, 0] B41) (y := sub [1, 0, 1] B41) ?_
  refine TT.region (id := 1) (n := 2) (ops := (opsOf (sub [1, 0, 0] B41))) [(.pure, none), (.pure, none)] rfl ?_
  show DL _ _ _ _ _ _ _ _ _ _ [0, 1] _ _
  refine DL.pu 3 (a0_v) rfl (p_move rfl rfl) ?_
  obtain ⟨an1, cn1, hvn1⟩ := RowV.sl hr_a0
  refine DL.pu 4 (.bool an1.isNone) rfl (p_sliceNil ty_us23 hvn1 rfl rfl rfl) ?_
  refine DL.nil ?_
  by_cases c2 : an1.isNone = true
  · have x3 : a0 = [] := row_isNil hr_a0 hvn1 c2
    refine TT.cond_true (x := sub [1, 0, 1, 0] B41) (y := sub [1, 0, 1, 1] B41) rfl c2 ?_
    refine TT.seq (x := sub [1, 0, 1, 0, 0] B41) (y := sub [1, 0, 1, 0, 1] B41) ?_
    refine TT.region (id := 2) (n := 1) (ops := (opsOf (sub [1, 0, 1, 0, 0] B41))) [(.pure, none)] rfl ?_
    show DL _ _ _ _ _ _ _ _ _ _ [0] _ _
    refine DL.pu 2 (.slice none 0 0) rfl (p_assign rfl rfl) ?_
    refine DL.nil ?_
    have hr0 : r = [] := by simpa [x3, req] using h.symm
    subst hr0
    exact retF (rs := [.tmp 2]) (vs := [(.slice none 0 0)]) (.slice none 0 0) hE Tryd.func41 rfl rfl rfl (res_cons (ResV.tmp rfl) res_nil) (IntRow.nil .u8 M)
  · replace c2 := Bool.eq_false_iff.mpr c2
    refine TT.cond_false (x := sub [1, 0, 1, 0] B41) (y := sub [1, 0, 1, 1] B41) rfl c2 ?_
    refine TT.skip ?_
    refine TT.seq (x := sub [1, 1, 0] B41) (y := sub [1, 1, 1] B41) ?_
    refine TT.region (id := 3) (n := 4) (ops := (opsOf (sub [1, 1, 0] B41))) [(.alloc, none), (.pure, none), (.actx, none), (.pure, none)] rfl ?_
    show DL _ _ _ _ _ _ _ _ _ _ [0, 1, 2, 3] _ _
    refine DL.new0I .u8 (i := 0) rfl (Wn.none rfl) rfl rfl rfl (f_build0 elem23 rfl (args_val2 (vs := []) rfl)) ?_
    intro s5_v s5_c ho_s5
    refine DL.pu 6 (a0_v) rfl (p_move rfl rfl) ?_
    obtain ⟨g6, h7⟩ := req_some h
    refine DL.appendI (fun s8_v s8_c => [(Value.ownBlock s8_v, .cells s8_c 5 (0, 0))]) elem23 (j := 0) rfl ho_s5 g6 (by decide) (fun w2 hc => RowV.src (RowV.mono hr_a0 (fun b o e => hc.imm b o (hE.base b o e))) (encl_one _ _)) (i := 2) rfl (Wn.none rfl) rfl rfl rfl rfl rfl rfl (fun _ _ => rfl) ?_
    intro s8_v s8_c ho_s8
    show DL _ _ _ _ _ _ _ _ _ _ _ _ [(Value.ownBlock s8_v, .cells s8_c 5 (0, 0))]
    refine DL.pu 2 (s8_v) rfl (p_assign rfl rfl) ?_
    refine DL.nil ?_
    refine TT.freezeAt (j := 0) hE rfl ?_
    intro M9 I9 hE9 hx9 hxI9 hb9
    have hr_9 : IntRow M9 .u8 s8_v (([] : List Int) ++ a0) := IntOwn.stays ho_s8 hb9
    show TT _ _ _ _ _ _ _ _ []
    obtain rfl := Option.some.inj h7
    exact retF (rs := [.tmp 2]) (vs := [s8_v]) s8_v hE9 Tryd.func41 rfl rfl rfl (res_cons (ResV.tmp rfl) res_nil) hr_9
set_option maxRecDepth 20000 in
theorem slices_Clone_42.okX {a0 : List Int} {a0_v : Value} {r : List Int} (h : slices_Clone_42.f a0 = some r) {M : Mem} (w : World) (hM : Ext M (heapOf w)) (hr_a0 : IntRow (heapOf w) .u64 a0_v a0) : Calls Tryd.prog 42 #[a0_v] w (PostF (G := Value) (fun g => g) (fun g M_ => (IntRow M_ .u64 g r)) M w) := by
  unfold slices_Clone_42.f at h
  have hE := Env.start hM
  refine calls_of_TT (N := 8) (S := [(0, a0_v)]) (c := B42) Tryd.func42 rfl rfl rfl (by simp) ?_
  show TT _ _ _ _ _ _ [.code (sub [] B42)] _ _
  refine TT.seq (x := sub [0] B42) (y := sub [1] B42) ?_
  refine TT.region (id := 0) (n := 1) (ops := (opsOf (sub [0] B42))) [(.pure, none)] rfl ?_
  show DL _ _ _ _ _ _ _ _ _ _ [0] _ _
  refine DL.pu 2 (.slice none 0 0) rfl (p_assign rfl rfl) ?_
  refine DL.nil ?_
  refine TT.seq (x := sub [1, 0] B42) (y := sub [1, 1] B42) ?_
  refine TT.seq (x := sub [1, 0, 0] B42) (y := sub [1, 0, 1] B42) ?_
  refine TT.region (id := 1) (n := 2) (ops := (opsOf (sub [1, 0, 0] B42))) [(.pure, none), (.pure, none)] rfl ?_
  show DL _ _ _ _ _ _ _ _ _ _ [0, 1] _ _
  refine DL.pu 3 (a0_v) rfl (p_move rfl rfl) ?_
  obtain ⟨an1, cn1, hvn1⟩ := RowV.sl hr_a0
  refine DL.pu 4 (.bool an1.isNone) rfl (p_sliceNil ty_us24 hvn1 rfl rfl rfl) ?_
  refine DL.nil ?_
  by_cases c2 : an1.isNone = true
  · have x3 : a0 = [] := row_isNil hr_a0 hvn1 c2
    refine TT.cond_true (x := sub [1, 0, 1, 0] B42) (y := sub [1, 0, 1, 1] B42) rfl c2 ?_
    refine TT.seq (x := sub [1, 0, 1, 0, 0] B42) (y := sub [1, 0, 1, 0, 1] B42) ?_
    refine TT.region (id := 2) (n := 1) (ops := (opsOf (sub [1, 0, 1, 0, 0] B42))) [(.pure, none)] rfl ?_
    show DL _ _ _ _ _ _ _ _ _ _ [0] _ _
    refine DL.pu 2 (.slice none 0 0) rfl (p_assign rfl rfl) ?_
    refine DL.nil ?_
    have hr0 : r = [] := by simpa [x3, req] using h.symm
    subst hr0
    exact retF (rs := [.tmp 2]) (vs := [(.slice none 0 0)]) (.slice none 0 0) hE Tryd.func42 rfl rfl rfl (res_cons (ResV.tmp rfl) res_nil) (IntRow.nil .u64 M)
  · replace c2 := Bool.eq_false_iff.mpr c2
    refine TT.cond_false (x := sub [1, 0, 1, 0] B42) (y := sub [1, 0, 1, 1] B42) rfl c2 ?_
    refine TT.skip ?_
    refine TT.seq (x := sub [1, 1, 0] B42) (y := sub [1, 1, 1] B42) ?_
    refine TT.region (id := 3) (n := 4) (ops := (opsOf (sub [1, 1, 0] B42))) [(.alloc, none), (.pure, none), (.actx, none), (.pure, none)] rfl ?_
    show DL _ _ _ _ _ _ _ _ _ _ [0, 1, 2, 3] _ _
    refine DL.new0I .u64 (i := 0) rfl (Wn.none rfl) rfl rfl rfl (f_build0 elem24 rfl (args_val2 (vs := []) rfl)) ?_
    intro s5_v s5_c ho_s5
    refine DL.pu 6 (a0_v) rfl (p_move rfl rfl) ?_
    obtain ⟨g6, h7⟩ := req_some h
    refine DL.appendI (fun s8_v s8_c => [(Value.ownBlock s8_v, .cells s8_c 50 (0, 0))]) elem24 (j := 0) rfl ho_s5 g6 (by decide) (fun w2 hc => RowV.src (RowV.mono hr_a0 (fun b o e => hc.imm b o (hE.base b o e))) (encl_one _ _)) (i := 2) rfl (Wn.none rfl) rfl rfl rfl rfl rfl rfl (fun _ _ => rfl) ?_
    intro s8_v s8_c ho_s8
    show DL _ _ _ _ _ _ _ _ _ _ _ _ [(Value.ownBlock s8_v, .cells s8_c 50 (0, 0))]
    refine DL.pu 2 (s8_v) rfl (p_assign rfl rfl) ?_
    refine DL.nil ?_
    refine TT.freezeAt (j := 0) hE rfl ?_
    intro M9 I9 hE9 hx9 hxI9 hb9
    have hr_9 : IntRow M9 .u64 s8_v (([] : List Int) ++ a0) := IntOwn.stays ho_s8 hb9
    show TT _ _ _ _ _ _ _ _ []
    obtain rfl := Option.some.inj h7
    exact retF (rs := [.tmp 2]) (vs := [s8_v]) s8_v hE9 Tryd.func42 rfl rfl rfl (res_cons (ResV.tmp rfl) res_nil) hr_9
set_option maxRecDepth 20000 in
theorem slices_Clone_40.okX {a0 : List Der} {a0_v : Value} {r : List Der} (h : slices_Clone_40.f a0 = some r) {M : Mem} (w : World) (hM : Ext M (heapOf w)) (hr_a0 : RowX ShDer M (heapOf w) a0_v a0) : Calls Tryd.prog 40 #[a0_v] w (PostF (G := Value) (fun g => g) (fun g M_ => (RowS ShDer M_ g r)) M w) := by
  unfold slices_Clone_40.f at h
  have hE := Env.start hM
  refine calls_of_TT (N := 8) (S := [(0, a0_v)]) (c := B40) Tryd.func40 rfl rfl rfl (by simp) ?_
  show TT _ _ _ _ _ _ [.code (sub [] B40)] _ _
  refine TT.seq (x := sub [0] B40) (y := sub [1] B40) ?_
  refine TT.region (id := 0) (n := 1) (ops := (opsOf (sub [0] B40))) [(.pure, none)] rfl ?_
  show DL _ _ _ _ _ _ _ _ _ _ [0] _ _
  refine DL.pu 2 (.slice none 0 0) rfl (p_assign rfl rfl) ?_
  refine DL.nil ?_
  refine TT.seq (x := sub [1, 0] B40) (y := sub [1, 1] B40) ?_
  refine TT.seq (x := sub [1, 0, 0] B40) (y := sub [1, 0, 1] B40) ?_
  refine TT.region (id := 1) (n := 2) (ops := (opsOf (sub [1, 0, 0] B40))) [(.pure, none), (.pure, none)] rfl ?_
  show DL _ _ _ _ _ _ _ _ _ _ [0, 1] _ _
  refine DL.pu 3 (a0_v) rfl (p_move rfl rfl) ?_
  obtain ⟨an1, cn1, hvn1⟩ := RowX.sl hr_a0
  refine DL.pu 4 (.bool an1.isNone) rfl (p_sliceNil ty_us25 hvn1 rfl rfl rfl) ?_
  refine DL.nil ?_
  by_cases c2 : an1.isNone = true
  · have x3 : a0 = [] := row_isNil (RowX.V hr_a0).choose_spec hvn1 c2
    refine TT.cond_true (x := sub [1, 0, 1, 0] B40) (y := sub [1, 0, 1, 1] B40) rfl c2 ?_
    refine TT.seq (x := sub [1, 0, 1, 0, 0] B40) (y := sub [1, 0, 1, 0, 1] B40) ?_
    refine TT.region (id := 2) (n := 1) (ops := (opsOf (sub [1, 0, 1, 0, 0] B40))) [(.pure, none)] rfl ?_
    show DL _ _ _ _ _ _ _ _ _ _ [0] _ _
    refine DL.pu 2 (.slice none 0 0) rfl (p_assign rfl rfl) ?_
    refine DL.nil ?_
    have hr0 : r = [] := by simpa [x3, req] using h.symm
    subst hr0
    exact retF (rs := [.tmp 2]) (vs := [(.slice none 0 0)]) (.slice none 0 0) hE Tryd.func40 rfl rfl rfl (res_cons (ResV.tmp rfl) res_nil) (RowS.nil ShDer M)
  · replace c2 := Bool.eq_false_iff.mpr c2
    refine TT.cond_false (x := sub [1, 0, 1, 0] B40) (y := sub [1, 0, 1, 1] B40) rfl c2 ?_
    refine TT.skip ?_
    refine TT.seq (x := sub [1, 1, 0] B40) (y := sub [1, 1, 1] B40) ?_
    refine TT.region (id := 3) (n := 4) (ops := (opsOf (sub [1, 1, 0] B40))) [(.alloc, none), (.pure, none), (.actx, none), (.pure, none)] rfl ?_
    show DL _ _ _ _ _ _ _ _ _ _ [0, 1, 2, 3] _ _
    refine DL.new0 (M := M) (s := ShDer) (i := 0) rfl (Wn.none rfl) rfl rfl rfl (f_build0 elem25 rfl (args_val2 (vs := []) rfl)) ?_
    intro s5_v s5_c ho_s5
    refine DL.pu 6 (a0_v) rfl (p_move rfl rfl) ?_
    obtain ⟨g6, h7⟩ := req_some h
    refine DL.appendS (M := M) (s := ShDer) (fun s8_v s8_c => [(Value.ownBlock s8_v, .cells s8_c 27 (0, 0))]) elem25 (j := 0) rfl ho_s5 g6 (by decide) (RowX.srcC hr_a0 (fun w2 hc b o e => hc.imm b o (hE.base b o e))) (i := 2) rfl (Wn.none rfl) rfl rfl rfl rfl rfl rfl (fun _ _ => rfl) ?_
    intro s8_v s8_c ho_s8
    show DL _ _ _ _ _ _ _ _ _ _ _ _ [(Value.ownBlock s8_v, .cells s8_c 27 (0, 0))]
    refine DL.pu 2 (s8_v) rfl (p_assign rfl rfl) ?_
    refine DL.nil ?_
    refine TT.freezeAt (j := 0) hE rfl ?_
    intro M9 I9 hE9 hx9 hxI9 hb9
    have hr_9 : RowS ShDer M9 s8_v (([] : List Der) ++ a0) := OwnS.stays ho_s8 hx9 hb9
    show TT _ _ _ _ _ _ _ _ []
    obtain rfl := Option.some.inj h7
    exact retF (rs := [.tmp 2]) (vs := [s8_v]) s8_v hE9 Tryd.func40 rfl rfl rfl (res_cons (ResV.tmp rfl) res_nil) hr_9
set_option maxRecDepth 20000 in
theorem der_Octets.okX {a0 : List Int} {a0_v : Value} {r : Der} (h : der_Octets.f a0 = some r) {M : Mem} (w : World) (hM : Ext M (heapOf w)) (hr_a0 : IntRow (heapOf w) .u8 a0_v a0) : Calls Tryd.prog 23 #[a0_v] w (PostF (G := Value × Value × Value) (fun g => .agg #[.int .i64 (Der.kind r), .bool (Der.flag r), .int .i64 (Der.num r), (g.1), str (Der.text r), (g.2.1), (g.2.2)]) (fun g M_ => (IntRow M_ .u8 (g.1) (Der.bytes r)) ∧ (IntRow M_ .u64 (g.2.1) (Der.arcs r)) ∧ (RowS ShDer M_ (g.2.2) (Tree.kids r))) M w) := by
  unfold der_Octets.f at h
  have hE := Env.start hM
  refine calls_of_TT (N := 6) (S := [(0, a0_v)]) (c := B23) Tryd.func23 rfl rfl rfl (by simp) ?_
  show TT _ _ _ _ _ _ [.code (sub [] B23)] _ _
  refine TT.seq (x := sub [0] B23) (y := sub [1] B23) ?_
  refine TT.region (id := 0) (n := 1) (ops := (opsOf (sub [0] B23))) [(.alloc, none)] rfl ?_
  show DL _ _ _ _ _ _ _ _ _ _ [0] _ _
  refine DL.new (ob := .cells (#[.int .i64 0, .bool false, .int .i64 0, (.slice none 0 0), str ([] : List UInt8), (.slice none 0 0), (.slice none 0 0)]) 27) (mk := fun b => ptr b 0) (i := 0) rfl (Wn.none rfl) rfl rfl rfl (f_alloc ty_z27 rfl) ?_
  intro b1 hb1
  refine DL.nil ?_
  refine TT.seq (x := sub [1, 0] B23) (y := sub [1, 1] B23) ?_
  refine TT.region (id := 1) (n := 4) (ops := (opsOf (sub [1, 0] B23))) [(.pure, none), (.keep, none), (.pure, none), (.store, none)] rfl ?_
  show DL _ _ _ _ _ _ _ _ _ _ [0, 1, 2, 3] _ _
  refine DL.pu 3 (a0_v) rfl (p_move rfl rfl) ?_
  obtain ⟨t2, h3, h4⟩ := bind_some h
  refine DL.callF (G := Value) (u := fun g => g) (Q := fun g M_ => (IntRow M_ .u8 g t2)) (A := [(some b1, .cells (#[.int .i64 0, .bool false, .int .i64 0, (.slice none 0 0), str ([] : List UInt8), (.slice none 0 0), (.slice none 0 0)]) 27 (0, 0))]) (J := []) (fun J5 => ((some b1, .cells (#[.int .i64 0, .bool false, .int .i64 0, (.slice none 0 0), str ([] : List UInt8), (.slice none 0 0), (.slice none 0 0)]) 27 (0, 0)) :: J5)) (Nat.le_refl _) hE.nil (List.append_nil _).symm (fun _ => rfl) (by simp) (i := 1) rfl (Wn.none rfl) rfl rfl rfl rfl rfl rfl (args_val (vs := [a0_v]) rfl) (fun w => enter41 _ w) (fun w2 hc hI => slices_Clone_41.okX h3 (M := M) w2 hI (RowV.mono hr_a0 (fun b o e => hc.imm b o e))) ?_
  rintro t2_v M5 J5 hE5 hx5 hr_t2
  show DL _ _ _ _ _ _ _ _ _ _ _ _ ((some b1, .cells (#[.int .i64 0, .bool false, .int .i64 0, (.slice none 0 0), str ([] : List UInt8), (.slice none 0 0), (.slice none 0 0)]) 27 (0, 0)) :: J5)
  refine DL.pu 5 (.agg #[.int .i64 4, .bool false, .int .i64 0, t2_v, str ([] : List UInt8), (.slice none 0 0), (.slice none 0 0)]) rfl (p_build (vs := [(0, .int .i64 4), (3, t2_v)]) (fun w => by obtain ⟨_, _, e_⟩ := RowV.sl hr_t2; subst e_; kernel_rfl) rfl rfl) ?_
  refine DL.put (H' := ((some b1, .cells (#[.int .i64 4, .bool false, .int .i64 0, t2_v, str ([] : List UInt8), (.slice none 0 0), (.slice none 0 0)]) 27 (0, 0)) :: J5)) (i := 3) rfl (Wn.none rfl) rfl rfl (f_storeA (j := 0) ty_s27 rfl rfl rfl (one_cons trivial (one_cons trivial (one_cons trivial (one_cons (sl_one (RowV.sl hr_t2)) (one_cons trivial (one_cons (sl_one (RowV.sl (IntRow.nil .u64 M5))) (one_cons (sl_one (RowS.sl (RowS.nil ShDer M5))) one_nil))))))) rfl rfl rfl) (keep_none rfl) ?_
  refine DL.nil ?_
  refine TT.settle (A := [(some b1, .cells (#[.int .i64 4, .bool false, .int .i64 0, t2_v, str ([] : List UInt8), (.slice none 0 0), (.slice none 0 0)]) 27 (0, 0))]) (J := J5) hE5 ?_
  intro I6 hE6 hxI6
  obtain rfl := Option.some.inj h4
  exact retF (rs := [.cell 2 27]) (vs := [.agg #[.int .i64 4, .bool false, .int .i64 0, t2_v, str ([] : List UInt8), (.slice none 0 0), (.slice none 0 0)]]) (t2_v, (.slice none 0 0), (.slice none 0 0)) hE6 Tryd.func23 rfl rfl rfl (res_cons (ResV.cell (j := 0) ty_a27 ty_s27 rfl rfl rfl) res_nil) ⟨hr_t2, (IntRow.nil .u64 M5), (RowS.nil ShDer M5)⟩
set_option maxRecDepth 20000 in
theorem der_Bits.okX {a0 : List Int} {a0_v : Value} {r : Der} (h : der_Bits.f a0 = some r) {M : Mem} (w : World) (hM : Ext M (heapOf w)) (hr_a0 : IntRow (heapOf w) .u8 a0_v a0) : Calls Tryd.prog 29 #[a0_v] w (PostF (G := Value × Value × Value) (fun g => .agg #[.int .i64 (Der.kind r), .bool (Der.flag r), .int .i64 (Der.num r), (g.1), str (Der.text r), (g.2.1), (g.2.2)]) (fun g M_ => (IntRow M_ .u8 (g.1) (Der.bytes r)) ∧ (IntRow M_ .u64 (g.2.1) (Der.arcs r)) ∧ (RowS ShDer M_ (g.2.2) (Tree.kids r))) M w) := by
  unfold der_Bits.f at h
  have hE := Env.start hM
  refine calls_of_TT (N := 6) (S := [(0, a0_v)]) (c := B29) Tryd.func29 rfl rfl rfl (by simp) ?_
  show TT _ _ _ _ _ _ [.code (sub [] B29)] _ _
  refine TT.seq (x := sub [0] B29) (y := sub [1] B29) ?_
  refine TT.region (id := 0) (n := 1) (ops := (opsOf (sub [0] B29))) [(.alloc, none)] rfl ?_
  show DL _ _ _ _ _ _ _ _ _ _ [0] _ _
  refine DL.new (ob := .cells (#[.int .i64 0, .bool false, .int .i64 0, (.slice none 0 0), str ([] : List UInt8), (.slice none 0 0), (.slice none 0 0)]) 27) (mk := fun b => ptr b 0) (i := 0) rfl (Wn.none rfl) rfl rfl rfl (f_alloc ty_z27 rfl) ?_
  intro b1 hb1
  refine DL.nil ?_
  refine TT.seq (x := sub [1, 0] B29) (y := sub [1, 1] B29) ?_
  refine TT.region (id := 1) (n := 4) (ops := (opsOf (sub [1, 0] B29))) [(.pure, none), (.keep, none), (.pure, none), (.store, none)] rfl ?_
  show DL _ _ _ _ _ _ _ _ _ _ [0, 1, 2, 3] _ _
  refine DL.pu 3 (a0_v) rfl (p_move rfl rfl) ?_
  obtain ⟨t2, h3, h4⟩ := bind_some h
  refine DL.callF (G := Value) (u := fun g => g) (Q := fun g M_ => (IntRow M_ .u8 g t2)) (A := [(some b1, .cells (#[.int .i64 0, .bool false, .int .i64 0, (.slice none 0 0), str ([] : List UInt8), (.slice none 0 0), (.slice none 0 0)]) 27 (0, 0))]) (J := []) (fun J5 => ((some b1, .cells (#[.int .i64 0, .bool false, .int .i64 0, (.slice none 0 0), str ([] : List UInt8), (.slice none 0 0), (.slice none 0 0)]) 27 (0, 0)) :: J5)) (Nat.le_refl _) hE.nil (List.append_nil _).symm (fun _ => rfl) (by simp) (i := 1) rfl (Wn.none rfl) rfl rfl rfl rfl rfl rfl (args_val (vs := [a0_v]) rfl) (fun w => enter41 _ w) (fun w2 hc hI => slices_Clone_41.okX h3 (M := M) w2 hI (RowV.mono hr_a0 (fun b o e => hc.imm b o e))) ?_
  rintro t2_v M5 J5 hE5 hx5 hr_t2
  show DL _ _ _ _ _ _ _ _ _ _ _ _ ((some b1, .cells (#[.int .i64 0, .bool false, .int .i64 0, (.slice none 0 0), str ([] : List UInt8), (.slice none 0 0), (.slice none 0 0)]) 27 (0, 0)) :: J5)
  refine DL.pu 5 (.agg #[.int .i64 3, .bool false, .int .i64 0, t2_v, str ([] : List UInt8), (.slice none 0 0), (.slice none 0 0)]) rfl (p_build (vs := [(0, .int .i64 3), (3, t2_v)]) (fun w => by obtain ⟨_, _, e_⟩ := RowV.sl hr_t2; subst e_; kernel_rfl) rfl rfl) ?_
  refine DL.put (H' := ((some b1, .cells (#[.int .i64 3, .bool false, .int .i64 0, t2_v, str ([] : List UInt8), (.slice none 0 0), (.slice none 0 0)]) 27 (0, 0)) :: J5)) (i := 3) rfl (Wn.none rfl) rfl rfl (f_storeA (j := 0) ty_s27 rfl rfl rfl (one_cons trivial (one_cons trivial (one_cons trivial (one_cons (sl_one (RowV.sl hr_t2)) (one_cons trivial (one_cons (sl_one (RowV.sl (IntRow.nil .u64 M5))) (one_cons (sl_one (RowS.sl (RowS.nil ShDer M5))) one_nil))))))) rfl rfl rfl) (keep_none rfl) ?_
  refine DL.nil ?_
  refine TT.settle (A := [(some b1, .cells (#[.int .i64 3, .bool false, .int .i64 0, t2_v, str ([] : List UInt8), (.slice none 0 0), (.slice none 0 0)]) 27 (0, 0))]) (J := J5) hE5 ?_
  intro I6 hE6 hxI6
  obtain rfl := Option.some.inj h4
  exact retF (rs := [.cell 2 27]) (vs := [.agg #[.int .i64 3, .bool false, .int .i64 0, t2_v, str ([] : List UInt8), (.slice none 0 0), (.slice none 0 0)]]) (t2_v, (.slice none 0 0), (.slice none 0 0)) hE6 Tryd.func29 rfl rfl rfl (res_cons (ResV.cell (j := 0) ty_a27 ty_s27 rfl rfl rfl) res_nil) ⟨hr_t2, (IntRow.nil .u64 M5), (RowS.nil ShDer M5)⟩
set_option maxRecDepth 20000 in
theorem der_Oid.okX {a0 : List Int} {a0_v : Value} {r : Der} (h : der_Oid.f a0 = some r) {M : Mem} (w : World) (hM : Ext M (heapOf w)) (hr_a0 : IntRow (heapOf w) .u64 a0_v a0) : Calls Tryd.prog 24 #[a0_v] w (PostF (G := Value × Value × Value) (fun g => .agg #[.int .i64 (Der.kind r), .bool (Der.flag r), .int .i64 (Der.num r), (g.1), str (Der.text r), (g.2.1), (g.2.2)]) (fun g M_ => (IntRow M_ .u8 (g.1) (Der.bytes r)) ∧ (IntRow M_ .u64 (g.2.1) (Der.arcs r)) ∧ (RowS ShDer M_ (g.2.2) (Tree.kids r))) M w) := by
  unfold der_Oid.f at h
  have hE := Env.start hM
  refine calls_of_TT (N := 6) (S := [(0, a0_v)]) (c := B24) Tryd.func24 rfl rfl rfl (by simp) ?_
  show TT _ _ _ _ _ _ [.code (sub [] B24)] _ _
  refine TT.seq (x := sub [0] B24) (y := sub [1] B24) ?_
  refine TT.region (id := 0) (n := 1) (ops := (opsOf (sub [0] B24))) [(.alloc, none)] rfl ?_
  show DL _ _ _ _ _ _ _ _ _ _ [0] _ _
  refine DL.new (ob := .cells (#[.int .i64 0, .bool false, .int .i64 0, (.slice none 0 0), str ([] : List UInt8), (.slice none 0 0), (.slice none 0 0)]) 27) (mk := fun b => ptr b 0) (i := 0) rfl (Wn.none rfl) rfl rfl rfl (f_alloc ty_z27 rfl) ?_
  intro b1 hb1
  refine DL.nil ?_
  refine TT.seq (x := sub [1, 0] B24) (y := sub [1, 1] B24) ?_
  refine TT.region (id := 1) (n := 4) (ops := (opsOf (sub [1, 0] B24))) [(.pure, none), (.keep, none), (.pure, none), (.store, none)] rfl ?_
  show DL _ _ _ _ _ _ _ _ _ _ [0, 1, 2, 3] _ _
  refine DL.pu 3 (a0_v) rfl (p_move rfl rfl) ?_
  obtain ⟨t2, h3, h4⟩ := bind_some h
  refine DL.callF (G := Value) (u := fun g => g) (Q := fun g M_ => (IntRow M_ .u64 g t2)) (A := [(some b1, .cells (#[.int .i64 0, .bool false, .int .i64 0, (.slice none 0 0), str ([] : List UInt8), (.slice none 0 0), (.slice none 0 0)]) 27 (0, 0))]) (J := []) (fun J5 => ((some b1, .cells (#[.int .i64 0, .bool false, .int .i64 0, (.slice none 0 0), str ([] : List UInt8), (.slice none 0 0), (.slice none 0 0)]) 27 (0, 0)) :: J5)) (Nat.le_refl _) hE.nil (List.append_nil _).symm (fun _ => rfl) (by simp) (i := 1) rfl (Wn.none rfl) rfl rfl rfl rfl rfl rfl (args_val (vs := [a0_v]) rfl) (fun w => enter42 _ w) (fun w2 hc hI => slices_Clone_42.okX h3 (M := M) w2 hI (RowV.mono hr_a0 (fun b o e => hc.imm b o e))) ?_
  rintro t2_v M5 J5 hE5 hx5 hr_t2
  show DL _ _ _ _ _ _ _ _ _ _ _ _ ((some b1, .cells (#[.int .i64 0, .bool false, .int .i64 0, (.slice none 0 0), str ([] : List UInt8), (.slice none 0 0), (.slice none 0 0)]) 27 (0, 0)) :: J5)
  refine DL.pu 5 (.agg #[.int .i64 5, .bool false, .int .i64 0, (.slice none 0 0), str ([] : List UInt8), t2_v, (.slice none 0 0)]) rfl (p_build (vs := [(0, .int .i64 5), (5, t2_v)]) (fun w => by obtain ⟨_, _, e_⟩ := RowV.sl hr_t2; subst e_; kernel_rfl) rfl rfl) ?_
  refine DL.put (H' := ((some b1, .cells (#[.int .i64 5, .bool false, .int .i64 0, (.slice none 0 0), str ([] : List UInt8), t2_v, (.slice none 0 0)]) 27 (0, 0)) :: J5)) (i := 3) rfl (Wn.none rfl) rfl rfl (f_storeA (j := 0) ty_s27 rfl rfl rfl (one_cons trivial (one_cons trivial (one_cons trivial (one_cons (sl_one (RowV.sl (IntRow.nil .u8 M5))) (one_cons trivial (one_cons (sl_one (RowV.sl hr_t2)) (one_cons (sl_one (RowS.sl (RowS.nil ShDer M5))) one_nil))))))) rfl rfl rfl) (keep_none rfl) ?_
  refine DL.nil ?_
  refine TT.settle (A := [(some b1, .cells (#[.int .i64 5, .bool false, .int .i64 0, (.slice none 0 0), str ([] : List UInt8), t2_v, (.slice none 0 0)]) 27 (0, 0))]) (J := J5) hE5 ?_
  intro I6 hE6 hxI6
  obtain rfl := Option.some.inj h4
  exact retF (rs := [.cell 2 27]) (vs := [.agg #[.int .i64 5, .bool false, .int .i64 0, (.slice none 0 0), str ([] : List UInt8), t2_v, (.slice none 0 0)]]) ((.slice none 0 0), t2_v, (.slice none 0 0)) hE6 Tryd.func24 rfl rfl rfl (res_cons (ResV.cell (j := 0) ty_a27 ty_s27 rfl rfl rfl) res_nil) ⟨(IntRow.nil .u8 M5), hr_t2, (RowS.nil ShDer M5)⟩
set_option maxRecDepth 20000 in
theorem der_Seq.okX {a0 : List Der} {a0_v : Value} {r : Der} (h : der_Seq.f a0 = some r) {M : Mem} (w : World) (hM : Ext M (heapOf w)) (hr_a0 : RowX ShDer M (heapOf w) a0_v a0) : Calls Tryd.prog 22 #[a0_v] w (PostF (G := Value × Value × Value) (fun g => .agg #[.int .i64 (Der.kind r), .bool (Der.flag r), .int .i64 (Der.num r), (g.1), str (Der.text r), (g.2.1), (g.2.2)]) (fun g M_ => (IntRow M_ .u8 (g.1) (Der.bytes r)) ∧ (IntRow M_ .u64 (g.2.1) (Der.arcs r)) ∧ (RowS ShDer M_ (g.2.2) (Tree.kids r))) M w) := by
  unfold der_Seq.f at h
  have hE := Env.start hM
  refine calls_of_TT (N := 6) (S := [(0, a0_v)]) (c := B22) Tryd.func22 rfl rfl rfl (by simp) ?_
  show TT _ _ _ _ _ _ [.code (sub [] B22)] _ _
  refine TT.seq (x := sub [0] B22) (y := sub [1] B22) ?_
  refine TT.region (id := 0) (n := 1) (ops := (opsOf (sub [0] B22))) [(.alloc, none)] rfl ?_
  show DL _ _ _ _ _ _ _ _ _ _ [0] _ _
  refine DL.new (ob := .cells (#[.int .i64 0, .bool false, .int .i64 0, (.slice none 0 0), str ([] : List UInt8), (.slice none 0 0), (.slice none 0 0)]) 27) (mk := fun b => ptr b 0) (i := 0) rfl (Wn.none rfl) rfl rfl rfl (f_alloc ty_z27 rfl) ?_
  intro b1 hb1
  refine DL.nil ?_
  refine TT.seq (x := sub [1, 0] B22) (y := sub [1, 1] B22) ?_
  refine TT.region (id := 1) (n := 4) (ops := (opsOf (sub [1, 0] B22))) [(.pure, none), (.keep, none), (.pure, none), (.store, none)] rfl ?_
  show DL _ _ _ _ _ _ _ _ _ _ [0, 1, 2, 3] _ _
  refine DL.pu 3 (a0_v) rfl (p_move rfl rfl) ?_
  obtain ⟨t2, h3, h4⟩ := bind_some h
  refine DL.callF (G := Value) (u := fun g => g) (Q := fun g M_ => (RowS ShDer M_ g t2)) (A := [(some b1, .cells (#[.int .i64 0, .bool false, .int .i64 0, (.slice none 0 0), str ([] : List UInt8), (.slice none 0 0), (.slice none 0 0)]) 27 (0, 0))]) (J := []) (fun J5 => ((some b1, .cells (#[.int .i64 0, .bool false, .int .i64 0, (.slice none 0 0), str ([] : List UInt8), (.slice none 0 0), (.slice none 0 0)]) 27 (0, 0)) :: J5)) (Nat.le_refl _) hE.nil (List.append_nil _).symm (fun _ => rfl) (by simp) (i := 1) rfl (Wn.none rfl) rfl rfl rfl rfl rfl rfl (args_val (vs := [a0_v]) rfl) (fun w => enter40 _ w) (fun w2 hc hI => slices_Clone_40.okX h3 (M := M) w2 hI (RowX.mono hr_a0 (fun b o e => hc.imm b o e))) ?_
  rintro t2_v M5 J5 hE5 hx5 hr_t2
  show DL _ _ _ _ _ _ _ _ _ _ _ _ ((some b1, .cells (#[.int .i64 0, .bool false, .int .i64 0, (.slice none 0 0), str ([] : List UInt8), (.slice none 0 0), (.slice none 0 0)]) 27 (0, 0)) :: J5)
  refine DL.pu 5 (.agg #[.int .i64 7, .bool false, .int .i64 0, (.slice none 0 0), str ([] : List UInt8), (.slice none 0 0), t2_v]) rfl (p_build (vs := [(0, .int .i64 7), (6, t2_v)]) (fun w => by obtain ⟨_, _, e_⟩ := RowS.sl hr_t2; subst e_; kernel_rfl) rfl rfl) ?_
  refine DL.put (H' := ((some b1, .cells (#[.int .i64 7, .bool false, .int .i64 0, (.slice none 0 0), str ([] : List UInt8), (.slice none 0 0), t2_v]) 27 (0, 0)) :: J5)) (i := 3) rfl (Wn.none rfl) rfl rfl (f_storeA (j := 0) ty_s27 rfl rfl rfl (one_cons trivial (one_cons trivial (one_cons trivial (one_cons (sl_one (RowV.sl (IntRow.nil .u8 M5))) (one_cons trivial (one_cons (sl_one (RowV.sl (IntRow.nil .u64 M5))) (one_cons (sl_one (RowS.sl hr_t2)) one_nil))))))) rfl rfl rfl) (keep_none rfl) ?_
  refine DL.nil ?_
  refine TT.settle (A := [(some b1, .cells (#[.int .i64 7, .bool false, .int .i64 0, (.slice none 0 0), str ([] : List UInt8), (.slice none 0 0), t2_v]) 27 (0, 0))]) (J := J5) hE5 ?_
  intro I6 hE6 hxI6
  obtain rfl := Option.some.inj h4
  exact retF (rs := [.cell 2 27]) (vs := [.agg #[.int .i64 7, .bool false, .int .i64 0, (.slice none 0 0), str ([] : List UInt8), (.slice none 0 0), t2_v]]) ((.slice none 0 0), (.slice none 0 0), t2_v) hE6 Tryd.func22 rfl rfl rfl (res_cons (ResV.cell (j := 0) ty_a27 ty_s27 rfl rfl rfl) res_nil) ⟨(IntRow.nil .u8 M5), (IntRow.nil .u64 M5), hr_t2⟩
end Go.Proofs.YtjhknfpociahoaaDoor
