import Derived.Test.YthldgjbmjgjogaaGreatDoorSb2
namespace Go.Proofs.YthldgjbmjgjogaaGreatDoor
open Go Go.HW Go.RowKit
set_option linter.unusedVariables false
set_option linter.unusedSimpArgs false
set_option maxRecDepth 20000

/-! ### closures that turn a captured box -/
theorem i_conv {M I' : Mem} {P : Program} {o : Oper} {S : Slots} {w0 : World} {H : Heap} {v : Value} (hM : Ext M I') (h : FImm P o I' S v) : FQuiet P o w0 I' S H v := fun ρ hρ w hc => .inl (h ρ hρ w hc.imm)

noncomputable def B135 : Code := bodyOf Tryz.f135
theorem fb135 {M : Mem} {cb bb : Nat} {c b : Cmd} {dc db : Value} (hc : M cb = some (.cells (Cmd.ce c dc) 33 (0, 0))) : TurnM Tryz.prog M 135 #[ptr cb 0, ptr bb 0] [(some bb, .cells (Cmd.ce b db) 33 (0, 0))] (fun _ : Unit => .tuple #[]) (fun _ => [(some bb, .cells (Cmd.ce { b with handle := c.handle } db) 33 (0, 0))]) := fun I' hM w0 w hcl => by
  refine calls_of_TTG (N := 5) (S := [(0, ptr cb 0), (1, ptr bb 0)]) (b := B135) hcl Tryz.func135 rfl rfl rfl (by simp) ?_
  show TT _ _ _ _ _ _ [.code (sub [] B135)] _ _
  refine TT.region (id := 0) (n := 4) (ops := opsOf (sub [] B135)) [(.pure, none), (.quiet, none), (.pure, none), (.store, none)] rfl ?_
  show DL _ _ _ _ _ _ _ _ _ _ [0, 1, 2, 3] _ _
  refine DL.pu 2 (ptr cb 2) rfl (p_fieldAddr (off := 0) (n := 2) (fun a w => by kernel_rfl) rfl rfl) ?_
  refine DL.qu 3 (.int .u32 c.handle) rfl (i_conv hM (i_loadBoxO (hM _ _ hc) rfl (fun w => by kernel_rfl) rfl rfl)) ?_
  refine DL.pu 4 (ptr bb 2) rfl (p_fieldAddr (off := 0) (n := 2) (fun a w => by kernel_rfl) rfl rfl) ?_
  refine DL.put (H' := [(some bb, .cells (Cmd.ce { b with handle := c.handle } db) 33 (0, 0))]) (i := 3) rfl (Wn.none rfl) rfl rfl (f_store (c := Cmd.ce b db) (off := 2) (j := 0) (fun w => by kernel_rfl) rfl rfl (of_decide_eq_true rfl) trivial rfl rfl rfl) (keep_none rfl) ?_
  refine DL.nil ?_
  exact endR (rs := []) (vs := []) Tryz.func135 rfl rfl rfl res_nil fun w hc => ⟨(), rfl, hc⟩

noncomputable def B136 : Code := bodyOf Tryz.f136
theorem fb136 {M : Mem} {cb bb : Nat} {c b : Cmd} {dc db : Value} (hc : M cb = some (.cells (Cmd.ce c dc) 33 (0, 0))) : TurnM Tryz.prog M 136 #[ptr cb 0, ptr bb 0] [(some bb, .cells (Cmd.ce b db) 33 (0, 0))] (fun _ : Unit => .tuple #[]) (fun _ => [(some bb, .cells (Cmd.ce { b with other := c.other } db) 33 (0, 0))]) := fun I' hM w0 w hcl => by
  refine calls_of_TTG (N := 5) (S := [(0, ptr cb 0), (1, ptr bb 0)]) (b := B136) hcl Tryz.func136 rfl rfl rfl (by simp) ?_
  show TT _ _ _ _ _ _ [.code (sub [] B136)] _ _
  refine TT.region (id := 0) (n := 4) (ops := opsOf (sub [] B136)) [(.pure, none), (.quiet, none), (.pure, none), (.store, none)] rfl ?_
  show DL _ _ _ _ _ _ _ _ _ _ [0, 1, 2, 3] _ _
  refine DL.pu 2 (ptr cb 3) rfl (p_fieldAddr (off := 0) (n := 3) (fun a w => by kernel_rfl) rfl rfl) ?_
  refine DL.qu 3 (.int .u32 c.other) rfl (i_conv hM (i_loadBoxO (hM _ _ hc) rfl (fun w => by kernel_rfl) rfl rfl)) ?_
  refine DL.pu 4 (ptr bb 3) rfl (p_fieldAddr (off := 0) (n := 3) (fun a w => by kernel_rfl) rfl rfl) ?_
  refine DL.put (H' := [(some bb, .cells (Cmd.ce { b with other := c.other } db) 33 (0, 0))]) (i := 3) rfl (Wn.none rfl) rfl rfl (f_store (c := Cmd.ce b db) (off := 3) (j := 0) (fun w => by kernel_rfl) rfl rfl (of_decide_eq_true rfl) trivial rfl rfl rfl) (keep_none rfl) ?_
  refine DL.nil ?_
  exact endR (rs := []) (vs := []) Tryz.func136 rfl rfl rfl res_nil fun w hc => ⟨(), rfl, hc⟩

noncomputable def B137 : Code := bodyOf Tryz.f137
theorem fb137 {M : Mem} {cb bb : Nat} {c b : Cmd} {dc db : Value} (hc : M cb = some (.cells (Cmd.ce c dc) 33 (0, 0))) : TurnM Tryz.prog M 137 #[ptr cb 0, ptr bb 0] [(some bb, .cells (Cmd.ce b db) 33 (0, 0))] (fun _ : Unit => .tuple #[]) (fun _ => [(some bb, .cells (Cmd.ce { b with typ := c.typ } db) 33 (0, 0))]) := fun I' hM w0 w hcl => by
  refine calls_of_TTG (N := 5) (S := [(0, ptr cb 0), (1, ptr bb 0)]) (b := B137) hcl Tryz.func137 rfl rfl rfl (by simp) ?_
  show TT _ _ _ _ _ _ [.code (sub [] B137)] _ _
  refine TT.region (id := 0) (n := 4) (ops := opsOf (sub [] B137)) [(.pure, none), (.quiet, none), (.pure, none), (.store, none)] rfl ?_
  show DL _ _ _ _ _ _ _ _ _ _ [0, 1, 2, 3] _ _
  refine DL.pu 2 (ptr cb 4) rfl (p_fieldAddr (off := 0) (n := 4) (fun a w => by kernel_rfl) rfl rfl) ?_
  refine DL.qu 3 (.int .i64 c.typ) rfl (i_conv hM (i_loadBoxO (hM _ _ hc) rfl (fun w => by kernel_rfl) rfl rfl)) ?_
  refine DL.pu 4 (ptr bb 4) rfl (p_fieldAddr (off := 0) (n := 4) (fun a w => by kernel_rfl) rfl rfl) ?_
  refine DL.put (H' := [(some bb, .cells (Cmd.ce { b with typ := c.typ } db) 33 (0, 0))]) (i := 3) rfl (Wn.none rfl) rfl rfl (f_store (c := Cmd.ce b db) (off := 4) (j := 0) (fun w => by kernel_rfl) rfl rfl (of_decide_eq_true rfl) trivial rfl rfl rfl) (keep_none rfl) ?_
  refine DL.nil ?_
  exact endR (rs := []) (vs := []) Tryz.func137 rfl rfl rfl res_nil fun w hc => ⟨(), rfl, hc⟩

noncomputable def B138 : Code := bodyOf Tryz.f138
theorem fb138 {M : Mem} {cb bb : Nat} {c b : Cmd} {dc db : Value} (hc : M cb = some (.cells (Cmd.ce c dc) 33 (0, 0))) : TurnM Tryz.prog M 138 #[ptr cb 0, ptr bb 0] [(some bb, .cells (Cmd.ce b db) 33 (0, 0))] (fun _ : Unit => .tuple #[]) (fun _ => [(some bb, .cells (Cmd.ce { b with attr := c.attr } db) 33 (0, 0))]) := fun I' hM w0 w hcl => by
  refine calls_of_TTG (N := 5) (S := [(0, ptr cb 0), (1, ptr bb 0)]) (b := B138) hcl Tryz.func138 rfl rfl rfl (by simp) ?_
  show TT _ _ _ _ _ _ [.code (sub [] B138)] _ _
  refine TT.region (id := 0) (n := 4) (ops := opsOf (sub [] B138)) [(.pure, none), (.quiet, none), (.pure, none), (.store, none)] rfl ?_
  show DL _ _ _ _ _ _ _ _ _ _ [0, 1, 2, 3] _ _
  refine DL.pu 2 (ptr cb 5) rfl (p_fieldAddr (off := 0) (n := 5) (fun a w => by kernel_rfl) rfl rfl) ?_
  refine DL.qu 3 (.int .i64 c.attr) rfl (i_conv hM (i_loadBoxO (hM _ _ hc) rfl (fun w => by kernel_rfl) rfl rfl)) ?_
  refine DL.pu 4 (ptr bb 5) rfl (p_fieldAddr (off := 0) (n := 5) (fun a w => by kernel_rfl) rfl rfl) ?_
  refine DL.put (H' := [(some bb, .cells (Cmd.ce { b with attr := c.attr } db) 33 (0, 0))]) (i := 3) rfl (Wn.none rfl) rfl rfl (f_store (c := Cmd.ce b db) (off := 5) (j := 0) (fun w => by kernel_rfl) rfl rfl (of_decide_eq_true rfl) trivial rfl rfl rfl) (keep_none rfl) ?_
  refine DL.nil ?_
  exact endR (rs := []) (vs := []) Tryz.func138 rfl rfl rfl res_nil fun w hc => ⟨(), rfl, hc⟩

noncomputable def B139 : Code := bodyOf Tryz.f139
theorem one_int (k : IntKind) (l : List Int) : ∀ u ∈ (encl k l), OneCell u := fun u hu => by
  obtain ⟨x, _, rfl⟩ := List.mem_map.1 hu; trivial
theorem key_splice (b : Cmd) (db : Value) (k : List Int) : splice (Cmd.ce b db) 6 (Value.cells (.agg (enc .u8 (pad32 k)))).toList = Cmd.ce { b with key := k } db := by kernel_rfl
theorem fb139 {M : Mem} {cb bb : Nat} {c b : Cmd} {dc db : Value} (hc : M cb = some (.cells (Cmd.ce c dc) 33 (0, 0))) : TurnM Tryz.prog M 139 #[ptr cb 0, ptr bb 0] [(some bb, .cells (Cmd.ce b db) 33 (0, 0))] (fun _ : Unit => .tuple #[]) (fun _ => [(some bb, .cells (Cmd.ce { b with key := c.key } db) 33 (0, 0))]) := fun I' hM w0 w hcl => by
  refine calls_of_TTG (N := 5) (S := [(0, ptr cb 0), (1, ptr bb 0)]) (b := B139) hcl Tryz.func139 rfl rfl rfl (by simp) ?_
  show TT _ _ _ _ _ _ [.code (sub [] B139)] _ _
  refine TT.region (id := 0) (n := 4) (ops := opsOf (sub [] B139)) [(.pure, none), (.quiet, none), (.pure, none), (.store, none)] rfl ?_
  show DL _ _ _ _ _ _ _ _ _ _ [0, 1, 2, 3] _ _
  refine DL.pu 2 (ptr cb 6) rfl (p_fieldAddr (off := 0) (n := 6) (fun a w => by kernel_rfl) rfl rfl) ?_
  refine DL.qu 3 (.agg (enc .u8 (pad32 c.key))) rfl (i_conv hM (i_loadBoxSub (n := 32) (off := 6) (c := Cmd.ce c dc) (vs := encl .u8 (pad32 c.key)) (hM _ _ hc) rfl rfl (fun w => by kernel_rfl) (fun w => by kernel_rfl) rfl rfl)) ?_
  refine DL.pu 4 (ptr bb 6) rfl (p_fieldAddr (off := 0) (n := 6) (fun a w => by kernel_rfl) rfl rfl) ?_
  refine DL.put (H' := [(some bb, .cells (Cmd.ce { b with key := c.key } db) 33 (0, 0))]) (i := 3) rfl (Wn.none rfl) rfl rfl (by rw [← key_splice b db c.key]; exact put_of_store (c := Cmd.ce b db) (v := .agg (enc .u8 (pad32 c.key))) (n := 32) (off := 6) (j := 0) (fun w => by kernel_rfl) rfl rfl (of_decide_eq_true rfl) (one_int .u8 (pad32 c.key)) rfl rfl rfl) (keep_none rfl) ?_
  refine DL.nil ?_
  exact endR (rs := []) (vs := []) Tryz.func139 rfl rfl rfl res_nil fun w hc => ⟨(), rfl, hc⟩
noncomputable def B140 : Code := bodyOf Tryz.f140
theorem fb140 {M : Mem} {cb bb : Nat} {c b : Cmd} {dc db : Value} (hd : IntRow M .u8 dc c.data) (hc : M cb = some (.cells (Cmd.ce c dc) 33 (0, 0))) : TurnM Tryz.prog M 140 #[ptr cb 0, ptr bb 0] [(some bb, .cells (Cmd.ce b db) 33 (0, 0))] (fun _ : Unit => .tuple #[]) (fun _ => [(some bb, .cells (Cmd.ce b dc) 33 (0, 0))]) := fun I' hM w0 w hcl => by
  obtain ⟨_, a, cp, rfl, _⟩ := hd
  refine calls_of_TTG (N := 5) (S := [(0, ptr cb 0), (1, ptr bb 0)]) (b := B140) hcl Tryz.func140 rfl rfl rfl (by simp) ?_
  show TT _ _ _ _ _ _ [.code (sub [] B140)] _ _
  refine TT.region (id := 0) (n := 4) (ops := opsOf (sub [] B140)) [(.pure, none), (.quiet, none), (.pure, none), (.store, none)] rfl ?_
  show DL _ _ _ _ _ _ _ _ _ _ [0, 1, 2, 3] _ _
  refine DL.pu 2 (ptr cb 38) rfl (p_fieldAddr (off := 0) (n := 38) (fun a w => by kernel_rfl) rfl rfl) ?_
  refine DL.qu 3 (.slice a c.data.length cp) rfl (i_conv hM (i_loadBoxO (hM _ _ hc) rfl (fun w => by kernel_rfl) rfl rfl)) ?_
  refine DL.pu 4 (ptr bb 38) rfl (p_fieldAddr (off := 0) (n := 38) (fun a w => by kernel_rfl) rfl rfl) ?_
  refine DL.put (H' := [(some bb, .cells (Cmd.ce b (.slice a c.data.length cp)) 33 (0, 0))]) (i := 3) rfl (Wn.none rfl) rfl rfl (f_store (c := Cmd.ce b db) (off := 38) (j := 0) (fun w => by kernel_rfl) rfl rfl (of_decide_eq_true rfl) trivial rfl rfl rfl) (keep_none rfl) ?_
  refine DL.nil ?_
  exact endR (rs := []) (vs := []) Tryz.func140 rfl rfl rfl res_nil fun w hc => ⟨(), rfl, hc⟩

end Go.Proofs.YthldgjbmjgjogaaGreatDoor
