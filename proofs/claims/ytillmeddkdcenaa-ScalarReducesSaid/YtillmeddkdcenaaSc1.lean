import Derived.Test.YtillmeddkdcenaaHw10
import Derived.Test.YtillmeddkdcenaaShelf
namespace Go.Proofs.Ytillmeddkdcenaa
open Go Go.HW Go.RowKit
set_option linter.unusedVariables false
set_option linter.unusedSimpArgs false

theorem mixed : Try.prog.follows .mixedOrders = true := by kernel_rfl
theorem ty_z40 (w : World) : (zeroValue 40).run Try.prog w = .ok (.agg (enc .u64 (List.replicate 4 0))) w := by kernel_rfl
theorem ty_s40 (w : World) : (sizeOf 40).run Try.prog w = .ok 4 w := by kernel_rfl
theorem ty_a40 (w : World) : (isAgg 40).run Try.prog w = .ok true w := by kernel_rfl
theorem ty_a23 (w : World) : (isAgg 23).run Try.prog w = .ok true w := by kernel_rfl
theorem ty_s23 (w : World) : (sizeOf 23).run Try.prog w = .ok 32 w := by kernel_rfl
theorem ty_u23 (w : World) : (underlying 23).run Try.prog w = .ok (.array 32 5) w := by kernel_rfl
theorem ty_s5 (w : World) : (sizeOf 5).run Try.prog w = .ok 1 w := by kernel_rfl
theorem ty_a5 (w : World) : (isAgg 5).run Try.prog w = .ok false w := by kernel_rfl
theorem ty_u40 (w : World) : (underlying 40).run Try.prog w = .ok (.array 4 39) w := by kernel_rfl
theorem ty_s39 (w : World) : (sizeOf 39).run Try.prog w = .ok 1 w := by kernel_rfl
theorem ty_a39 (w : World) : (isAgg 39).run Try.prog w = .ok false w := by kernel_rfl
theorem ty_u5 (w : World) : (underlying 5).run Try.prog w = .ok (.int .u8) w := by kernel_rfl
theorem ty_u39 (w : World) : (underlying 39).run Try.prog w = .ok (.int .u64) w := by kernel_rfl
theorem ty_z23 (w : World) : (zeroValue 23).run Try.prog w = .ok (.agg (enc .u8 (List.replicate 32 0))) w := by kernel_rfl
theorem enter26 (args : Array Value) (w : World) : (callFunc 26 args).run Try.prog w = .ok (.enter 26 args) w := by kernel_rfl
theorem x27 (x y c : Int) (hc : c ≤ 1) (w : World) : (callFunc 27 #[.int .u64 x, .int .u64 y, .int .u64 c]).run Try.prog w = .ok (.value (.tuple #[.int .u64 (sub64 x y c), .int .u64 (sub64c x y c)])) w := by
  rw [run_callFunc_extern Try.func27 (by kernel_rfl) (by kernel_rfl) (by kernel_rfl) (e := subEntry) (by kernel_rfl), run_subEntry hc]; rfl
theorem ty_u42 (w : World) : (underlying 42).run Try.prog w = .ok (.array 8 39) w := by kernel_rfl
theorem enter25 (args : Array Value) (w : World) : (callFunc 25 args).run Try.prog w = .ok (.enter 25 args) w := by kernel_rfl
theorem enter20 (args : Array Value) (w : World) : (callFunc 20 args).run Try.prog w = .ok (.enter 20 args) w := by kernel_rfl
theorem ty_g40 : Try.prog.eqGuardType Try.prog.depth 40 = false := by kernel_rfl
theorem ty_ue40 : Try.prog.underlying 40 = some (.array 4 39) := by kernel_rfl
theorem ty_ue39 : Try.prog.underlying 39 = some (.int .u64) := by kernel_rfl
theorem ty_z42 (w : World) : (zeroValue 42).run Try.prog w = .ok (.agg (enc .u64 (List.replicate 8 0))) w := by kernel_rfl
theorem enter21 (args : Array Value) (w : World) : (callFunc 21 args).run Try.prog w = .ok (.enter 21 args) w := by kernel_rfl
theorem x22 (x y c : Int) (hc : c ≤ 1) (w : World) : (callFunc 22 #[.int .u64 x, .int .u64 y, .int .u64 c]).run Try.prog w = .ok (.value (.tuple #[.int .u64 (add64 x y c), .int .u64 (add64c x y c)])) w := by
  rw [run_callFunc_extern Try.func22 (by kernel_rfl) (by kernel_rfl) (by kernel_rfl) (e := addEntry) (by kernel_rfl), run_addEntry hc]; rfl
theorem ty_a42 (w : World) : (isAgg 42).run Try.prog w = .ok true w := by kernel_rfl
theorem ty_s42 (w : World) : (sizeOf 42).run Try.prog w = .ok 8 w := by kernel_rfl
theorem enter24 (args : Array Value) (w : World) : (callFunc 24 args).run Try.prog w = .ok (.enter 24 args) w := by kernel_rfl
theorem enter23 (args : Array Value) (w : World) : (callFunc 23 args).run Try.prog w = .ok (.enter 23 args) w := by kernel_rfl
theorem enter8 (args : Array Value) (w : World) : (callFunc 8 args).run Try.prog w = .ok (.enter 8 args) w := by kernel_rfl
theorem ty_a34 (w : World) : (isAgg 34).run Try.prog w = .ok true w := by kernel_rfl
theorem ty_s34 (w : World) : (sizeOf 34).run Try.prog w = .ok 64 w := by kernel_rfl
theorem ty_u34 (w : World) : (underlying 34).run Try.prog w = .ok (.array 64 5) w := by kernel_rfl
theorem ty_u52 (w : World) : (underlying 52).run Try.prog w = .ok (.array 16 39) w := by kernel_rfl
theorem ty_z52 (w : World) : (zeroValue 52).run Try.prog w = .ok (.agg (enc .u64 (List.replicate 16 0))) w := by kernel_rfl
theorem ty_a52 (w : World) : (isAgg 52).run Try.prog w = .ok true w := by kernel_rfl
theorem ty_s52 (w : World) : (sizeOf 52).run Try.prog w = .ok 16 w := by kernel_rfl
theorem ty_u9 (w : World) : (underlying 9).run Try.prog w = .ok (.string) w := by kernel_rfl
theorem enter30 (args : Array Value) (w : World) : (callFunc 30 args).run Try.prog w = .ok (.enter 30 args) w := by kernel_rfl
theorem enter29 (args : Array Value) (w : World) : (callFunc 29 args).run Try.prog w = .ok (.enter 29 args) w := by kernel_rfl
theorem enter33 (args : Array Value) (w : World) : (callFunc 33 args).run Try.prog w = .ok (.enter 33 args) w := by kernel_rfl
theorem ty_g23 : Try.prog.eqGuardType Try.prog.depth 23 = false := by kernel_rfl
theorem ty_ue23 : Try.prog.underlying 23 = some (.array 32 5) := by kernel_rfl
theorem ty_ue5 : Try.prog.underlying 5 = some (.int .u8) := by kernel_rfl
theorem enter9 (args : Array Value) (w : World) : (callFunc 9 args).run Try.prog w = .ok (.enter 9 args) w := by kernel_rfl
theorem enter12 (args : Array Value) (w : World) : (callFunc 12 args).run Try.prog w = .ok (.enter 12 args) w := by kernel_rfl
theorem enter28 (args : Array Value) (w : World) : (callFunc 28 args).run Try.prog w = .ok (.enter 28 args) w := by kernel_rfl
theorem enter10 (args : Array Value) (w : World) : (callFunc 10 args).run Try.prog w = .ok (.enter 10 args) w := by kernel_rfl
theorem enter11 (args : Array Value) (w : World) : (callFunc 11 args).run Try.prog w = .ok (.enter 11 args) w := by kernel_rfl
theorem enter13 (args : Array Value) (w : World) : (callFunc 13 args).run Try.prog w = .ok (.enter 13 args) w := by kernel_rfl
theorem ty_u4 (w : World) : (underlying 4).run Try.prog w = .ok (.bool) w := by kernel_rfl
theorem ty_u37 (w : World) : (underlying 37).run Try.prog w = .ok (.slice 5) w := by kernel_rfl
theorem ty_u3 (w : World) : (underlying 3).run Try.prog w = .ok (.int .i64) w := by kernel_rfl
theorem ty_u56 (w : World) : (underlying 56).run Try.prog w = .ok (.int .u64) w := by kernel_rfl
theorem elem37 : Elem Try.prog 37 5 1 1 (.int .u8 0) := Elem.of (by kernel_rfl) (by kernel_rfl) rfl (by decide)
theorem enter34 (args : Array Value) (w : World) : (callFunc 34 args).run Try.prog w = .ok (.enter 34 args) w := by kernel_rfl
theorem enter32 (args : Array Value) (w : World) : (callFunc 32 args).run Try.prog w = .ok (.enter 32 args) w := by kernel_rfl
theorem enter31 (args : Array Value) (w : World) : (callFunc 31 args).run Try.prog w = .ok (.enter 31 args) w := by kernel_rfl
theorem elem55 : Elem Try.prog 55 39 1 8 (.int .u64 0) := Elem.of (by kernel_rfl) (by kernel_rfl) rfl (by decide)
theorem ty_u55 (w : World) : (underlying 55).run Try.prog w = .ok (.slice 39) w := by kernel_rfl
theorem enter16 (args : Array Value) (w : World) : (callFunc 16 args).run Try.prog w = .ok (.enter 16 args) w := by kernel_rfl
theorem enter14 (args : Array Value) (w : World) : (callFunc 14 args).run Try.prog w = .ok (.enter 14 args) w := by kernel_rfl
theorem enter15 (args : Array Value) (w : World) : (callFunc 15 args).run Try.prog w = .ok (.enter 15 args) w := by kernel_rfl
theorem enter17 (args : Array Value) (w : World) : (callFunc 17 args).run Try.prog w = .ok (.enter 17 args) w := by kernel_rfl
theorem enter18 (args : Array Value) (w : World) : (callFunc 18 args).run Try.prog w = .ok (.enter 18 args) w := by kernel_rfl
theorem enter19 (args : Array Value) (w : World) : (callFunc 19 args).run Try.prog w = .ok (.enter 19 args) w := by kernel_rfl

/-! ### escutcheon/scalar.order: function 26 -/
noncomputable def B26 : Code := bodyOf Try.f26
def scalar_order.f : Option (List Int) := some [6346243789798364141, 1503914060200516822, 0, 1152921504606846976]
set_option maxRecDepth 20000 in
theorem scalar_order.ok {r : List Int} (h : scalar_order.f = some r) (w : World) : Calls Try.prog 26 #[] w (Post (fun u => u = .agg (enc .u64 r) ∧ r.length = 4) w) := by
  unfold scalar_order.f at h
  refine calls_of_TT (N := 2) (S := []) (c := B26) Try.func26 rfl rfl rfl (by simp) ?_
  show TT _ _ _ _ _ _ [.code (sub [] B26)] _ _
  refine TT.seq (x := sub [0] B26) (y := sub [1] B26) ?_
  refine TT.region (id := 0) (n := 1) (ops := (opsOf (sub [0] B26))) [(.alloc, none)] rfl ?_
  show DL _ _ _ _ _ _ _ _ _ _ [0] _ _
  refine DL.new (ob := .cells (enc .u64 (List.replicate 4 0)) 40) (mk := fun b => ptr b 0) (i := 0) rfl (Wn.none rfl) rfl rfl rfl (f_alloc ty_z40 rfl) ?_
  intro b1 hb1
  refine DL.nil ?_
  refine TT.seq (x := sub [1, 0] B26) (y := sub [1, 1] B26) ?_
  refine TT.region (id := 1) (n := 2) (ops := (opsOf (sub [1, 0] B26))) [(.pure, none), (.store, none)] rfl ?_
  show DL _ _ _ _ _ _ _ _ _ _ [0, 1] _ _
  refine DL.pu 1 (.agg (enc .u64 [6346243789798364141, 1503914060200516822, 0, 1152921504606846976])) rfl (p_build (vs := [(0, .int .u64 6346243789798364141), (1, .int .u64 1503914060200516822), (2, .int .u64 0), (3, .int .u64 1152921504606846976)]) (fun w => by kernel_rfl) rfl rfl) ?_
  refine DL.put (H' := [(some b1, .cells (enc .u64 [6346243789798364141, 1503914060200516822, 0, 1152921504606846976]) 40 (0, 0))]) (i := 1) rfl (Wn.none rfl) rfl rfl (f_storeA (j := 0) ty_s40 rfl (enc_sz rfl) (enc_sz (List.length_replicate)) (enc_oneCell _ _) rfl rfl rfl) (keep_none rfl) ?_
  refine DL.nil ?_
  obtain rfl := Option.some.inj h
  exact ret1 Try.func26 rfl (ResV.cell (j := 0) ty_a40 ty_s40 rfl rfl (enc_sz rfl)) ⟨rfl, rfl⟩
theorem scalar_order.len {r : List Int} (h : scalar_order.f = some r) : r.length = 4 := by
  obtain ⟨v, hv⟩ := calls_fact (scalar_order.ok h)
  exact hv.2
theorem scalar_order.val {r : List Int} (h : scalar_order.f = some r) (w : World) : Calls Try.prog 26 #[] w fun e w' => e = .returned (.agg (enc .u64 r)) ∧ Below w.heap.size w w' :=
  calls_value ((scalar_order.ok h w).mono fun e w' ⟨v, he, hv, hb⟩ => ⟨v, he, hv.1, hb⟩)

/-! ### escutcheon/scalar.words: function 20 -/
noncomputable def B20 : Code := bodyOf Try.f20
def scalar_words.L0 (a0 : List Int) : Nat → Int → List Int → Option (List Int)
  | 0, _, _ => none
  | k + 1, x6_3, y_4 => if (decide (x6_3 < 32)) = true then (req (0 ≤ x6_3) (req (x6_3 < 32) (req (0 ≤ (IntKind.i64.wrap (Int.tdiv x6_3 8))) (req ((IntKind.i64.wrap (Int.tdiv x6_3 8)) < 4) (req (0 ≤ (IntKind.i64.wrap (8 * (Int.tmod x6_3 8)))) (nm (ishl .u64 (IntKind.u64.wrap (a0.getD x6_3.toNat 0)) (IntKind.i64.wrap (8 * (Int.tmod x6_3 8)))) fun t89 => nm (ior .u64 (y_4.getD ((IntKind.i64.wrap (Int.tdiv x6_3 8)).toNat) 0) t89) fun t92 => scalar_words.L0 a0 k (IntKind.i64.wrap (x6_3 + 1)) (y_4.set ((IntKind.i64.wrap (Int.tdiv x6_3 8)).toNat) t92))))))) else (some y_4)
set_option maxRecDepth 20000 in
theorem scalar_words.L0_ok (a0 : List Int) (b1 : Nat) (b2 : Nat) {R : Ending → World → Prop} {w0 : World} {I : Nat → Option Obj} {K : List Item} (l_a0 : a0.length = 32) :
    ∀ (k : Nat) (x6_3 : Int) (y_4 : List Int) (r0 : List Int) (l_y_4 : y_4.length = 4) (h : scalar_words.L0 a0 k x6_3 y_4 = some r0) (hk : r0.length = 4 → TT Try.prog 20 R 24 w0 I K [(2, ptr b2 0)] [(some b2, .cells (enc .u64 r0) 40 (0, 0)), (some b1, .cells (enc .u8 a0) 23 (0, 0))]),
      TT Try.prog 20 R 24 w0 I (.code (sub [1, 0, 1, 0, 0] B20) :: .inLoop (sub [1, 0, 1, 0, 0] B20) :: .inBlock 0 :: K) [(2, ptr b2 0), (5, .agg (enc .u8 a0)), (6, .int .i64 x6_3)] [(some b2, .cells (enc .u64 y_4) 40 (0, 0)), (some b1, .cells (enc .u8 a0) 23 (0, 0))] := by
  intro k
  induction k with
  | zero => intro x6_3 y_4 r0 l_y_4 h; simp [scalar_words.L0] at h
  | succ k ih =>
    intro x6_3 y_4 r0 l_y_4 h hk
    unfold scalar_words.L0 at h
    refine TT.seq (x := sub [1, 0, 1, 0, 0, 0] B20) (y := sub [1, 0, 1, 0, 0, 1] B20) ?_
    refine TT.region (id := 2) (n := 1) (ops := (opsOf (sub [1, 0, 1, 0, 0, 0] B20))) [(.pure, none)] rfl ?_
    show DL _ _ _ _ _ _ _ _ _ _ [0] _ _
    refine DL.pu 7 (.bool (decide (x6_3 < 32))) rfl (p_lss rfl rfl rfl) ?_
    refine DL.nil ?_
    refine TT.seq (x := sub [1, 0, 1, 0, 0, 1, 0] B20) (y := sub [1, 0, 1, 0, 0, 1, 1] B20) ?_
    by_cases c76 : (decide (x6_3 < 32)) = true
    · have h77 := ite_true c76 h
      refine TT.cond_true (x := sub [1, 0, 1, 0, 0, 1, 0, 0] B20) (y := sub [1, 0, 1, 0, 0, 1, 0, 1] B20) rfl c76 ?_
      refine TT.skip ?_
      refine TT.seq (x := sub [1, 0, 1, 0, 0, 1, 1, 0] B20) (y := sub [1, 0, 1, 0, 0, 1, 1, 1] B20) ?_
      refine TT.block (c := sub [1, 0, 1, 0, 0, 1, 1, 0, 0] B20) ?_
      refine TT.seq (x := sub [1, 0, 1, 0, 0, 1, 1, 0, 0, 0] B20) (y := sub [1, 0, 1, 0, 0, 1, 1, 0, 0, 1] B20) ?_
      refine TT.region (id := 3) (n := 4) (ops := (opsOf (sub [1, 0, 1, 0, 0, 1, 1, 0, 0, 0] B20))) [(.pure, none), (.pure, none), (.pure, none), (.pure, none)] rfl ?_
      show DL _ _ _ _ _ _ _ _ _ _ [0, 1, 2, 3] _ _
      refine DL.pu 8 (.int .i64 x6_3) rfl (p_move rfl rfl) ?_
      obtain ⟨g78, h79⟩ := req_some h77
      obtain ⟨g80, h81⟩ := req_some h79
      refine DL.pu 9 (.int .u8 (a0.getD x6_3.toNat 0)) rfl (p_index ty_u23 ty_s5 ty_a5 g78 g80 (enc_at l_a0 g78 g80) rfl rfl rfl) ?_
      refine DL.pu 3 (.int .i64 x6_3) rfl (p_assign rfl rfl) ?_
      refine DL.pu 4 (.int .u8 (a0.getD x6_3.toNat 0)) rfl (p_assign rfl rfl) ?_
      refine DL.nil ?_
      refine TT.regionD (id := 4) (ops := (opsOf (sub [1, 0, 1, 0, 0, 1, 1, 0, 0, 1] B20))) [0, 1, 2, 3, 4, 5, 6, 7, 8, 9, 10, 11, 12] [0, 1, 3, 7, 0, 16, 0, 64, 192, 496, 1023, 2047, 4095] [(.pure, none), (.pure, none), (.pure, none), (.look, some 0), (.pure, none), (.pure, none), (.pure, none), (.pure, none), (.pure, none), (.pure, none), (.pure, none), (.pure, none), (.store, some 0)] mixed (by kernel_rfl) ?_
      intro w82 hl82 hj82 hz82
      refine DL.pu 10 (.int .i64 x6_3) rfl (p_move rfl rfl) ?_
      refine DL.pu 11 (.int .i64 (IntKind.i64.wrap (Int.tdiv x6_3 8))) rfl (p_quo (by decide) rfl rfl rfl) ?_
      obtain ⟨g83, h84⟩ := req_some h81
      obtain ⟨g85, h86⟩ := req_some h84
      refine DL.pu 12 (ptr b2 ((IntKind.i64.wrap (Int.tdiv x6_3 8)).toNat)) rfl (p_ix ty_u40 ty_s39 g83 g85 rfl rfl rfl) ?_
      refine DL.look (v := .int .u64 (y_4.getD ((IntKind.i64.wrap (Int.tdiv x6_3 8)).toNat) 0)) (x := 0) (b := b2) (i := 3) rfl (Wn.none rfl) rfl rfl rfl rfl rfl (List.mem_of_getElem? (i := 0) rfl) (b_load ty_a39 (enc_at l_y_4 g83 g85) rfl rfl) ?_
      refine DL.pu 14 (.int .u8 (a0.getD x6_3.toNat 0)) rfl (p_move rfl rfl) ?_
      refine DL.pu 15 (.int .u64 (IntKind.u64.wrap (a0.getD x6_3.toNat 0))) rfl (p_conv ty_u5 ty_u39 ⟨_, rfl⟩ rfl rfl) ?_
      refine DL.pu 16 (.int .i64 x6_3) rfl (p_move rfl rfl) ?_
      refine DL.pu 17 (.int .i64 (Int.tmod x6_3 8)) rfl (p_rem (by decide) rfl rfl rfl) ?_
      refine DL.pu 18 (.int .i64 (IntKind.i64.wrap (8 * (Int.tmod x6_3 8)))) rfl (p_mul rfl rfl rfl) ?_
      obtain ⟨g87, h88⟩ := req_some h86
      obtain ⟨t89, e90, h91⟩ := nm_some h88
      refine DL.pu 19 (.int .u64 t89) rfl (by rw [e90]; exact p_shl g87 rfl rfl rfl) ?_
      obtain ⟨t92, e93, h94⟩ := nm_some h91
      refine DL.pu 20 (.int .u64 t92) rfl (by rw [e93]; exact p_or rfl rfl rfl) ?_
      refine DL.pu 21 (ptr b2 ((IntKind.i64.wrap (Int.tdiv x6_3 8)).toNat)) rfl (p_ix ty_u40 ty_s39 g83 g85 rfl rfl rfl) ?_
      refine DL.put (H' := [(some b2, .cells (enc .u64 (y_4.set ((IntKind.i64.wrap (Int.tdiv x6_3 8)).toNat) t92)) 40 (0, 0)), (some b1, .cells (enc .u8 a0) 23 (0, 0))]) (i := 12) rfl (Wn.none rfl) rfl rfl (f_storeE (j := 0) ty_s39 rfl (lt_nat l_y_4 g83 g85) rfl rfl rfl) (keep_set (j := 0) hj82 rfl rfl rfl) ?_
      refine DL.nil' hl82 ?_
      refine TT.inBlock ?_
      refine TT.region (id := 5) (n := 2) (ops := (opsOf (sub [1, 0, 1, 0, 0, 1, 1, 1] B20))) [(.pure, none), (.pure, none)] rfl ?_
      show DL _ _ _ _ _ _ _ _ _ _ [0, 1] _ _
      refine DL.pu 22 (.int .i64 (IntKind.i64.wrap (x6_3 + 1))) rfl (p_add rfl rfl rfl) ?_
      refine DL.pu 6 (.int .i64 (IntKind.i64.wrap (x6_3 + 1))) rfl (p_move rfl rfl) ?_
      refine DL.nil ?_
      refine TT.inLoop ?_
      exact TT.weak (ih (IntKind.i64.wrap (x6_3 + 1)) (y_4.set ((IntKind.i64.wrap (Int.tdiv x6_3 8)).toNat) t92) r0 (len_set l_y_4) h94 hk) (Sub.cons rfl (Sub.cons rfl (Sub.cons rfl (Sub.nil _))))
    · replace c76 := Bool.eq_false_iff.mpr c76
      have h95 := ite_false c76 h
      refine TT.cond_false (x := sub [1, 0, 1, 0, 0, 1, 0, 0] B20) (y := sub [1, 0, 1, 0, 0, 1, 0, 1] B20) rfl c76 ?_
      refine TT.exit rfl ?_
      obtain rfl := Option.some.inj h95
      exact TT.weak (hk l_y_4) (Sub.cons rfl (Sub.nil _))

def scalar_words.f (a0 : List Int) : Option (List Int) := (scalar_words.L0 a0 33 0 (List.replicate 4 0)).bind fun z_b2_75 => some z_b2_75
set_option maxRecDepth 20000 in
theorem scalar_words.ok {a0 : List Int} {r : List Int} (l_a0 : a0.length = 32) (h : scalar_words.f a0 = some r) (w : World) : Calls Try.prog 20 #[.agg (enc .u8 a0)] w (Post (fun u => u = .agg (enc .u64 r) ∧ r.length = 4) w) := by
  unfold scalar_words.f at h
  refine calls_of_TT (N := 24) (S := [(0, .agg (enc .u8 a0))]) (c := B20) Try.func20 rfl rfl rfl (by simp) ?_
  show TT _ _ _ _ _ _ [.code (sub [] B20)] _ _
  refine TT.seq (x := sub [0] B20) (y := sub [1] B20) ?_
  refine TT.region (id := 0) (n := 2) (ops := (opsOf (sub [0] B20))) [(.alloc, none), (.alloc, none)] rfl ?_
  show DL _ _ _ _ _ _ _ _ _ _ [0, 1] _ _
  refine DL.new (ob := .cells (enc .u8 a0) 23) (mk := fun b => ptr b 0) (i := 0) rfl (Wn.none rfl) rfl rfl rfl (f_box (v := .agg (enc .u8 a0)) rfl rfl) ?_
  intro b1 hb1
  refine DL.new (ob := .cells (enc .u64 (List.replicate 4 0)) 40) (mk := fun b => ptr b 0) (i := 1) rfl (Wn.none rfl) rfl rfl rfl (f_alloc ty_z40 rfl) ?_
  intro b2 hb2
  refine DL.nil ?_
  refine TT.seq (x := sub [1, 0] B20) (y := sub [1, 1] B20) ?_
  refine TT.seq (x := sub [1, 0, 0] B20) (y := sub [1, 0, 1] B20) ?_
  refine TT.region (id := 1) (n := 2) (ops := (opsOf (sub [1, 0, 0] B20))) [(.quiet, none), (.pure, none)] rfl ?_
  show DL _ _ _ _ _ _ _ _ _ _ [0, 1] _ _
  refine DL.qu 5 (.agg (enc .u8 a0)) rfl (f_loadA (j := 1) ty_a23 ty_s23 rfl (enc_sz l_a0) rfl rfl) ?_
  refine DL.pu 6 (.int .i64 0) rfl (p_move rfl rfl) ?_
  refine DL.nil ?_
  refine TT.block (c := sub [1, 0, 1, 0] B20) ?_
  refine TT.loop (c := sub [1, 0, 1, 0, 0] B20) ?_
  obtain ⟨z_b2_75, h96, h97⟩ := bind_some h
  refine TT.weak (scalar_words.L0_ok a0 b1 b2 l_a0 33 0 (List.replicate 4 0) z_b2_75 (List.length_replicate) h96 (fun l_z_b2_75 => ?_)) (Sub.cons rfl (Sub.cons rfl (Sub.cons rfl (Sub.nil _))))
  refine TT.seq (x := sub [1, 1, 0] B20) (y := sub [1, 1, 1] B20) ?_
  refine TT.region (id := 6) (n := 2) (ops := (opsOf (sub [1, 1, 0] B20))) [(.quiet, none), (.store, none)] rfl ?_
  show DL _ _ _ _ _ _ _ _ _ _ [0, 1] _ _
  refine DL.qu 23 (.agg (enc .u64 z_b2_75)) rfl (f_loadA (j := 0) ty_a40 ty_s40 rfl (enc_sz l_z_b2_75) rfl rfl) ?_
  refine DL.put (H' := [(some b2, .cells (enc .u64 z_b2_75) 40 (0, 0)), (some b1, .cells (enc .u8 a0) 23 (0, 0))]) (i := 1) rfl (Wn.none rfl) rfl rfl (f_storeA (j := 0) ty_s40 rfl (enc_sz l_z_b2_75) (enc_sz l_z_b2_75) (enc_oneCell _ _) rfl rfl rfl) (keep_none rfl) ?_
  refine DL.nil ?_
  obtain rfl := Option.some.inj h97
  exact ret1 Try.func20 rfl (ResV.cell (j := 0) ty_a40 ty_s40 rfl rfl (enc_sz l_z_b2_75)) ⟨rfl, l_z_b2_75⟩
theorem scalar_words.len {a0 : List Int} {r : List Int} (l_a0 : a0.length = 32) (h : scalar_words.f a0 = some r) : r.length = 4 := by
  obtain ⟨v, hv⟩ := calls_fact (scalar_words.ok l_a0 h)
  exact hv.2
theorem scalar_words.val {a0 : List Int} {r : List Int} (l_a0 : a0.length = 32) (h : scalar_words.f a0 = some r) (w : World) : Calls Try.prog 20 #[.agg (enc .u8 a0)] w fun e w' => e = .returned (.agg (enc .u64 r)) ∧ Below w.heap.size w w' :=
  calls_value ((scalar_words.ok l_a0 h w).mono fun e w' ⟨v, he, hv, hb⟩ => ⟨v, he, hv.1, hb⟩)

/-! ### escutcheon/scalar.key: function 23 -/
noncomputable def B23 : Code := bodyOf Try.f23
def scalar_key.L0 (a0 : List Int) : Nat → Int → List Int → Option (List Int)
  | 0, _, _ => none
  | k + 1, x4_3, y_4 => if (decide (x4_3 < 32)) = true then (req (0 ≤ (IntKind.i64.wrap (Int.tdiv x4_3 8))) (req ((IntKind.i64.wrap (Int.tdiv x4_3 8)) < 4) (req (0 ≤ (IntKind.i64.wrap (8 * (Int.tmod x4_3 8)))) (nm (ishr .u64 (a0.getD ((IntKind.i64.wrap (Int.tdiv x4_3 8)).toNat) 0) (IntKind.i64.wrap (8 * (Int.tmod x4_3 8)))) fun t80 => req (0 ≤ x4_3) (req (x4_3 < 32) (scalar_key.L0 a0 k (IntKind.i64.wrap (x4_3 + 1)) (y_4.set x4_3.toNat (IntKind.u8.wrap t80)))))))) else (some y_4)
set_option maxRecDepth 20000 in
theorem scalar_key.L0_ok (a0 : List Int) (b1 : Nat) (b2 : Nat) {R : Ending → World → Prop} {w0 : World} {I : Nat → Option Obj} {K : List Item} (l_a0 : a0.length = 4) :
    ∀ (k : Nat) (x4_3 : Int) (y_4 : List Int) (r0 : List Int) (l_y_4 : y_4.length = 32) (h : scalar_key.L0 a0 k x4_3 y_4 = some r0) (hk : r0.length = 32 → TT Try.prog 23 R 20 w0 I K [(2, ptr b2 0)] [(some b2, .cells (enc .u8 r0) 23 (0, 0)), (some b1, .cells (enc .u64 a0) 40 (0, 0))]),
      TT Try.prog 23 R 20 w0 I (.code (sub [1, 0, 1, 0, 0] B23) :: .inLoop (sub [1, 0, 1, 0, 0] B23) :: .inBlock 0 :: K) [(1, ptr b1 0), (2, ptr b2 0), (4, .int .i64 x4_3)] [(some b2, .cells (enc .u8 y_4) 23 (0, 0)), (some b1, .cells (enc .u64 a0) 40 (0, 0))] := by
  intro k
  induction k with
  | zero => intro x4_3 y_4 r0 l_y_4 h; simp [scalar_key.L0] at h
  | succ k ih =>
    intro x4_3 y_4 r0 l_y_4 h hk
    unfold scalar_key.L0 at h
    refine TT.seq (x := sub [1, 0, 1, 0, 0, 0] B23) (y := sub [1, 0, 1, 0, 0, 1] B23) ?_
    refine TT.region (id := 2) (n := 1) (ops := (opsOf (sub [1, 0, 1, 0, 0, 0] B23))) [(.pure, none)] rfl ?_
    show DL _ _ _ _ _ _ _ _ _ _ [0] _ _
    refine DL.pu 5 (.bool (decide (x4_3 < 32))) rfl (p_lss rfl rfl rfl) ?_
    refine DL.nil ?_
    refine TT.seq (x := sub [1, 0, 1, 0, 0, 1, 0] B23) (y := sub [1, 0, 1, 0, 0, 1, 1] B23) ?_
    by_cases c72 : (decide (x4_3 < 32)) = true
    · have h73 := ite_true c72 h
      refine TT.cond_true (x := sub [1, 0, 1, 0, 0, 1, 0, 0] B23) (y := sub [1, 0, 1, 0, 0, 1, 0, 1] B23) rfl c72 ?_
      refine TT.skip ?_
      refine TT.seq (x := sub [1, 0, 1, 0, 0, 1, 1, 0] B23) (y := sub [1, 0, 1, 0, 0, 1, 1, 1] B23) ?_
      refine TT.block (c := sub [1, 0, 1, 0, 0, 1, 1, 0, 0] B23) ?_
      refine TT.seq (x := sub [1, 0, 1, 0, 0, 1, 1, 0, 0, 0] B23) (y := sub [1, 0, 1, 0, 0, 1, 1, 0, 0, 1] B23) ?_
      refine TT.region (id := 3) (n := 2) (ops := (opsOf (sub [1, 0, 1, 0, 0, 1, 1, 0, 0, 0] B23))) [(.pure, none), (.pure, none)] rfl ?_
      show DL _ _ _ _ _ _ _ _ _ _ [0, 1] _ _
      refine DL.pu 6 (.int .i64 x4_3) rfl (p_move rfl rfl) ?_
      refine DL.pu 3 (.int .i64 x4_3) rfl (p_assign rfl rfl) ?_
      refine DL.nil ?_
      refine TT.region (id := 4) (n := 12) (ops := (opsOf (sub [1, 0, 1, 0, 0, 1, 1, 0, 0, 1] B23))) [(.pure, none), (.pure, none), (.pure, none), (.pure, none), (.quiet, none), (.pure, none), (.pure, none), (.pure, none), (.pure, none), (.pure, none), (.pure, none), (.store, none)] rfl ?_
      show DL _ _ _ _ _ _ _ _ _ _ [0, 1, 2, 3, 4, 5, 6, 7, 8, 9, 10, 11] _ _
      refine DL.pu 7 (.int .i64 x4_3) rfl (p_move rfl rfl) ?_
      refine DL.pu 8 (.int .i64 x4_3) rfl (p_move rfl rfl) ?_
      refine DL.pu 9 (.int .i64 (IntKind.i64.wrap (Int.tdiv x4_3 8))) rfl (p_quo (by decide) rfl rfl rfl) ?_
      obtain ⟨g74, h75⟩ := req_some h73
      obtain ⟨g76, h77⟩ := req_some h75
      refine DL.pu 10 (ptr b1 ((IntKind.i64.wrap (Int.tdiv x4_3 8)).toNat)) rfl (p_ix ty_u40 ty_s39 g74 g76 rfl rfl rfl) ?_
      refine DL.qu 11 (.int .u64 (a0.getD ((IntKind.i64.wrap (Int.tdiv x4_3 8)).toNat) 0)) rfl (f_load (j := 1) ty_a39 rfl (enc_at l_a0 g74 g76) rfl rfl) ?_
      refine DL.pu 12 (.int .i64 x4_3) rfl (p_move rfl rfl) ?_
      refine DL.pu 13 (.int .i64 (Int.tmod x4_3 8)) rfl (p_rem (by decide) rfl rfl rfl) ?_
      refine DL.pu 14 (.int .i64 (IntKind.i64.wrap (8 * (Int.tmod x4_3 8)))) rfl (p_mul rfl rfl rfl) ?_
      obtain ⟨g78, h79⟩ := req_some h77
      obtain ⟨t80, e81, h82⟩ := nm_some h79
      refine DL.pu 15 (.int .u64 t80) rfl (by rw [e81]; exact p_shr g78 rfl rfl rfl) ?_
      refine DL.pu 16 (.int .u8 (IntKind.u8.wrap t80)) rfl (p_conv ty_u39 ty_u5 ⟨_, rfl⟩ rfl rfl) ?_
      obtain ⟨g83, h84⟩ := req_some h82
      obtain ⟨g85, h86⟩ := req_some h84
      refine DL.pu 17 (ptr b2 x4_3.toNat) rfl (p_ix ty_u23 ty_s5 g83 g85 rfl rfl rfl) ?_
      refine DL.put (H' := [(some b2, .cells (enc .u8 (y_4.set x4_3.toNat (IntKind.u8.wrap t80))) 23 (0, 0)), (some b1, .cells (enc .u64 a0) 40 (0, 0))]) (i := 11) rfl (Wn.none rfl) rfl rfl (f_storeE (j := 0) ty_s5 rfl (lt_nat l_y_4 g83 g85) rfl rfl rfl) (keep_none rfl) ?_
      refine DL.nil ?_
      refine TT.inBlock ?_
      refine TT.region (id := 5) (n := 2) (ops := (opsOf (sub [1, 0, 1, 0, 0, 1, 1, 1] B23))) [(.pure, none), (.pure, none)] rfl ?_
      show DL _ _ _ _ _ _ _ _ _ _ [0, 1] _ _
      refine DL.pu 18 (.int .i64 (IntKind.i64.wrap (x4_3 + 1))) rfl (p_add rfl rfl rfl) ?_
      refine DL.pu 4 (.int .i64 (IntKind.i64.wrap (x4_3 + 1))) rfl (p_move rfl rfl) ?_
      refine DL.nil ?_
      refine TT.inLoop ?_
      exact TT.weak (ih (IntKind.i64.wrap (x4_3 + 1)) (y_4.set x4_3.toNat (IntKind.u8.wrap t80)) r0 (len_set l_y_4) h86 hk) (Sub.cons rfl (Sub.cons rfl (Sub.cons rfl (Sub.nil _))))
    · replace c72 := Bool.eq_false_iff.mpr c72
      have h87 := ite_false c72 h
      refine TT.cond_false (x := sub [1, 0, 1, 0, 0, 1, 0, 0] B23) (y := sub [1, 0, 1, 0, 0, 1, 0, 1] B23) rfl c72 ?_
      refine TT.exit rfl ?_
      obtain rfl := Option.some.inj h87
      exact TT.weak (hk l_y_4) (Sub.cons rfl (Sub.nil _))

def scalar_key.f (a0 : List Int) : Option (List Int) := (scalar_key.L0 a0 33 0 (List.replicate 32 0)).bind fun z_b2_71 => some z_b2_71
set_option maxRecDepth 20000 in
theorem scalar_key.ok {a0 : List Int} {r : List Int} (l_a0 : a0.length = 4) (h : scalar_key.f a0 = some r) (w : World) : Calls Try.prog 23 #[.agg (enc .u64 a0)] w (Post (fun u => u = .agg (enc .u8 r) ∧ r.length = 32) w) := by
  unfold scalar_key.f at h
  refine calls_of_TT (N := 20) (S := [(0, .agg (enc .u64 a0))]) (c := B23) Try.func23 rfl rfl rfl (by simp) ?_
  show TT _ _ _ _ _ _ [.code (sub [] B23)] _ _
  refine TT.seq (x := sub [0] B23) (y := sub [1] B23) ?_
  refine TT.region (id := 0) (n := 2) (ops := (opsOf (sub [0] B23))) [(.alloc, none), (.alloc, none)] rfl ?_
  show DL _ _ _ _ _ _ _ _ _ _ [0, 1] _ _
  refine DL.new (ob := .cells (enc .u64 a0) 40) (mk := fun b => ptr b 0) (i := 0) rfl (Wn.none rfl) rfl rfl rfl (f_box (v := .agg (enc .u64 a0)) rfl rfl) ?_
  intro b1 hb1
  refine DL.new (ob := .cells (enc .u8 (List.replicate 32 0)) 23) (mk := fun b => ptr b 0) (i := 1) rfl (Wn.none rfl) rfl rfl rfl (f_alloc ty_z23 rfl) ?_
  intro b2 hb2
  refine DL.nil ?_
  refine TT.seq (x := sub [1, 0] B23) (y := sub [1, 1] B23) ?_
  refine TT.seq (x := sub [1, 0, 0] B23) (y := sub [1, 0, 1] B23) ?_
  refine TT.region (id := 1) (n := 1) (ops := (opsOf (sub [1, 0, 0] B23))) [(.pure, none)] rfl ?_
  show DL _ _ _ _ _ _ _ _ _ _ [0] _ _
  refine DL.pu 4 (.int .i64 0) rfl (p_move rfl rfl) ?_
  refine DL.nil ?_
  refine TT.block (c := sub [1, 0, 1, 0] B23) ?_
  refine TT.loop (c := sub [1, 0, 1, 0, 0] B23) ?_
  obtain ⟨z_b2_71, h88, h89⟩ := bind_some h
  refine TT.weak (scalar_key.L0_ok a0 b1 b2 l_a0 33 0 (List.replicate 32 0) z_b2_71 (List.length_replicate) h88 (fun l_z_b2_71 => ?_)) (Sub.cons rfl (Sub.cons rfl (Sub.cons rfl (Sub.nil _))))
  refine TT.seq (x := sub [1, 1, 0] B23) (y := sub [1, 1, 1] B23) ?_
  refine TT.region (id := 6) (n := 2) (ops := (opsOf (sub [1, 1, 0] B23))) [(.quiet, none), (.store, none)] rfl ?_
  show DL _ _ _ _ _ _ _ _ _ _ [0, 1] _ _
  refine DL.qu 19 (.agg (enc .u8 z_b2_71)) rfl (f_loadA (j := 0) ty_a23 ty_s23 rfl (enc_sz l_z_b2_71) rfl rfl) ?_
  refine DL.put (H' := [(some b2, .cells (enc .u8 z_b2_71) 23 (0, 0)), (some b1, .cells (enc .u64 a0) 40 (0, 0))]) (i := 1) rfl (Wn.none rfl) rfl rfl (f_storeA (j := 0) ty_s23 rfl (enc_sz l_z_b2_71) (enc_sz l_z_b2_71) (enc_oneCell _ _) rfl rfl rfl) (keep_none rfl) ?_
  refine DL.nil ?_
  obtain rfl := Option.some.inj h89
  exact ret1 Try.func23 rfl (ResV.cell (j := 0) ty_a23 ty_s23 rfl rfl (enc_sz l_z_b2_71)) ⟨rfl, l_z_b2_71⟩
theorem scalar_key.len {a0 : List Int} {r : List Int} (l_a0 : a0.length = 4) (h : scalar_key.f a0 = some r) : r.length = 32 := by
  obtain ⟨v, hv⟩ := calls_fact (scalar_key.ok l_a0 h)
  exact hv.2
theorem scalar_key.val {a0 : List Int} {r : List Int} (l_a0 : a0.length = 4) (h : scalar_key.f a0 = some r) (w : World) : Calls Try.prog 23 #[.agg (enc .u64 a0)] w fun e w' => e = .returned (.agg (enc .u8 r)) ∧ Below w.heap.size w w' :=
  calls_value ((scalar_key.ok l_a0 h w).mono fun e w' ⟨v, he, hv, hb⟩ => ⟨v, he, hv.1, hb⟩)

/-! ### escutcheon/scalar.less: function 25 -/
noncomputable def B25 : Code := bodyOf Try.f25
def scalar_less.L0 (a0 : List Int) (t4 : List Int) : Nat → Int → Int → List Int → Option (Int × List Int)
  | 0, _, _, _ => none
  | k + 1, x4_8, x8_9, y_10 => if (decide (x8_9 < 4)) = true then (req (0 ≤ x8_9) (req (x8_9 < 4) (req (x4_8 ≤ 1) (nm (sub64 (a0.getD x8_9.toNat 0) (t4.getD x8_9.toNat 0) x4_8) fun t88 => nm (sub64c (a0.getD x8_9.toNat 0) (t4.getD x8_9.toNat 0) x4_8) fun t91 => scalar_less.L0 a0 t4 k t91 (IntKind.i64.wrap (x8_9 + 1)) (y_10.set x8_9.toNat t88))))) else (some (x4_8, y_10))
set_option maxRecDepth 20000 in
theorem scalar_less.L0_ok (a0 : List Int) (b1 : Nat) (b2 : Nat) (b3 : Nat) (t4 : List Int) (b7 : Nat) {R : Ending → World → Prop} {w0 : World} {I : Nat → Option Obj} {K : List Item} (l_a0 : a0.length = 4) (l_t4 : t4.length = 4) :
    ∀ (k : Nat) (x4_8 : Int) (x8_9 : Int) (y_10 : List Int) (r0 : Int) (r1 : List Int) (l_y_10 : y_10.length = 4) (h : scalar_less.L0 a0 t4 k x4_8 x8_9 y_10 = some (r0, r1)) (hk : r1.length = 4 → TT Try.prog 25 R 29 w0 I K [(1, ptr b1 0), (2, ptr b2 0), (3, ptr b3 0), (4, .int .u64 r0)] [(some b7, .cells (enc .u64 t4) 40 (0, 0)), (some b3, .cells (enc .u64 r1) 40 (0, 0)), (some b2, .cells (enc .u64 (List.replicate 4 0)) 40 (0, 0)), (some b1, .cells (enc .u64 a0) 40 (0, 0))]),
      TT Try.prog 25 R 29 w0 I (.code (sub [1, 1, 1, 1, 0, 1, 0, 0] B25) :: .inLoop (sub [1, 1, 1, 1, 0, 1, 0, 0] B25) :: .inBlock 0 :: K) [(1, ptr b1 0), (2, ptr b2 0), (3, ptr b3 0), (4, .int .u64 x4_8), (5, ptr b7 0), (8, .int .i64 x8_9)] [(some b7, .cells (enc .u64 t4) 40 (0, 0)), (some b3, .cells (enc .u64 y_10) 40 (0, 0)), (some b2, .cells (enc .u64 (List.replicate 4 0)) 40 (0, 0)), (some b1, .cells (enc .u64 a0) 40 (0, 0))] := by
  intro k
  induction k with
  | zero => intro x4_8 x8_9 y_10 r0 r1 l_y_10 h; simp [scalar_less.L0] at h
  | succ k ih =>
    intro x4_8 x8_9 y_10 r0 r1 l_y_10 h hk
    unfold scalar_less.L0 at h
    refine TT.seq (x := sub [1, 1, 1, 1, 0, 1, 0, 0, 0] B25) (y := sub [1, 1, 1, 1, 0, 1, 0, 0, 1] B25) ?_
    refine TT.region (id := 5) (n := 1) (ops := (opsOf (sub [1, 1, 1, 1, 0, 1, 0, 0, 0] B25))) [(.pure, none)] rfl ?_
    show DL _ _ _ _ _ _ _ _ _ _ [0] _ _
    refine DL.pu 9 (.bool (decide (x8_9 < 4))) rfl (p_lss rfl rfl rfl) ?_
    refine DL.nil ?_
    refine TT.seq (x := sub [1, 1, 1, 1, 0, 1, 0, 0, 1, 0] B25) (y := sub [1, 1, 1, 1, 0, 1, 0, 0, 1, 1] B25) ?_
    by_cases c79 : (decide (x8_9 < 4)) = true
    · have h80 := ite_true c79 h
      refine TT.cond_true (x := sub [1, 1, 1, 1, 0, 1, 0, 0, 1, 0, 0] B25) (y := sub [1, 1, 1, 1, 0, 1, 0, 0, 1, 0, 1] B25) rfl c79 ?_
      refine TT.skip ?_
      refine TT.seq (x := sub [1, 1, 1, 1, 0, 1, 0, 0, 1, 1, 0] B25) (y := sub [1, 1, 1, 1, 0, 1, 0, 0, 1, 1, 1] B25) ?_
      refine TT.block (c := sub [1, 1, 1, 1, 0, 1, 0, 0, 1, 1, 0, 0] B25) ?_
      refine TT.seq (x := sub [1, 1, 1, 1, 0, 1, 0, 0, 1, 1, 0, 0, 0] B25) (y := sub [1, 1, 1, 1, 0, 1, 0, 0, 1, 1, 0, 0, 1] B25) ?_
      refine TT.region (id := 6) (n := 2) (ops := (opsOf (sub [1, 1, 1, 1, 0, 1, 0, 0, 1, 1, 0, 0, 0] B25))) [(.pure, none), (.pure, none)] rfl ?_
      show DL _ _ _ _ _ _ _ _ _ _ [0, 1] _ _
      refine DL.pu 10 (.int .i64 x8_9) rfl (p_move rfl rfl) ?_
      refine DL.pu 6 (.int .i64 x8_9) rfl (p_assign rfl rfl) ?_
      refine DL.nil ?_
      refine TT.regionD (id := 7) (ops := (opsOf (sub [1, 1, 1, 1, 0, 1, 0, 0, 1, 1, 0, 0, 1] B25))) [0, 1, 2, 3, 4, 5, 6, 7, 8, 9, 10, 11, 12, 13, 14] [0, 0, 2, 6, 0, 16, 48, 0, 254, 510, 1022, 1022, 2047, 6143, 16383] [(.pure, none), (.pure, none), (.pure, none), (.look, some 3), (.pure, none), (.pure, none), (.look, some 0), (.pure, none), (.quiet, none), (.pure, none), (.pure, none), (.pure, none), (.pure, none), (.store, some 1), (.pure, none)] mixed (by kernel_rfl) ?_
      intro w81 hl81 hj81 hz81
      refine DL.pu 12 (.int .i64 x8_9) rfl (p_move rfl rfl) ?_
      refine DL.pu 13 (.int .i64 x8_9) rfl (p_move rfl rfl) ?_
      obtain ⟨g82, h83⟩ := req_some h80
      obtain ⟨g84, h85⟩ := req_some h83
      refine DL.pu 14 (ptr b1 x8_9.toNat) rfl (p_ix ty_u40 ty_s39 g82 g84 rfl rfl rfl) ?_
      refine DL.look (v := .int .u64 (a0.getD x8_9.toNat 0)) (x := 3) (b := b1) (i := 3) rfl (Wn.none rfl) rfl rfl rfl rfl rfl (List.mem_of_getElem? (i := 3) rfl) (b_load ty_a39 (enc_at l_a0 g82 g84) rfl rfl) ?_
      refine DL.pu 16 (.int .i64 x8_9) rfl (p_move rfl rfl) ?_
      refine DL.pu 17 (ptr b7 x8_9.toNat) rfl (p_ix ty_u40 ty_s39 g82 g84 rfl rfl rfl) ?_
      refine DL.look (v := .int .u64 (t4.getD x8_9.toNat 0)) (x := 0) (b := b7) (i := 6) rfl (Wn.none rfl) rfl rfl rfl rfl rfl (List.mem_of_getElem? (i := 0) rfl) (b_load ty_a39 (enc_at l_t4 g82 g84) rfl rfl) ?_
      refine DL.pu 19 (.int .u64 x4_8) rfl (p_move rfl rfl) ?_
      obtain ⟨g86, h87⟩ := req_some h85
      obtain ⟨t88, e89, h90⟩ := nm_some h87
      obtain ⟨t91, e92, h93⟩ := nm_some h90
      refine DL.qu 20 (.tuple #[.int .u64 t88, .int .u64 t91]) rfl (by rw [e89, e92]; exact f_extern rfl rfl (args_val (vs := [.int .u64 (a0.getD x8_9.toNat 0), .int .u64 (t4.getD x8_9.toNat 0), .int .u64 x4_8]) rfl) (fun w => x27 _ _ _ g86 w)) ?_
      refine DL.pu 11 (.tuple #[.int .u64 t88, .int .u64 t91]) rfl (p_move rfl rfl) ?_
      refine DL.pu 21 (.int .u64 t88) rfl (p_extract rfl rfl rfl) ?_
      refine DL.pu 22 (.int .u64 t91) rfl (p_extract rfl rfl rfl) ?_
      refine DL.pu 23 (ptr b3 x8_9.toNat) rfl (p_ix ty_u40 ty_s39 g82 g84 rfl rfl rfl) ?_
      refine DL.put (H' := [(some b7, .cells (enc .u64 t4) 40 (0, 0)), (some b3, .cells (enc .u64 (y_10.set x8_9.toNat t88)) 40 (0, 0)), (some b2, .cells (enc .u64 (List.replicate 4 0)) 40 (0, 0)), (some b1, .cells (enc .u64 a0) 40 (0, 0))]) (i := 13) rfl (Wn.none rfl) rfl rfl (f_storeE (j := 1) ty_s39 rfl (lt_nat l_y_10 g82 g84) rfl rfl rfl) (keep_set (j := 1) hj81 rfl rfl rfl) ?_
      refine DL.pu 4 (.int .u64 t91) rfl (p_assign rfl rfl) ?_
      refine DL.nil' hl81 ?_
      refine TT.inBlock ?_
      refine TT.region (id := 8) (n := 2) (ops := (opsOf (sub [1, 1, 1, 1, 0, 1, 0, 0, 1, 1, 1] B25))) [(.pure, none), (.pure, none)] rfl ?_
      show DL _ _ _ _ _ _ _ _ _ _ [0, 1] _ _
      refine DL.pu 24 (.int .i64 (IntKind.i64.wrap (x8_9 + 1))) rfl (p_add rfl rfl rfl) ?_
      refine DL.pu 8 (.int .i64 (IntKind.i64.wrap (x8_9 + 1))) rfl (p_move rfl rfl) ?_
      refine DL.nil ?_
      refine TT.inLoop ?_
      exact TT.weak (ih t91 (IntKind.i64.wrap (x8_9 + 1)) (y_10.set x8_9.toNat t88) r0 r1 (len_set l_y_10) h93 hk) (Sub.cons rfl (Sub.cons rfl (Sub.cons rfl (Sub.cons rfl (Sub.cons rfl (Sub.cons rfl (Sub.nil _)))))))
    · replace c79 := Bool.eq_false_iff.mpr c79
      have h94 := ite_false c79 h
      refine TT.cond_false (x := sub [1, 1, 1, 1, 0, 1, 0, 0, 1, 0, 0] B25) (y := sub [1, 1, 1, 1, 0, 1, 0, 0, 1, 0, 1] B25) rfl c79 ?_
      refine TT.exit rfl ?_
      simp only [Option.some.injEq, Prod.mk.injEq] at h94
      obtain ⟨rfl, rfl⟩ := h94
      exact TT.weak (hk l_y_10) (Sub.cons rfl (Sub.cons rfl (Sub.cons rfl (Sub.cons rfl (Sub.nil _)))))

def scalar_less.f (a0 : List Int) : Option (List Int) := (scalar_order.f).bind fun t4 => (scalar_less.L0 a0 t4 5 0 0 (List.replicate 4 0)).bind fun (z4_77, z_b3_78) => if (z4_77 == 0) = true then (some z_b3_78) else (some a0)
set_option maxRecDepth 20000 in
theorem scalar_less.ok {a0 : List Int} {r : List Int} (l_a0 : a0.length = 4) (h : scalar_less.f a0 = some r) (w : World) : Calls Try.prog 25 #[.agg (enc .u64 a0)] w (Post (fun u => u = .agg (enc .u64 r) ∧ r.length = 4) w) := by
  unfold scalar_less.f at h
  refine calls_of_TT (N := 29) (S := [(0, .agg (enc .u64 a0))]) (c := B25) Try.func25 rfl rfl rfl (by simp) ?_
  show TT _ _ _ _ _ _ [.code (sub [] B25)] _ _
  refine TT.seq (x := sub [0] B25) (y := sub [1] B25) ?_
  refine TT.region (id := 0) (n := 2) (ops := (opsOf (sub [0] B25))) [(.alloc, none), (.alloc, none)] rfl ?_
  show DL _ _ _ _ _ _ _ _ _ _ [0, 1] _ _
  refine DL.new (ob := .cells (enc .u64 a0) 40) (mk := fun b => ptr b 0) (i := 0) rfl (Wn.none rfl) rfl rfl rfl (f_box (v := .agg (enc .u64 a0)) rfl rfl) ?_
  intro b1 hb1
  refine DL.new (ob := .cells (enc .u64 (List.replicate 4 0)) 40) (mk := fun b => ptr b 0) (i := 1) rfl (Wn.none rfl) rfl rfl rfl (f_alloc ty_z40 rfl) ?_
  intro b2 hb2
  refine DL.nil ?_
  refine TT.seq (x := sub [1, 0] B25) (y := sub [1, 1] B25) ?_
  refine TT.region (id := 1) (n := 1) (ops := (opsOf (sub [1, 0] B25))) [(.alloc, none)] rfl ?_
  show DL _ _ _ _ _ _ _ _ _ _ [0] _ _
  refine DL.new (ob := .cells (enc .u64 (List.replicate 4 0)) 40) (mk := fun b => ptr b 0) (i := 0) rfl (Wn.none rfl) rfl rfl rfl (f_alloc ty_z40 rfl) ?_
  intro b3 hb3
  refine DL.nil ?_
  refine TT.seq (x := sub [1, 1, 0] B25) (y := sub [1, 1, 1] B25) ?_
  refine TT.region (id := 2) (n := 1) (ops := (opsOf (sub [1, 1, 0] B25))) [(.pure, none)] rfl ?_
  show DL _ _ _ _ _ _ _ _ _ _ [0] _ _
  refine DL.pu 4 (.int .u64 0) rfl (p_assign rfl rfl) ?_
  refine DL.nil ?_
  refine TT.seq (x := sub [1, 1, 1, 0] B25) (y := sub [1, 1, 1, 1] B25) ?_
  refine TT.region (id := 3) (n := 3) (ops := (opsOf (sub [1, 1, 1, 0] B25))) [(.quiet, none), (.alloc, none), (.store, none)] rfl ?_
  show DL _ _ _ _ _ _ _ _ _ _ [0, 1, 2] _ _
  obtain ⟨t4, h5, h6⟩ := bind_some h
  have l_t4 := scalar_order.len h5
  refine DL.qu 7 (.agg (enc .u64 t4)) rfl (f_call rfl rfl (args_val (vs := []) rfl) (fun w => enter26 _ w) (fun w => scalar_order.val h5 w)) ?_
  refine DL.new (ob := .cells (enc .u64 (List.replicate 4 0)) 40) (mk := fun b => ptr b 0) (i := 1) rfl (Wn.none rfl) rfl rfl rfl (f_alloc ty_z40 rfl) ?_
  intro b7 hb7
  refine DL.put (H' := [(some b7, .cells (enc .u64 t4) 40 (0, 0)), (some b3, .cells (enc .u64 (List.replicate 4 0)) 40 (0, 0)), (some b2, .cells (enc .u64 (List.replicate 4 0)) 40 (0, 0)), (some b1, .cells (enc .u64 a0) 40 (0, 0))]) (i := 2) rfl (Wn.none rfl) rfl rfl (f_storeA (j := 0) ty_s40 rfl (enc_sz l_t4) (enc_sz (List.length_replicate)) (enc_oneCell _ _) rfl rfl rfl) (keep_none rfl) ?_
  refine DL.nil ?_
  refine TT.seq (x := sub [1, 1, 1, 1, 0] B25) (y := sub [1, 1, 1, 1, 1] B25) ?_
  refine TT.seq (x := sub [1, 1, 1, 1, 0, 0] B25) (y := sub [1, 1, 1, 1, 0, 1] B25) ?_
  refine TT.region (id := 4) (n := 1) (ops := (opsOf (sub [1, 1, 1, 1, 0, 0] B25))) [(.pure, none)] rfl ?_
  show DL _ _ _ _ _ _ _ _ _ _ [0] _ _
  refine DL.pu 8 (.int .i64 0) rfl (p_move rfl rfl) ?_
  refine DL.nil ?_
  refine TT.block (c := sub [1, 1, 1, 1, 0, 1, 0] B25) ?_
  refine TT.loop (c := sub [1, 1, 1, 1, 0, 1, 0, 0] B25) ?_
  obtain ⟨⟨z4_77, z_b3_78⟩, h95, h96⟩ := bind_some h6
  refine TT.weak (scalar_less.L0_ok a0 b1 b2 b3 t4 b7 l_a0 l_t4 5 0 0 (List.replicate 4 0) z4_77 z_b3_78 (List.length_replicate) h95 (fun l_z_b3_78 => ?_)) (Sub.cons rfl (Sub.cons rfl (Sub.cons rfl (Sub.cons rfl (Sub.cons rfl (Sub.cons rfl (Sub.nil _)))))))
  refine TT.seq (x := sub [1, 1, 1, 1, 1, 0] B25) (y := sub [1, 1, 1, 1, 1, 1] B25) ?_
  refine TT.seq (x := sub [1, 1, 1, 1, 1, 0, 0] B25) (y := sub [1, 1, 1, 1, 1, 0, 1] B25) ?_
  refine TT.region (id := 9) (n := 2) (ops := (opsOf (sub [1, 1, 1, 1, 1, 0, 0] B25))) [(.pure, none), (.pure, none)] rfl ?_
  show DL _ _ _ _ _ _ _ _ _ _ [0, 1] _ _
  refine DL.pu 25 (.int .u64 z4_77) rfl (p_move rfl rfl) ?_
  refine DL.pu 26 (.bool (z4_77 == 0)) rfl (p_eql rfl rfl rfl) ?_
  refine DL.nil ?_
  by_cases c97 : (z4_77 == 0) = true
  · have h98 := ite_true c97 h96
    refine TT.cond_true (x := sub [1, 1, 1, 1, 1, 0, 1, 0] B25) (y := sub [1, 1, 1, 1, 1, 0, 1, 1] B25) rfl c97 ?_
    refine TT.seq (x := sub [1, 1, 1, 1, 1, 0, 1, 0, 0] B25) (y := sub [1, 1, 1, 1, 1, 0, 1, 0, 1] B25) ?_
    refine TT.region (id := 10) (n := 2) (ops := (opsOf (sub [1, 1, 1, 1, 1, 0, 1, 0, 0] B25))) [(.quiet, none), (.store, none)] rfl ?_
    show DL _ _ _ _ _ _ _ _ _ _ [0, 1] _ _
    refine DL.qu 27 (.agg (enc .u64 z_b3_78)) rfl (f_loadA (j := 1) ty_a40 ty_s40 rfl (enc_sz l_z_b3_78) rfl rfl) ?_
    refine DL.put (H' := [(some b7, .cells (enc .u64 t4) 40 (0, 0)), (some b3, .cells (enc .u64 z_b3_78) 40 (0, 0)), (some b2, .cells (enc .u64 z_b3_78) 40 (0, 0)), (some b1, .cells (enc .u64 a0) 40 (0, 0))]) (i := 1) rfl (Wn.none rfl) rfl rfl (f_storeA (j := 2) ty_s40 rfl (enc_sz l_z_b3_78) (enc_sz (List.length_replicate)) (enc_oneCell _ _) rfl rfl rfl) (keep_none rfl) ?_
    refine DL.nil ?_
    obtain rfl := Option.some.inj h98
    exact ret1 Try.func25 rfl (ResV.cell (j := 2) ty_a40 ty_s40 rfl rfl (enc_sz l_z_b3_78)) ⟨rfl, l_z_b3_78⟩
  · replace c97 := Bool.eq_false_iff.mpr c97
    have h99 := ite_false c97 h96
    refine TT.cond_false (x := sub [1, 1, 1, 1, 1, 0, 1, 0] B25) (y := sub [1, 1, 1, 1, 1, 0, 1, 1] B25) rfl c97 ?_
    refine TT.skip ?_
    refine TT.seq (x := sub [1, 1, 1, 1, 1, 1, 0] B25) (y := sub [1, 1, 1, 1, 1, 1, 1] B25) ?_
    refine TT.region (id := 11) (n := 2) (ops := (opsOf (sub [1, 1, 1, 1, 1, 1, 0] B25))) [(.quiet, none), (.store, none)] rfl ?_
    show DL _ _ _ _ _ _ _ _ _ _ [0, 1] _ _
    refine DL.qu 28 (.agg (enc .u64 a0)) rfl (f_loadA (j := 3) ty_a40 ty_s40 rfl (enc_sz l_a0) rfl rfl) ?_
    refine DL.put (H' := [(some b7, .cells (enc .u64 t4) 40 (0, 0)), (some b3, .cells (enc .u64 z_b3_78) 40 (0, 0)), (some b2, .cells (enc .u64 a0) 40 (0, 0)), (some b1, .cells (enc .u64 a0) 40 (0, 0))]) (i := 1) rfl (Wn.none rfl) rfl rfl (f_storeA (j := 2) ty_s40 rfl (enc_sz l_a0) (enc_sz (List.length_replicate)) (enc_oneCell _ _) rfl rfl rfl) (keep_none rfl) ?_
    refine DL.nil ?_
    obtain rfl := Option.some.inj h99
    exact ret1 Try.func25 rfl (ResV.cell (j := 2) ty_a40 ty_s40 rfl rfl (enc_sz l_a0)) ⟨rfl, l_a0⟩
theorem scalar_less.len {a0 : List Int} {r : List Int} (l_a0 : a0.length = 4) (h : scalar_less.f a0 = some r) : r.length = 4 := by
  obtain ⟨v, hv⟩ := calls_fact (scalar_less.ok l_a0 h)
  exact hv.2
theorem scalar_less.val {a0 : List Int} {r : List Int} (l_a0 : a0.length = 4) (h : scalar_less.f a0 = some r) (w : World) : Calls Try.prog 25 #[.agg (enc .u64 a0)] w fun e w' => e = .returned (.agg (enc .u64 r)) ∧ Below w.heap.size w w' :=
  calls_value ((scalar_less.ok l_a0 h w).mono fun e w' ⟨v, he, hv, hb⟩ => ⟨v, he, hv.1, hb⟩)

/-! ### escutcheon/scalar.reduce: function 24 -/
noncomputable def B24 : Code := bodyOf Try.f24
def scalar_reduce.L1 : Nat → Int → Int → List Int → Option (List Int)
  | 0, _, _, _ => none
  | k + 1, x5_167, x20_168, y_169 => if (decide (x20_168 < 4)) = true then (req (0 ≤ x20_168) (req (x20_168 < 4) (nm (ior .u64 (ishl .u64 (y_169.getD x20_168.toNat 0) 1) x5_167) fun t239 => scalar_reduce.L1 k (ishr .u64 (y_169.getD x20_168.toNat 0) 63) (IntKind.i64.wrap (x20_168 + 1)) (y_169.set x20_168.toNat t239)))) else (some y_169)
set_option maxRecDepth 20000 in
theorem scalar_reduce.L1_ok (a0 : List Int) (b1 : Nat) (b2 : Nat) (b3 : Nat) (x7_4 : Int) {R : Ending → World → Prop} {w0 : World} {I : Nat → Option Obj} {K : List Item} :
    ∀ (k : Nat) (x5_167 : Int) (x20_168 : Int) (y_169 : List Int) (r0 : List Int) (l_y_169 : y_169.length = 4) (h : scalar_reduce.L1 k x5_167 x20_168 y_169 = some r0) (hk : r0.length = 4 → TT Try.prog 24 R 40 w0 I K [(1, ptr b1 0), (2, ptr b2 0), (3, ptr b3 0), (7, .int .i64 x7_4)] [(some b3, .cells (enc .u64 r0) 40 (0, 0)), (some b2, .cells (enc .u64 (List.replicate 4 0)) 40 (0, 0)), (some b1, .cells (enc .u64 a0) 42 (0, 0))]),
      TT Try.prog 24 R 40 w0 I (.code (sub [1, 1, 0, 1, 0, 0, 1, 1, 0, 0, 1, 1, 0, 1, 0, 0] B24) :: .inLoop (sub [1, 1, 0, 1, 0, 0, 1, 1, 0, 0, 1, 1, 0, 1, 0, 0] B24) :: .inBlock 2 :: K) [(1, ptr b1 0), (2, ptr b2 0), (3, ptr b3 0), (5, .int .u64 x5_167), (7, .int .i64 x7_4), (20, .int .i64 x20_168)] [(some b3, .cells (enc .u64 y_169) 40 (0, 0)), (some b2, .cells (enc .u64 (List.replicate 4 0)) 40 (0, 0)), (some b1, .cells (enc .u64 a0) 42 (0, 0))] := by
  intro k
  induction k with
  | zero => intro x5_167 x20_168 y_169 r0 l_y_169 h; simp [scalar_reduce.L1] at h
  | succ k ih =>
    intro x5_167 x20_168 y_169 r0 l_y_169 h hk
    unfold scalar_reduce.L1 at h
    refine TT.seq (x := sub [1, 1, 0, 1, 0, 0, 1, 1, 0, 0, 1, 1, 0, 1, 0, 0, 0] B24) (y := sub [1, 1, 0, 1, 0, 0, 1, 1, 0, 0, 1, 1, 0, 1, 0, 0, 1] B24) ?_
    refine TT.region (id := 7) (n := 1) (ops := (opsOf (sub [1, 1, 0, 1, 0, 0, 1, 1, 0, 0, 1, 1, 0, 1, 0, 0, 0] B24))) [(.pure, none)] rfl ?_
    show DL _ _ _ _ _ _ _ _ _ _ [0] _ _
    refine DL.pu 21 (.bool (decide (x20_168 < 4))) rfl (p_lss rfl rfl rfl) ?_
    refine DL.nil ?_
    refine TT.seq (x := sub [1, 1, 0, 1, 0, 0, 1, 1, 0, 0, 1, 1, 0, 1, 0, 0, 1, 0] B24) (y := sub [1, 1, 0, 1, 0, 0, 1, 1, 0, 0, 1, 1, 0, 1, 0, 0, 1, 1] B24) ?_
    by_cases c232 : (decide (x20_168 < 4)) = true
    · have h233 := ite_true c232 h
      refine TT.cond_true (x := sub [1, 1, 0, 1, 0, 0, 1, 1, 0, 0, 1, 1, 0, 1, 0, 0, 1, 0, 0] B24) (y := sub [1, 1, 0, 1, 0, 0, 1, 1, 0, 0, 1, 1, 0, 1, 0, 0, 1, 0, 1] B24) rfl c232 ?_
      refine TT.skip ?_
      refine TT.seq (x := sub [1, 1, 0, 1, 0, 0, 1, 1, 0, 0, 1, 1, 0, 1, 0, 0, 1, 1, 0] B24) (y := sub [1, 1, 0, 1, 0, 0, 1, 1, 0, 0, 1, 1, 0, 1, 0, 0, 1, 1, 1] B24) ?_
      refine TT.block (c := sub [1, 1, 0, 1, 0, 0, 1, 1, 0, 0, 1, 1, 0, 1, 0, 0, 1, 1, 0, 0] B24) ?_
      refine TT.seq (x := sub [1, 1, 0, 1, 0, 0, 1, 1, 0, 0, 1, 1, 0, 1, 0, 0, 1, 1, 0, 0, 0] B24) (y := sub [1, 1, 0, 1, 0, 0, 1, 1, 0, 0, 1, 1, 0, 1, 0, 0, 1, 1, 0, 0, 1] B24) ?_
      refine TT.region (id := 8) (n := 2) (ops := (opsOf (sub [1, 1, 0, 1, 0, 0, 1, 1, 0, 0, 1, 1, 0, 1, 0, 0, 1, 1, 0, 0, 0] B24))) [(.pure, none), (.pure, none)] rfl ?_
      show DL _ _ _ _ _ _ _ _ _ _ [0, 1] _ _
      refine DL.pu 22 (.int .i64 x20_168) rfl (p_move rfl rfl) ?_
      refine DL.pu 6 (.int .i64 x20_168) rfl (p_assign rfl rfl) ?_
      refine DL.nil ?_
      refine TT.regionD (id := 9) (ops := (opsOf (sub [1, 1, 0, 1, 0, 0, 1, 1, 0, 0, 1, 1, 0, 1, 0, 0, 1, 1, 0, 0, 1] B24))) [0, 1, 2, 3, 4, 5, 6, 7, 8, 9, 10, 11, 12, 13] [0, 0, 2, 6, 14, 0, 62, 0, 128, 384, 896, 1023, 3071, 8191] [(.pure, none), (.pure, none), (.pure, none), (.look, some 0), (.pure, none), (.pure, none), (.pure, none), (.pure, none), (.pure, none), (.look, some 0), (.pure, none), (.pure, none), (.store, some 0), (.pure, none)] mixed (by kernel_rfl) ?_
      intro w234 hl234 hj234 hz234
      refine DL.pu 23 (.int .i64 x20_168) rfl (p_move rfl rfl) ?_
      refine DL.pu 24 (.int .i64 x20_168) rfl (p_move rfl rfl) ?_
      obtain ⟨g235, h236⟩ := req_some h233
      obtain ⟨g237, h238⟩ := req_some h236
      refine DL.pu 25 (ptr b3 x20_168.toNat) rfl (p_ix ty_u40 ty_s39 g235 g237 rfl rfl rfl) ?_
      refine DL.look (v := .int .u64 (y_169.getD x20_168.toNat 0)) (x := 0) (b := b3) (i := 3) rfl (Wn.none rfl) rfl rfl rfl rfl rfl (List.mem_of_getElem? (i := 0) rfl) (b_load ty_a39 (enc_at l_y_169 g235 g237) rfl rfl) ?_
      refine DL.pu 27 (.int .u64 (ishl .u64 (y_169.getD x20_168.toNat 0) 1)) rfl (p_shl (by decide) rfl rfl rfl) ?_
      refine DL.pu 28 (.int .u64 x5_167) rfl (p_move rfl rfl) ?_
      obtain ⟨t239, e240, h241⟩ := nm_some h238
      refine DL.pu 29 (.int .u64 t239) rfl (by rw [e240]; exact p_or rfl rfl rfl) ?_
      refine DL.pu 30 (.int .i64 x20_168) rfl (p_move rfl rfl) ?_
      refine DL.pu 31 (ptr b3 x20_168.toNat) rfl (p_ix ty_u40 ty_s39 g235 g237 rfl rfl rfl) ?_
      refine DL.look (v := .int .u64 (y_169.getD x20_168.toNat 0)) (x := 0) (b := b3) (i := 9) rfl (Wn.none rfl) rfl rfl rfl rfl rfl (List.mem_of_getElem? (i := 0) rfl) (b_load ty_a39 (enc_at l_y_169 g235 g237) rfl rfl) ?_
      refine DL.pu 33 (.int .u64 (ishr .u64 (y_169.getD x20_168.toNat 0) 63)) rfl (p_shr (by decide) rfl rfl rfl) ?_
      refine DL.pu 34 (ptr b3 x20_168.toNat) rfl (p_ix ty_u40 ty_s39 g235 g237 rfl rfl rfl) ?_
      refine DL.put (H' := [(some b3, .cells (enc .u64 (y_169.set x20_168.toNat t239)) 40 (0, 0)), (some b2, .cells (enc .u64 (List.replicate 4 0)) 40 (0, 0)), (some b1, .cells (enc .u64 a0) 42 (0, 0))]) (i := 12) rfl (Wn.none rfl) rfl rfl (f_storeE (j := 0) ty_s39 rfl (lt_nat l_y_169 g235 g237) rfl rfl rfl) (keep_set (j := 0) hj234 rfl rfl rfl) ?_
      refine DL.pu 5 (.int .u64 (ishr .u64 (y_169.getD x20_168.toNat 0) 63)) rfl (p_assign rfl rfl) ?_
      refine DL.nil' hl234 ?_
      refine TT.inBlock ?_
      refine TT.region (id := 10) (n := 2) (ops := (opsOf (sub [1, 1, 0, 1, 0, 0, 1, 1, 0, 0, 1, 1, 0, 1, 0, 0, 1, 1, 1] B24))) [(.pure, none), (.pure, none)] rfl ?_
      show DL _ _ _ _ _ _ _ _ _ _ [0, 1] _ _
      refine DL.pu 35 (.int .i64 (IntKind.i64.wrap (x20_168 + 1))) rfl (p_add rfl rfl rfl) ?_
      refine DL.pu 20 (.int .i64 (IntKind.i64.wrap (x20_168 + 1))) rfl (p_move rfl rfl) ?_
      refine DL.nil ?_
      refine TT.inLoop ?_
      exact TT.weak (ih (ishr .u64 (y_169.getD x20_168.toNat 0) 63) (IntKind.i64.wrap (x20_168 + 1)) (y_169.set x20_168.toNat t239) r0 (len_set l_y_169) h241 hk) (Sub.cons rfl (Sub.cons rfl (Sub.cons rfl (Sub.cons rfl (Sub.cons rfl (Sub.cons rfl (Sub.nil _)))))))
    · replace c232 := Bool.eq_false_iff.mpr c232
      have h242 := ite_false c232 h
      refine TT.cond_false (x := sub [1, 1, 0, 1, 0, 0, 1, 1, 0, 0, 1, 1, 0, 1, 0, 0, 1, 0, 0] B24) (y := sub [1, 1, 0, 1, 0, 0, 1, 1, 0, 0, 1, 1, 0, 1, 0, 0, 1, 0, 1] B24) rfl c232 ?_
      refine TT.exit rfl ?_
      obtain rfl := Option.some.inj h242
      exact TT.weak (hk l_y_169) (Sub.cons rfl (Sub.cons rfl (Sub.cons rfl (Sub.cons rfl (Sub.nil _)))))

def scalar_reduce.L0 (a0 : List Int) : Nat → Int → List Int → Option (List Int)
  | 0, _, _ => none
  | k + 1, x7_4, y_5 => if (decide (x7_4 < 512)) = true then (nm (IntKind.i64.wrap (7 - (IntKind.i64.wrap (Int.tdiv x7_4 64)))) fun t155 => req (0 ≤ t155) (req (t155 < 8) (req (0 ≤ (IntKind.i64.wrap (63 - (Int.tmod x7_4 64)))) (nm (ishr .u64 (a0.getD t155.toNat 0) (IntKind.i64.wrap (63 - (Int.tmod x7_4 64)))) fun t164 => (scalar_reduce.L1 5 (iand .u64 t164 1) 0 y_5).bind fun z_b3_231 => (scalar_less.f z_b3_231).bind fun t245 => scalar_reduce.L0 a0 k (IntKind.i64.wrap (x7_4 + 1)) t245)))) else (some y_5)
set_option maxRecDepth 20000 in
theorem scalar_reduce.L0_ok (a0 : List Int) (b1 : Nat) (b2 : Nat) (b3 : Nat) {R : Ending → World → Prop} {w0 : World} {I : Nat → Option Obj} {K : List Item} (l_a0 : a0.length = 8) :
    ∀ (k : Nat) (x7_4 : Int) (y_5 : List Int) (r0 : List Int) (l_y_5 : y_5.length = 4) (h : scalar_reduce.L0 a0 k x7_4 y_5 = some r0) (hk : r0.length = 4 → TT Try.prog 24 R 40 w0 I K [(2, ptr b2 0), (3, ptr b3 0)] [(some b3, .cells (enc .u64 r0) 40 (0, 0)), (some b2, .cells (enc .u64 (List.replicate 4 0)) 40 (0, 0)), (some b1, .cells (enc .u64 a0) 42 (0, 0))]),
      TT Try.prog 24 R 40 w0 I (.code (sub [1, 1, 0, 1, 0, 0] B24) :: .inLoop (sub [1, 1, 0, 1, 0, 0] B24) :: .inBlock 0 :: K) [(1, ptr b1 0), (2, ptr b2 0), (3, ptr b3 0), (7, .int .i64 x7_4)] [(some b3, .cells (enc .u64 y_5) 40 (0, 0)), (some b2, .cells (enc .u64 (List.replicate 4 0)) 40 (0, 0)), (some b1, .cells (enc .u64 a0) 42 (0, 0))] := by
  intro k
  induction k with
  | zero => intro x7_4 y_5 r0 l_y_5 h; simp [scalar_reduce.L0] at h
  | succ k ih =>
    intro x7_4 y_5 r0 l_y_5 h hk
    unfold scalar_reduce.L0 at h
    refine TT.seq (x := sub [1, 1, 0, 1, 0, 0, 0] B24) (y := sub [1, 1, 0, 1, 0, 0, 1] B24) ?_
    refine TT.region (id := 3) (n := 1) (ops := (opsOf (sub [1, 1, 0, 1, 0, 0, 0] B24))) [(.pure, none)] rfl ?_
    show DL _ _ _ _ _ _ _ _ _ _ [0] _ _
    refine DL.pu 8 (.bool (decide (x7_4 < 512))) rfl (p_lss rfl rfl rfl) ?_
    refine DL.nil ?_
    refine TT.seq (x := sub [1, 1, 0, 1, 0, 0, 1, 0] B24) (y := sub [1, 1, 0, 1, 0, 0, 1, 1] B24) ?_
    by_cases c153 : (decide (x7_4 < 512)) = true
    · have h154 := ite_true c153 h
      refine TT.cond_true (x := sub [1, 1, 0, 1, 0, 0, 1, 0, 0] B24) (y := sub [1, 1, 0, 1, 0, 0, 1, 0, 1] B24) rfl c153 ?_
      refine TT.skip ?_
      refine TT.seq (x := sub [1, 1, 0, 1, 0, 0, 1, 1, 0] B24) (y := sub [1, 1, 0, 1, 0, 0, 1, 1, 1] B24) ?_
      refine TT.block (c := sub [1, 1, 0, 1, 0, 0, 1, 1, 0, 0] B24) ?_
      refine TT.seq (x := sub [1, 1, 0, 1, 0, 0, 1, 1, 0, 0, 0] B24) (y := sub [1, 1, 0, 1, 0, 0, 1, 1, 0, 0, 1] B24) ?_
      refine TT.region (id := 4) (n := 2) (ops := (opsOf (sub [1, 1, 0, 1, 0, 0, 1, 1, 0, 0, 0] B24))) [(.pure, none), (.pure, none)] rfl ?_
      show DL _ _ _ _ _ _ _ _ _ _ [0, 1] _ _
      refine DL.pu 9 (.int .i64 x7_4) rfl (p_move rfl rfl) ?_
      refine DL.pu 4 (.int .i64 x7_4) rfl (p_assign rfl rfl) ?_
      refine DL.nil ?_
      refine TT.seq (x := sub [1, 1, 0, 1, 0, 0, 1, 1, 0, 0, 1, 0] B24) (y := sub [1, 1, 0, 1, 0, 0, 1, 1, 0, 0, 1, 1] B24) ?_
      refine TT.region (id := 5) (n := 11) (ops := (opsOf (sub [1, 1, 0, 1, 0, 0, 1, 1, 0, 0, 1, 0] B24))) [(.pure, none), (.pure, none), (.pure, none), (.pure, none), (.quiet, none), (.pure, none), (.pure, none), (.pure, none), (.pure, none), (.pure, none), (.pure, none)] rfl ?_
      show DL _ _ _ _ _ _ _ _ _ _ [0, 1, 2, 3, 4, 5, 6, 7, 8, 9, 10] _ _
      refine DL.pu 10 (.int .i64 x7_4) rfl (p_move rfl rfl) ?_
      refine DL.pu 11 (.int .i64 (IntKind.i64.wrap (Int.tdiv x7_4 64))) rfl (p_quo (by decide) rfl rfl rfl) ?_
      obtain ⟨t155, e156, h157⟩ := nm_some h154
      refine DL.pu 12 (.int .i64 t155) rfl (by rw [e156]; exact p_sub rfl rfl rfl) ?_
      obtain ⟨g158, h159⟩ := req_some h157
      obtain ⟨g160, h161⟩ := req_some h159
      refine DL.pu 13 (ptr b1 t155.toNat) rfl (p_ix ty_u42 ty_s39 g158 g160 rfl rfl rfl) ?_
      refine DL.qu 14 (.int .u64 (a0.getD t155.toNat 0)) rfl (f_load (j := 2) ty_a39 rfl (enc_at l_a0 g158 g160) rfl rfl) ?_
      refine DL.pu 15 (.int .i64 x7_4) rfl (p_move rfl rfl) ?_
      refine DL.pu 16 (.int .i64 (Int.tmod x7_4 64)) rfl (p_rem (by decide) rfl rfl rfl) ?_
      refine DL.pu 17 (.int .i64 (IntKind.i64.wrap (63 - (Int.tmod x7_4 64)))) rfl (p_sub rfl rfl rfl) ?_
      obtain ⟨g162, h163⟩ := req_some h161
      obtain ⟨t164, e165, h166⟩ := nm_some h163
      refine DL.pu 18 (.int .u64 t164) rfl (by rw [e165]; exact p_shr g162 rfl rfl rfl) ?_
      refine DL.pu 19 (.int .u64 (iand .u64 t164 1)) rfl (p_and rfl rfl rfl) ?_
      refine DL.pu 5 (.int .u64 (iand .u64 t164 1)) rfl (p_assign rfl rfl) ?_
      refine DL.nil ?_
      refine TT.seq (x := sub [1, 1, 0, 1, 0, 0, 1, 1, 0, 0, 1, 1, 0] B24) (y := sub [1, 1, 0, 1, 0, 0, 1, 1, 0, 0, 1, 1, 1] B24) ?_
      refine TT.seq (x := sub [1, 1, 0, 1, 0, 0, 1, 1, 0, 0, 1, 1, 0, 0] B24) (y := sub [1, 1, 0, 1, 0, 0, 1, 1, 0, 0, 1, 1, 0, 1] B24) ?_
      refine TT.region (id := 6) (n := 1) (ops := (opsOf (sub [1, 1, 0, 1, 0, 0, 1, 1, 0, 0, 1, 1, 0, 0] B24))) [(.pure, none)] rfl ?_
      show DL _ _ _ _ _ _ _ _ _ _ [0] _ _
      refine DL.pu 20 (.int .i64 0) rfl (p_move rfl rfl) ?_
      refine DL.nil ?_
      refine TT.block (c := sub [1, 1, 0, 1, 0, 0, 1, 1, 0, 0, 1, 1, 0, 1, 0] B24) ?_
      refine TT.loop (c := sub [1, 1, 0, 1, 0, 0, 1, 1, 0, 0, 1, 1, 0, 1, 0, 0] B24) ?_
      obtain ⟨z_b3_231, h243, h244⟩ := bind_some h166
      refine TT.weak (scalar_reduce.L1_ok a0 b1 b2 b3 x7_4 5 (iand .u64 t164 1) 0 y_5 z_b3_231 l_y_5 h243 (fun l_z_b3_231 => ?_)) (Sub.cons rfl (Sub.cons rfl (Sub.cons rfl (Sub.cons rfl (Sub.cons rfl (Sub.cons rfl (Sub.nil _)))))))
      refine TT.region (id := 11) (n := 3) (ops := (opsOf (sub [1, 1, 0, 1, 0, 0, 1, 1, 0, 0, 1, 1, 1] B24))) [(.quiet, none), (.quiet, none), (.store, none)] rfl ?_
      show DL _ _ _ _ _ _ _ _ _ _ [0, 1, 2] _ _
      refine DL.qu 36 (.agg (enc .u64 z_b3_231)) rfl (f_loadA (j := 0) ty_a40 ty_s40 rfl (enc_sz l_z_b3_231) rfl rfl) ?_
      obtain ⟨t245, h246, h247⟩ := bind_some h244
      have l_t245 := scalar_less.len l_z_b3_231 h246
      refine DL.qu 37 (.agg (enc .u64 t245)) rfl (f_call rfl rfl (args_val (vs := [.agg (enc .u64 z_b3_231)]) rfl) (fun w => enter25 _ w) (fun w => scalar_less.val l_z_b3_231 h246 w)) ?_
      refine DL.put (H' := [(some b3, .cells (enc .u64 t245) 40 (0, 0)), (some b2, .cells (enc .u64 (List.replicate 4 0)) 40 (0, 0)), (some b1, .cells (enc .u64 a0) 42 (0, 0))]) (i := 2) rfl (Wn.none rfl) rfl rfl (f_storeA (j := 0) ty_s40 rfl (enc_sz l_t245) (enc_sz l_z_b3_231) (enc_oneCell _ _) rfl rfl rfl) (keep_none rfl) ?_
      refine DL.nil ?_
      refine TT.inBlock ?_
      refine TT.region (id := 12) (n := 2) (ops := (opsOf (sub [1, 1, 0, 1, 0, 0, 1, 1, 1] B24))) [(.pure, none), (.pure, none)] rfl ?_
      show DL _ _ _ _ _ _ _ _ _ _ [0, 1] _ _
      refine DL.pu 38 (.int .i64 (IntKind.i64.wrap (x7_4 + 1))) rfl (p_add rfl rfl rfl) ?_
      refine DL.pu 7 (.int .i64 (IntKind.i64.wrap (x7_4 + 1))) rfl (p_move rfl rfl) ?_
      refine DL.nil ?_
      refine TT.inLoop ?_
      exact TT.weak (ih (IntKind.i64.wrap (x7_4 + 1)) t245 r0 l_t245 h247 hk) (Sub.cons rfl (Sub.cons rfl (Sub.cons rfl (Sub.cons rfl (Sub.nil _)))))
    · replace c153 := Bool.eq_false_iff.mpr c153
      have h248 := ite_false c153 h
      refine TT.cond_false (x := sub [1, 1, 0, 1, 0, 0, 1, 0, 0] B24) (y := sub [1, 1, 0, 1, 0, 0, 1, 0, 1] B24) rfl c153 ?_
      refine TT.exit rfl ?_
      obtain rfl := Option.some.inj h248
      exact TT.weak (hk l_y_5) (Sub.cons rfl (Sub.cons rfl (Sub.nil _)))

def scalar_reduce.f (a0 : List Int) : Option (List Int) := (scalar_reduce.L0 a0 513 0 (List.replicate 4 0)).bind fun z_b3_152 => some z_b3_152
set_option maxRecDepth 20000 in
theorem scalar_reduce.ok {a0 : List Int} {r : List Int} (l_a0 : a0.length = 8) (h : scalar_reduce.f a0 = some r) (w : World) : Calls Try.prog 24 #[.agg (enc .u64 a0)] w (Post (fun u => u = .agg (enc .u64 r) ∧ r.length = 4) w) := by
  unfold scalar_reduce.f at h
  refine calls_of_TT (N := 40) (S := [(0, .agg (enc .u64 a0))]) (c := B24) Try.func24 rfl rfl rfl (by simp) ?_
  show TT _ _ _ _ _ _ [.code (sub [] B24)] _ _
  refine TT.seq (x := sub [0] B24) (y := sub [1] B24) ?_
  refine TT.region (id := 0) (n := 2) (ops := (opsOf (sub [0] B24))) [(.alloc, none), (.alloc, none)] rfl ?_
  show DL _ _ _ _ _ _ _ _ _ _ [0, 1] _ _
  refine DL.new (ob := .cells (enc .u64 a0) 42) (mk := fun b => ptr b 0) (i := 0) rfl (Wn.none rfl) rfl rfl rfl (f_box (v := .agg (enc .u64 a0)) rfl rfl) ?_
  intro b1 hb1
  refine DL.new (ob := .cells (enc .u64 (List.replicate 4 0)) 40) (mk := fun b => ptr b 0) (i := 1) rfl (Wn.none rfl) rfl rfl rfl (f_alloc ty_z40 rfl) ?_
  intro b2 hb2
  refine DL.nil ?_
  refine TT.seq (x := sub [1, 0] B24) (y := sub [1, 1] B24) ?_
  refine TT.region (id := 1) (n := 1) (ops := (opsOf (sub [1, 0] B24))) [(.alloc, none)] rfl ?_
  show DL _ _ _ _ _ _ _ _ _ _ [0] _ _
  refine DL.new (ob := .cells (enc .u64 (List.replicate 4 0)) 40) (mk := fun b => ptr b 0) (i := 0) rfl (Wn.none rfl) rfl rfl rfl (f_alloc ty_z40 rfl) ?_
  intro b3 hb3
  refine DL.nil ?_
  refine TT.seq (x := sub [1, 1, 0] B24) (y := sub [1, 1, 1] B24) ?_
  refine TT.seq (x := sub [1, 1, 0, 0] B24) (y := sub [1, 1, 0, 1] B24) ?_
  refine TT.region (id := 2) (n := 1) (ops := (opsOf (sub [1, 1, 0, 0] B24))) [(.pure, none)] rfl ?_
  show DL _ _ _ _ _ _ _ _ _ _ [0] _ _
  refine DL.pu 7 (.int .i64 0) rfl (p_move rfl rfl) ?_
  refine DL.nil ?_
  refine TT.block (c := sub [1, 1, 0, 1, 0] B24) ?_
  refine TT.loop (c := sub [1, 1, 0, 1, 0, 0] B24) ?_
  obtain ⟨z_b3_152, h249, h250⟩ := bind_some h
  refine TT.weak (scalar_reduce.L0_ok a0 b1 b2 b3 l_a0 513 0 (List.replicate 4 0) z_b3_152 (List.length_replicate) h249 (fun l_z_b3_152 => ?_)) (Sub.cons rfl (Sub.cons rfl (Sub.cons rfl (Sub.cons rfl (Sub.nil _)))))
  refine TT.seq (x := sub [1, 1, 1, 0] B24) (y := sub [1, 1, 1, 1] B24) ?_
  refine TT.region (id := 13) (n := 2) (ops := (opsOf (sub [1, 1, 1, 0] B24))) [(.quiet, none), (.store, none)] rfl ?_
  show DL _ _ _ _ _ _ _ _ _ _ [0, 1] _ _
  refine DL.qu 39 (.agg (enc .u64 z_b3_152)) rfl (f_loadA (j := 0) ty_a40 ty_s40 rfl (enc_sz l_z_b3_152) rfl rfl) ?_
  refine DL.put (H' := [(some b3, .cells (enc .u64 z_b3_152) 40 (0, 0)), (some b2, .cells (enc .u64 z_b3_152) 40 (0, 0)), (some b1, .cells (enc .u64 a0) 42 (0, 0))]) (i := 1) rfl (Wn.none rfl) rfl rfl (f_storeA (j := 1) ty_s40 rfl (enc_sz l_z_b3_152) (enc_sz (List.length_replicate)) (enc_oneCell _ _) rfl rfl rfl) (keep_none rfl) ?_
  refine DL.nil ?_
  obtain rfl := Option.some.inj h250
  exact ret1 Try.func24 rfl (ResV.cell (j := 1) ty_a40 ty_s40 rfl rfl (enc_sz l_z_b3_152)) ⟨rfl, l_z_b3_152⟩
theorem scalar_reduce.len {a0 : List Int} {r : List Int} (l_a0 : a0.length = 8) (h : scalar_reduce.f a0 = some r) : r.length = 4 := by
  obtain ⟨v, hv⟩ := calls_fact (scalar_reduce.ok l_a0 h)
  exact hv.2
theorem scalar_reduce.val {a0 : List Int} {r : List Int} (l_a0 : a0.length = 8) (h : scalar_reduce.f a0 = some r) (w : World) : Calls Try.prog 24 #[.agg (enc .u64 a0)] w fun e w' => e = .returned (.agg (enc .u64 r)) ∧ Below w.heap.size w w' :=
  calls_value ((scalar_reduce.ok l_a0 h w).mono fun e w' ⟨v, he, hv, hb⟩ => ⟨v, he, hv.1, hb⟩)

/-! ### escutcheon/scalar.May: function 13 -/
noncomputable def B13 : Code := bodyOf Try.f13
def scalar_May.f (a0 : List Int) : Option (Bool) := (scalar_words.f a0).bind fun t2 => (scalar_less.f t2).bind fun t7 => some (t7 == t2)
set_option maxRecDepth 20000 in
theorem scalar_May.ok {a0 : List Int} {r : Bool} (l_a0 : a0.length = 32) (h : scalar_May.f a0 = some r) (w : World) : Calls Try.prog 13 #[.agg (enc .u8 a0)] w (Post (fun u => u = .bool r) w) := by
  unfold scalar_May.f at h
  refine calls_of_TT (N := 10) (S := [(0, .agg (enc .u8 a0))]) (c := B13) Try.func13 rfl rfl rfl (by simp) ?_
  show TT _ _ _ _ _ _ [.code (sub [] B13)] _ _
  refine TT.seq (x := sub [0] B13) (y := sub [1] B13) ?_
  refine TT.region (id := 0) (n := 2) (ops := (opsOf (sub [0] B13))) [(.alloc, none), (.pure, none)] rfl ?_
  show DL _ _ _ _ _ _ _ _ _ _ [0, 1] _ _
  refine DL.new (ob := .cells (enc .u8 a0) 23) (mk := fun b => ptr b 0) (i := 0) rfl (Wn.none rfl) rfl rfl rfl (f_box (v := .agg (enc .u8 a0)) rfl rfl) ?_
  intro b1 hb1
  refine DL.pu 2 (.bool false) rfl (p_assign rfl rfl) ?_
  refine DL.nil ?_
  refine TT.seq (x := sub [1, 0] B13) (y := sub [1, 1] B13) ?_
  refine TT.region (id := 1) (n := 4) (ops := (opsOf (sub [1, 0] B13))) [(.quiet, none), (.quiet, none), (.alloc, none), (.store, none)] rfl ?_
  show DL _ _ _ _ _ _ _ _ _ _ [0, 1, 2, 3] _ _
  refine DL.qu 4 (.agg (enc .u8 a0)) rfl (f_loadA (j := 0) ty_a23 ty_s23 rfl (enc_sz l_a0) rfl rfl) ?_
  obtain ⟨t2, h3, h4⟩ := bind_some h
  have l_t2 := scalar_words.len l_a0 h3
  refine DL.qu 5 (.agg (enc .u64 t2)) rfl (f_call rfl rfl (args_val (vs := [.agg (enc .u8 a0)]) rfl) (fun w => enter20 _ w) (fun w => scalar_words.val l_a0 h3 w)) ?_
  refine DL.new (ob := .cells (enc .u64 (List.replicate 4 0)) 40) (mk := fun b => ptr b 0) (i := 2) rfl (Wn.none rfl) rfl rfl rfl (f_alloc ty_z40 rfl) ?_
  intro b5 hb5
  refine DL.put (H' := [(some b5, .cells (enc .u64 t2) 40 (0, 0)), (some b1, .cells (enc .u8 a0) 23 (0, 0))]) (i := 3) rfl (Wn.none rfl) rfl rfl (f_storeA (j := 0) ty_s40 rfl (enc_sz l_t2) (enc_sz (List.length_replicate)) (enc_oneCell _ _) rfl rfl rfl) (keep_none rfl) ?_
  refine DL.nil ?_
  refine TT.seq (x := sub [1, 1, 0] B13) (y := sub [1, 1, 1] B13) ?_
  refine TT.regionD (id := 2) (ops := (opsOf (sub [1, 1, 0] B13))) [0, 1, 2, 3, 4] [0, 1, 0, 7, 15] [(.look, some 0), (.quiet, none), (.look, some 0), (.pure, none), (.pure, none)] mixed (by kernel_rfl) ?_
  intro w6 hl6 hj6 hz6
  refine DL.look (v := .agg (enc .u64 t2)) (x := 0) (b := b5) (i := 0) rfl (Wn.none rfl) rfl rfl rfl rfl rfl (List.mem_of_getElem? (i := 0) rfl) (b_loadA ty_a40 ty_s40 (enc_sz l_t2) rfl rfl) ?_
  obtain ⟨t7, h8, h9⟩ := bind_some h4
  have l_t7 := scalar_less.len l_t2 h8
  refine DL.qu 7 (.agg (enc .u64 t7)) rfl (f_call rfl rfl (args_val (vs := [.agg (enc .u64 t2)]) rfl) (fun w => enter25 _ w) (fun w => scalar_less.val l_t2 h8 w)) ?_
  refine DL.look (v := .agg (enc .u64 t2)) (x := 0) (b := b5) (i := 2) rfl (Wn.none rfl) rfl rfl rfl rfl rfl (List.mem_of_getElem? (i := 0) rfl) (b_loadA ty_a40 ty_s40 (enc_sz l_t2) rfl rfl) ?_
  refine DL.pu 9 (.bool (t7 == t2)) rfl (p_eqAgg ty_g40 (fun w => run_eqRow (d := 9998) ty_ue40 ty_s39 ty_a39 ty_ue39 l_t7 l_t2 w) rfl rfl rfl) ?_
  refine DL.pu 2 (.bool (t7 == t2)) rfl (p_assign rfl rfl) ?_
  refine DL.nil' hl6 ?_
  obtain rfl := Option.some.inj h9
  exact ret1 Try.func13 rfl (ResV.tmp rfl) rfl
theorem scalar_May.val {a0 : List Int} {r : Bool} (l_a0 : a0.length = 32) (h : scalar_May.f a0 = some r) (w : World) : Calls Try.prog 13 #[.agg (enc .u8 a0)] w fun e w' => e = .returned (.bool r) ∧ Below w.heap.size w w' :=
  calls_value (scalar_May.ok l_a0 h w)

/-! ### escutcheon/scalar.MulAdd: function 8 -/
noncomputable def B8 : Code := bodyOf Try.f8
def scalar_MulAdd.L1 (t6 : List Int) (t9 : List Int) (x26_19 : Int) : Nat → Int → Int → List Int → Option (Int × List Int)
  | 0, _, _, _ => none
  | k + 1, x12_228, x29_229, y_230 => if (decide (x29_229 < 4)) = true then (req (0 ≤ x26_19) (req (x26_19 < 4) (req (0 ≤ x29_229) (req (x29_229 < 4) (req (0 ≤ (t6.getD x26_19.toNat 0)) (req ((t6.getD x26_19.toNat 0) < 18446744073709551616) (req (0 ≤ (t9.getD x29_229.toNat 0)) (req ((t9.getD x29_229.toNat 0) < 18446744073709551616) (nm (mul64h (t6.getD x26_19.toNat 0) (t9.getD x29_229.toNat 0)) fun t347 => nm (mul64l (t6.getD x26_19.toNat 0) (t9.getD x29_229.toNat 0)) fun t350 => req (0 ≤ (IntKind.i64.wrap (x26_19 + x29_229))) (req ((IntKind.i64.wrap (x26_19 + x29_229)) < 8) (nm (add64 t350 (y_230.getD ((IntKind.i64.wrap (x26_19 + x29_229)).toNat) 0) 0) fun t357 => nm (add64c t350 (y_230.getD ((IntKind.i64.wrap (x26_19 + x29_229)).toNat) 0) 0) fun t360 => nm (add64 t357 x12_228 0) fun t363 => nm (add64c t357 x12_228 0) fun t366 => nm (IntKind.u64.wrap ((IntKind.u64.wrap (t347 + t360)) + t366)) fun t369 => scalar_MulAdd.L1 t6 t9 x26_19 k t369 (IntKind.i64.wrap (x29_229 + 1)) (y_230.set ((IntKind.i64.wrap (x26_19 + x29_229)).toNat) t363)))))))))))) else (some (x12_228, y_230))
set_option maxRecDepth 20000 in
theorem scalar_MulAdd.L1_ok (a0 : List Int) (a1 : List Int) (a2 : List Int) (b1 : Nat) (b2 : Nat) (b3 : Nat) (b4 : Nat) (t6 : List Int) (t9 : List Int) (t12 : List Int) (b15 : Nat) (b16 : Nat) (b17 : Nat) (b18 : Nat) (x26_19 : Int) {R : Ending → World → Prop} {w0 : World} {I : Nat → Option Obj} {K : List Item} (l_t6 : t6.length = 4) (l_t9 : t9.length = 4) :
    ∀ (k : Nat) (x12_228 : Int) (x29_229 : Int) (y_230 : List Int) (r0 : Int) (r1 : List Int) (l_y_230 : y_230.length = 8) (h : scalar_MulAdd.L1 t6 t9 x26_19 k x12_228 x29_229 y_230 = some (r0, r1)) (hk : r1.length = 8 → TT Try.prog 8 R 99 w0 I K [(6, ptr b4 0), (7, ptr b15 0), (8, ptr b16 0), (9, ptr b17 0), (10, ptr b18 0), (11, .int .i64 x26_19), (12, .int .u64 r0), (26, .int .i64 x26_19)] [(some b18, .cells (enc .u64 r1) 42 (0, 0)), (some b17, .cells (enc .u64 t12) 40 (0, 0)), (some b16, .cells (enc .u64 t9) 40 (0, 0)), (some b15, .cells (enc .u64 t6) 40 (0, 0)), (some b4, .cells (enc .u8 (List.replicate 32 0)) 23 (0, 0)), (some b3, .cells (enc .u8 a2) 23 (0, 0)), (some b2, .cells (enc .u8 a1) 23 (0, 0)), (some b1, .cells (enc .u8 a0) 23 (0, 0))]),
      TT Try.prog 8 R 99 w0 I (.code (sub [1, 1, 1, 0, 1, 0, 0, 1, 1, 0, 0, 1, 1, 0, 1, 0, 0] B8) :: .inLoop (sub [1, 1, 1, 0, 1, 0, 0, 1, 1, 0, 0, 1, 1, 0, 1, 0, 0] B8) :: .inBlock 2 :: K) [(6, ptr b4 0), (7, ptr b15 0), (8, ptr b16 0), (9, ptr b17 0), (10, ptr b18 0), (11, .int .i64 x26_19), (12, .int .u64 x12_228), (26, .int .i64 x26_19), (29, .int .i64 x29_229)] [(some b18, .cells (enc .u64 y_230) 42 (0, 0)), (some b17, .cells (enc .u64 t12) 40 (0, 0)), (some b16, .cells (enc .u64 t9) 40 (0, 0)), (some b15, .cells (enc .u64 t6) 40 (0, 0)), (some b4, .cells (enc .u8 (List.replicate 32 0)) 23 (0, 0)), (some b3, .cells (enc .u8 a2) 23 (0, 0)), (some b2, .cells (enc .u8 a1) 23 (0, 0)), (some b1, .cells (enc .u8 a0) 23 (0, 0))] := by
  intro k
  induction k with
  | zero => intro x12_228 x29_229 y_230 r0 r1 l_y_230 h; simp [scalar_MulAdd.L1] at h
  | succ k ih =>
    intro x12_228 x29_229 y_230 r0 r1 l_y_230 h hk
    unfold scalar_MulAdd.L1 at h
    refine TT.seq (x := sub [1, 1, 1, 0, 1, 0, 0, 1, 1, 0, 0, 1, 1, 0, 1, 0, 0, 0] B8) (y := sub [1, 1, 1, 0, 1, 0, 0, 1, 1, 0, 0, 1, 1, 0, 1, 0, 0, 1] B8) ?_
    refine TT.region (id := 8) (n := 1) (ops := (opsOf (sub [1, 1, 1, 0, 1, 0, 0, 1, 1, 0, 0, 1, 1, 0, 1, 0, 0, 0] B8))) [(.pure, none)] rfl ?_
    show DL _ _ _ _ _ _ _ _ _ _ [0] _ _
    refine DL.pu 30 (.bool (decide (x29_229 < 4))) rfl (p_lss rfl rfl rfl) ?_
    refine DL.nil ?_
    refine TT.seq (x := sub [1, 1, 1, 0, 1, 0, 0, 1, 1, 0, 0, 1, 1, 0, 1, 0, 0, 1, 0] B8) (y := sub [1, 1, 1, 0, 1, 0, 0, 1, 1, 0, 0, 1, 1, 0, 1, 0, 0, 1, 1] B8) ?_
    by_cases c328 : (decide (x29_229 < 4)) = true
    · have h329 := ite_true c328 h
      refine TT.cond_true (x := sub [1, 1, 1, 0, 1, 0, 0, 1, 1, 0, 0, 1, 1, 0, 1, 0, 0, 1, 0, 0] B8) (y := sub [1, 1, 1, 0, 1, 0, 0, 1, 1, 0, 0, 1, 1, 0, 1, 0, 0, 1, 0, 1] B8) rfl c328 ?_
      refine TT.skip ?_
      refine TT.seq (x := sub [1, 1, 1, 0, 1, 0, 0, 1, 1, 0, 0, 1, 1, 0, 1, 0, 0, 1, 1, 0] B8) (y := sub [1, 1, 1, 0, 1, 0, 0, 1, 1, 0, 0, 1, 1, 0, 1, 0, 0, 1, 1, 1] B8) ?_
      refine TT.block (c := sub [1, 1, 1, 0, 1, 0, 0, 1, 1, 0, 0, 1, 1, 0, 1, 0, 0, 1, 1, 0, 0] B8) ?_
      refine TT.seq (x := sub [1, 1, 1, 0, 1, 0, 0, 1, 1, 0, 0, 1, 1, 0, 1, 0, 0, 1, 1, 0, 0, 0] B8) (y := sub [1, 1, 1, 0, 1, 0, 0, 1, 1, 0, 0, 1, 1, 0, 1, 0, 0, 1, 1, 0, 0, 1] B8) ?_
      refine TT.region (id := 9) (n := 2) (ops := (opsOf (sub [1, 1, 1, 0, 1, 0, 0, 1, 1, 0, 0, 1, 1, 0, 1, 0, 0, 1, 1, 0, 0, 0] B8))) [(.pure, none), (.pure, none)] rfl ?_
      show DL _ _ _ _ _ _ _ _ _ _ [0, 1] _ _
      refine DL.pu 31 (.int .i64 x29_229) rfl (p_move rfl rfl) ?_
      refine DL.pu 13 (.int .i64 x29_229) rfl (p_assign rfl rfl) ?_
      refine DL.nil ?_
      refine TT.seq (x := sub [1, 1, 1, 0, 1, 0, 0, 1, 1, 0, 0, 1, 1, 0, 1, 0, 0, 1, 1, 0, 0, 1, 0] B8) (y := sub [1, 1, 1, 0, 1, 0, 0, 1, 1, 0, 0, 1, 1, 0, 1, 0, 0, 1, 1, 0, 0, 1, 1] B8) ?_
      refine TT.regionD (id := 10) (ops := (opsOf (sub [1, 1, 1, 0, 1, 0, 0, 1, 1, 0, 0, 1, 1, 0, 1, 0, 0, 1, 1, 0, 0, 1, 0] B8))) [0, 1, 2, 3, 4, 5, 6, 7, 8, 9, 10, 11] [0, 1, 3, 0, 8, 24, 63, 127, 255, 255, 511, 2047] [(.pure, none), (.pure, none), (.look, some 3), (.pure, none), (.pure, none), (.look, some 2), (.quiet, none), (.pure, none), (.pure, none), (.pure, none), (.pure, none), (.pure, none)] mixed (by kernel_rfl) ?_
      intro w330 hl330 hj330 hz330
      refine DL.pu 33 (.int .i64 x26_19) rfl (p_move rfl rfl) ?_
      obtain ⟨g331, h332⟩ := req_some h329
      obtain ⟨g333, h334⟩ := req_some h332
      refine DL.pu 34 (ptr b15 x26_19.toNat) rfl (p_ix ty_u40 ty_s39 g331 g333 rfl rfl rfl) ?_
      refine DL.look (v := .int .u64 (t6.getD x26_19.toNat 0)) (x := 3) (b := b15) (i := 2) rfl (Wn.none rfl) rfl rfl rfl rfl rfl (List.mem_of_getElem? (i := 3) rfl) (b_load ty_a39 (enc_at l_t6 g331 g333) rfl rfl) ?_
      refine DL.pu 36 (.int .i64 x29_229) rfl (p_move rfl rfl) ?_
      obtain ⟨g335, h336⟩ := req_some h334
      obtain ⟨g337, h338⟩ := req_some h336
      refine DL.pu 37 (ptr b16 x29_229.toNat) rfl (p_ix ty_u40 ty_s39 g335 g337 rfl rfl rfl) ?_
      refine DL.look (v := .int .u64 (t9.getD x29_229.toNat 0)) (x := 2) (b := b16) (i := 5) rfl (Wn.none rfl) rfl rfl rfl rfl rfl (List.mem_of_getElem? (i := 2) rfl) (b_load ty_a39 (enc_at l_t9 g335 g337) rfl rfl) ?_
      obtain ⟨g339, h340⟩ := req_some h338
      obtain ⟨g341, h342⟩ := req_some h340
      obtain ⟨g343, h344⟩ := req_some h342
      obtain ⟨g345, h346⟩ := req_some h344
      obtain ⟨t347, e348, h349⟩ := nm_some h346
      obtain ⟨t350, e351, h352⟩ := nm_some h349
      refine DL.qu 39 (.tuple #[.int .u64 t347, .int .u64 t350]) rfl (by rw [e348, e351]; exact f_mul64 g339 g341 g343 g345 Try.bits_Mul64 rfl rfl (args_val (vs := [.int .u64 (t6.getD x26_19.toNat 0), .int .u64 (t9.getD x29_229.toNat 0)]) rfl) (fun w => enter21 _ w)) ?_
      refine DL.pu 32 (.tuple #[.int .u64 t347, .int .u64 t350]) rfl (p_move rfl rfl) ?_
      refine DL.pu 40 (.int .u64 t347) rfl (p_extract rfl rfl rfl) ?_
      refine DL.pu 41 (.int .u64 t350) rfl (p_extract rfl rfl rfl) ?_
      refine DL.pu 14 (.int .u64 t347) rfl (p_assign rfl rfl) ?_
      refine DL.pu 15 (.int .u64 t350) rfl (p_assign rfl rfl) ?_
      refine DL.nil' hl330 ?_
      refine TT.seq (x := sub [1, 1, 1, 0, 1, 0, 0, 1, 1, 0, 0, 1, 1, 0, 1, 0, 0, 1, 1, 0, 0, 1, 1, 0] B8) (y := sub [1, 1, 1, 0, 1, 0, 0, 1, 1, 0, 0, 1, 1, 0, 1, 0, 0, 1, 1, 0, 0, 1, 1, 1] B8) ?_
      refine TT.region (id := 11) (n := 1) (ops := (opsOf (sub [1, 1, 1, 0, 1, 0, 0, 1, 1, 0, 0, 1, 1, 0, 1, 0, 0, 1, 1, 0, 0, 1, 1, 0] B8))) [(.pure, none)] rfl ?_
      show DL _ _ _ _ _ _ _ _ _ _ [0] _ _
      refine DL.pu 16 (.int .u64 0) rfl (p_assign rfl rfl) ?_
      refine DL.nil ?_
      refine TT.seq (x := sub [1, 1, 1, 0, 1, 0, 0, 1, 1, 0, 0, 1, 1, 0, 1, 0, 0, 1, 1, 0, 0, 1, 1, 1, 0] B8) (y := sub [1, 1, 1, 0, 1, 0, 0, 1, 1, 0, 0, 1, 1, 0, 1, 0, 0, 1, 1, 0, 0, 1, 1, 1, 1] B8) ?_
      refine TT.region (id := 12) (n := 12) (ops := (opsOf (sub [1, 1, 1, 0, 1, 0, 0, 1, 1, 0, 0, 1, 1, 0, 1, 0, 0, 1, 1, 0, 0, 1, 1, 1, 0] B8))) [(.pure, none), (.pure, none), (.pure, none), (.pure, none), (.pure, none), (.quiet, none), (.quiet, none), (.pure, none), (.pure, none), (.pure, none), (.pure, none), (.pure, none)] rfl ?_
      show DL _ _ _ _ _ _ _ _ _ _ [0, 1, 2, 3, 4, 5, 6, 7, 8, 9, 10, 11] _ _
      refine DL.pu 43 (.int .u64 t350) rfl (p_move rfl rfl) ?_
      refine DL.pu 44 (.int .i64 x26_19) rfl (p_move rfl rfl) ?_
      refine DL.pu 45 (.int .i64 x29_229) rfl (p_move rfl rfl) ?_
      refine DL.pu 46 (.int .i64 (IntKind.i64.wrap (x26_19 + x29_229))) rfl (p_add rfl rfl rfl) ?_
      obtain ⟨g353, h354⟩ := req_some h352
      obtain ⟨g355, h356⟩ := req_some h354
      refine DL.pu 47 (ptr b18 ((IntKind.i64.wrap (x26_19 + x29_229)).toNat)) rfl (p_ix ty_u42 ty_s39 g353 g355 rfl rfl rfl) ?_
      refine DL.qu 48 (.int .u64 (y_230.getD ((IntKind.i64.wrap (x26_19 + x29_229)).toNat) 0)) rfl (f_load (j := 0) ty_a39 rfl (enc_at l_y_230 g353 g355) rfl rfl) ?_
      obtain ⟨t357, e358, h359⟩ := nm_some h356
      obtain ⟨t360, e361, h362⟩ := nm_some h359
      refine DL.qu 49 (.tuple #[.int .u64 t357, .int .u64 t360]) rfl (by rw [e358, e361]; exact f_extern rfl rfl (args_val (vs := [.int .u64 t350, .int .u64 (y_230.getD ((IntKind.i64.wrap (x26_19 + x29_229)).toNat) 0), .int .u64 0]) rfl) (fun w => x22 _ _ _ (by decide) w)) ?_
      refine DL.pu 42 (.tuple #[.int .u64 t357, .int .u64 t360]) rfl (p_move rfl rfl) ?_
      refine DL.pu 50 (.int .u64 t357) rfl (p_extract rfl rfl rfl) ?_
      refine DL.pu 51 (.int .u64 t360) rfl (p_extract rfl rfl rfl) ?_
      refine DL.pu 15 (.int .u64 t357) rfl (p_assign rfl rfl) ?_
      refine DL.pu 16 (.int .u64 t360) rfl (p_assign rfl rfl) ?_
      refine DL.nil ?_
      refine TT.seq (x := sub [1, 1, 1, 0, 1, 0, 0, 1, 1, 0, 0, 1, 1, 0, 1, 0, 0, 1, 1, 0, 0, 1, 1, 1, 1, 0] B8) (y := sub [1, 1, 1, 0, 1, 0, 0, 1, 1, 0, 0, 1, 1, 0, 1, 0, 0, 1, 1, 0, 0, 1, 1, 1, 1, 1] B8) ?_
      refine TT.region (id := 13) (n := 4) (ops := (opsOf (sub [1, 1, 1, 0, 1, 0, 0, 1, 1, 0, 0, 1, 1, 0, 1, 0, 0, 1, 1, 0, 0, 1, 1, 1, 1, 0] B8))) [(.pure, none), (.pure, none), (.pure, none), (.pure, none)] rfl ?_
      show DL _ _ _ _ _ _ _ _ _ _ [0, 1, 2, 3] _ _
      refine DL.pu 52 (.int .u64 t347) rfl (p_move rfl rfl) ?_
      refine DL.pu 53 (.int .u64 t360) rfl (p_move rfl rfl) ?_
      refine DL.pu 54 (.int .u64 (IntKind.u64.wrap (t347 + t360))) rfl (p_add rfl rfl rfl) ?_
      refine DL.pu 14 (.int .u64 (IntKind.u64.wrap (t347 + t360))) rfl (p_assign rfl rfl) ?_
      refine DL.nil ?_
      refine TT.seq (x := sub [1, 1, 1, 0, 1, 0, 0, 1, 1, 0, 0, 1, 1, 0, 1, 0, 0, 1, 1, 0, 0, 1, 1, 1, 1, 1, 0] B8) (y := sub [1, 1, 1, 0, 1, 0, 0, 1, 1, 0, 0, 1, 1, 0, 1, 0, 0, 1, 1, 0, 0, 1, 1, 1, 1, 1, 1] B8) ?_
      refine TT.region (id := 14) (n := 8) (ops := (opsOf (sub [1, 1, 1, 0, 1, 0, 0, 1, 1, 0, 0, 1, 1, 0, 1, 0, 0, 1, 1, 0, 0, 1, 1, 1, 1, 1, 0] B8))) [(.pure, none), (.pure, none), (.quiet, none), (.pure, none), (.pure, none), (.pure, none), (.pure, none), (.pure, none)] rfl ?_
      show DL _ _ _ _ _ _ _ _ _ _ [0, 1, 2, 3, 4, 5, 6, 7] _ _
      refine DL.pu 56 (.int .u64 t357) rfl (p_move rfl rfl) ?_
      refine DL.pu 57 (.int .u64 x12_228) rfl (p_move rfl rfl) ?_
      obtain ⟨t363, e364, h365⟩ := nm_some h362
      obtain ⟨t366, e367, h368⟩ := nm_some h365
      refine DL.qu 58 (.tuple #[.int .u64 t363, .int .u64 t366]) rfl (by rw [e364, e367]; exact f_extern rfl rfl (args_val (vs := [.int .u64 t357, .int .u64 x12_228, .int .u64 0]) rfl) (fun w => x22 _ _ _ (by decide) w)) ?_
      refine DL.pu 55 (.tuple #[.int .u64 t363, .int .u64 t366]) rfl (p_move rfl rfl) ?_
      refine DL.pu 59 (.int .u64 t363) rfl (p_extract rfl rfl rfl) ?_
      refine DL.pu 60 (.int .u64 t366) rfl (p_extract rfl rfl rfl) ?_
      refine DL.pu 15 (.int .u64 t363) rfl (p_assign rfl rfl) ?_
      refine DL.pu 16 (.int .u64 t366) rfl (p_assign rfl rfl) ?_
      refine DL.nil ?_
      refine TT.seq (x := sub [1, 1, 1, 0, 1, 0, 0, 1, 1, 0, 0, 1, 1, 0, 1, 0, 0, 1, 1, 0, 0, 1, 1, 1, 1, 1, 1, 0] B8) (y := sub [1, 1, 1, 0, 1, 0, 0, 1, 1, 0, 0, 1, 1, 0, 1, 0, 0, 1, 1, 0, 0, 1, 1, 1, 1, 1, 1, 1] B8) ?_
      refine TT.region (id := 15) (n := 4) (ops := (opsOf (sub [1, 1, 1, 0, 1, 0, 0, 1, 1, 0, 0, 1, 1, 0, 1, 0, 0, 1, 1, 0, 0, 1, 1, 1, 1, 1, 1, 0] B8))) [(.pure, none), (.pure, none), (.pure, none), (.pure, none)] rfl ?_
      show DL _ _ _ _ _ _ _ _ _ _ [0, 1, 2, 3] _ _
      refine DL.pu 61 (.int .u64 (IntKind.u64.wrap (t347 + t360))) rfl (p_move rfl rfl) ?_
      refine DL.pu 62 (.int .u64 t366) rfl (p_move rfl rfl) ?_
      obtain ⟨t369, e370, h371⟩ := nm_some h368
      refine DL.pu 63 (.int .u64 t369) rfl (by rw [e370]; exact p_add rfl rfl rfl) ?_
      refine DL.pu 14 (.int .u64 t369) rfl (p_assign rfl rfl) ?_
      refine DL.nil ?_
      refine TT.region (id := 16) (n := 8) (ops := (opsOf (sub [1, 1, 1, 0, 1, 0, 0, 1, 1, 0, 0, 1, 1, 0, 1, 0, 0, 1, 1, 0, 0, 1, 1, 1, 1, 1, 1, 1] B8))) [(.pure, none), (.pure, none), (.pure, none), (.pure, none), (.pure, none), (.pure, none), (.store, none), (.pure, none)] rfl ?_
      show DL _ _ _ _ _ _ _ _ _ _ [0, 1, 2, 3, 4, 5, 6, 7] _ _
      refine DL.pu 64 (.int .i64 x26_19) rfl (p_move rfl rfl) ?_
      refine DL.pu 65 (.int .i64 x29_229) rfl (p_move rfl rfl) ?_
      refine DL.pu 66 (.int .i64 (IntKind.i64.wrap (x26_19 + x29_229))) rfl (p_add rfl rfl rfl) ?_
      refine DL.pu 67 (.int .u64 t363) rfl (p_move rfl rfl) ?_
      refine DL.pu 68 (.int .u64 t369) rfl (p_move rfl rfl) ?_
      refine DL.pu 69 (ptr b18 ((IntKind.i64.wrap (x26_19 + x29_229)).toNat)) rfl (p_ix ty_u42 ty_s39 g353 g355 rfl rfl rfl) ?_
      refine DL.put (H' := [(some b18, .cells (enc .u64 (y_230.set ((IntKind.i64.wrap (x26_19 + x29_229)).toNat) t363)) 42 (0, 0)), (some b17, .cells (enc .u64 t12) 40 (0, 0)), (some b16, .cells (enc .u64 t9) 40 (0, 0)), (some b15, .cells (enc .u64 t6) 40 (0, 0)), (some b4, .cells (enc .u8 (List.replicate 32 0)) 23 (0, 0)), (some b3, .cells (enc .u8 a2) 23 (0, 0)), (some b2, .cells (enc .u8 a1) 23 (0, 0)), (some b1, .cells (enc .u8 a0) 23 (0, 0))]) (i := 6) rfl (Wn.none rfl) rfl rfl (f_storeE (j := 0) ty_s39 rfl (lt_nat l_y_230 g353 g355) rfl rfl rfl) (keep_none rfl) ?_
      refine DL.pu 12 (.int .u64 t369) rfl (p_assign rfl rfl) ?_
      refine DL.nil ?_
      refine TT.inBlock ?_
      refine TT.region (id := 17) (n := 2) (ops := (opsOf (sub [1, 1, 1, 0, 1, 0, 0, 1, 1, 0, 0, 1, 1, 0, 1, 0, 0, 1, 1, 1] B8))) [(.pure, none), (.pure, none)] rfl ?_
      show DL _ _ _ _ _ _ _ _ _ _ [0, 1] _ _
      refine DL.pu 70 (.int .i64 (IntKind.i64.wrap (x29_229 + 1))) rfl (p_add rfl rfl rfl) ?_
      refine DL.pu 29 (.int .i64 (IntKind.i64.wrap (x29_229 + 1))) rfl (p_move rfl rfl) ?_
      refine DL.nil ?_
      refine TT.inLoop ?_
      exact TT.weak (ih t369 (IntKind.i64.wrap (x29_229 + 1)) (y_230.set ((IntKind.i64.wrap (x26_19 + x29_229)).toNat) t363) r0 r1 (len_set l_y_230) h371 hk) (Sub.cons rfl (Sub.cons rfl (Sub.cons rfl (Sub.cons rfl (Sub.cons rfl (Sub.cons rfl (Sub.cons rfl (Sub.cons rfl (Sub.cons rfl (Sub.nil _))))))))))
    · replace c328 := Bool.eq_false_iff.mpr c328
      have h372 := ite_false c328 h
      refine TT.cond_false (x := sub [1, 1, 1, 0, 1, 0, 0, 1, 1, 0, 0, 1, 1, 0, 1, 0, 0, 1, 0, 0] B8) (y := sub [1, 1, 1, 0, 1, 0, 0, 1, 1, 0, 0, 1, 1, 0, 1, 0, 0, 1, 0, 1] B8) rfl c328 ?_
      refine TT.exit rfl ?_
      simp only [Option.some.injEq, Prod.mk.injEq] at h372
      obtain ⟨rfl, rfl⟩ := h372
      exact TT.weak (hk l_y_230) (Sub.cons rfl (Sub.cons rfl (Sub.cons rfl (Sub.cons rfl (Sub.cons rfl (Sub.cons rfl (Sub.cons rfl (Sub.cons rfl (Sub.nil _)))))))))

def scalar_MulAdd.L0 (t6 : List Int) (t9 : List Int) : Nat → Int → List Int → Option (List Int)
  | 0, _, _ => none
  | k + 1, x26_19, y_20 => if (decide (x26_19 < 4)) = true then ((scalar_MulAdd.L1 t6 t9 x26_19 5 0 0 y_20).bind fun (z12_326, z_b18_327) => req (0 ≤ (IntKind.i64.wrap (x26_19 + 4))) (req ((IntKind.i64.wrap (x26_19 + 4)) < 8) (scalar_MulAdd.L0 t6 t9 k (IntKind.i64.wrap (x26_19 + 1)) (z_b18_327.set ((IntKind.i64.wrap (x26_19 + 4)).toNat) z12_326)))) else (some y_20)
set_option maxRecDepth 20000 in
theorem scalar_MulAdd.L0_ok (a0 : List Int) (a1 : List Int) (a2 : List Int) (b1 : Nat) (b2 : Nat) (b3 : Nat) (b4 : Nat) (t6 : List Int) (t9 : List Int) (t12 : List Int) (b15 : Nat) (b16 : Nat) (b17 : Nat) (b18 : Nat) {R : Ending → World → Prop} {w0 : World} {I : Nat → Option Obj} {K : List Item} (l_t6 : t6.length = 4) (l_t9 : t9.length = 4) :
    ∀ (k : Nat) (x26_19 : Int) (y_20 : List Int) (r0 : List Int) (l_y_20 : y_20.length = 8) (h : scalar_MulAdd.L0 t6 t9 k x26_19 y_20 = some r0) (hk : r0.length = 8 → TT Try.prog 8 R 99 w0 I K [(6, ptr b4 0), (9, ptr b17 0), (10, ptr b18 0)] [(some b18, .cells (enc .u64 r0) 42 (0, 0)), (some b17, .cells (enc .u64 t12) 40 (0, 0)), (some b16, .cells (enc .u64 t9) 40 (0, 0)), (some b15, .cells (enc .u64 t6) 40 (0, 0)), (some b4, .cells (enc .u8 (List.replicate 32 0)) 23 (0, 0)), (some b3, .cells (enc .u8 a2) 23 (0, 0)), (some b2, .cells (enc .u8 a1) 23 (0, 0)), (some b1, .cells (enc .u8 a0) 23 (0, 0))]),
      TT Try.prog 8 R 99 w0 I (.code (sub [1, 1, 1, 0, 1, 0, 0] B8) :: .inLoop (sub [1, 1, 1, 0, 1, 0, 0] B8) :: .inBlock 0 :: K) [(6, ptr b4 0), (7, ptr b15 0), (8, ptr b16 0), (9, ptr b17 0), (10, ptr b18 0), (26, .int .i64 x26_19)] [(some b18, .cells (enc .u64 y_20) 42 (0, 0)), (some b17, .cells (enc .u64 t12) 40 (0, 0)), (some b16, .cells (enc .u64 t9) 40 (0, 0)), (some b15, .cells (enc .u64 t6) 40 (0, 0)), (some b4, .cells (enc .u8 (List.replicate 32 0)) 23 (0, 0)), (some b3, .cells (enc .u8 a2) 23 (0, 0)), (some b2, .cells (enc .u8 a1) 23 (0, 0)), (some b1, .cells (enc .u8 a0) 23 (0, 0))] := by
  intro k
  induction k with
  | zero => intro x26_19 y_20 r0 l_y_20 h; simp [scalar_MulAdd.L0] at h
  | succ k ih =>
    intro x26_19 y_20 r0 l_y_20 h hk
    unfold scalar_MulAdd.L0 at h
    refine TT.seq (x := sub [1, 1, 1, 0, 1, 0, 0, 0] B8) (y := sub [1, 1, 1, 0, 1, 0, 0, 1] B8) ?_
    refine TT.region (id := 4) (n := 1) (ops := (opsOf (sub [1, 1, 1, 0, 1, 0, 0, 0] B8))) [(.pure, none)] rfl ?_
    show DL _ _ _ _ _ _ _ _ _ _ [0] _ _
    refine DL.pu 27 (.bool (decide (x26_19 < 4))) rfl (p_lss rfl rfl rfl) ?_
    refine DL.nil ?_
    refine TT.seq (x := sub [1, 1, 1, 0, 1, 0, 0, 1, 0] B8) (y := sub [1, 1, 1, 0, 1, 0, 0, 1, 1] B8) ?_
    by_cases c226 : (decide (x26_19 < 4)) = true
    · have h227 := ite_true c226 h
      refine TT.cond_true (x := sub [1, 1, 1, 0, 1, 0, 0, 1, 0, 0] B8) (y := sub [1, 1, 1, 0, 1, 0, 0, 1, 0, 1] B8) rfl c226 ?_
      refine TT.skip ?_
      refine TT.seq (x := sub [1, 1, 1, 0, 1, 0, 0, 1, 1, 0] B8) (y := sub [1, 1, 1, 0, 1, 0, 0, 1, 1, 1] B8) ?_
      refine TT.block (c := sub [1, 1, 1, 0, 1, 0, 0, 1, 1, 0, 0] B8) ?_
      refine TT.seq (x := sub [1, 1, 1, 0, 1, 0, 0, 1, 1, 0, 0, 0] B8) (y := sub [1, 1, 1, 0, 1, 0, 0, 1, 1, 0, 0, 1] B8) ?_
      refine TT.region (id := 5) (n := 2) (ops := (opsOf (sub [1, 1, 1, 0, 1, 0, 0, 1, 1, 0, 0, 0] B8))) [(.pure, none), (.pure, none)] rfl ?_
      show DL _ _ _ _ _ _ _ _ _ _ [0, 1] _ _
      refine DL.pu 28 (.int .i64 x26_19) rfl (p_move rfl rfl) ?_
      refine DL.pu 11 (.int .i64 x26_19) rfl (p_assign rfl rfl) ?_
      refine DL.nil ?_
      refine TT.seq (x := sub [1, 1, 1, 0, 1, 0, 0, 1, 1, 0, 0, 1, 0] B8) (y := sub [1, 1, 1, 0, 1, 0, 0, 1, 1, 0, 0, 1, 1] B8) ?_
      refine TT.region (id := 6) (n := 1) (ops := (opsOf (sub [1, 1, 1, 0, 1, 0, 0, 1, 1, 0, 0, 1, 0] B8))) [(.pure, none)] rfl ?_
      show DL _ _ _ _ _ _ _ _ _ _ [0] _ _
      refine DL.pu 12 (.int .u64 0) rfl (p_assign rfl rfl) ?_
      refine DL.nil ?_
      refine TT.seq (x := sub [1, 1, 1, 0, 1, 0, 0, 1, 1, 0, 0, 1, 1, 0] B8) (y := sub [1, 1, 1, 0, 1, 0, 0, 1, 1, 0, 0, 1, 1, 1] B8) ?_
      refine TT.seq (x := sub [1, 1, 1, 0, 1, 0, 0, 1, 1, 0, 0, 1, 1, 0, 0] B8) (y := sub [1, 1, 1, 0, 1, 0, 0, 1, 1, 0, 0, 1, 1, 0, 1] B8) ?_
      refine TT.region (id := 7) (n := 1) (ops := (opsOf (sub [1, 1, 1, 0, 1, 0, 0, 1, 1, 0, 0, 1, 1, 0, 0] B8))) [(.pure, none)] rfl ?_
      show DL _ _ _ _ _ _ _ _ _ _ [0] _ _
      refine DL.pu 29 (.int .i64 0) rfl (p_move rfl rfl) ?_
      refine DL.nil ?_
      refine TT.block (c := sub [1, 1, 1, 0, 1, 0, 0, 1, 1, 0, 0, 1, 1, 0, 1, 0] B8) ?_
      refine TT.loop (c := sub [1, 1, 1, 0, 1, 0, 0, 1, 1, 0, 0, 1, 1, 0, 1, 0, 0] B8) ?_
      obtain ⟨⟨z12_326, z_b18_327⟩, h373, h374⟩ := bind_some h227
      refine TT.weak (scalar_MulAdd.L1_ok a0 a1 a2 b1 b2 b3 b4 t6 t9 t12 b15 b16 b17 b18 x26_19 l_t6 l_t9 5 0 0 y_20 z12_326 z_b18_327 l_y_20 h373 (fun l_z_b18_327 => ?_)) (Sub.cons rfl (Sub.cons rfl (Sub.cons rfl (Sub.cons rfl (Sub.cons rfl (Sub.cons rfl (Sub.cons rfl (Sub.cons rfl (Sub.cons rfl (Sub.nil _))))))))))
      refine TT.region (id := 18) (n := 5) (ops := (opsOf (sub [1, 1, 1, 0, 1, 0, 0, 1, 1, 0, 0, 1, 1, 1] B8))) [(.pure, none), (.pure, none), (.pure, none), (.pure, none), (.store, none)] rfl ?_
      show DL _ _ _ _ _ _ _ _ _ _ [0, 1, 2, 3, 4] _ _
      refine DL.pu 71 (.int .i64 x26_19) rfl (p_move rfl rfl) ?_
      refine DL.pu 72 (.int .i64 (IntKind.i64.wrap (x26_19 + 4))) rfl (p_add rfl rfl rfl) ?_
      refine DL.pu 73 (.int .u64 z12_326) rfl (p_move rfl rfl) ?_
      obtain ⟨g375, h376⟩ := req_some h374
      obtain ⟨g377, h378⟩ := req_some h376
      refine DL.pu 74 (ptr b18 ((IntKind.i64.wrap (x26_19 + 4)).toNat)) rfl (p_ix ty_u42 ty_s39 g375 g377 rfl rfl rfl) ?_
      refine DL.put (H' := [(some b18, .cells (enc .u64 (z_b18_327.set ((IntKind.i64.wrap (x26_19 + 4)).toNat) z12_326)) 42 (0, 0)), (some b17, .cells (enc .u64 t12) 40 (0, 0)), (some b16, .cells (enc .u64 t9) 40 (0, 0)), (some b15, .cells (enc .u64 t6) 40 (0, 0)), (some b4, .cells (enc .u8 (List.replicate 32 0)) 23 (0, 0)), (some b3, .cells (enc .u8 a2) 23 (0, 0)), (some b2, .cells (enc .u8 a1) 23 (0, 0)), (some b1, .cells (enc .u8 a0) 23 (0, 0))]) (i := 4) rfl (Wn.none rfl) rfl rfl (f_storeE (j := 0) ty_s39 rfl (lt_nat l_z_b18_327 g375 g377) rfl rfl rfl) (keep_none rfl) ?_
      refine DL.nil ?_
      refine TT.inBlock ?_
      refine TT.region (id := 19) (n := 2) (ops := (opsOf (sub [1, 1, 1, 0, 1, 0, 0, 1, 1, 1] B8))) [(.pure, none), (.pure, none)] rfl ?_
      show DL _ _ _ _ _ _ _ _ _ _ [0, 1] _ _
      refine DL.pu 75 (.int .i64 (IntKind.i64.wrap (x26_19 + 1))) rfl (p_add rfl rfl rfl) ?_
      refine DL.pu 26 (.int .i64 (IntKind.i64.wrap (x26_19 + 1))) rfl (p_move rfl rfl) ?_
      refine DL.nil ?_
      refine TT.inLoop ?_
      exact TT.weak (ih (IntKind.i64.wrap (x26_19 + 1)) (z_b18_327.set ((IntKind.i64.wrap (x26_19 + 4)).toNat) z12_326) r0 (len_set l_z_b18_327) h378 hk) (Sub.cons rfl (Sub.cons rfl (Sub.cons rfl (Sub.cons rfl (Sub.cons rfl (Sub.cons rfl (Sub.nil _)))))))
    · replace c226 := Bool.eq_false_iff.mpr c226
      have h379 := ite_false c226 h
      refine TT.cond_false (x := sub [1, 1, 1, 0, 1, 0, 0, 1, 0, 0] B8) (y := sub [1, 1, 1, 0, 1, 0, 0, 1, 0, 1] B8) rfl c226 ?_
      refine TT.exit rfl ?_
      obtain rfl := Option.some.inj h379
      exact TT.weak (hk l_y_20) (Sub.cons rfl (Sub.cons rfl (Sub.cons rfl (Sub.nil _))))

def scalar_MulAdd.L2 (t12 : List Int) : Nat → Int → Int → List Int → Option (List Int)
  | 0, _, _, _ => none
  | k + 1, x17_382, x76_383, y_384 => if (decide (x76_383 < 8)) = true then ((if (decide (x76_383 < 4)) = true then (req (0 ≤ x76_383) (req (x76_383 < 4) (some (t12.getD x76_383.toNat 0)))) else (some 0)).bind fun j19_465 => req (0 ≤ x76_383) (req (x76_383 < 8) (req (x17_382 ≤ 1) (nm (add64 (y_384.getD x76_383.toNat 0) j19_465 x17_382) fun t481 => nm (add64c (y_384.getD x76_383.toNat 0) j19_465 x17_382) fun t484 => scalar_MulAdd.L2 t12 k t484 (IntKind.i64.wrap (x76_383 + 1)) (y_384.set x76_383.toNat t481))))) else (some y_384)
set_option maxRecDepth 20000 in
theorem scalar_MulAdd.L2_ok (a0 : List Int) (a1 : List Int) (a2 : List Int) (b1 : Nat) (b2 : Nat) (b3 : Nat) (b4 : Nat) (t6 : List Int) (t9 : List Int) (t12 : List Int) (b15 : Nat) (b16 : Nat) (b17 : Nat) (b18 : Nat) {R : Ending → World → Prop} {w0 : World} {I : Nat → Option Obj} {K : List Item} (l_t12 : t12.length = 4) :
    ∀ (k : Nat) (x17_382 : Int) (x76_383 : Int) (y_384 : List Int) (r0 : List Int) (l_y_384 : y_384.length = 8) (h : scalar_MulAdd.L2 t12 k x17_382 x76_383 y_384 = some r0) (hk : r0.length = 8 → TT Try.prog 8 R 99 w0 I K [(6, ptr b4 0), (10, ptr b18 0)] [(some b18, .cells (enc .u64 r0) 42 (0, 0)), (some b17, .cells (enc .u64 t12) 40 (0, 0)), (some b16, .cells (enc .u64 t9) 40 (0, 0)), (some b15, .cells (enc .u64 t6) 40 (0, 0)), (some b4, .cells (enc .u8 (List.replicate 32 0)) 23 (0, 0)), (some b3, .cells (enc .u8 a2) 23 (0, 0)), (some b2, .cells (enc .u8 a1) 23 (0, 0)), (some b1, .cells (enc .u8 a0) 23 (0, 0))]),
      TT Try.prog 8 R 99 w0 I (.code (sub [1, 1, 1, 1, 1, 0, 1, 0, 0] B8) :: .inLoop (sub [1, 1, 1, 1, 1, 0, 1, 0, 0] B8) :: .inBlock 4 :: K) [(6, ptr b4 0), (9, ptr b17 0), (10, ptr b18 0), (17, .int .u64 x17_382), (76, .int .i64 x76_383)] [(some b18, .cells (enc .u64 y_384) 42 (0, 0)), (some b17, .cells (enc .u64 t12) 40 (0, 0)), (some b16, .cells (enc .u64 t9) 40 (0, 0)), (some b15, .cells (enc .u64 t6) 40 (0, 0)), (some b4, .cells (enc .u8 (List.replicate 32 0)) 23 (0, 0)), (some b3, .cells (enc .u8 a2) 23 (0, 0)), (some b2, .cells (enc .u8 a1) 23 (0, 0)), (some b1, .cells (enc .u8 a0) 23 (0, 0))] := by
  intro k
  induction k with
  | zero => intro x17_382 x76_383 y_384 r0 l_y_384 h; simp [scalar_MulAdd.L2] at h
  | succ k ih =>
    intro x17_382 x76_383 y_384 r0 l_y_384 h hk
    unfold scalar_MulAdd.L2 at h
    refine TT.seq (x := sub [1, 1, 1, 1, 1, 0, 1, 0, 0, 0] B8) (y := sub [1, 1, 1, 1, 1, 0, 1, 0, 0, 1] B8) ?_
    refine TT.region (id := 22) (n := 1) (ops := (opsOf (sub [1, 1, 1, 1, 1, 0, 1, 0, 0, 0] B8))) [(.pure, none)] rfl ?_
    show DL _ _ _ _ _ _ _ _ _ _ [0] _ _
    refine DL.pu 77 (.bool (decide (x76_383 < 8))) rfl (p_lss rfl rfl rfl) ?_
    refine DL.nil ?_
    refine TT.seq (x := sub [1, 1, 1, 1, 1, 0, 1, 0, 0, 1, 0] B8) (y := sub [1, 1, 1, 1, 1, 0, 1, 0, 0, 1, 1] B8) ?_
    by_cases c462 : (decide (x76_383 < 8)) = true
    · have h463 := ite_true c462 h
      refine TT.cond_true (x := sub [1, 1, 1, 1, 1, 0, 1, 0, 0, 1, 0, 0] B8) (y := sub [1, 1, 1, 1, 1, 0, 1, 0, 0, 1, 0, 1] B8) rfl c462 ?_
      refine TT.skip ?_
      refine TT.seq (x := sub [1, 1, 1, 1, 1, 0, 1, 0, 0, 1, 1, 0] B8) (y := sub [1, 1, 1, 1, 1, 0, 1, 0, 0, 1, 1, 1] B8) ?_
      refine TT.block (c := sub [1, 1, 1, 1, 1, 0, 1, 0, 0, 1, 1, 0, 0] B8) ?_
      refine TT.seq (x := sub [1, 1, 1, 1, 1, 0, 1, 0, 0, 1, 1, 0, 0, 0] B8) (y := sub [1, 1, 1, 1, 1, 0, 1, 0, 0, 1, 1, 0, 0, 1] B8) ?_
      refine TT.region (id := 23) (n := 2) (ops := (opsOf (sub [1, 1, 1, 1, 1, 0, 1, 0, 0, 1, 1, 0, 0, 0] B8))) [(.pure, none), (.pure, none)] rfl ?_
      show DL _ _ _ _ _ _ _ _ _ _ [0, 1] _ _
      refine DL.pu 78 (.int .i64 x76_383) rfl (p_move rfl rfl) ?_
      refine DL.pu 18 (.int .i64 x76_383) rfl (p_assign rfl rfl) ?_
      refine DL.nil ?_
      refine TT.seq (x := sub [1, 1, 1, 1, 1, 0, 1, 0, 0, 1, 1, 0, 0, 1, 0] B8) (y := sub [1, 1, 1, 1, 1, 0, 1, 0, 0, 1, 1, 0, 0, 1, 1] B8) ?_
      refine TT.region (id := 24) (n := 1) (ops := (opsOf (sub [1, 1, 1, 1, 1, 0, 1, 0, 0, 1, 1, 0, 0, 1, 0] B8))) [(.pure, none)] rfl ?_
      show DL _ _ _ _ _ _ _ _ _ _ [0] _ _
      refine DL.pu 19 (.int .u64 0) rfl (p_assign rfl rfl) ?_
      refine DL.nil ?_
      refine TT.seq (x := sub [1, 1, 1, 1, 1, 0, 1, 0, 0, 1, 1, 0, 0, 1, 1, 0] B8) (y := sub [1, 1, 1, 1, 1, 0, 1, 0, 0, 1, 1, 0, 0, 1, 1, 1] B8) ?_
      refine TT.seq (x := sub [1, 1, 1, 1, 1, 0, 1, 0, 0, 1, 1, 0, 0, 1, 1, 0, 0] B8) (y := sub [1, 1, 1, 1, 1, 0, 1, 0, 0, 1, 1, 0, 0, 1, 1, 0, 1] B8) ?_
      refine TT.region (id := 25) (n := 2) (ops := (opsOf (sub [1, 1, 1, 1, 1, 0, 1, 0, 0, 1, 1, 0, 0, 1, 1, 0, 0] B8))) [(.pure, none), (.pure, none)] rfl ?_
      show DL _ _ _ _ _ _ _ _ _ _ [0, 1] _ _
      refine DL.pu 79 (.int .i64 x76_383) rfl (p_move rfl rfl) ?_
      refine DL.pu 80 (.bool (decide (x76_383 < 4))) rfl (p_lss rfl rfl rfl) ?_
      refine DL.nil ?_
      obtain ⟨j19_465, h466, h467⟩ := bind_some h463
      refine TT.cutI (True) (.code (sub [1, 1, 1, 1, 1, 0, 1, 0, 0, 1, 1, 0, 0, 1, 1, 1] B8) :: .inBlock 5 :: .code (sub [1, 1, 1, 1, 1, 0, 1, 0, 0, 1, 1, 1] B8) :: .inLoop (sub [1, 1, 1, 1, 1, 0, 1, 0, 0] B8) :: .inBlock 4 :: K) [(6, ptr b4 0), (9, ptr b17 0), (10, ptr b18 0), (17, .int .u64 x17_382), (18, .int .i64 x76_383), (19, .int .u64 j19_465), (76, .int .i64 x76_383)] [(some b18, .cells (enc .u64 y_384) 42 (0, 0)), (some b17, .cells (enc .u64 t12) 40 (0, 0)), (some b16, .cells (enc .u64 t9) 40 (0, 0)), (some b15, .cells (enc .u64 t6) 40 (0, 0)), (some b4, .cells (enc .u8 (List.replicate 32 0)) 23 (0, 0)), (some b3, .cells (enc .u8 a2) 23 (0, 0)), (some b2, .cells (enc .u8 a1) 23 (0, 0)), (some b1, .cells (enc .u8 a0) 23 (0, 0))] ?_ (fun J468 => ?_)
      · intro _
        refine TT.region (id := 27) (n := 13) (ops := (opsOf (sub [1, 1, 1, 1, 1, 0, 1, 0, 0, 1, 1, 0, 0, 1, 1, 1] B8))) [(.pure, none), (.pure, none), (.pure, none), (.quiet, none), (.pure, none), (.pure, none), (.quiet, none), (.pure, none), (.pure, none), (.pure, none), (.pure, none), (.store, none), (.pure, none)] rfl ?_
        show DL _ _ _ _ _ _ _ _ _ _ [0, 1, 2, 3, 4, 5, 6, 7, 8, 9, 10, 11, 12] _ _
        refine DL.pu 85 (.int .i64 x76_383) rfl (p_move rfl rfl) ?_
        refine DL.pu 86 (.int .i64 x76_383) rfl (p_move rfl rfl) ?_
        obtain ⟨g475, h476⟩ := req_some h467
        obtain ⟨g477, h478⟩ := req_some h476
        refine DL.pu 87 (ptr b18 x76_383.toNat) rfl (p_ix ty_u42 ty_s39 g475 g477 rfl rfl rfl) ?_
        refine DL.qu 88 (.int .u64 (y_384.getD x76_383.toNat 0)) rfl (f_load (j := 0) ty_a39 rfl (enc_at l_y_384 g475 g477) rfl rfl) ?_
        refine DL.pu 89 (.int .u64 j19_465) rfl (p_move rfl rfl) ?_
        refine DL.pu 90 (.int .u64 x17_382) rfl (p_move rfl rfl) ?_
        obtain ⟨g479, h480⟩ := req_some h478
        obtain ⟨t481, e482, h483⟩ := nm_some h480
        obtain ⟨t484, e485, h486⟩ := nm_some h483
        refine DL.qu 91 (.tuple #[.int .u64 t481, .int .u64 t484]) rfl (by rw [e482, e485]; exact f_extern rfl rfl (args_val (vs := [.int .u64 (y_384.getD x76_383.toNat 0), .int .u64 j19_465, .int .u64 x17_382]) rfl) (fun w => x22 _ _ _ g479 w)) ?_
        refine DL.pu 84 (.tuple #[.int .u64 t481, .int .u64 t484]) rfl (p_move rfl rfl) ?_
        refine DL.pu 92 (.int .u64 t481) rfl (p_extract rfl rfl rfl) ?_
        refine DL.pu 93 (.int .u64 t484) rfl (p_extract rfl rfl rfl) ?_
        refine DL.pu 94 (ptr b18 x76_383.toNat) rfl (p_ix ty_u42 ty_s39 g475 g477 rfl rfl rfl) ?_
        refine DL.put (H' := [(some b18, .cells (enc .u64 (y_384.set x76_383.toNat t481)) 42 (0, 0)), (some b17, .cells (enc .u64 t12) 40 (0, 0)), (some b16, .cells (enc .u64 t9) 40 (0, 0)), (some b15, .cells (enc .u64 t6) 40 (0, 0)), (some b4, .cells (enc .u8 (List.replicate 32 0)) 23 (0, 0)), (some b3, .cells (enc .u8 a2) 23 (0, 0)), (some b2, .cells (enc .u8 a1) 23 (0, 0)), (some b1, .cells (enc .u8 a0) 23 (0, 0))]) (i := 11) rfl (Wn.none rfl) rfl rfl (f_storeE (j := 0) ty_s39 rfl (lt_nat l_y_384 g475 g477) rfl rfl rfl) (keep_none rfl) ?_
        refine DL.pu 17 (.int .u64 t484) rfl (p_assign rfl rfl) ?_
        refine DL.nil ?_
        refine TT.inBlock ?_
        refine TT.region (id := 28) (n := 2) (ops := (opsOf (sub [1, 1, 1, 1, 1, 0, 1, 0, 0, 1, 1, 1] B8))) [(.pure, none), (.pure, none)] rfl ?_
        show DL _ _ _ _ _ _ _ _ _ _ [0, 1] _ _
        refine DL.pu 95 (.int .i64 (IntKind.i64.wrap (x76_383 + 1))) rfl (p_add rfl rfl rfl) ?_
        refine DL.pu 76 (.int .i64 (IntKind.i64.wrap (x76_383 + 1))) rfl (p_move rfl rfl) ?_
        refine DL.nil ?_
        refine TT.inLoop ?_
        exact TT.weak (ih t484 (IntKind.i64.wrap (x76_383 + 1)) (y_384.set x76_383.toNat t481) r0 (len_set l_y_384) h486 hk) (Sub.cons rfl (Sub.cons rfl (Sub.cons rfl (Sub.cons rfl (Sub.cons rfl (Sub.nil _))))))
      · by_cases c464 : (decide (x76_383 < 4)) = true
        · have h469 := ite_true c464 h466
          refine TT.cond_true (x := sub [1, 1, 1, 1, 1, 0, 1, 0, 0, 1, 1, 0, 0, 1, 1, 0, 1, 0] B8) (y := sub [1, 1, 1, 1, 1, 0, 1, 0, 0, 1, 1, 0, 0, 1, 1, 0, 1, 1] B8) rfl c464 ?_
          refine TT.region (id := 26) (n := 4) (ops := (opsOf (sub [1, 1, 1, 1, 1, 0, 1, 0, 0, 1, 1, 0, 0, 1, 1, 0, 1, 0] B8))) [(.pure, none), (.pure, none), (.quiet, none), (.pure, none)] rfl ?_
          show DL _ _ _ _ _ _ _ _ _ _ [0, 1, 2, 3] _ _
          refine DL.pu 81 (.int .i64 x76_383) rfl (p_move rfl rfl) ?_
          obtain ⟨g470, h471⟩ := req_some h469
          obtain ⟨g472, h473⟩ := req_some h471
          refine DL.pu 82 (ptr b17 x76_383.toNat) rfl (p_ix ty_u40 ty_s39 g470 g472 rfl rfl rfl) ?_
          refine DL.qu 83 (.int .u64 (t12.getD x76_383.toNat 0)) rfl (f_load (j := 1) ty_a39 rfl (enc_at l_t12 g470 g472) rfl rfl) ?_
          refine DL.pu 19 (.int .u64 (t12.getD x76_383.toNat 0)) rfl (p_assign rfl rfl) ?_
          refine DL.nil ?_
          obtain rfl := Option.some.inj h473
          exact TT.weak (J468 trivial) (Sub.cons rfl (Sub.cons rfl (Sub.cons rfl (Sub.cons rfl (Sub.cons rfl (Sub.cons rfl (Sub.cons rfl (Sub.nil _))))))))
        · replace c464 := Bool.eq_false_iff.mpr c464
          have h474 := ite_false c464 h466
          refine TT.cond_false (x := sub [1, 1, 1, 1, 1, 0, 1, 0, 0, 1, 1, 0, 0, 1, 1, 0, 1, 0] B8) (y := sub [1, 1, 1, 1, 1, 0, 1, 0, 0, 1, 1, 0, 0, 1, 1, 0, 1, 1] B8) rfl c464 ?_
          refine TT.skip ?_
          obtain rfl := Option.some.inj h474
          exact TT.weak (J468 trivial) (Sub.cons rfl (Sub.cons rfl (Sub.cons rfl (Sub.cons rfl (Sub.cons rfl (Sub.cons rfl (Sub.cons rfl (Sub.nil _))))))))
    · replace c462 := Bool.eq_false_iff.mpr c462
      have h487 := ite_false c462 h
      refine TT.cond_false (x := sub [1, 1, 1, 1, 1, 0, 1, 0, 0, 1, 0, 0] B8) (y := sub [1, 1, 1, 1, 1, 0, 1, 0, 0, 1, 0, 1] B8) rfl c462 ?_
      refine TT.exit rfl ?_
      obtain rfl := Option.some.inj h487
      exact TT.weak (hk l_y_384) (Sub.cons rfl (Sub.cons rfl (Sub.nil _)))

def scalar_MulAdd.f (a0 : List Int) (a1 : List Int) (a2 : List Int) : Option (List Int) := (scalar_words.f a0).bind fun t6 => (scalar_words.f a1).bind fun t9 => (scalar_words.f a2).bind fun t12 => (scalar_MulAdd.L0 t6 t9 5 0 (List.replicate 8 0)).bind fun z_b18_225 => (scalar_MulAdd.L2 t12 9 0 0 z_b18_225).bind fun z_b18_461 => (scalar_reduce.f z_b18_461).bind fun t490 => (scalar_key.f t490).bind fun t493 => some t493
set_option maxRecDepth 20000 in
theorem scalar_MulAdd.ok {a0 : List Int} {a1 : List Int} {a2 : List Int} {r : List Int} (l_a0 : a0.length = 32) (l_a1 : a1.length = 32) (l_a2 : a2.length = 32) (h : scalar_MulAdd.f a0 a1 a2 = some r) (w : World) : Calls Try.prog 8 #[.agg (enc .u8 a0), .agg (enc .u8 a1), .agg (enc .u8 a2)] w (Post (fun u => u = .agg (enc .u8 r) ∧ r.length = 32) w) := by
  unfold scalar_MulAdd.f at h
  refine calls_of_TT (N := 99) (S := [(0, .agg (enc .u8 a0)), (1, .agg (enc .u8 a1)), (2, .agg (enc .u8 a2))]) (c := B8) Try.func8 rfl rfl rfl (by simp) ?_
  show TT _ _ _ _ _ _ [.code (sub [] B8)] _ _
  refine TT.seq (x := sub [0] B8) (y := sub [1] B8) ?_
  refine TT.region (id := 0) (n := 4) (ops := (opsOf (sub [0] B8))) [(.alloc, none), (.alloc, none), (.alloc, none), (.alloc, none)] rfl ?_
  show DL _ _ _ _ _ _ _ _ _ _ [0, 1, 2, 3] _ _
  refine DL.new (ob := .cells (enc .u8 a0) 23) (mk := fun b => ptr b 0) (i := 0) rfl (Wn.none rfl) rfl rfl rfl (f_box (v := .agg (enc .u8 a0)) rfl rfl) ?_
  intro b1 hb1
  refine DL.new (ob := .cells (enc .u8 a1) 23) (mk := fun b => ptr b 0) (i := 1) rfl (Wn.none rfl) rfl rfl rfl (f_box (v := .agg (enc .u8 a1)) rfl rfl) ?_
  intro b2 hb2
  refine DL.new (ob := .cells (enc .u8 a2) 23) (mk := fun b => ptr b 0) (i := 2) rfl (Wn.none rfl) rfl rfl rfl (f_box (v := .agg (enc .u8 a2)) rfl rfl) ?_
  intro b3 hb3
  refine DL.new (ob := .cells (enc .u8 (List.replicate 32 0)) 23) (mk := fun b => ptr b 0) (i := 3) rfl (Wn.none rfl) rfl rfl rfl (f_alloc ty_z23 rfl) ?_
  intro b4 hb4
  refine DL.nil ?_
  refine TT.seq (x := sub [1, 0] B8) (y := sub [1, 1] B8) ?_
  refine TT.regionD (id := 1) (ops := (opsOf (sub [1, 0] B8))) [0, 1, 2, 3, 4, 5, 6, 7, 8, 9, 10, 11] [0, 1, 0, 7, 0, 31, 0, 0, 0, 511, 1023, 2047] [(.look, some 3), (.quiet, none), (.look, some 2), (.quiet, none), (.look, some 1), (.quiet, none), (.alloc, none), (.alloc, none), (.alloc, none), (.store, some 106), (.store, some 107), (.store, some 108)] mixed (by kernel_rfl) ?_
  intro w5 hl5 hj5 hz5
  refine DL.look (v := .agg (enc .u8 a0)) (x := 3) (b := b1) (i := 0) rfl (Wn.none rfl) rfl rfl rfl rfl rfl (List.mem_of_getElem? (i := 3) rfl) (b_loadA ty_a23 ty_s23 (enc_sz l_a0) rfl rfl) ?_
  obtain ⟨t6, h7, h8⟩ := bind_some h
  have l_t6 := scalar_words.len l_a0 h7
  refine DL.qu 21 (.agg (enc .u64 t6)) rfl (f_call rfl rfl (args_val (vs := [.agg (enc .u8 a0)]) rfl) (fun w => enter20 _ w) (fun w => scalar_words.val l_a0 h7 w)) ?_
  refine DL.look (v := .agg (enc .u8 a1)) (x := 2) (b := b2) (i := 2) rfl (Wn.none rfl) rfl rfl rfl rfl rfl (List.mem_of_getElem? (i := 2) rfl) (b_loadA ty_a23 ty_s23 (enc_sz l_a1) rfl rfl) ?_
  obtain ⟨t9, h10, h11⟩ := bind_some h8
  have l_t9 := scalar_words.len l_a1 h10
  refine DL.qu 23 (.agg (enc .u64 t9)) rfl (f_call rfl rfl (args_val (vs := [.agg (enc .u8 a1)]) rfl) (fun w => enter20 _ w) (fun w => scalar_words.val l_a1 h10 w)) ?_
  refine DL.look (v := .agg (enc .u8 a2)) (x := 1) (b := b3) (i := 4) rfl (Wn.none rfl) rfl rfl rfl rfl rfl (List.mem_of_getElem? (i := 1) rfl) (b_loadA ty_a23 ty_s23 (enc_sz l_a2) rfl rfl) ?_
  obtain ⟨t12, h13, h14⟩ := bind_some h11
  have l_t12 := scalar_words.len l_a2 h13
  refine DL.qu 25 (.agg (enc .u64 t12)) rfl (f_call rfl rfl (args_val (vs := [.agg (enc .u8 a2)]) rfl) (fun w => enter20 _ w) (fun w => scalar_words.val l_a2 h13 w)) ?_
  refine DL.new (ob := .cells (enc .u64 (List.replicate 4 0)) 40) (mk := fun b => ptr b 0) (i := 6) rfl (Wn.none rfl) rfl rfl rfl (f_alloc ty_z40 rfl) ?_
  intro b15 hb15
  refine DL.new (ob := .cells (enc .u64 (List.replicate 4 0)) 40) (mk := fun b => ptr b 0) (i := 7) rfl (Wn.none rfl) rfl rfl rfl (f_alloc ty_z40 rfl) ?_
  intro b16 hb16
  refine DL.new (ob := .cells (enc .u64 (List.replicate 4 0)) 40) (mk := fun b => ptr b 0) (i := 8) rfl (Wn.none rfl) rfl rfl rfl (f_alloc ty_z40 rfl) ?_
  intro b17 hb17
  refine DL.put (H' := [(some b17, .cells (enc .u64 (List.replicate 4 0)) 40 (0, 0)), (some b16, .cells (enc .u64 (List.replicate 4 0)) 40 (0, 0)), (some b15, .cells (enc .u64 t6) 40 (0, 0)), (some b4, .cells (enc .u8 (List.replicate 32 0)) 23 (0, 0)), (some b3, .cells (enc .u8 a2) 23 (0, 0)), (some b2, .cells (enc .u8 a1) 23 (0, 0)), (some b1, .cells (enc .u8 a0) 23 (0, 0))]) (i := 9) rfl (Wn.none rfl) rfl rfl (f_storeA (j := 2) ty_s40 rfl (enc_sz l_t6) (enc_sz (List.length_replicate)) (enc_oneCell _ _) rfl rfl rfl) (keep_new (j := 2) hz5 hb15 rfl) ?_
  refine DL.put (H' := [(some b17, .cells (enc .u64 (List.replicate 4 0)) 40 (0, 0)), (some b16, .cells (enc .u64 t9) 40 (0, 0)), (some b15, .cells (enc .u64 t6) 40 (0, 0)), (some b4, .cells (enc .u8 (List.replicate 32 0)) 23 (0, 0)), (some b3, .cells (enc .u8 a2) 23 (0, 0)), (some b2, .cells (enc .u8 a1) 23 (0, 0)), (some b1, .cells (enc .u8 a0) 23 (0, 0))]) (i := 10) rfl (Wn.none rfl) rfl rfl (f_storeA (j := 1) ty_s40 rfl (enc_sz l_t9) (enc_sz (List.length_replicate)) (enc_oneCell _ _) rfl rfl rfl) (keep_new (j := 1) hz5 hb16 rfl) ?_
  refine DL.put (H' := [(some b17, .cells (enc .u64 t12) 40 (0, 0)), (some b16, .cells (enc .u64 t9) 40 (0, 0)), (some b15, .cells (enc .u64 t6) 40 (0, 0)), (some b4, .cells (enc .u8 (List.replicate 32 0)) 23 (0, 0)), (some b3, .cells (enc .u8 a2) 23 (0, 0)), (some b2, .cells (enc .u8 a1) 23 (0, 0)), (some b1, .cells (enc .u8 a0) 23 (0, 0))]) (i := 11) rfl (Wn.none rfl) rfl rfl (f_storeA (j := 0) ty_s40 rfl (enc_sz l_t12) (enc_sz (List.length_replicate)) (enc_oneCell _ _) rfl rfl rfl) (keep_new (j := 0) hz5 hb17 rfl) ?_
  refine DL.nil' hl5 ?_
  refine TT.seq (x := sub [1, 1, 0] B8) (y := sub [1, 1, 1] B8) ?_
  refine TT.region (id := 2) (n := 1) (ops := (opsOf (sub [1, 1, 0] B8))) [(.alloc, none)] rfl ?_
  show DL _ _ _ _ _ _ _ _ _ _ [0] _ _
  refine DL.new (ob := .cells (enc .u64 (List.replicate 8 0)) 42) (mk := fun b => ptr b 0) (i := 0) rfl (Wn.none rfl) rfl rfl rfl (f_alloc ty_z42 rfl) ?_
  intro b18 hb18
  refine DL.nil ?_
  refine TT.seq (x := sub [1, 1, 1, 0] B8) (y := sub [1, 1, 1, 1] B8) ?_
  refine TT.seq (x := sub [1, 1, 1, 0, 0] B8) (y := sub [1, 1, 1, 0, 1] B8) ?_
  refine TT.region (id := 3) (n := 1) (ops := (opsOf (sub [1, 1, 1, 0, 0] B8))) [(.pure, none)] rfl ?_
  show DL _ _ _ _ _ _ _ _ _ _ [0] _ _
  refine DL.pu 26 (.int .i64 0) rfl (p_move rfl rfl) ?_
  refine DL.nil ?_
  refine TT.block (c := sub [1, 1, 1, 0, 1, 0] B8) ?_
  refine TT.loop (c := sub [1, 1, 1, 0, 1, 0, 0] B8) ?_
  obtain ⟨z_b18_225, h380, h381⟩ := bind_some h14
  refine TT.weak (scalar_MulAdd.L0_ok a0 a1 a2 b1 b2 b3 b4 t6 t9 t12 b15 b16 b17 b18 l_t6 l_t9 5 0 (List.replicate 8 0) z_b18_225 (List.length_replicate) h380 (fun l_z_b18_225 => ?_)) (Sub.cons rfl (Sub.cons rfl (Sub.cons rfl (Sub.cons rfl (Sub.cons rfl (Sub.cons rfl (Sub.nil _)))))))
  refine TT.seq (x := sub [1, 1, 1, 1, 0] B8) (y := sub [1, 1, 1, 1, 1] B8) ?_
  refine TT.region (id := 20) (n := 1) (ops := (opsOf (sub [1, 1, 1, 1, 0] B8))) [(.pure, none)] rfl ?_
  show DL _ _ _ _ _ _ _ _ _ _ [0] _ _
  refine DL.pu 17 (.int .u64 0) rfl (p_assign rfl rfl) ?_
  refine DL.nil ?_
  refine TT.seq (x := sub [1, 1, 1, 1, 1, 0] B8) (y := sub [1, 1, 1, 1, 1, 1] B8) ?_
  refine TT.seq (x := sub [1, 1, 1, 1, 1, 0, 0] B8) (y := sub [1, 1, 1, 1, 1, 0, 1] B8) ?_
  refine TT.region (id := 21) (n := 1) (ops := (opsOf (sub [1, 1, 1, 1, 1, 0, 0] B8))) [(.pure, none)] rfl ?_
  show DL _ _ _ _ _ _ _ _ _ _ [0] _ _
  refine DL.pu 76 (.int .i64 0) rfl (p_move rfl rfl) ?_
  refine DL.nil ?_
  refine TT.block (c := sub [1, 1, 1, 1, 1, 0, 1, 0] B8) ?_
  refine TT.loop (c := sub [1, 1, 1, 1, 1, 0, 1, 0, 0] B8) ?_
  obtain ⟨z_b18_461, h488, h489⟩ := bind_some h381
  refine TT.weak (scalar_MulAdd.L2_ok a0 a1 a2 b1 b2 b3 b4 t6 t9 t12 b15 b16 b17 b18 l_t12 9 0 0 z_b18_225 z_b18_461 l_z_b18_225 h488 (fun l_z_b18_461 => ?_)) (Sub.cons rfl (Sub.cons rfl (Sub.cons rfl (Sub.cons rfl (Sub.cons rfl (Sub.nil _))))))
  refine TT.seq (x := sub [1, 1, 1, 1, 1, 1, 0] B8) (y := sub [1, 1, 1, 1, 1, 1, 1] B8) ?_
  refine TT.region (id := 29) (n := 4) (ops := (opsOf (sub [1, 1, 1, 1, 1, 1, 0] B8))) [(.quiet, none), (.quiet, none), (.quiet, none), (.store, none)] rfl ?_
  show DL _ _ _ _ _ _ _ _ _ _ [0, 1, 2, 3] _ _
  refine DL.qu 96 (.agg (enc .u64 z_b18_461)) rfl (f_loadA (j := 0) ty_a42 ty_s42 rfl (enc_sz l_z_b18_461) rfl rfl) ?_
  obtain ⟨t490, h491, h492⟩ := bind_some h489
  have l_t490 := scalar_reduce.len l_z_b18_461 h491
  refine DL.qu 97 (.agg (enc .u64 t490)) rfl (f_call rfl rfl (args_val (vs := [.agg (enc .u64 z_b18_461)]) rfl) (fun w => enter24 _ w) (fun w => scalar_reduce.val l_z_b18_461 h491 w)) ?_
  obtain ⟨t493, h494, h495⟩ := bind_some h492
  have l_t493 := scalar_key.len l_t490 h494
  refine DL.qu 98 (.agg (enc .u8 t493)) rfl (f_call rfl rfl (args_val (vs := [.agg (enc .u64 t490)]) rfl) (fun w => enter23 _ w) (fun w => scalar_key.val l_t490 h494 w)) ?_
  refine DL.put (H' := [(some b18, .cells (enc .u64 z_b18_461) 42 (0, 0)), (some b17, .cells (enc .u64 t12) 40 (0, 0)), (some b16, .cells (enc .u64 t9) 40 (0, 0)), (some b15, .cells (enc .u64 t6) 40 (0, 0)), (some b4, .cells (enc .u8 t493) 23 (0, 0)), (some b3, .cells (enc .u8 a2) 23 (0, 0)), (some b2, .cells (enc .u8 a1) 23 (0, 0)), (some b1, .cells (enc .u8 a0) 23 (0, 0))]) (i := 3) rfl (Wn.none rfl) rfl rfl (f_storeA (j := 4) ty_s23 rfl (enc_sz l_t493) (enc_sz (List.length_replicate)) (enc_oneCell _ _) rfl rfl rfl) (keep_none rfl) ?_
  refine DL.nil ?_
  obtain rfl := Option.some.inj h495
  exact ret1 Try.func8 rfl (ResV.cell (j := 4) ty_a23 ty_s23 rfl rfl (enc_sz l_t493)) ⟨rfl, l_t493⟩
theorem scalar_MulAdd.len {a0 : List Int} {a1 : List Int} {a2 : List Int} {r : List Int} (l_a0 : a0.length = 32) (l_a1 : a1.length = 32) (l_a2 : a2.length = 32) (h : scalar_MulAdd.f a0 a1 a2 = some r) : r.length = 32 := by
  obtain ⟨v, hv⟩ := calls_fact (scalar_MulAdd.ok l_a0 l_a1 l_a2 h)
  exact hv.2
theorem scalar_MulAdd.val {a0 : List Int} {a1 : List Int} {a2 : List Int} {r : List Int} (l_a0 : a0.length = 32) (l_a1 : a1.length = 32) (l_a2 : a2.length = 32) (h : scalar_MulAdd.f a0 a1 a2 = some r) (w : World) : Calls Try.prog 8 #[.agg (enc .u8 a0), .agg (enc .u8 a1), .agg (enc .u8 a2)] w fun e w' => e = .returned (.agg (enc .u8 r)) ∧ Below w.heap.size w w' :=
  calls_value ((scalar_MulAdd.ok l_a0 l_a1 l_a2 h w).mono fun e w' ⟨v, he, hv, hb⟩ => ⟨v, he, hv.1, hb⟩)

/-! ### escutcheon/scalar.Add: function 11 -/
noncomputable def B11 : Code := bodyOf Try.f11
def scalar_Add.f (a0 : List Int) (a1 : List Int) : Option (List Int) := (scalar_MulAdd.f a0 (1 :: List.replicate 31 0) a1).bind fun t4 => some t4
set_option maxRecDepth 20000 in
theorem scalar_Add.ok {a0 : List Int} {a1 : List Int} {r : List Int} (l_a0 : a0.length = 32) (l_a1 : a1.length = 32) (h : scalar_Add.f a0 a1 = some r) (w : World) : Calls Try.prog 11 #[.agg (enc .u8 a0), .agg (enc .u8 a1)] w (Post (fun u => u = .agg (enc .u8 r) ∧ r.length = 32) w) := by
  unfold scalar_Add.f at h
  refine calls_of_TT (N := 9) (S := [(0, .agg (enc .u8 a0)), (1, .agg (enc .u8 a1))]) (c := B11) Try.func11 rfl rfl rfl (by simp) ?_
  show TT _ _ _ _ _ _ [.code (sub [] B11)] _ _
  refine TT.seq (x := sub [0] B11) (y := sub [1] B11) ?_
  refine TT.region (id := 0) (n := 3) (ops := (opsOf (sub [0] B11))) [(.alloc, none), (.alloc, none), (.alloc, none)] rfl ?_
  show DL _ _ _ _ _ _ _ _ _ _ [0, 1, 2] _ _
  refine DL.new (ob := .cells (enc .u8 a0) 23) (mk := fun b => ptr b 0) (i := 0) rfl (Wn.none rfl) rfl rfl rfl (f_box (v := .agg (enc .u8 a0)) rfl rfl) ?_
  intro b1 hb1
  refine DL.new (ob := .cells (enc .u8 a1) 23) (mk := fun b => ptr b 0) (i := 1) rfl (Wn.none rfl) rfl rfl rfl (f_box (v := .agg (enc .u8 a1)) rfl rfl) ?_
  intro b2 hb2
  refine DL.new (ob := .cells (enc .u8 (List.replicate 32 0)) 23) (mk := fun b => ptr b 0) (i := 2) rfl (Wn.none rfl) rfl rfl rfl (f_alloc ty_z23 rfl) ?_
  intro b3 hb3
  refine DL.nil ?_
  refine TT.seq (x := sub [1, 0] B11) (y := sub [1, 1] B11) ?_
  refine TT.region (id := 1) (n := 5) (ops := (opsOf (sub [1, 0] B11))) [(.quiet, none), (.pure, none), (.quiet, none), (.quiet, none), (.store, none)] rfl ?_
  show DL _ _ _ _ _ _ _ _ _ _ [0, 1, 2, 3, 4] _ _
  refine DL.qu 5 (.agg (enc .u8 a0)) rfl (f_loadA (j := 2) ty_a23 ty_s23 rfl (enc_sz l_a0) rfl rfl) ?_
  refine DL.pu 6 (.agg (enc .u8 (1 :: List.replicate 31 0))) rfl (p_build (vs := [(0, .int .u8 1)]) (fun w => by kernel_rfl) rfl rfl) ?_
  refine DL.qu 7 (.agg (enc .u8 a1)) rfl (f_loadA (j := 1) ty_a23 ty_s23 rfl (enc_sz l_a1) rfl rfl) ?_
  obtain ⟨t4, h5, h6⟩ := bind_some h
  have l_t4 := scalar_MulAdd.len l_a0 (by simp) l_a1 h5
  refine DL.qu 8 (.agg (enc .u8 t4)) rfl (f_call rfl rfl (args_val (vs := [.agg (enc .u8 a0), .agg (enc .u8 (1 :: List.replicate 31 0)), .agg (enc .u8 a1)]) rfl) (fun w => enter8 _ w) (fun w => scalar_MulAdd.val l_a0 (by simp) l_a1 h5 w)) ?_
  refine DL.put (H' := [(some b3, .cells (enc .u8 t4) 23 (0, 0)), (some b2, .cells (enc .u8 a1) 23 (0, 0)), (some b1, .cells (enc .u8 a0) 23 (0, 0))]) (i := 4) rfl (Wn.none rfl) rfl rfl (f_storeA (j := 0) ty_s23 rfl (enc_sz l_t4) (enc_sz (List.length_replicate)) (enc_oneCell _ _) rfl rfl rfl) (keep_none rfl) ?_
  refine DL.nil ?_
  obtain rfl := Option.some.inj h6
  exact ret1 Try.func11 rfl (ResV.cell (j := 0) ty_a23 ty_s23 rfl rfl (enc_sz l_t4)) ⟨rfl, l_t4⟩
theorem scalar_Add.len {a0 : List Int} {a1 : List Int} {r : List Int} (l_a0 : a0.length = 32) (l_a1 : a1.length = 32) (h : scalar_Add.f a0 a1 = some r) : r.length = 32 := by
  obtain ⟨v, hv⟩ := calls_fact (scalar_Add.ok l_a0 l_a1 h)
  exact hv.2
theorem scalar_Add.val {a0 : List Int} {a1 : List Int} {r : List Int} (l_a0 : a0.length = 32) (l_a1 : a1.length = 32) (h : scalar_Add.f a0 a1 = some r) (w : World) : Calls Try.prog 11 #[.agg (enc .u8 a0), .agg (enc .u8 a1)] w fun e w' => e = .returned (.agg (enc .u8 r)) ∧ Below w.heap.size w w' :=
  calls_value ((scalar_Add.ok l_a0 l_a1 h w).mono fun e w' ⟨v, he, hv, hb⟩ => ⟨v, he, hv.1, hb⟩)

/-! ### escutcheon/scalar.Neg: function 9 -/
noncomputable def B9 : Code := bodyOf Try.f9
def scalar_Neg.L0 (t9 : List Int) (t14 : List Int) : Nat → Int → Int → List Int → Option (List Int)
  | 0, _, _, _ => none
  | k + 1, x5_18, x15_19, y_20 => if (decide (x15_19 < 4)) = true then (req (0 ≤ x15_19) (req (x15_19 < 4) (req (x5_18 ≤ 1) (nm (sub64 (t14.getD x15_19.toNat 0) (t9.getD x15_19.toNat 0) x5_18) fun t97 => nm (sub64c (t14.getD x15_19.toNat 0) (t9.getD x15_19.toNat 0) x5_18) fun t100 => scalar_Neg.L0 t9 t14 k t100 (IntKind.i64.wrap (x15_19 + 1)) (y_20.set x15_19.toNat t97))))) else (some y_20)
set_option maxRecDepth 20000 in
theorem scalar_Neg.L0_ok (a0 : List Int) (b1 : Nat) (b2 : Nat) (t9 : List Int) (b12 : Nat) (b13 : Nat) (t14 : List Int) (b17 : Nat) {R : Ending → World → Prop} {w0 : World} {I : Nat → Option Obj} {K : List Item} (l_t9 : t9.length = 4) (l_t14 : t14.length = 4) :
    ∀ (k : Nat) (x5_18 : Int) (x15_19 : Int) (y_20 : List Int) (r0 : List Int) (l_y_20 : y_20.length = 4) (h : scalar_Neg.L0 t9 t14 k x5_18 x15_19 y_20 = some r0) (hk : r0.length = 4 → TT Try.prog 9 R 35 w0 I K [(2, ptr b2 0), (4, ptr b13 0)] [(some b17, .cells (enc .u64 t14) 40 (0, 0)), (some b13, .cells (enc .u64 r0) 40 (0, 0)), (some b12, .cells (enc .u64 t9) 40 (0, 0)), (some b2, .cells (enc .u8 (List.replicate 32 0)) 23 (0, 0)), (some b1, .cells (enc .u8 a0) 23 (0, 0))]),
      TT Try.prog 9 R 35 w0 I (.code (sub [1, 1, 1, 1, 1, 0, 1, 0, 0] B9) :: .inLoop (sub [1, 1, 1, 1, 1, 0, 1, 0, 0] B9) :: .inBlock 0 :: K) [(2, ptr b2 0), (3, ptr b12 0), (4, ptr b13 0), (5, .int .u64 x5_18), (6, ptr b17 0), (15, .int .i64 x15_19)] [(some b17, .cells (enc .u64 t14) 40 (0, 0)), (some b13, .cells (enc .u64 y_20) 40 (0, 0)), (some b12, .cells (enc .u64 t9) 40 (0, 0)), (some b2, .cells (enc .u8 (List.replicate 32 0)) 23 (0, 0)), (some b1, .cells (enc .u8 a0) 23 (0, 0))] := by
  intro k
  induction k with
  | zero => intro x5_18 x15_19 y_20 r0 l_y_20 h; simp [scalar_Neg.L0] at h
  | succ k ih =>
    intro x5_18 x15_19 y_20 r0 l_y_20 h hk
    unfold scalar_Neg.L0 at h
    refine TT.seq (x := sub [1, 1, 1, 1, 1, 0, 1, 0, 0, 0] B9) (y := sub [1, 1, 1, 1, 1, 0, 1, 0, 0, 1] B9) ?_
    refine TT.region (id := 6) (n := 1) (ops := (opsOf (sub [1, 1, 1, 1, 1, 0, 1, 0, 0, 0] B9))) [(.pure, none)] rfl ?_
    show DL _ _ _ _ _ _ _ _ _ _ [0] _ _
    refine DL.pu 16 (.bool (decide (x15_19 < 4))) rfl (p_lss rfl rfl rfl) ?_
    refine DL.nil ?_
    refine TT.seq (x := sub [1, 1, 1, 1, 1, 0, 1, 0, 0, 1, 0] B9) (y := sub [1, 1, 1, 1, 1, 0, 1, 0, 0, 1, 1] B9) ?_
    by_cases c88 : (decide (x15_19 < 4)) = true
    · have h89 := ite_true c88 h
      refine TT.cond_true (x := sub [1, 1, 1, 1, 1, 0, 1, 0, 0, 1, 0, 0] B9) (y := sub [1, 1, 1, 1, 1, 0, 1, 0, 0, 1, 0, 1] B9) rfl c88 ?_
      refine TT.skip ?_
      refine TT.seq (x := sub [1, 1, 1, 1, 1, 0, 1, 0, 0, 1, 1, 0] B9) (y := sub [1, 1, 1, 1, 1, 0, 1, 0, 0, 1, 1, 1] B9) ?_
      refine TT.block (c := sub [1, 1, 1, 1, 1, 0, 1, 0, 0, 1, 1, 0, 0] B9) ?_
      refine TT.seq (x := sub [1, 1, 1, 1, 1, 0, 1, 0, 0, 1, 1, 0, 0, 0] B9) (y := sub [1, 1, 1, 1, 1, 0, 1, 0, 0, 1, 1, 0, 0, 1] B9) ?_
      refine TT.region (id := 7) (n := 2) (ops := (opsOf (sub [1, 1, 1, 1, 1, 0, 1, 0, 0, 1, 1, 0, 0, 0] B9))) [(.pure, none), (.pure, none)] rfl ?_
      show DL _ _ _ _ _ _ _ _ _ _ [0, 1] _ _
      refine DL.pu 17 (.int .i64 x15_19) rfl (p_move rfl rfl) ?_
      refine DL.pu 7 (.int .i64 x15_19) rfl (p_assign rfl rfl) ?_
      refine DL.nil ?_
      refine TT.regionD (id := 8) (ops := (opsOf (sub [1, 1, 1, 1, 1, 0, 1, 0, 0, 1, 1, 0, 0, 1] B9))) [0, 1, 2, 3, 4, 5, 6, 7, 8, 9, 10, 11, 12, 13, 14] [0, 0, 2, 6, 0, 16, 48, 0, 254, 510, 1022, 1022, 2047, 6143, 16383] [(.pure, none), (.pure, none), (.pure, none), (.look, some 0), (.pure, none), (.pure, none), (.look, some 2), (.pure, none), (.quiet, none), (.pure, none), (.pure, none), (.pure, none), (.pure, none), (.store, some 1), (.pure, none)] mixed (by kernel_rfl) ?_
      intro w90 hl90 hj90 hz90
      refine DL.pu 19 (.int .i64 x15_19) rfl (p_move rfl rfl) ?_
      refine DL.pu 20 (.int .i64 x15_19) rfl (p_move rfl rfl) ?_
      obtain ⟨g91, h92⟩ := req_some h89
      obtain ⟨g93, h94⟩ := req_some h92
      refine DL.pu 21 (ptr b17 x15_19.toNat) rfl (p_ix ty_u40 ty_s39 g91 g93 rfl rfl rfl) ?_
      refine DL.look (v := .int .u64 (t14.getD x15_19.toNat 0)) (x := 0) (b := b17) (i := 3) rfl (Wn.none rfl) rfl rfl rfl rfl rfl (List.mem_of_getElem? (i := 0) rfl) (b_load ty_a39 (enc_at l_t14 g91 g93) rfl rfl) ?_
      refine DL.pu 23 (.int .i64 x15_19) rfl (p_move rfl rfl) ?_
      refine DL.pu 24 (ptr b12 x15_19.toNat) rfl (p_ix ty_u40 ty_s39 g91 g93 rfl rfl rfl) ?_
      refine DL.look (v := .int .u64 (t9.getD x15_19.toNat 0)) (x := 2) (b := b12) (i := 6) rfl (Wn.none rfl) rfl rfl rfl rfl rfl (List.mem_of_getElem? (i := 2) rfl) (b_load ty_a39 (enc_at l_t9 g91 g93) rfl rfl) ?_
      refine DL.pu 26 (.int .u64 x5_18) rfl (p_move rfl rfl) ?_
      obtain ⟨g95, h96⟩ := req_some h94
      obtain ⟨t97, e98, h99⟩ := nm_some h96
      obtain ⟨t100, e101, h102⟩ := nm_some h99
      refine DL.qu 27 (.tuple #[.int .u64 t97, .int .u64 t100]) rfl (by rw [e98, e101]; exact f_extern rfl rfl (args_val (vs := [.int .u64 (t14.getD x15_19.toNat 0), .int .u64 (t9.getD x15_19.toNat 0), .int .u64 x5_18]) rfl) (fun w => x27 _ _ _ g95 w)) ?_
      refine DL.pu 18 (.tuple #[.int .u64 t97, .int .u64 t100]) rfl (p_move rfl rfl) ?_
      refine DL.pu 28 (.int .u64 t97) rfl (p_extract rfl rfl rfl) ?_
      refine DL.pu 29 (.int .u64 t100) rfl (p_extract rfl rfl rfl) ?_
      refine DL.pu 30 (ptr b13 x15_19.toNat) rfl (p_ix ty_u40 ty_s39 g91 g93 rfl rfl rfl) ?_
      refine DL.put (H' := [(some b17, .cells (enc .u64 t14) 40 (0, 0)), (some b13, .cells (enc .u64 (y_20.set x15_19.toNat t97)) 40 (0, 0)), (some b12, .cells (enc .u64 t9) 40 (0, 0)), (some b2, .cells (enc .u8 (List.replicate 32 0)) 23 (0, 0)), (some b1, .cells (enc .u8 a0) 23 (0, 0))]) (i := 13) rfl (Wn.none rfl) rfl rfl (f_storeE (j := 1) ty_s39 rfl (lt_nat l_y_20 g91 g93) rfl rfl rfl) (keep_set (j := 1) hj90 rfl rfl rfl) ?_
      refine DL.pu 5 (.int .u64 t100) rfl (p_assign rfl rfl) ?_
      refine DL.nil' hl90 ?_
      refine TT.inBlock ?_
      refine TT.region (id := 9) (n := 2) (ops := (opsOf (sub [1, 1, 1, 1, 1, 0, 1, 0, 0, 1, 1, 1] B9))) [(.pure, none), (.pure, none)] rfl ?_
      show DL _ _ _ _ _ _ _ _ _ _ [0, 1] _ _
      refine DL.pu 31 (.int .i64 (IntKind.i64.wrap (x15_19 + 1))) rfl (p_add rfl rfl rfl) ?_
      refine DL.pu 15 (.int .i64 (IntKind.i64.wrap (x15_19 + 1))) rfl (p_move rfl rfl) ?_
      refine DL.nil ?_
      refine TT.inLoop ?_
      exact TT.weak (ih t100 (IntKind.i64.wrap (x15_19 + 1)) (y_20.set x15_19.toNat t97) r0 (len_set l_y_20) h102 hk) (Sub.cons rfl (Sub.cons rfl (Sub.cons rfl (Sub.cons rfl (Sub.cons rfl (Sub.cons rfl (Sub.nil _)))))))
    · replace c88 := Bool.eq_false_iff.mpr c88
      have h103 := ite_false c88 h
      refine TT.cond_false (x := sub [1, 1, 1, 1, 1, 0, 1, 0, 0, 1, 0, 0] B9) (y := sub [1, 1, 1, 1, 1, 0, 1, 0, 0, 1, 0, 1] B9) rfl c88 ?_
      refine TT.exit rfl ?_
      obtain rfl := Option.some.inj h103
      exact TT.weak (hk l_y_20) (Sub.cons rfl (Sub.cons rfl (Sub.nil _)))

def scalar_Neg.f (a0 : List Int) : Option (List Int) := (scalar_MulAdd.f a0 (1 :: List.replicate 31 0) (List.replicate 32 0)).bind fun t3 => (scalar_words.f t3).bind fun t6 => (scalar_less.f t6).bind fun t9 => (scalar_order.f).bind fun t14 => (scalar_Neg.L0 t9 t14 5 0 0 (List.replicate 4 0)).bind fun z_b13_87 => (scalar_less.f z_b13_87).bind fun t106 => (scalar_key.f t106).bind fun t109 => some t109
set_option maxRecDepth 20000 in
theorem scalar_Neg.ok {a0 : List Int} {r : List Int} (l_a0 : a0.length = 32) (h : scalar_Neg.f a0 = some r) (w : World) : Calls Try.prog 9 #[.agg (enc .u8 a0)] w (Post (fun u => u = .agg (enc .u8 r) ∧ r.length = 32) w) := by
  unfold scalar_Neg.f at h
  refine calls_of_TT (N := 35) (S := [(0, .agg (enc .u8 a0))]) (c := B9) Try.func9 rfl rfl rfl (by simp) ?_
  show TT _ _ _ _ _ _ [.code (sub [] B9)] _ _
  refine TT.seq (x := sub [0] B9) (y := sub [1] B9) ?_
  refine TT.region (id := 0) (n := 2) (ops := (opsOf (sub [0] B9))) [(.alloc, none), (.alloc, none)] rfl ?_
  show DL _ _ _ _ _ _ _ _ _ _ [0, 1] _ _
  refine DL.new (ob := .cells (enc .u8 a0) 23) (mk := fun b => ptr b 0) (i := 0) rfl (Wn.none rfl) rfl rfl rfl (f_box (v := .agg (enc .u8 a0)) rfl rfl) ?_
  intro b1 hb1
  refine DL.new (ob := .cells (enc .u8 (List.replicate 32 0)) 23) (mk := fun b => ptr b 0) (i := 1) rfl (Wn.none rfl) rfl rfl rfl (f_alloc ty_z23 rfl) ?_
  intro b2 hb2
  refine DL.nil ?_
  refine TT.seq (x := sub [1, 0] B9) (y := sub [1, 1] B9) ?_
  refine TT.region (id := 1) (n := 8) (ops := (opsOf (sub [1, 0] B9))) [(.quiet, none), (.pure, none), (.pure, none), (.quiet, none), (.quiet, none), (.quiet, none), (.alloc, none), (.store, none)] rfl ?_
  show DL _ _ _ _ _ _ _ _ _ _ [0, 1, 2, 3, 4, 5, 6, 7] _ _
  refine DL.qu 8 (.agg (enc .u8 a0)) rfl (f_loadA (j := 1) ty_a23 ty_s23 rfl (enc_sz l_a0) rfl rfl) ?_
  refine DL.pu 9 (.agg (enc .u8 (1 :: List.replicate 31 0))) rfl (p_build (vs := [(0, .int .u8 1)]) (fun w => by kernel_rfl) rfl rfl) ?_
  refine DL.pu 10 (.agg (enc .u8 (List.replicate 32 0))) rfl (p_build (vs := []) (fun w => by kernel_rfl) rfl rfl) ?_
  obtain ⟨t3, h4, h5⟩ := bind_some h
  have l_t3 := scalar_MulAdd.len l_a0 (by simp) (by simp) h4
  refine DL.qu 11 (.agg (enc .u8 t3)) rfl (f_call rfl rfl (args_val (vs := [.agg (enc .u8 a0), .agg (enc .u8 (1 :: List.replicate 31 0)), .agg (enc .u8 (List.replicate 32 0))]) rfl) (fun w => enter8 _ w) (fun w => scalar_MulAdd.val l_a0 (by simp) (by simp) h4 w)) ?_
  obtain ⟨t6, h7, h8⟩ := bind_some h5
  have l_t6 := scalar_words.len l_t3 h7
  refine DL.qu 12 (.agg (enc .u64 t6)) rfl (f_call rfl rfl (args_val (vs := [.agg (enc .u8 t3)]) rfl) (fun w => enter20 _ w) (fun w => scalar_words.val l_t3 h7 w)) ?_
  obtain ⟨t9, h10, h11⟩ := bind_some h8
  have l_t9 := scalar_less.len l_t6 h10
  refine DL.qu 13 (.agg (enc .u64 t9)) rfl (f_call rfl rfl (args_val (vs := [.agg (enc .u64 t6)]) rfl) (fun w => enter25 _ w) (fun w => scalar_less.val l_t6 h10 w)) ?_
  refine DL.new (ob := .cells (enc .u64 (List.replicate 4 0)) 40) (mk := fun b => ptr b 0) (i := 6) rfl (Wn.none rfl) rfl rfl rfl (f_alloc ty_z40 rfl) ?_
  intro b12 hb12
  refine DL.put (H' := [(some b12, .cells (enc .u64 t9) 40 (0, 0)), (some b2, .cells (enc .u8 (List.replicate 32 0)) 23 (0, 0)), (some b1, .cells (enc .u8 a0) 23 (0, 0))]) (i := 7) rfl (Wn.none rfl) rfl rfl (f_storeA (j := 0) ty_s40 rfl (enc_sz l_t9) (enc_sz (List.length_replicate)) (enc_oneCell _ _) rfl rfl rfl) (keep_none rfl) ?_
  refine DL.nil ?_
  refine TT.seq (x := sub [1, 1, 0] B9) (y := sub [1, 1, 1] B9) ?_
  refine TT.region (id := 2) (n := 1) (ops := (opsOf (sub [1, 1, 0] B9))) [(.alloc, none)] rfl ?_
  show DL _ _ _ _ _ _ _ _ _ _ [0] _ _
  refine DL.new (ob := .cells (enc .u64 (List.replicate 4 0)) 40) (mk := fun b => ptr b 0) (i := 0) rfl (Wn.none rfl) rfl rfl rfl (f_alloc ty_z40 rfl) ?_
  intro b13 hb13
  refine DL.nil ?_
  refine TT.seq (x := sub [1, 1, 1, 0] B9) (y := sub [1, 1, 1, 1] B9) ?_
  refine TT.region (id := 3) (n := 1) (ops := (opsOf (sub [1, 1, 1, 0] B9))) [(.pure, none)] rfl ?_
  show DL _ _ _ _ _ _ _ _ _ _ [0] _ _
  refine DL.pu 5 (.int .u64 0) rfl (p_assign rfl rfl) ?_
  refine DL.nil ?_
  refine TT.seq (x := sub [1, 1, 1, 1, 0] B9) (y := sub [1, 1, 1, 1, 1] B9) ?_
  refine TT.region (id := 4) (n := 3) (ops := (opsOf (sub [1, 1, 1, 1, 0] B9))) [(.quiet, none), (.alloc, none), (.store, none)] rfl ?_
  show DL _ _ _ _ _ _ _ _ _ _ [0, 1, 2] _ _
  obtain ⟨t14, h15, h16⟩ := bind_some h11
  have l_t14 := scalar_order.len h15
  refine DL.qu 14 (.agg (enc .u64 t14)) rfl (f_call rfl rfl (args_val (vs := []) rfl) (fun w => enter26 _ w) (fun w => scalar_order.val h15 w)) ?_
  refine DL.new (ob := .cells (enc .u64 (List.replicate 4 0)) 40) (mk := fun b => ptr b 0) (i := 1) rfl (Wn.none rfl) rfl rfl rfl (f_alloc ty_z40 rfl) ?_
  intro b17 hb17
  refine DL.put (H' := [(some b17, .cells (enc .u64 t14) 40 (0, 0)), (some b13, .cells (enc .u64 (List.replicate 4 0)) 40 (0, 0)), (some b12, .cells (enc .u64 t9) 40 (0, 0)), (some b2, .cells (enc .u8 (List.replicate 32 0)) 23 (0, 0)), (some b1, .cells (enc .u8 a0) 23 (0, 0))]) (i := 2) rfl (Wn.none rfl) rfl rfl (f_storeA (j := 0) ty_s40 rfl (enc_sz l_t14) (enc_sz (List.length_replicate)) (enc_oneCell _ _) rfl rfl rfl) (keep_none rfl) ?_
  refine DL.nil ?_
  refine TT.seq (x := sub [1, 1, 1, 1, 1, 0] B9) (y := sub [1, 1, 1, 1, 1, 1] B9) ?_
  refine TT.seq (x := sub [1, 1, 1, 1, 1, 0, 0] B9) (y := sub [1, 1, 1, 1, 1, 0, 1] B9) ?_
  refine TT.region (id := 5) (n := 1) (ops := (opsOf (sub [1, 1, 1, 1, 1, 0, 0] B9))) [(.pure, none)] rfl ?_
  show DL _ _ _ _ _ _ _ _ _ _ [0] _ _
  refine DL.pu 15 (.int .i64 0) rfl (p_move rfl rfl) ?_
  refine DL.nil ?_
  refine TT.block (c := sub [1, 1, 1, 1, 1, 0, 1, 0] B9) ?_
  refine TT.loop (c := sub [1, 1, 1, 1, 1, 0, 1, 0, 0] B9) ?_
  obtain ⟨z_b13_87, h104, h105⟩ := bind_some h16
  refine TT.weak (scalar_Neg.L0_ok a0 b1 b2 t9 b12 b13 t14 b17 l_t9 l_t14 5 0 0 (List.replicate 4 0) z_b13_87 (List.length_replicate) h104 (fun l_z_b13_87 => ?_)) (Sub.cons rfl (Sub.cons rfl (Sub.cons rfl (Sub.cons rfl (Sub.cons rfl (Sub.cons rfl (Sub.nil _)))))))
  refine TT.seq (x := sub [1, 1, 1, 1, 1, 1, 0] B9) (y := sub [1, 1, 1, 1, 1, 1, 1] B9) ?_
  refine TT.region (id := 10) (n := 4) (ops := (opsOf (sub [1, 1, 1, 1, 1, 1, 0] B9))) [(.quiet, none), (.quiet, none), (.quiet, none), (.store, none)] rfl ?_
  show DL _ _ _ _ _ _ _ _ _ _ [0, 1, 2, 3] _ _
  refine DL.qu 32 (.agg (enc .u64 z_b13_87)) rfl (f_loadA (j := 1) ty_a40 ty_s40 rfl (enc_sz l_z_b13_87) rfl rfl) ?_
  obtain ⟨t106, h107, h108⟩ := bind_some h105
  have l_t106 := scalar_less.len l_z_b13_87 h107
  refine DL.qu 33 (.agg (enc .u64 t106)) rfl (f_call rfl rfl (args_val (vs := [.agg (enc .u64 z_b13_87)]) rfl) (fun w => enter25 _ w) (fun w => scalar_less.val l_z_b13_87 h107 w)) ?_
  obtain ⟨t109, h110, h111⟩ := bind_some h108
  have l_t109 := scalar_key.len l_t106 h110
  refine DL.qu 34 (.agg (enc .u8 t109)) rfl (f_call rfl rfl (args_val (vs := [.agg (enc .u64 t106)]) rfl) (fun w => enter23 _ w) (fun w => scalar_key.val l_t106 h110 w)) ?_
  refine DL.put (H' := [(some b17, .cells (enc .u64 t14) 40 (0, 0)), (some b13, .cells (enc .u64 z_b13_87) 40 (0, 0)), (some b12, .cells (enc .u64 t9) 40 (0, 0)), (some b2, .cells (enc .u8 t109) 23 (0, 0)), (some b1, .cells (enc .u8 a0) 23 (0, 0))]) (i := 3) rfl (Wn.none rfl) rfl rfl (f_storeA (j := 3) ty_s23 rfl (enc_sz l_t109) (enc_sz (List.length_replicate)) (enc_oneCell _ _) rfl rfl rfl) (keep_none rfl) ?_
  refine DL.nil ?_
  obtain rfl := Option.some.inj h111
  exact ret1 Try.func9 rfl (ResV.cell (j := 3) ty_a23 ty_s23 rfl rfl (enc_sz l_t109)) ⟨rfl, l_t109⟩
theorem scalar_Neg.len {a0 : List Int} {r : List Int} (l_a0 : a0.length = 32) (h : scalar_Neg.f a0 = some r) : r.length = 32 := by
  obtain ⟨v, hv⟩ := calls_fact (scalar_Neg.ok l_a0 h)
  exact hv.2
theorem scalar_Neg.val {a0 : List Int} {r : List Int} (l_a0 : a0.length = 32) (h : scalar_Neg.f a0 = some r) (w : World) : Calls Try.prog 9 #[.agg (enc .u8 a0)] w fun e w' => e = .returned (.agg (enc .u8 r)) ∧ Below w.heap.size w w' :=
  calls_value ((scalar_Neg.ok l_a0 h w).mono fun e w' ⟨v, he, hv, hb⟩ => ⟨v, he, hv.1, hb⟩)

/-! ### escutcheon/scalar.Order: function 12 -/
noncomputable def B12 : Code := bodyOf Try.f12
def scalar_Order.f : Option (List Int) := (scalar_order.f).bind fun t2 => (scalar_key.f t2).bind fun t5 => some t5
set_option maxRecDepth 20000 in
theorem scalar_Order.ok {r : List Int} (h : scalar_Order.f = some r) (w : World) : Calls Try.prog 12 #[] w (Post (fun u => u = .agg (enc .u8 r) ∧ r.length = 32) w) := by
  unfold scalar_Order.f at h
  refine calls_of_TT (N := 3) (S := []) (c := B12) Try.func12 rfl rfl rfl (by simp) ?_
  show TT _ _ _ _ _ _ [.code (sub [] B12)] _ _
  refine TT.seq (x := sub [0] B12) (y := sub [1] B12) ?_
  refine TT.region (id := 0) (n := 1) (ops := (opsOf (sub [0] B12))) [(.alloc, none)] rfl ?_
  show DL _ _ _ _ _ _ _ _ _ _ [0] _ _
  refine DL.new (ob := .cells (enc .u8 (List.replicate 32 0)) 23) (mk := fun b => ptr b 0) (i := 0) rfl (Wn.none rfl) rfl rfl rfl (f_alloc ty_z23 rfl) ?_
  intro b1 hb1
  refine DL.nil ?_
  refine TT.seq (x := sub [1, 0] B12) (y := sub [1, 1] B12) ?_
  refine TT.region (id := 1) (n := 3) (ops := (opsOf (sub [1, 0] B12))) [(.quiet, none), (.quiet, none), (.store, none)] rfl ?_
  show DL _ _ _ _ _ _ _ _ _ _ [0, 1, 2] _ _
  obtain ⟨t2, h3, h4⟩ := bind_some h
  have l_t2 := scalar_order.len h3
  refine DL.qu 1 (.agg (enc .u64 t2)) rfl (f_call rfl rfl (args_val (vs := []) rfl) (fun w => enter26 _ w) (fun w => scalar_order.val h3 w)) ?_
  obtain ⟨t5, h6, h7⟩ := bind_some h4
  have l_t5 := scalar_key.len l_t2 h6
  refine DL.qu 2 (.agg (enc .u8 t5)) rfl (f_call rfl rfl (args_val (vs := [.agg (enc .u64 t2)]) rfl) (fun w => enter23 _ w) (fun w => scalar_key.val l_t2 h6 w)) ?_
  refine DL.put (H' := [(some b1, .cells (enc .u8 t5) 23 (0, 0))]) (i := 2) rfl (Wn.none rfl) rfl rfl (f_storeA (j := 0) ty_s23 rfl (enc_sz l_t5) (enc_sz (List.length_replicate)) (enc_oneCell _ _) rfl rfl rfl) (keep_none rfl) ?_
  refine DL.nil ?_
  obtain rfl := Option.some.inj h7
  exact ret1 Try.func12 rfl (ResV.cell (j := 0) ty_a23 ty_s23 rfl rfl (enc_sz l_t5)) ⟨rfl, l_t5⟩
theorem scalar_Order.len {r : List Int} (h : scalar_Order.f = some r) : r.length = 32 := by
  obtain ⟨v, hv⟩ := calls_fact (scalar_Order.ok h)
  exact hv.2
theorem scalar_Order.val {r : List Int} (h : scalar_Order.f = some r) (w : World) : Calls Try.prog 12 #[] w fun e w' => e = .returned (.agg (enc .u8 r)) ∧ Below w.heap.size w w' :=
  calls_value ((scalar_Order.ok h w).mono fun e w' ⟨v, he, hv, hb⟩ => ⟨v, he, hv.1, hb⟩)

/-! ### escutcheon/scalar.Reduce: function 15 -/
noncomputable def B15 : Code := bodyOf Try.f15
def scalar_Reduce.L0 (a0 : List Int) : Nat → Int → List Int → Option (List Int)
  | 0, _, _ => none
  | k + 1, x7_4, y_5 => if (decide (x7_4 < 64)) = true then (req (0 ≤ x7_4) (req (x7_4 < 64) (req (0 ≤ (IntKind.i64.wrap (Int.tdiv x7_4 8))) (req ((IntKind.i64.wrap (Int.tdiv x7_4 8)) < 8) (req (0 ≤ (IntKind.i64.wrap (8 * (Int.tmod x7_4 8)))) (nm (ishl .u64 (IntKind.u64.wrap (a0.getD x7_4.toNat 0)) (IntKind.i64.wrap (8 * (Int.tmod x7_4 8)))) fun t90 => nm (ior .u64 (y_5.getD ((IntKind.i64.wrap (Int.tdiv x7_4 8)).toNat) 0) t90) fun t93 => scalar_Reduce.L0 a0 k (IntKind.i64.wrap (x7_4 + 1)) (y_5.set ((IntKind.i64.wrap (Int.tdiv x7_4 8)).toNat) t93))))))) else (some y_5)
set_option maxRecDepth 20000 in
theorem scalar_Reduce.L0_ok (a0 : List Int) (b1 : Nat) (b2 : Nat) (b3 : Nat) {R : Ending → World → Prop} {w0 : World} {I : Nat → Option Obj} {K : List Item} (l_a0 : a0.length = 64) :
    ∀ (k : Nat) (x7_4 : Int) (y_5 : List Int) (r0 : List Int) (l_y_5 : y_5.length = 8) (h : scalar_Reduce.L0 a0 k x7_4 y_5 = some r0) (hk : r0.length = 8 → TT Try.prog 15 R 27 w0 I K [(2, ptr b2 0), (3, ptr b3 0)] [(some b3, .cells (enc .u64 r0) 42 (0, 0)), (some b2, .cells (enc .u8 (List.replicate 32 0)) 23 (0, 0)), (some b1, .cells (enc .u8 a0) 34 (0, 0))]),
      TT Try.prog 15 R 27 w0 I (.code (sub [1, 1, 0, 1, 0, 0] B15) :: .inLoop (sub [1, 1, 0, 1, 0, 0] B15) :: .inBlock 0 :: K) [(2, ptr b2 0), (3, ptr b3 0), (6, .agg (enc .u8 a0)), (7, .int .i64 x7_4)] [(some b3, .cells (enc .u64 y_5) 42 (0, 0)), (some b2, .cells (enc .u8 (List.replicate 32 0)) 23 (0, 0)), (some b1, .cells (enc .u8 a0) 34 (0, 0))] := by
  intro k
  induction k with
  | zero => intro x7_4 y_5 r0 l_y_5 h; simp [scalar_Reduce.L0] at h
  | succ k ih =>
    intro x7_4 y_5 r0 l_y_5 h hk
    unfold scalar_Reduce.L0 at h
    refine TT.seq (x := sub [1, 1, 0, 1, 0, 0, 0] B15) (y := sub [1, 1, 0, 1, 0, 0, 1] B15) ?_
    refine TT.region (id := 3) (n := 1) (ops := (opsOf (sub [1, 1, 0, 1, 0, 0, 0] B15))) [(.pure, none)] rfl ?_
    show DL _ _ _ _ _ _ _ _ _ _ [0] _ _
    refine DL.pu 8 (.bool (decide (x7_4 < 64))) rfl (p_lss rfl rfl rfl) ?_
    refine DL.nil ?_
    refine TT.seq (x := sub [1, 1, 0, 1, 0, 0, 1, 0] B15) (y := sub [1, 1, 0, 1, 0, 0, 1, 1] B15) ?_
    by_cases c77 : (decide (x7_4 < 64)) = true
    · have h78 := ite_true c77 h
      refine TT.cond_true (x := sub [1, 1, 0, 1, 0, 0, 1, 0, 0] B15) (y := sub [1, 1, 0, 1, 0, 0, 1, 0, 1] B15) rfl c77 ?_
      refine TT.skip ?_
      refine TT.seq (x := sub [1, 1, 0, 1, 0, 0, 1, 1, 0] B15) (y := sub [1, 1, 0, 1, 0, 0, 1, 1, 1] B15) ?_
      refine TT.block (c := sub [1, 1, 0, 1, 0, 0, 1, 1, 0, 0] B15) ?_
      refine TT.seq (x := sub [1, 1, 0, 1, 0, 0, 1, 1, 0, 0, 0] B15) (y := sub [1, 1, 0, 1, 0, 0, 1, 1, 0, 0, 1] B15) ?_
      refine TT.region (id := 4) (n := 4) (ops := (opsOf (sub [1, 1, 0, 1, 0, 0, 1, 1, 0, 0, 0] B15))) [(.pure, none), (.pure, none), (.pure, none), (.pure, none)] rfl ?_
      show DL _ _ _ _ _ _ _ _ _ _ [0, 1, 2, 3] _ _
      refine DL.pu 9 (.int .i64 x7_4) rfl (p_move rfl rfl) ?_
      obtain ⟨g79, h80⟩ := req_some h78
      obtain ⟨g81, h82⟩ := req_some h80
      refine DL.pu 10 (.int .u8 (a0.getD x7_4.toNat 0)) rfl (p_index ty_u34 ty_s5 ty_a5 g79 g81 (enc_at l_a0 g79 g81) rfl rfl rfl) ?_
      refine DL.pu 4 (.int .i64 x7_4) rfl (p_assign rfl rfl) ?_
      refine DL.pu 5 (.int .u8 (a0.getD x7_4.toNat 0)) rfl (p_assign rfl rfl) ?_
      refine DL.nil ?_
      refine TT.regionD (id := 5) (ops := (opsOf (sub [1, 1, 0, 1, 0, 0, 1, 1, 0, 0, 1] B15))) [0, 1, 2, 3, 4, 5, 6, 7, 8, 9, 10, 11, 12] [0, 1, 3, 7, 0, 16, 0, 64, 192, 496, 1023, 2047, 4095] [(.pure, none), (.pure, none), (.pure, none), (.look, some 0), (.pure, none), (.pure, none), (.pure, none), (.pure, none), (.pure, none), (.pure, none), (.pure, none), (.pure, none), (.store, some 0)] mixed (by kernel_rfl) ?_
      intro w83 hl83 hj83 hz83
      refine DL.pu 11 (.int .i64 x7_4) rfl (p_move rfl rfl) ?_
      refine DL.pu 12 (.int .i64 (IntKind.i64.wrap (Int.tdiv x7_4 8))) rfl (p_quo (by decide) rfl rfl rfl) ?_
      obtain ⟨g84, h85⟩ := req_some h82
      obtain ⟨g86, h87⟩ := req_some h85
      refine DL.pu 13 (ptr b3 ((IntKind.i64.wrap (Int.tdiv x7_4 8)).toNat)) rfl (p_ix ty_u42 ty_s39 g84 g86 rfl rfl rfl) ?_
      refine DL.look (v := .int .u64 (y_5.getD ((IntKind.i64.wrap (Int.tdiv x7_4 8)).toNat) 0)) (x := 0) (b := b3) (i := 3) rfl (Wn.none rfl) rfl rfl rfl rfl rfl (List.mem_of_getElem? (i := 0) rfl) (b_load ty_a39 (enc_at l_y_5 g84 g86) rfl rfl) ?_
      refine DL.pu 15 (.int .u8 (a0.getD x7_4.toNat 0)) rfl (p_move rfl rfl) ?_
      refine DL.pu 16 (.int .u64 (IntKind.u64.wrap (a0.getD x7_4.toNat 0))) rfl (p_conv ty_u5 ty_u39 ⟨_, rfl⟩ rfl rfl) ?_
      refine DL.pu 17 (.int .i64 x7_4) rfl (p_move rfl rfl) ?_
      refine DL.pu 18 (.int .i64 (Int.tmod x7_4 8)) rfl (p_rem (by decide) rfl rfl rfl) ?_
      refine DL.pu 19 (.int .i64 (IntKind.i64.wrap (8 * (Int.tmod x7_4 8)))) rfl (p_mul rfl rfl rfl) ?_
      obtain ⟨g88, h89⟩ := req_some h87
      obtain ⟨t90, e91, h92⟩ := nm_some h89
      refine DL.pu 20 (.int .u64 t90) rfl (by rw [e91]; exact p_shl g88 rfl rfl rfl) ?_
      obtain ⟨t93, e94, h95⟩ := nm_some h92
      refine DL.pu 21 (.int .u64 t93) rfl (by rw [e94]; exact p_or rfl rfl rfl) ?_
      refine DL.pu 22 (ptr b3 ((IntKind.i64.wrap (Int.tdiv x7_4 8)).toNat)) rfl (p_ix ty_u42 ty_s39 g84 g86 rfl rfl rfl) ?_
      refine DL.put (H' := [(some b3, .cells (enc .u64 (y_5.set ((IntKind.i64.wrap (Int.tdiv x7_4 8)).toNat) t93)) 42 (0, 0)), (some b2, .cells (enc .u8 (List.replicate 32 0)) 23 (0, 0)), (some b1, .cells (enc .u8 a0) 34 (0, 0))]) (i := 12) rfl (Wn.none rfl) rfl rfl (f_storeE (j := 0) ty_s39 rfl (lt_nat l_y_5 g84 g86) rfl rfl rfl) (keep_set (j := 0) hj83 rfl rfl rfl) ?_
      refine DL.nil' hl83 ?_
      refine TT.inBlock ?_
      refine TT.region (id := 6) (n := 2) (ops := (opsOf (sub [1, 1, 0, 1, 0, 0, 1, 1, 1] B15))) [(.pure, none), (.pure, none)] rfl ?_
      show DL _ _ _ _ _ _ _ _ _ _ [0, 1] _ _
      refine DL.pu 23 (.int .i64 (IntKind.i64.wrap (x7_4 + 1))) rfl (p_add rfl rfl rfl) ?_
      refine DL.pu 7 (.int .i64 (IntKind.i64.wrap (x7_4 + 1))) rfl (p_move rfl rfl) ?_
      refine DL.nil ?_
      refine TT.inLoop ?_
      exact TT.weak (ih (IntKind.i64.wrap (x7_4 + 1)) (y_5.set ((IntKind.i64.wrap (Int.tdiv x7_4 8)).toNat) t93) r0 (len_set l_y_5) h95 hk) (Sub.cons rfl (Sub.cons rfl (Sub.cons rfl (Sub.cons rfl (Sub.nil _)))))
    · replace c77 := Bool.eq_false_iff.mpr c77
      have h96 := ite_false c77 h
      refine TT.cond_false (x := sub [1, 1, 0, 1, 0, 0, 1, 0, 0] B15) (y := sub [1, 1, 0, 1, 0, 0, 1, 0, 1] B15) rfl c77 ?_
      refine TT.exit rfl ?_
      obtain rfl := Option.some.inj h96
      exact TT.weak (hk l_y_5) (Sub.cons rfl (Sub.cons rfl (Sub.nil _)))

def scalar_Reduce.f (a0 : List Int) : Option (List Int) := (scalar_Reduce.L0 a0 65 0 (List.replicate 8 0)).bind fun z_b3_76 => (scalar_reduce.f z_b3_76).bind fun t99 => (scalar_key.f t99).bind fun t102 => some t102
set_option maxRecDepth 20000 in
theorem scalar_Reduce.ok {a0 : List Int} {r : List Int} (l_a0 : a0.length = 64) (h : scalar_Reduce.f a0 = some r) (w : World) : Calls Try.prog 15 #[.agg (enc .u8 a0)] w (Post (fun u => u = .agg (enc .u8 r) ∧ r.length = 32) w) := by
  unfold scalar_Reduce.f at h
  refine calls_of_TT (N := 27) (S := [(0, .agg (enc .u8 a0))]) (c := B15) Try.func15 rfl rfl rfl (by simp) ?_
  show TT _ _ _ _ _ _ [.code (sub [] B15)] _ _
  refine TT.seq (x := sub [0] B15) (y := sub [1] B15) ?_
  refine TT.region (id := 0) (n := 2) (ops := (opsOf (sub [0] B15))) [(.alloc, none), (.alloc, none)] rfl ?_
  show DL _ _ _ _ _ _ _ _ _ _ [0, 1] _ _
  refine DL.new (ob := .cells (enc .u8 a0) 34) (mk := fun b => ptr b 0) (i := 0) rfl (Wn.none rfl) rfl rfl rfl (f_box (v := .agg (enc .u8 a0)) rfl rfl) ?_
  intro b1 hb1
  refine DL.new (ob := .cells (enc .u8 (List.replicate 32 0)) 23) (mk := fun b => ptr b 0) (i := 1) rfl (Wn.none rfl) rfl rfl rfl (f_alloc ty_z23 rfl) ?_
  intro b2 hb2
  refine DL.nil ?_
  refine TT.seq (x := sub [1, 0] B15) (y := sub [1, 1] B15) ?_
  refine TT.region (id := 1) (n := 1) (ops := (opsOf (sub [1, 0] B15))) [(.alloc, none)] rfl ?_
  show DL _ _ _ _ _ _ _ _ _ _ [0] _ _
  refine DL.new (ob := .cells (enc .u64 (List.replicate 8 0)) 42) (mk := fun b => ptr b 0) (i := 0) rfl (Wn.none rfl) rfl rfl rfl (f_alloc ty_z42 rfl) ?_
  intro b3 hb3
  refine DL.nil ?_
  refine TT.seq (x := sub [1, 1, 0] B15) (y := sub [1, 1, 1] B15) ?_
  refine TT.seq (x := sub [1, 1, 0, 0] B15) (y := sub [1, 1, 0, 1] B15) ?_
  refine TT.region (id := 2) (n := 2) (ops := (opsOf (sub [1, 1, 0, 0] B15))) [(.quiet, none), (.pure, none)] rfl ?_
  show DL _ _ _ _ _ _ _ _ _ _ [0, 1] _ _
  refine DL.qu 6 (.agg (enc .u8 a0)) rfl (f_loadA (j := 2) ty_a34 ty_s34 rfl (enc_sz l_a0) rfl rfl) ?_
  refine DL.pu 7 (.int .i64 0) rfl (p_move rfl rfl) ?_
  refine DL.nil ?_
  refine TT.block (c := sub [1, 1, 0, 1, 0] B15) ?_
  refine TT.loop (c := sub [1, 1, 0, 1, 0, 0] B15) ?_
  obtain ⟨z_b3_76, h97, h98⟩ := bind_some h
  refine TT.weak (scalar_Reduce.L0_ok a0 b1 b2 b3 l_a0 65 0 (List.replicate 8 0) z_b3_76 (List.length_replicate) h97 (fun l_z_b3_76 => ?_)) (Sub.cons rfl (Sub.cons rfl (Sub.cons rfl (Sub.cons rfl (Sub.nil _)))))
  refine TT.seq (x := sub [1, 1, 1, 0] B15) (y := sub [1, 1, 1, 1] B15) ?_
  refine TT.region (id := 7) (n := 4) (ops := (opsOf (sub [1, 1, 1, 0] B15))) [(.quiet, none), (.quiet, none), (.quiet, none), (.store, none)] rfl ?_
  show DL _ _ _ _ _ _ _ _ _ _ [0, 1, 2, 3] _ _
  refine DL.qu 24 (.agg (enc .u64 z_b3_76)) rfl (f_loadA (j := 0) ty_a42 ty_s42 rfl (enc_sz l_z_b3_76) rfl rfl) ?_
  obtain ⟨t99, h100, h101⟩ := bind_some h98
  have l_t99 := scalar_reduce.len l_z_b3_76 h100
  refine DL.qu 25 (.agg (enc .u64 t99)) rfl (f_call rfl rfl (args_val (vs := [.agg (enc .u64 z_b3_76)]) rfl) (fun w => enter24 _ w) (fun w => scalar_reduce.val l_z_b3_76 h100 w)) ?_
  obtain ⟨t102, h103, h104⟩ := bind_some h101
  have l_t102 := scalar_key.len l_t99 h103
  refine DL.qu 26 (.agg (enc .u8 t102)) rfl (f_call rfl rfl (args_val (vs := [.agg (enc .u64 t99)]) rfl) (fun w => enter23 _ w) (fun w => scalar_key.val l_t99 h103 w)) ?_
  refine DL.put (H' := [(some b3, .cells (enc .u64 z_b3_76) 42 (0, 0)), (some b2, .cells (enc .u8 t102) 23 (0, 0)), (some b1, .cells (enc .u8 a0) 34 (0, 0))]) (i := 3) rfl (Wn.none rfl) rfl rfl (f_storeA (j := 1) ty_s23 rfl (enc_sz l_t102) (enc_sz (List.length_replicate)) (enc_oneCell _ _) rfl rfl rfl) (keep_none rfl) ?_
  refine DL.nil ?_
  obtain rfl := Option.some.inj h104
  exact ret1 Try.func15 rfl (ResV.cell (j := 1) ty_a23 ty_s23 rfl rfl (enc_sz l_t102)) ⟨rfl, l_t102⟩
theorem scalar_Reduce.len {a0 : List Int} {r : List Int} (l_a0 : a0.length = 64) (h : scalar_Reduce.f a0 = some r) : r.length = 32 := by
  obtain ⟨v, hv⟩ := calls_fact (scalar_Reduce.ok l_a0 h)
  exact hv.2
theorem scalar_Reduce.val {a0 : List Int} {r : List Int} (l_a0 : a0.length = 64) (h : scalar_Reduce.f a0 = some r) (w : World) : Calls Try.prog 15 #[.agg (enc .u8 a0)] w fun e w' => e = .returned (.agg (enc .u8 r)) ∧ Below w.heap.size w w' :=
  calls_value ((scalar_Reduce.ok l_a0 h w).mono fun e w' ⟨v, he, hv, hb⟩ => ⟨v, he, hv.1, hb⟩)

/-! ### escutcheon/scalar.Clamp: function 18 -/
noncomputable def B18 : Code := bodyOf Try.f18
def scalar_Clamp.f (a0 : List Int) : Option (List Int) := nm (iand .u8 ((a0.set ((0 : Int).toNat) (iandn .u8 (a0.getD ((0 : Int).toNat) 0) 7)).getD ((31 : Int).toNat) 0) 127) fun t3 => some ((a0.set ((0 : Int).toNat) (iandn .u8 (a0.getD ((0 : Int).toNat) 0) 7)).set ((31 : Int).toNat) (ior .u8 t3 64))
set_option maxRecDepth 20000 in
theorem scalar_Clamp.ok {a0 : List Int} {r : List Int} (l_a0 : a0.length = 32) (h : scalar_Clamp.f a0 = some r) (w : World) : Calls Try.prog 18 #[.agg (enc .u8 a0)] w (Post (fun u => u = .agg (enc .u8 r) ∧ r.length = 32) w) := by
  unfold scalar_Clamp.f at h
  refine calls_of_TT (N := 13) (S := [(0, .agg (enc .u8 a0))]) (c := B18) Try.func18 rfl rfl rfl (by simp) ?_
  show TT _ _ _ _ _ _ [.code (sub [] B18)] _ _
  refine TT.seq (x := sub [0] B18) (y := sub [1] B18) ?_
  refine TT.region (id := 0) (n := 2) (ops := (opsOf (sub [0] B18))) [(.alloc, none), (.alloc, none)] rfl ?_
  show DL _ _ _ _ _ _ _ _ _ _ [0, 1] _ _
  refine DL.new (ob := .cells (enc .u8 a0) 23) (mk := fun b => ptr b 0) (i := 0) rfl (Wn.none rfl) rfl rfl rfl (f_box (v := .agg (enc .u8 a0)) rfl rfl) ?_
  intro b1 hb1
  refine DL.new (ob := .cells (enc .u8 (List.replicate 32 0)) 23) (mk := fun b => ptr b 0) (i := 1) rfl (Wn.none rfl) rfl rfl rfl (f_alloc ty_z23 rfl) ?_
  intro b2 hb2
  refine DL.nil ?_
  refine TT.seq (x := sub [1, 0] B18) (y := sub [1, 1] B18) ?_
  refine TT.region (id := 1) (n := 5) (ops := (opsOf (sub [1, 0] B18))) [(.pure, none), (.quiet, none), (.pure, none), (.pure, none), (.store, none)] rfl ?_
  show DL _ _ _ _ _ _ _ _ _ _ [0, 1, 2, 3, 4] _ _
  refine DL.pu 3 (ptr b1 ((0 : Int).toNat)) rfl (p_ix ty_u23 ty_s5 (by decide) (by decide) rfl rfl rfl) ?_
  refine DL.qu 4 (.int .u8 (a0.getD ((0 : Int).toNat) 0)) rfl (f_load (j := 1) ty_a5 rfl (enc_at l_a0 (by decide) (by decide)) rfl rfl) ?_
  refine DL.pu 5 (.int .u8 (iandn .u8 (a0.getD ((0 : Int).toNat) 0) 7)) rfl (p_andNot rfl rfl rfl) ?_
  refine DL.pu 6 (ptr b1 ((0 : Int).toNat)) rfl (p_ix ty_u23 ty_s5 (by decide) (by decide) rfl rfl rfl) ?_
  refine DL.put (H' := [(some b2, .cells (enc .u8 (List.replicate 32 0)) 23 (0, 0)), (some b1, .cells (enc .u8 (a0.set ((0 : Int).toNat) (iandn .u8 (a0.getD ((0 : Int).toNat) 0) 7))) 23 (0, 0))]) (i := 4) rfl (Wn.none rfl) rfl rfl (f_storeE (j := 1) ty_s5 rfl (lt_nat l_a0 (by decide) (by decide)) rfl rfl rfl) (keep_none rfl) ?_
  refine DL.nil ?_
  refine TT.seq (x := sub [1, 1, 0] B18) (y := sub [1, 1, 1] B18) ?_
  refine TT.region (id := 2) (n := 6) (ops := (opsOf (sub [1, 1, 0] B18))) [(.pure, none), (.quiet, none), (.pure, none), (.pure, none), (.pure, none), (.store, none)] rfl ?_
  show DL _ _ _ _ _ _ _ _ _ _ [0, 1, 2, 3, 4, 5] _ _
  refine DL.pu 7 (ptr b1 ((31 : Int).toNat)) rfl (p_ix ty_u23 ty_s5 (by decide) (by decide) rfl rfl rfl) ?_
  refine DL.qu 8 (.int .u8 ((a0.set ((0 : Int).toNat) (iandn .u8 (a0.getD ((0 : Int).toNat) 0) 7)).getD ((31 : Int).toNat) 0)) rfl (f_load (j := 1) ty_a5 rfl (enc_at (len_set l_a0) (by decide) (by decide)) rfl rfl) ?_
  obtain ⟨t3, e4, h5⟩ := nm_some h
  refine DL.pu 9 (.int .u8 t3) rfl (by rw [e4]; exact p_and rfl rfl rfl) ?_
  refine DL.pu 10 (.int .u8 (ior .u8 t3 64)) rfl (p_or rfl rfl rfl) ?_
  refine DL.pu 11 (ptr b1 ((31 : Int).toNat)) rfl (p_ix ty_u23 ty_s5 (by decide) (by decide) rfl rfl rfl) ?_
  refine DL.put (H' := [(some b2, .cells (enc .u8 (List.replicate 32 0)) 23 (0, 0)), (some b1, .cells (enc .u8 ((a0.set ((0 : Int).toNat) (iandn .u8 (a0.getD ((0 : Int).toNat) 0) 7)).set ((31 : Int).toNat) (ior .u8 t3 64))) 23 (0, 0))]) (i := 5) rfl (Wn.none rfl) rfl rfl (f_storeE (j := 1) ty_s5 rfl (lt_nat (len_set l_a0) (by decide) (by decide)) rfl rfl rfl) (keep_none rfl) ?_
  refine DL.nil ?_
  refine TT.seq (x := sub [1, 1, 1, 0] B18) (y := sub [1, 1, 1, 1] B18) ?_
  refine TT.region (id := 3) (n := 2) (ops := (opsOf (sub [1, 1, 1, 0] B18))) [(.quiet, none), (.store, none)] rfl ?_
  show DL _ _ _ _ _ _ _ _ _ _ [0, 1] _ _
  refine DL.qu 12 (.agg (enc .u8 ((a0.set ((0 : Int).toNat) (iandn .u8 (a0.getD ((0 : Int).toNat) 0) 7)).set ((31 : Int).toNat) (ior .u8 t3 64)))) rfl (f_loadA (j := 1) ty_a23 ty_s23 rfl (enc_sz (len_set (len_set l_a0))) rfl rfl) ?_
  refine DL.put (H' := [(some b2, .cells (enc .u8 ((a0.set ((0 : Int).toNat) (iandn .u8 (a0.getD ((0 : Int).toNat) 0) 7)).set ((31 : Int).toNat) (ior .u8 t3 64))) 23 (0, 0)), (some b1, .cells (enc .u8 ((a0.set ((0 : Int).toNat) (iandn .u8 (a0.getD ((0 : Int).toNat) 0) 7)).set ((31 : Int).toNat) (ior .u8 t3 64))) 23 (0, 0))]) (i := 1) rfl (Wn.none rfl) rfl rfl (f_storeA (j := 0) ty_s23 rfl (enc_sz (len_set (len_set l_a0))) (enc_sz (List.length_replicate)) (enc_oneCell _ _) rfl rfl rfl) (keep_none rfl) ?_
  refine DL.nil ?_
  obtain rfl := Option.some.inj h5
  exact ret1 Try.func18 rfl (ResV.cell (j := 0) ty_a23 ty_s23 rfl rfl (enc_sz (len_set (len_set l_a0)))) ⟨rfl, (len_set (len_set l_a0))⟩
theorem scalar_Clamp.len {a0 : List Int} {r : List Int} (l_a0 : a0.length = 32) (h : scalar_Clamp.f a0 = some r) : r.length = 32 := by
  obtain ⟨v, hv⟩ := calls_fact (scalar_Clamp.ok l_a0 h)
  exact hv.2
theorem scalar_Clamp.val {a0 : List Int} {r : List Int} (l_a0 : a0.length = 32) (h : scalar_Clamp.f a0 = some r) (w : World) : Calls Try.prog 18 #[.agg (enc .u8 a0)] w fun e w' => e = .returned (.agg (enc .u8 r)) ∧ Below w.heap.size w w' :=
  calls_value ((scalar_Clamp.ok l_a0 h w).mono fun e w' ⟨v, he, hv, hb⟩ => ⟨v, he, hv.1, hb⟩)

/-! ### escutcheon/escutcheonref02.Bytes: function 28 -/
noncomputable def B28 : Code := bodyOf Try.f28
def ref02_Bytes.L0 (a0 : List Int) : Nat → Int → List Int → Option (List Int)
  | 0, _, _ => none
  | k + 1, x4_4, y_5 => if (decide (x4_4 < 16)) = true then (nm (IntKind.i64.wrap ((IntKind.i64.wrap (2 * x4_4)) + 1)) fun t82 => req (0 ≤ x4_4) (req (x4_4 < 16) (nm (IntKind.u8.wrap (ishr .u64 (a0.getD x4_4.toNat 0) 8)) fun t89 => req (0 ≤ (IntKind.i64.wrap (2 * x4_4))) (req ((IntKind.i64.wrap (2 * x4_4)) < 32) (req (0 ≤ t82) (req (t82 < 32) (ref02_Bytes.L0 a0 k (IntKind.i64.wrap (x4_4 + 1)) ((y_5.set ((IntKind.i64.wrap (2 * x4_4)).toNat) (IntKind.u8.wrap (a0.getD x4_4.toNat 0))).set t82.toNat t89)))))))) else (some y_5)
set_option maxRecDepth 20000 in
theorem ref02_Bytes.L0_ok (a0 : List Int) (b1 : Nat) (b2 : Nat) (b3 : Nat) {R : Ending → World → Prop} {w0 : World} {I : Nat → Option Obj} {K : List Item} (l_a0 : a0.length = 16) :
    ∀ (k : Nat) (x4_4 : Int) (y_5 : List Int) (r0 : List Int) (l_y_5 : y_5.length = 32) (h : ref02_Bytes.L0 a0 k x4_4 y_5 = some r0) (hk : r0.length = 32 → TT Try.prog 28 R 26 w0 I K [(2, ptr b2 0), (3, ptr b3 0)] [(some b3, .cells (enc .u8 r0) 23 (0, 0)), (some b2, .cells (enc .u8 (List.replicate 32 0)) 23 (0, 0)), (some b1, .cells (enc .u64 a0) 52 (0, 0))]),
      TT Try.prog 28 R 26 w0 I (.code (sub [1, 1, 0, 1, 0, 0] B28) :: .inLoop (sub [1, 1, 0, 1, 0, 0] B28) :: .inBlock 0 :: K) [(1, ptr b1 0), (2, ptr b2 0), (3, ptr b3 0), (4, .int .i64 x4_4)] [(some b3, .cells (enc .u8 y_5) 23 (0, 0)), (some b2, .cells (enc .u8 (List.replicate 32 0)) 23 (0, 0)), (some b1, .cells (enc .u64 a0) 52 (0, 0))] := by
  intro k
  induction k with
  | zero => intro x4_4 y_5 r0 l_y_5 h; simp [ref02_Bytes.L0] at h
  | succ k ih =>
    intro x4_4 y_5 r0 l_y_5 h hk
    unfold ref02_Bytes.L0 at h
    refine TT.seq (x := sub [1, 1, 0, 1, 0, 0, 0] B28) (y := sub [1, 1, 0, 1, 0, 0, 1] B28) ?_
    refine TT.seq (x := sub [1, 1, 0, 1, 0, 0, 0, 0] B28) (y := sub [1, 1, 0, 1, 0, 0, 0, 1] B28) ?_
    refine TT.region (id := 3) (n := 2) (ops := (opsOf (sub [1, 1, 0, 1, 0, 0, 0, 0] B28))) [(.pure, none), (.pure, none)] rfl ?_
    show DL _ _ _ _ _ _ _ _ _ _ [0, 1] _ _
    refine DL.pu 5 (.int .i64 x4_4) rfl (p_move rfl rfl) ?_
    refine DL.pu 6 (.bool (decide (x4_4 < 16))) rfl (p_lss rfl rfl rfl) ?_
    refine DL.nil ?_
    by_cases c79 : (decide (x4_4 < 16)) = true
    · have h80 := ite_true c79 h
      refine TT.cond_true (x := sub [1, 1, 0, 1, 0, 0, 0, 1, 0] B28) (y := sub [1, 1, 0, 1, 0, 0, 0, 1, 1] B28) rfl c79 ?_
      refine TT.skip ?_
      refine TT.seq (x := sub [1, 1, 0, 1, 0, 0, 1, 0] B28) (y := sub [1, 1, 0, 1, 0, 0, 1, 1] B28) ?_
      refine TT.block (c := sub [1, 1, 0, 1, 0, 0, 1, 0, 0] B28) ?_
      refine TT.regionD (id := 5) (ops := (opsOf (sub [1, 1, 0, 1, 0, 0, 1, 0, 0] B28))) [0, 1, 2, 3, 4, 5, 6, 7, 8, 9, 10, 11, 12, 13, 14, 15, 16, 17] [0, 1, 0, 4, 12, 0, 32, 96, 224, 0, 512, 1536, 3584, 7680, 483, 16867, 65535, 131071] [(.pure, none), (.pure, none), (.pure, none), (.pure, none), (.pure, none), (.pure, none), (.pure, none), (.look, some 2), (.pure, none), (.pure, none), (.pure, none), (.look, some 2), (.pure, none), (.pure, none), (.pure, none), (.store, some 0), (.pure, none), (.store, some 0)] mixed (by kernel_rfl) ?_
      intro w81 hl81 hj81 hz81
      refine DL.pu 9 (.int .i64 x4_4) rfl (p_move rfl rfl) ?_
      refine DL.pu 10 (.int .i64 (IntKind.i64.wrap (2 * x4_4))) rfl (p_mul rfl rfl rfl) ?_
      refine DL.pu 11 (.int .i64 x4_4) rfl (p_move rfl rfl) ?_
      refine DL.pu 12 (.int .i64 (IntKind.i64.wrap (2 * x4_4))) rfl (p_mul rfl rfl rfl) ?_
      obtain ⟨t82, e83, h84⟩ := nm_some h80
      refine DL.pu 13 (.int .i64 t82) rfl (by rw [e83]; exact p_add rfl rfl rfl) ?_
      refine DL.pu 14 (.int .i64 x4_4) rfl (p_move rfl rfl) ?_
      obtain ⟨g85, h86⟩ := req_some h84
      obtain ⟨g87, h88⟩ := req_some h86
      refine DL.pu 15 (ptr b1 x4_4.toNat) rfl (p_ix ty_u52 ty_s39 g85 g87 rfl rfl rfl) ?_
      refine DL.look (v := .int .u64 (a0.getD x4_4.toNat 0)) (x := 2) (b := b1) (i := 7) rfl (Wn.none rfl) rfl rfl rfl rfl rfl (List.mem_of_getElem? (i := 2) rfl) (b_load ty_a39 (enc_at l_a0 g85 g87) rfl rfl) ?_
      refine DL.pu 17 (.int .u8 (IntKind.u8.wrap (a0.getD x4_4.toNat 0))) rfl (p_conv ty_u39 ty_u5 ⟨_, rfl⟩ rfl rfl) ?_
      refine DL.pu 18 (.int .i64 x4_4) rfl (p_move rfl rfl) ?_
      refine DL.pu 19 (ptr b1 x4_4.toNat) rfl (p_ix ty_u52 ty_s39 g85 g87 rfl rfl rfl) ?_
      refine DL.look (v := .int .u64 (a0.getD x4_4.toNat 0)) (x := 2) (b := b1) (i := 11) rfl (Wn.none rfl) rfl rfl rfl rfl rfl (List.mem_of_getElem? (i := 2) rfl) (b_load ty_a39 (enc_at l_a0 g85 g87) rfl rfl) ?_
      refine DL.pu 21 (.int .u64 (ishr .u64 (a0.getD x4_4.toNat 0) 8)) rfl (p_shr (by decide) rfl rfl rfl) ?_
      obtain ⟨t89, e90, h91⟩ := nm_some h88
      refine DL.pu 22 (.int .u8 t89) rfl (by rw [e90]; exact p_conv ty_u39 ty_u5 ⟨_, rfl⟩ rfl rfl) ?_
      obtain ⟨g92, h93⟩ := req_some h91
      obtain ⟨g94, h95⟩ := req_some h93
      refine DL.pu 23 (ptr b3 ((IntKind.i64.wrap (2 * x4_4)).toNat)) rfl (p_ix ty_u23 ty_s5 g92 g94 rfl rfl rfl) ?_
      refine DL.put (H' := [(some b3, .cells (enc .u8 (y_5.set ((IntKind.i64.wrap (2 * x4_4)).toNat) (IntKind.u8.wrap (a0.getD x4_4.toNat 0)))) 23 (0, 0)), (some b2, .cells (enc .u8 (List.replicate 32 0)) 23 (0, 0)), (some b1, .cells (enc .u64 a0) 52 (0, 0))]) (i := 15) rfl (Wn.none rfl) rfl rfl (f_storeE (j := 0) ty_s5 rfl (lt_nat l_y_5 g92 g94) rfl rfl rfl) (keep_set (j := 0) hj81 rfl rfl rfl) ?_
      obtain ⟨g96, h97⟩ := req_some h95
      obtain ⟨g98, h99⟩ := req_some h97
      refine DL.pu 24 (ptr b3 t82.toNat) rfl (p_ix ty_u23 ty_s5 g96 g98 rfl rfl rfl) ?_
      refine DL.put (H' := [(some b3, .cells (enc .u8 ((y_5.set ((IntKind.i64.wrap (2 * x4_4)).toNat) (IntKind.u8.wrap (a0.getD x4_4.toNat 0))).set t82.toNat t89)) 23 (0, 0)), (some b2, .cells (enc .u8 (List.replicate 32 0)) 23 (0, 0)), (some b1, .cells (enc .u64 a0) 52 (0, 0))]) (i := 17) rfl (Wn.none rfl) rfl rfl (f_storeE (j := 0) ty_s5 rfl (lt_nat (len_set l_y_5) g96 g98) rfl rfl rfl) (keep_set (j := 0) hj81 rfl rfl rfl) ?_
      refine DL.nil' hl81 ?_
      refine TT.inBlock ?_
      refine TT.region (id := 4) (n := 3) (ops := (opsOf (sub [1, 1, 0, 1, 0, 0, 1, 1] B28))) [(.pure, none), (.pure, none), (.pure, none)] rfl ?_
      show DL _ _ _ _ _ _ _ _ _ _ [0, 1, 2] _ _
      refine DL.pu 7 (.int .i64 x4_4) rfl (p_move rfl rfl) ?_
      refine DL.pu 8 (.int .i64 (IntKind.i64.wrap (x4_4 + 1))) rfl (p_add rfl rfl rfl) ?_
      refine DL.pu 4 (.int .i64 (IntKind.i64.wrap (x4_4 + 1))) rfl (p_assign rfl rfl) ?_
      refine DL.nil ?_
      refine TT.inLoop ?_
      exact TT.weak (ih (IntKind.i64.wrap (x4_4 + 1)) ((y_5.set ((IntKind.i64.wrap (2 * x4_4)).toNat) (IntKind.u8.wrap (a0.getD x4_4.toNat 0))).set t82.toNat t89) r0 (len_set (len_set l_y_5)) h99 hk) (Sub.cons rfl (Sub.cons rfl (Sub.cons rfl (Sub.cons rfl (Sub.nil _)))))
    · replace c79 := Bool.eq_false_iff.mpr c79
      have h100 := ite_false c79 h
      refine TT.cond_false (x := sub [1, 1, 0, 1, 0, 0, 0, 1, 0] B28) (y := sub [1, 1, 0, 1, 0, 0, 0, 1, 1] B28) rfl c79 ?_
      refine TT.exit rfl ?_
      obtain rfl := Option.some.inj h100
      exact TT.weak (hk l_y_5) (Sub.cons rfl (Sub.cons rfl (Sub.nil _)))

def ref02_Bytes.f (a0 : List Int) : Option (List Int) := (ref02_Bytes.L0 a0 17 0 (List.replicate 32 0)).bind fun z_b3_78 => some z_b3_78
set_option maxRecDepth 20000 in
theorem ref02_Bytes.ok {a0 : List Int} {r : List Int} (l_a0 : a0.length = 16) (h : ref02_Bytes.f a0 = some r) (w : World) : Calls Try.prog 28 #[.agg (enc .u64 a0)] w (Post (fun u => u = .agg (enc .u8 r) ∧ r.length = 32) w) := by
  unfold ref02_Bytes.f at h
  refine calls_of_TT (N := 26) (S := [(0, .agg (enc .u64 a0))]) (c := B28) Try.func28 rfl rfl rfl (by simp) ?_
  show TT _ _ _ _ _ _ [.code (sub [] B28)] _ _
  refine TT.seq (x := sub [0] B28) (y := sub [1] B28) ?_
  refine TT.region (id := 0) (n := 2) (ops := (opsOf (sub [0] B28))) [(.alloc, none), (.alloc, none)] rfl ?_
  show DL _ _ _ _ _ _ _ _ _ _ [0, 1] _ _
  refine DL.new (ob := .cells (enc .u64 a0) 52) (mk := fun b => ptr b 0) (i := 0) rfl (Wn.none rfl) rfl rfl rfl (f_box (v := .agg (enc .u64 a0)) rfl rfl) ?_
  intro b1 hb1
  refine DL.new (ob := .cells (enc .u8 (List.replicate 32 0)) 23) (mk := fun b => ptr b 0) (i := 1) rfl (Wn.none rfl) rfl rfl rfl (f_alloc ty_z23 rfl) ?_
  intro b2 hb2
  refine DL.nil ?_
  refine TT.seq (x := sub [1, 0] B28) (y := sub [1, 1] B28) ?_
  refine TT.region (id := 1) (n := 1) (ops := (opsOf (sub [1, 0] B28))) [(.alloc, none)] rfl ?_
  show DL _ _ _ _ _ _ _ _ _ _ [0] _ _
  refine DL.new (ob := .cells (enc .u8 (List.replicate 32 0)) 23) (mk := fun b => ptr b 0) (i := 0) rfl (Wn.none rfl) rfl rfl rfl (f_alloc ty_z23 rfl) ?_
  intro b3 hb3
  refine DL.nil ?_
  refine TT.seq (x := sub [1, 1, 0] B28) (y := sub [1, 1, 1] B28) ?_
  refine TT.seq (x := sub [1, 1, 0, 0] B28) (y := sub [1, 1, 0, 1] B28) ?_
  refine TT.region (id := 2) (n := 1) (ops := (opsOf (sub [1, 1, 0, 0] B28))) [(.pure, none)] rfl ?_
  show DL _ _ _ _ _ _ _ _ _ _ [0] _ _
  refine DL.pu 4 (.int .i64 0) rfl (p_assign rfl rfl) ?_
  refine DL.nil ?_
  refine TT.block (c := sub [1, 1, 0, 1, 0] B28) ?_
  refine TT.loop (c := sub [1, 1, 0, 1, 0, 0] B28) ?_
  obtain ⟨z_b3_78, h101, h102⟩ := bind_some h
  refine TT.weak (ref02_Bytes.L0_ok a0 b1 b2 b3 l_a0 17 0 (List.replicate 32 0) z_b3_78 (List.length_replicate) h101 (fun l_z_b3_78 => ?_)) (Sub.cons rfl (Sub.cons rfl (Sub.cons rfl (Sub.cons rfl (Sub.nil _)))))
  refine TT.seq (x := sub [1, 1, 1, 0] B28) (y := sub [1, 1, 1, 1] B28) ?_
  refine TT.region (id := 6) (n := 2) (ops := (opsOf (sub [1, 1, 1, 0] B28))) [(.quiet, none), (.store, none)] rfl ?_
  show DL _ _ _ _ _ _ _ _ _ _ [0, 1] _ _
  refine DL.qu 25 (.agg (enc .u8 z_b3_78)) rfl (f_loadA (j := 0) ty_a23 ty_s23 rfl (enc_sz l_z_b3_78) rfl rfl) ?_
  refine DL.put (H' := [(some b3, .cells (enc .u8 z_b3_78) 23 (0, 0)), (some b2, .cells (enc .u8 z_b3_78) 23 (0, 0)), (some b1, .cells (enc .u64 a0) 52 (0, 0))]) (i := 1) rfl (Wn.none rfl) rfl rfl (f_storeA (j := 1) ty_s23 rfl (enc_sz l_z_b3_78) (enc_sz (List.length_replicate)) (enc_oneCell _ _) rfl rfl rfl) (keep_none rfl) ?_
  refine DL.nil ?_
  obtain rfl := Option.some.inj h102
  exact ret1 Try.func28 rfl (ResV.cell (j := 1) ty_a23 ty_s23 rfl rfl (enc_sz l_z_b3_78)) ⟨rfl, l_z_b3_78⟩
theorem ref02_Bytes.len {a0 : List Int} {r : List Int} (l_a0 : a0.length = 16) (h : ref02_Bytes.f a0 = some r) : r.length = 32 := by
  obtain ⟨v, hv⟩ := calls_fact (ref02_Bytes.ok l_a0 h)
  exact hv.2
theorem ref02_Bytes.val {a0 : List Int} {r : List Int} (l_a0 : a0.length = 16) (h : ref02_Bytes.f a0 = some r) (w : World) : Calls Try.prog 28 #[.agg (enc .u64 a0)] w fun e w' => e = .returned (.agg (enc .u8 r)) ∧ Below w.heap.size w w' :=
  calls_value ((ref02_Bytes.ok l_a0 h w).mono fun e w' ⟨v, he, hv, hb⟩ => ⟨v, he, hv.1, hb⟩)

/-! ### escutcheon/escutcheonref02.Of: function 30 -/
noncomputable def B30 : Code := bodyOf Try.f30
def ref02_Of.L0 (a0 : List Int) : Nat → Int → List Int → Option (List Int)
  | 0, _, _ => none
  | k + 1, x4_4, y_5 => if (decide (x4_4 < 16)) = true then (req (0 ≤ (IntKind.i64.wrap (2 * x4_4))) (req ((IntKind.i64.wrap (2 * x4_4)) < 32) (nm (IntKind.u64.wrap (a0.getD ((IntKind.i64.wrap (2 * x4_4)).toNat) 0)) fun t89 => nm (IntKind.i64.wrap ((IntKind.i64.wrap (2 * x4_4)) + 1)) fun t92 => req (0 ≤ t92) (req (t92 < 32) (nm (IntKind.u64.wrap (256 * (IntKind.u64.wrap (a0.getD t92.toNat 0)))) fun t99 => req (0 ≤ x4_4) (req (x4_4 < 16) (ref02_Of.L0 a0 k (IntKind.i64.wrap (x4_4 + 1)) (y_5.set x4_4.toNat (IntKind.u64.wrap (t89 + t99)))))))))) else (some y_5)
set_option maxRecDepth 20000 in
theorem ref02_Of.L0_ok (a0 : List Int) (b1 : Nat) (b2 : Nat) (b3 : Nat) {R : Ending → World → Prop} {w0 : World} {I : Nat → Option Obj} {K : List Item} (l_a0 : a0.length = 32) :
    ∀ (k : Nat) (x4_4 : Int) (y_5 : List Int) (r0 : List Int) (l_y_5 : y_5.length = 16) (h : ref02_Of.L0 a0 k x4_4 y_5 = some r0) (hk : r0.length = 16 → TT Try.prog 30 R 25 w0 I K [(2, ptr b2 0), (3, ptr b3 0)] [(some b3, .cells (enc .u64 r0) 52 (0, 0)), (some b2, .cells (enc .u64 (List.replicate 16 0)) 52 (0, 0)), (some b1, .cells (enc .u8 a0) 23 (0, 0))]),
      TT Try.prog 30 R 25 w0 I (.code (sub [1, 1, 0, 1, 0, 0] B30) :: .inLoop (sub [1, 1, 0, 1, 0, 0] B30) :: .inBlock 0 :: K) [(1, ptr b1 0), (2, ptr b2 0), (3, ptr b3 0), (4, .int .i64 x4_4)] [(some b3, .cells (enc .u64 y_5) 52 (0, 0)), (some b2, .cells (enc .u64 (List.replicate 16 0)) 52 (0, 0)), (some b1, .cells (enc .u8 a0) 23 (0, 0))] := by
  intro k
  induction k with
  | zero => intro x4_4 y_5 r0 l_y_5 h; simp [ref02_Of.L0] at h
  | succ k ih =>
    intro x4_4 y_5 r0 l_y_5 h hk
    unfold ref02_Of.L0 at h
    refine TT.seq (x := sub [1, 1, 0, 1, 0, 0, 0] B30) (y := sub [1, 1, 0, 1, 0, 0, 1] B30) ?_
    refine TT.seq (x := sub [1, 1, 0, 1, 0, 0, 0, 0] B30) (y := sub [1, 1, 0, 1, 0, 0, 0, 1] B30) ?_
    refine TT.region (id := 3) (n := 2) (ops := (opsOf (sub [1, 1, 0, 1, 0, 0, 0, 0] B30))) [(.pure, none), (.pure, none)] rfl ?_
    show DL _ _ _ _ _ _ _ _ _ _ [0, 1] _ _
    refine DL.pu 5 (.int .i64 x4_4) rfl (p_move rfl rfl) ?_
    refine DL.pu 6 (.bool (decide (x4_4 < 16))) rfl (p_lss rfl rfl rfl) ?_
    refine DL.nil ?_
    by_cases c82 : (decide (x4_4 < 16)) = true
    · have h83 := ite_true c82 h
      refine TT.cond_true (x := sub [1, 1, 0, 1, 0, 0, 0, 1, 0] B30) (y := sub [1, 1, 0, 1, 0, 0, 0, 1, 1] B30) rfl c82 ?_
      refine TT.skip ?_
      refine TT.seq (x := sub [1, 1, 0, 1, 0, 0, 1, 0] B30) (y := sub [1, 1, 0, 1, 0, 0, 1, 1] B30) ?_
      refine TT.block (c := sub [1, 1, 0, 1, 0, 0, 1, 0, 0] B30) ?_
      refine TT.regionD (id := 5) (ops := (opsOf (sub [1, 1, 0, 1, 0, 0, 1, 0, 0] B30))) [0, 1, 2, 3, 4, 5, 6, 7, 8, 9, 10, 11, 12, 13, 14, 15] [0, 0, 2, 6, 14, 30, 0, 64, 192, 448, 960, 1984, 4032, 8190, 16383, 32767] [(.pure, none), (.pure, none), (.pure, none), (.pure, none), (.look, some 2), (.pure, none), (.pure, none), (.pure, none), (.pure, none), (.pure, none), (.look, some 2), (.pure, none), (.pure, none), (.pure, none), (.pure, none), (.store, some 0)] mixed (by kernel_rfl) ?_
      intro w84 hl84 hj84 hz84
      refine DL.pu 9 (.int .i64 x4_4) rfl (p_move rfl rfl) ?_
      refine DL.pu 10 (.int .i64 x4_4) rfl (p_move rfl rfl) ?_
      refine DL.pu 11 (.int .i64 (IntKind.i64.wrap (2 * x4_4))) rfl (p_mul rfl rfl rfl) ?_
      obtain ⟨g85, h86⟩ := req_some h83
      obtain ⟨g87, h88⟩ := req_some h86
      refine DL.pu 12 (ptr b1 ((IntKind.i64.wrap (2 * x4_4)).toNat)) rfl (p_ix ty_u23 ty_s5 g85 g87 rfl rfl rfl) ?_
      refine DL.look (v := .int .u8 (a0.getD ((IntKind.i64.wrap (2 * x4_4)).toNat) 0)) (x := 2) (b := b1) (i := 4) rfl (Wn.none rfl) rfl rfl rfl rfl rfl (List.mem_of_getElem? (i := 2) rfl) (b_load ty_a5 (enc_at l_a0 g85 g87) rfl rfl) ?_
      obtain ⟨t89, e90, h91⟩ := nm_some h88
      refine DL.pu 14 (.int .u64 t89) rfl (by rw [e90]; exact p_conv ty_u5 ty_u39 ⟨_, rfl⟩ rfl rfl) ?_
      refine DL.pu 15 (.int .i64 x4_4) rfl (p_move rfl rfl) ?_
      refine DL.pu 16 (.int .i64 (IntKind.i64.wrap (2 * x4_4))) rfl (p_mul rfl rfl rfl) ?_
      obtain ⟨t92, e93, h94⟩ := nm_some h91
      refine DL.pu 17 (.int .i64 t92) rfl (by rw [e93]; exact p_add rfl rfl rfl) ?_
      obtain ⟨g95, h96⟩ := req_some h94
      obtain ⟨g97, h98⟩ := req_some h96
      refine DL.pu 18 (ptr b1 t92.toNat) rfl (p_ix ty_u23 ty_s5 g95 g97 rfl rfl rfl) ?_
      refine DL.look (v := .int .u8 (a0.getD t92.toNat 0)) (x := 2) (b := b1) (i := 10) rfl (Wn.none rfl) rfl rfl rfl rfl rfl (List.mem_of_getElem? (i := 2) rfl) (b_load ty_a5 (enc_at l_a0 g95 g97) rfl rfl) ?_
      refine DL.pu 20 (.int .u64 (IntKind.u64.wrap (a0.getD t92.toNat 0))) rfl (p_conv ty_u5 ty_u39 ⟨_, rfl⟩ rfl rfl) ?_
      obtain ⟨t99, e100, h101⟩ := nm_some h98
      refine DL.pu 21 (.int .u64 t99) rfl (by rw [e100]; exact p_mul rfl rfl rfl) ?_
      refine DL.pu 22 (.int .u64 (IntKind.u64.wrap (t89 + t99))) rfl (p_add rfl rfl rfl) ?_
      obtain ⟨g102, h103⟩ := req_some h101
      obtain ⟨g104, h105⟩ := req_some h103
      refine DL.pu 23 (ptr b3 x4_4.toNat) rfl (p_ix ty_u52 ty_s39 g102 g104 rfl rfl rfl) ?_
      refine DL.put (H' := [(some b3, .cells (enc .u64 (y_5.set x4_4.toNat (IntKind.u64.wrap (t89 + t99)))) 52 (0, 0)), (some b2, .cells (enc .u64 (List.replicate 16 0)) 52 (0, 0)), (some b1, .cells (enc .u8 a0) 23 (0, 0))]) (i := 15) rfl (Wn.none rfl) rfl rfl (f_storeE (j := 0) ty_s39 rfl (lt_nat l_y_5 g102 g104) rfl rfl rfl) (keep_set (j := 0) hj84 rfl rfl rfl) ?_
      refine DL.nil' hl84 ?_
      refine TT.inBlock ?_
      refine TT.region (id := 4) (n := 3) (ops := (opsOf (sub [1, 1, 0, 1, 0, 0, 1, 1] B30))) [(.pure, none), (.pure, none), (.pure, none)] rfl ?_
      show DL _ _ _ _ _ _ _ _ _ _ [0, 1, 2] _ _
      refine DL.pu 7 (.int .i64 x4_4) rfl (p_move rfl rfl) ?_
      refine DL.pu 8 (.int .i64 (IntKind.i64.wrap (x4_4 + 1))) rfl (p_add rfl rfl rfl) ?_
      refine DL.pu 4 (.int .i64 (IntKind.i64.wrap (x4_4 + 1))) rfl (p_assign rfl rfl) ?_
      refine DL.nil ?_
      refine TT.inLoop ?_
      exact TT.weak (ih (IntKind.i64.wrap (x4_4 + 1)) (y_5.set x4_4.toNat (IntKind.u64.wrap (t89 + t99))) r0 (len_set l_y_5) h105 hk) (Sub.cons rfl (Sub.cons rfl (Sub.cons rfl (Sub.cons rfl (Sub.nil _)))))
    · replace c82 := Bool.eq_false_iff.mpr c82
      have h106 := ite_false c82 h
      refine TT.cond_false (x := sub [1, 1, 0, 1, 0, 0, 0, 1, 0] B30) (y := sub [1, 1, 0, 1, 0, 0, 0, 1, 1] B30) rfl c82 ?_
      refine TT.exit rfl ?_
      obtain rfl := Option.some.inj h106
      exact TT.weak (hk l_y_5) (Sub.cons rfl (Sub.cons rfl (Sub.nil _)))

def ref02_Of.f (a0 : List Int) : Option (List Int) := (ref02_Of.L0 a0 17 0 (List.replicate 16 0)).bind fun z_b3_81 => some z_b3_81
set_option maxRecDepth 20000 in
theorem ref02_Of.ok {a0 : List Int} {r : List Int} (l_a0 : a0.length = 32) (h : ref02_Of.f a0 = some r) (w : World) : Calls Try.prog 30 #[.agg (enc .u8 a0)] w (Post (fun u => u = .agg (enc .u64 r) ∧ r.length = 16) w) := by
  unfold ref02_Of.f at h
  refine calls_of_TT (N := 25) (S := [(0, .agg (enc .u8 a0))]) (c := B30) Try.func30 rfl rfl rfl (by simp) ?_
  show TT _ _ _ _ _ _ [.code (sub [] B30)] _ _
  refine TT.seq (x := sub [0] B30) (y := sub [1] B30) ?_
  refine TT.region (id := 0) (n := 2) (ops := (opsOf (sub [0] B30))) [(.alloc, none), (.alloc, none)] rfl ?_
  show DL _ _ _ _ _ _ _ _ _ _ [0, 1] _ _
  refine DL.new (ob := .cells (enc .u8 a0) 23) (mk := fun b => ptr b 0) (i := 0) rfl (Wn.none rfl) rfl rfl rfl (f_box (v := .agg (enc .u8 a0)) rfl rfl) ?_
  intro b1 hb1
  refine DL.new (ob := .cells (enc .u64 (List.replicate 16 0)) 52) (mk := fun b => ptr b 0) (i := 1) rfl (Wn.none rfl) rfl rfl rfl (f_alloc ty_z52 rfl) ?_
  intro b2 hb2
  refine DL.nil ?_
  refine TT.seq (x := sub [1, 0] B30) (y := sub [1, 1] B30) ?_
  refine TT.region (id := 1) (n := 1) (ops := (opsOf (sub [1, 0] B30))) [(.alloc, none)] rfl ?_
  show DL _ _ _ _ _ _ _ _ _ _ [0] _ _
  refine DL.new (ob := .cells (enc .u64 (List.replicate 16 0)) 52) (mk := fun b => ptr b 0) (i := 0) rfl (Wn.none rfl) rfl rfl rfl (f_alloc ty_z52 rfl) ?_
  intro b3 hb3
  refine DL.nil ?_
  refine TT.seq (x := sub [1, 1, 0] B30) (y := sub [1, 1, 1] B30) ?_
  refine TT.seq (x := sub [1, 1, 0, 0] B30) (y := sub [1, 1, 0, 1] B30) ?_
  refine TT.region (id := 2) (n := 1) (ops := (opsOf (sub [1, 1, 0, 0] B30))) [(.pure, none)] rfl ?_
  show DL _ _ _ _ _ _ _ _ _ _ [0] _ _
  refine DL.pu 4 (.int .i64 0) rfl (p_assign rfl rfl) ?_
  refine DL.nil ?_
  refine TT.block (c := sub [1, 1, 0, 1, 0] B30) ?_
  refine TT.loop (c := sub [1, 1, 0, 1, 0, 0] B30) ?_
  obtain ⟨z_b3_81, h107, h108⟩ := bind_some h
  refine TT.weak (ref02_Of.L0_ok a0 b1 b2 b3 l_a0 17 0 (List.replicate 16 0) z_b3_81 (List.length_replicate) h107 (fun l_z_b3_81 => ?_)) (Sub.cons rfl (Sub.cons rfl (Sub.cons rfl (Sub.cons rfl (Sub.nil _)))))
  refine TT.seq (x := sub [1, 1, 1, 0] B30) (y := sub [1, 1, 1, 1] B30) ?_
  refine TT.region (id := 6) (n := 2) (ops := (opsOf (sub [1, 1, 1, 0] B30))) [(.quiet, none), (.store, none)] rfl ?_
  show DL _ _ _ _ _ _ _ _ _ _ [0, 1] _ _
  refine DL.qu 24 (.agg (enc .u64 z_b3_81)) rfl (f_loadA (j := 0) ty_a52 ty_s52 rfl (enc_sz l_z_b3_81) rfl rfl) ?_
  refine DL.put (H' := [(some b3, .cells (enc .u64 z_b3_81) 52 (0, 0)), (some b2, .cells (enc .u64 z_b3_81) 52 (0, 0)), (some b1, .cells (enc .u8 a0) 23 (0, 0))]) (i := 1) rfl (Wn.none rfl) rfl rfl (f_storeA (j := 1) ty_s52 rfl (enc_sz l_z_b3_81) (enc_sz (List.length_replicate)) (enc_oneCell _ _) rfl rfl rfl) (keep_none rfl) ?_
  refine DL.nil ?_
  obtain rfl := Option.some.inj h108
  exact ret1 Try.func30 rfl (ResV.cell (j := 1) ty_a52 ty_s52 rfl rfl (enc_sz l_z_b3_81)) ⟨rfl, l_z_b3_81⟩
theorem ref02_Of.len {a0 : List Int} {r : List Int} (l_a0 : a0.length = 32) (h : ref02_Of.f a0 = some r) : r.length = 16 := by
  obtain ⟨v, hv⟩ := calls_fact (ref02_Of.ok l_a0 h)
  exact hv.2
theorem ref02_Of.val {a0 : List Int} {r : List Int} (l_a0 : a0.length = 32) (h : ref02_Of.f a0 = some r) (w : World) : Calls Try.prog 30 #[.agg (enc .u8 a0)] w fun e w' => e = .returned (.agg (enc .u64 r)) ∧ Below w.heap.size w w' :=
  calls_value ((ref02_Of.ok l_a0 h w).mono fun e w' ⟨v, he, hv, hb⟩ => ⟨v, he, hv.1, hb⟩)

/-! ### escutcheon/escutcheonref02.Minus: function 34 -/
noncomputable def B34 : Code := bodyOf Try.f34
def ref02_Minus.L0 (a1 : List Int) : Nat → Int → Int → List Int → Option (List Int)
  | 0, _, _, _ => none
  | k + 1, x5_4, x6_5, y_6 => if (decide (x6_5 < 16)) = true then (req (0 ≤ x6_5) (req (x6_5 < 16) (nm (IntKind.u64.wrap ((y_6.getD x6_5.toNat 0) + 65536)) fun t82 => nm (IntKind.u64.wrap (t82 - (a1.getD x6_5.toNat 0))) fun t85 => nm (IntKind.u64.wrap (Int.tdiv (IntKind.u64.wrap (t85 - x5_4)) 65536)) fun t88 => ref02_Minus.L0 a1 k (IntKind.u64.wrap (1 - t88)) (IntKind.i64.wrap (x6_5 + 1)) (y_6.set x6_5.toNat (Int.tmod (IntKind.u64.wrap (t85 - x5_4)) 65536))))) else (some y_6)
set_option maxRecDepth 20000 in
theorem ref02_Minus.L0_ok (a1 : List Int) (b1 : Nat) (b2 : Nat) (b3 : Nat) {R : Ending → World → Prop} {w0 : World} {I : Nat → Option Obj} {K : List Item} (l_a1 : a1.length = 16) :
    ∀ (k : Nat) (x5_4 : Int) (x6_5 : Int) (y_6 : List Int) (r0 : List Int) (l_y_6 : y_6.length = 16) (h : ref02_Minus.L0 a1 k x5_4 x6_5 y_6 = some r0) (hk : r0.length = 16 → TT Try.prog 34 R 30 w0 I K [(2, ptr b1 0), (4, ptr b3 0)] [(some b3, .cells (enc .u64 (List.replicate 16 0)) 52 (0, 0)), (some b2, .cells (enc .u64 a1) 52 (0, 0)), (some b1, .cells (enc .u64 r0) 52 (0, 0))]),
      TT Try.prog 34 R 30 w0 I (.code (sub [1, 1, 0, 1, 0, 0] B34) :: .inLoop (sub [1, 1, 0, 1, 0, 0] B34) :: .inBlock 0 :: K) [(2, ptr b1 0), (3, ptr b2 0), (4, ptr b3 0), (5, .int .u64 x5_4), (6, .int .i64 x6_5)] [(some b3, .cells (enc .u64 (List.replicate 16 0)) 52 (0, 0)), (some b2, .cells (enc .u64 a1) 52 (0, 0)), (some b1, .cells (enc .u64 y_6) 52 (0, 0))] := by
  intro k
  induction k with
  | zero => intro x5_4 x6_5 y_6 r0 l_y_6 h; simp [ref02_Minus.L0] at h
  | succ k ih =>
    intro x5_4 x6_5 y_6 r0 l_y_6 h hk
    unfold ref02_Minus.L0 at h
    refine TT.seq (x := sub [1, 1, 0, 1, 0, 0, 0] B34) (y := sub [1, 1, 0, 1, 0, 0, 1] B34) ?_
    refine TT.seq (x := sub [1, 1, 0, 1, 0, 0, 0, 0] B34) (y := sub [1, 1, 0, 1, 0, 0, 0, 1] B34) ?_
    refine TT.region (id := 3) (n := 2) (ops := (opsOf (sub [1, 1, 0, 1, 0, 0, 0, 0] B34))) [(.pure, none), (.pure, none)] rfl ?_
    show DL _ _ _ _ _ _ _ _ _ _ [0, 1] _ _
    refine DL.pu 8 (.int .i64 x6_5) rfl (p_move rfl rfl) ?_
    refine DL.pu 9 (.bool (decide (x6_5 < 16))) rfl (p_lss rfl rfl rfl) ?_
    refine DL.nil ?_
    by_cases c75 : (decide (x6_5 < 16)) = true
    · have h76 := ite_true c75 h
      refine TT.cond_true (x := sub [1, 1, 0, 1, 0, 0, 0, 1, 0] B34) (y := sub [1, 1, 0, 1, 0, 0, 0, 1, 1] B34) rfl c75 ?_
      refine TT.skip ?_
      refine TT.seq (x := sub [1, 1, 0, 1, 0, 0, 1, 0] B34) (y := sub [1, 1, 0, 1, 0, 0, 1, 1] B34) ?_
      refine TT.block (c := sub [1, 1, 0, 1, 0, 0, 1, 0, 0] B34) ?_
      refine TT.seq (x := sub [1, 1, 0, 1, 0, 0, 1, 0, 0, 0] B34) (y := sub [1, 1, 0, 1, 0, 0, 1, 0, 0, 1] B34) ?_
      refine TT.regionD (id := 5) (ops := (opsOf (sub [1, 1, 0, 1, 0, 0, 1, 0, 0, 0] B34))) [0, 1, 2, 3, 4, 5, 6, 7, 8, 9, 10] [0, 1, 3, 7, 0, 16, 48, 127, 0, 511, 1023] [(.pure, none), (.pure, none), (.look, some 2), (.pure, none), (.pure, none), (.pure, none), (.look, some 1), (.pure, none), (.pure, none), (.pure, none), (.pure, none)] mixed (by kernel_rfl) ?_
      intro w77 hl77 hj77 hz77
      refine DL.pu 12 (.int .i64 x6_5) rfl (p_move rfl rfl) ?_
      obtain ⟨g78, h79⟩ := req_some h76
      obtain ⟨g80, h81⟩ := req_some h79
      refine DL.pu 13 (ptr b1 x6_5.toNat) rfl (p_ix ty_u52 ty_s39 g78 g80 rfl rfl rfl) ?_
      refine DL.look (v := .int .u64 (y_6.getD x6_5.toNat 0)) (x := 2) (b := b1) (i := 2) rfl (Wn.none rfl) rfl rfl rfl rfl rfl (List.mem_of_getElem? (i := 2) rfl) (b_load ty_a39 (enc_at l_y_6 g78 g80) rfl rfl) ?_
      obtain ⟨t82, e83, h84⟩ := nm_some h81
      refine DL.pu 15 (.int .u64 t82) rfl (by rw [e83]; exact p_add rfl rfl rfl) ?_
      refine DL.pu 16 (.int .i64 x6_5) rfl (p_move rfl rfl) ?_
      refine DL.pu 17 (ptr b2 x6_5.toNat) rfl (p_ix ty_u52 ty_s39 g78 g80 rfl rfl rfl) ?_
      refine DL.look (v := .int .u64 (a1.getD x6_5.toNat 0)) (x := 1) (b := b2) (i := 6) rfl (Wn.none rfl) rfl rfl rfl rfl rfl (List.mem_of_getElem? (i := 1) rfl) (b_load ty_a39 (enc_at l_a1 g78 g80) rfl rfl) ?_
      obtain ⟨t85, e86, h87⟩ := nm_some h84
      refine DL.pu 19 (.int .u64 t85) rfl (by rw [e86]; exact p_sub rfl rfl rfl) ?_
      refine DL.pu 20 (.int .u64 x5_4) rfl (p_move rfl rfl) ?_
      refine DL.pu 21 (.int .u64 (IntKind.u64.wrap (t85 - x5_4))) rfl (p_sub rfl rfl rfl) ?_
      refine DL.pu 7 (.int .u64 (IntKind.u64.wrap (t85 - x5_4))) rfl (p_assign rfl rfl) ?_
      refine DL.nil' hl77 ?_
      refine TT.seq (x := sub [1, 1, 0, 1, 0, 0, 1, 0, 0, 1, 0] B34) (y := sub [1, 1, 0, 1, 0, 0, 1, 0, 0, 1, 1] B34) ?_
      refine TT.region (id := 6) (n := 5) (ops := (opsOf (sub [1, 1, 0, 1, 0, 0, 1, 0, 0, 1, 0] B34))) [(.pure, none), (.pure, none), (.pure, none), (.pure, none), (.store, none)] rfl ?_
      show DL _ _ _ _ _ _ _ _ _ _ [0, 1, 2, 3, 4] _ _
      refine DL.pu 22 (.int .i64 x6_5) rfl (p_move rfl rfl) ?_
      refine DL.pu 23 (.int .u64 (IntKind.u64.wrap (t85 - x5_4))) rfl (p_move rfl rfl) ?_
      refine DL.pu 24 (.int .u64 (Int.tmod (IntKind.u64.wrap (t85 - x5_4)) 65536)) rfl (p_rem (by decide) rfl rfl rfl) ?_
      refine DL.pu 25 (ptr b1 x6_5.toNat) rfl (p_ix ty_u52 ty_s39 g78 g80 rfl rfl rfl) ?_
      refine DL.put (H' := [(some b3, .cells (enc .u64 (List.replicate 16 0)) 52 (0, 0)), (some b2, .cells (enc .u64 a1) 52 (0, 0)), (some b1, .cells (enc .u64 (y_6.set x6_5.toNat (Int.tmod (IntKind.u64.wrap (t85 - x5_4)) 65536))) 52 (0, 0))]) (i := 4) rfl (Wn.none rfl) rfl rfl (f_storeE (j := 2) ty_s39 rfl (lt_nat l_y_6 g78 g80) rfl rfl rfl) (keep_none rfl) ?_
      refine DL.nil ?_
      refine TT.region (id := 7) (n := 4) (ops := (opsOf (sub [1, 1, 0, 1, 0, 0, 1, 0, 0, 1, 1] B34))) [(.pure, none), (.pure, none), (.pure, none), (.pure, none)] rfl ?_
      show DL _ _ _ _ _ _ _ _ _ _ [0, 1, 2, 3] _ _
      refine DL.pu 26 (.int .u64 (IntKind.u64.wrap (t85 - x5_4))) rfl (p_move rfl rfl) ?_
      obtain ⟨t88, e89, h90⟩ := nm_some h87
      refine DL.pu 27 (.int .u64 t88) rfl (by rw [e89]; exact p_quo (by decide) rfl rfl rfl) ?_
      refine DL.pu 28 (.int .u64 (IntKind.u64.wrap (1 - t88))) rfl (p_sub rfl rfl rfl) ?_
      refine DL.pu 5 (.int .u64 (IntKind.u64.wrap (1 - t88))) rfl (p_assign rfl rfl) ?_
      refine DL.nil ?_
      refine TT.inBlock ?_
      refine TT.region (id := 4) (n := 3) (ops := (opsOf (sub [1, 1, 0, 1, 0, 0, 1, 1] B34))) [(.pure, none), (.pure, none), (.pure, none)] rfl ?_
      show DL _ _ _ _ _ _ _ _ _ _ [0, 1, 2] _ _
      refine DL.pu 10 (.int .i64 x6_5) rfl (p_move rfl rfl) ?_
      refine DL.pu 11 (.int .i64 (IntKind.i64.wrap (x6_5 + 1))) rfl (p_add rfl rfl rfl) ?_
      refine DL.pu 6 (.int .i64 (IntKind.i64.wrap (x6_5 + 1))) rfl (p_assign rfl rfl) ?_
      refine DL.nil ?_
      refine TT.inLoop ?_
      exact TT.weak (ih (IntKind.u64.wrap (1 - t88)) (IntKind.i64.wrap (x6_5 + 1)) (y_6.set x6_5.toNat (Int.tmod (IntKind.u64.wrap (t85 - x5_4)) 65536)) r0 (len_set l_y_6) h90 hk) (Sub.cons rfl (Sub.cons rfl (Sub.cons rfl (Sub.cons rfl (Sub.cons rfl (Sub.nil _))))))
    · replace c75 := Bool.eq_false_iff.mpr c75
      have h91 := ite_false c75 h
      refine TT.cond_false (x := sub [1, 1, 0, 1, 0, 0, 0, 1, 0] B34) (y := sub [1, 1, 0, 1, 0, 0, 0, 1, 1] B34) rfl c75 ?_
      refine TT.exit rfl ?_
      obtain rfl := Option.some.inj h91
      exact TT.weak (hk l_y_6) (Sub.cons rfl (Sub.cons rfl (Sub.nil _)))

def ref02_Minus.f (a0 : List Int) (a1 : List Int) : Option (List Int) := (ref02_Minus.L0 a1 17 0 0 a0).bind fun z_b1_74 => some z_b1_74
set_option maxRecDepth 20000 in
theorem ref02_Minus.ok {a0 : List Int} {a1 : List Int} {r : List Int} (l_a0 : a0.length = 16) (l_a1 : a1.length = 16) (h : ref02_Minus.f a0 a1 = some r) (w : World) : Calls Try.prog 34 #[.agg (enc .u64 a0), .agg (enc .u64 a1)] w (Post (fun u => u = .agg (enc .u64 r) ∧ r.length = 16) w) := by
  unfold ref02_Minus.f at h
  refine calls_of_TT (N := 30) (S := [(0, .agg (enc .u64 a0)), (1, .agg (enc .u64 a1))]) (c := B34) Try.func34 rfl rfl rfl (by simp) ?_
  show TT _ _ _ _ _ _ [.code (sub [] B34)] _ _
  refine TT.seq (x := sub [0] B34) (y := sub [1] B34) ?_
  refine TT.region (id := 0) (n := 3) (ops := (opsOf (sub [0] B34))) [(.alloc, none), (.alloc, none), (.alloc, none)] rfl ?_
  show DL _ _ _ _ _ _ _ _ _ _ [0, 1, 2] _ _
  refine DL.new (ob := .cells (enc .u64 a0) 52) (mk := fun b => ptr b 0) (i := 0) rfl (Wn.none rfl) rfl rfl rfl (f_box (v := .agg (enc .u64 a0)) rfl rfl) ?_
  intro b1 hb1
  refine DL.new (ob := .cells (enc .u64 a1) 52) (mk := fun b => ptr b 0) (i := 1) rfl (Wn.none rfl) rfl rfl rfl (f_box (v := .agg (enc .u64 a1)) rfl rfl) ?_
  intro b2 hb2
  refine DL.new (ob := .cells (enc .u64 (List.replicate 16 0)) 52) (mk := fun b => ptr b 0) (i := 2) rfl (Wn.none rfl) rfl rfl rfl (f_alloc ty_z52 rfl) ?_
  intro b3 hb3
  refine DL.nil ?_
  refine TT.seq (x := sub [1, 0] B34) (y := sub [1, 1] B34) ?_
  refine TT.region (id := 1) (n := 1) (ops := (opsOf (sub [1, 0] B34))) [(.pure, none)] rfl ?_
  show DL _ _ _ _ _ _ _ _ _ _ [0] _ _
  refine DL.pu 5 (.int .u64 0) rfl (p_assign rfl rfl) ?_
  refine DL.nil ?_
  refine TT.seq (x := sub [1, 1, 0] B34) (y := sub [1, 1, 1] B34) ?_
  refine TT.seq (x := sub [1, 1, 0, 0] B34) (y := sub [1, 1, 0, 1] B34) ?_
  refine TT.region (id := 2) (n := 1) (ops := (opsOf (sub [1, 1, 0, 0] B34))) [(.pure, none)] rfl ?_
  show DL _ _ _ _ _ _ _ _ _ _ [0] _ _
  refine DL.pu 6 (.int .i64 0) rfl (p_assign rfl rfl) ?_
  refine DL.nil ?_
  refine TT.block (c := sub [1, 1, 0, 1, 0] B34) ?_
  refine TT.loop (c := sub [1, 1, 0, 1, 0, 0] B34) ?_
  obtain ⟨z_b1_74, h92, h93⟩ := bind_some h
  refine TT.weak (ref02_Minus.L0_ok a1 b1 b2 b3 l_a1 17 0 0 a0 z_b1_74 l_a0 h92 (fun l_z_b1_74 => ?_)) (Sub.cons rfl (Sub.cons rfl (Sub.cons rfl (Sub.cons rfl (Sub.cons rfl (Sub.nil _))))))
  refine TT.seq (x := sub [1, 1, 1, 0] B34) (y := sub [1, 1, 1, 1] B34) ?_
  refine TT.region (id := 8) (n := 2) (ops := (opsOf (sub [1, 1, 1, 0] B34))) [(.quiet, none), (.store, none)] rfl ?_
  show DL _ _ _ _ _ _ _ _ _ _ [0, 1] _ _
  refine DL.qu 29 (.agg (enc .u64 z_b1_74)) rfl (f_loadA (j := 2) ty_a52 ty_s52 rfl (enc_sz l_z_b1_74) rfl rfl) ?_
  refine DL.put (H' := [(some b3, .cells (enc .u64 z_b1_74) 52 (0, 0)), (some b2, .cells (enc .u64 a1) 52 (0, 0)), (some b1, .cells (enc .u64 z_b1_74) 52 (0, 0))]) (i := 1) rfl (Wn.none rfl) rfl rfl (f_storeA (j := 0) ty_s52 rfl (enc_sz l_z_b1_74) (enc_sz (List.length_replicate)) (enc_oneCell _ _) rfl rfl rfl) (keep_none rfl) ?_
  refine DL.nil ?_
  obtain rfl := Option.some.inj h93
  exact ret1 Try.func34 rfl (ResV.cell (j := 0) ty_a52 ty_s52 rfl rfl (enc_sz l_z_b1_74)) ⟨rfl, l_z_b1_74⟩
theorem ref02_Minus.len {a0 : List Int} {a1 : List Int} {r : List Int} (l_a0 : a0.length = 16) (l_a1 : a1.length = 16) (h : ref02_Minus.f a0 a1 = some r) : r.length = 16 := by
  obtain ⟨v, hv⟩ := calls_fact (ref02_Minus.ok l_a0 l_a1 h)
  exact hv.2
theorem ref02_Minus.val {a0 : List Int} {a1 : List Int} {r : List Int} (l_a0 : a0.length = 16) (l_a1 : a1.length = 16) (h : ref02_Minus.f a0 a1 = some r) (w : World) : Calls Try.prog 34 #[.agg (enc .u64 a0), .agg (enc .u64 a1)] w fun e w' => e = .returned (.agg (enc .u64 r)) ∧ Below w.heap.size w w' :=
  calls_value ((ref02_Minus.ok l_a0 l_a1 h w).mono fun e w' ⟨v, he, hv, hb⟩ => ⟨v, he, hv.1, hb⟩)

/-! ### escutcheon/escutcheonref02.Less: function 33 -/
noncomputable def B33 : Code := bodyOf Try.f33
def ref02_Less.L0 (a0 : List Int) (a1 : List Int) : Nat → Int → Option ((Unit) ⊕ (Bool))
  | 0, _ => none
  | k + 1, x5_3 => if (decide (0 ≤ x5_3)) = true then (req (0 ≤ x5_3) (req (x5_3 < 16) (nm ((a0.getD x5_3.toNat 0) != (a1.getD x5_3.toNat 0)) fun t76 => if t76 = true then (nm (decide ((a0.getD x5_3.toNat 0) < (a1.getD x5_3.toNat 0))) fun t82 => some (.inr t82)) else (ref02_Less.L0 a0 a1 k (IntKind.i64.wrap (x5_3 - 1)))))) else (some (.inl ()))
set_option maxRecDepth 20000 in
theorem ref02_Less.L0_ok (a0 : List Int) (a1 : List Int) (b1 : Nat) (b2 : Nat) {p : Value → Prop} {w0 : World} {K : List Item} (l_a0 : a0.length = 16) (l_a1 : a1.length = 16) :
    ∀ (k : Nat) (x5_3 : Int) (q : (Unit) ⊕ (Bool)) (h : ref02_Less.L0 a0 a1 k x5_3 = some q) (hk : match (generalizing := false) q with | .inl () => (TT Try.prog 33 (Post p w0) 24 w0 (heapOf w0) K [] [(some b2, .cells (enc .u64 a1) 52 (0, 0)), (some b1, .cells (enc .u64 a0) 52 (0, 0))]) | .inr rq => p (.bool rq)),
      TT Try.prog 33 (Post p w0) 24 w0 (heapOf w0) (.code (sub [1, 0, 1, 0, 0] B33) :: .inLoop (sub [1, 0, 1, 0, 0] B33) :: .inBlock 0 :: K) [(2, ptr b1 0), (3, ptr b2 0), (5, .int .i64 x5_3)] [(some b2, .cells (enc .u64 a1) 52 (0, 0)), (some b1, .cells (enc .u64 a0) 52 (0, 0))] := by
  intro k
  induction k with
  | zero => intro x5_3 q h; simp [ref02_Less.L0] at h
  | succ k ih =>
    intro x5_3 q h hk
    unfold ref02_Less.L0 at h
    refine TT.seq (x := sub [1, 0, 1, 0, 0, 0] B33) (y := sub [1, 0, 1, 0, 0, 1] B33) ?_
    refine TT.seq (x := sub [1, 0, 1, 0, 0, 0, 0] B33) (y := sub [1, 0, 1, 0, 0, 0, 1] B33) ?_
    refine TT.region (id := 2) (n := 2) (ops := (opsOf (sub [1, 0, 1, 0, 0, 0, 0] B33))) [(.pure, none), (.pure, none)] rfl ?_
    show DL _ _ _ _ _ _ _ _ _ _ [0, 1] _ _
    refine DL.pu 6 (.int .i64 x5_3) rfl (p_move rfl rfl) ?_
    refine DL.pu 7 (.bool (decide (0 ≤ x5_3))) rfl (p_geq rfl rfl rfl) ?_
    refine DL.nil ?_
    by_cases c69 : (decide (0 ≤ x5_3)) = true
    · have h70 := ite_true c69 h
      refine TT.cond_true (x := sub [1, 0, 1, 0, 0, 0, 1, 0] B33) (y := sub [1, 0, 1, 0, 0, 0, 1, 1] B33) rfl c69 ?_
      refine TT.skip ?_
      refine TT.seq (x := sub [1, 0, 1, 0, 0, 1, 0] B33) (y := sub [1, 0, 1, 0, 0, 1, 1] B33) ?_
      refine TT.block (c := sub [1, 0, 1, 0, 0, 1, 0, 0] B33) ?_
      refine TT.seq (x := sub [1, 0, 1, 0, 0, 1, 0, 0, 0] B33) (y := sub [1, 0, 1, 0, 0, 1, 0, 0, 1] B33) ?_
      refine TT.regionD (id := 4) (ops := (opsOf (sub [1, 0, 1, 0, 0, 1, 0, 0, 0] B33))) [0, 1, 2, 3, 4, 5, 6] [0, 1, 3, 0, 8, 24, 63] [(.pure, none), (.pure, none), (.look, some 1), (.pure, none), (.pure, none), (.look, some 0), (.pure, none)] mixed (by kernel_rfl) ?_
      intro w71 hl71 hj71 hz71
      refine DL.pu 10 (.int .i64 x5_3) rfl (p_move rfl rfl) ?_
      obtain ⟨g72, h73⟩ := req_some h70
      obtain ⟨g74, h75⟩ := req_some h73
      refine DL.pu 11 (ptr b1 x5_3.toNat) rfl (p_ix ty_u52 ty_s39 g72 g74 rfl rfl rfl) ?_
      refine DL.look (v := .int .u64 (a0.getD x5_3.toNat 0)) (x := 1) (b := b1) (i := 2) rfl (Wn.none rfl) rfl rfl rfl rfl rfl (List.mem_of_getElem? (i := 1) rfl) (b_load ty_a39 (enc_at l_a0 g72 g74) rfl rfl) ?_
      refine DL.pu 13 (.int .i64 x5_3) rfl (p_move rfl rfl) ?_
      refine DL.pu 14 (ptr b2 x5_3.toNat) rfl (p_ix ty_u52 ty_s39 g72 g74 rfl rfl rfl) ?_
      refine DL.look (v := .int .u64 (a1.getD x5_3.toNat 0)) (x := 0) (b := b2) (i := 5) rfl (Wn.none rfl) rfl rfl rfl rfl rfl (List.mem_of_getElem? (i := 0) rfl) (b_load ty_a39 (enc_at l_a1 g72 g74) rfl rfl) ?_
      obtain ⟨t76, e77, h78⟩ := nm_some h75
      refine DL.pu 16 (.bool t76) rfl (by rw [e77]; exact p_neq rfl rfl rfl) ?_
      refine DL.nil' hl71 ?_
      by_cases c79 : t76 = true
      · have h80 := ite_true c79 h78
        refine TT.cond_true (x := sub [1, 0, 1, 0, 0, 1, 0, 0, 1, 0] B33) (y := sub [1, 0, 1, 0, 0, 1, 0, 0, 1, 1] B33) rfl c79 ?_
        refine TT.seq (x := sub [1, 0, 1, 0, 0, 1, 0, 0, 1, 0, 0] B33) (y := sub [1, 0, 1, 0, 0, 1, 0, 0, 1, 0, 1] B33) ?_
        refine TT.regionD (id := 5) (ops := (opsOf (sub [1, 0, 1, 0, 0, 1, 0, 0, 1, 0, 0] B33))) [0, 1, 2, 3, 4, 5, 6, 7] [0, 1, 3, 0, 8, 24, 63, 127] [(.pure, none), (.pure, none), (.look, some 1), (.pure, none), (.pure, none), (.look, some 0), (.pure, none), (.pure, none)] mixed (by kernel_rfl) ?_
        intro w81 hl81 hj81 hz81
        refine DL.pu 17 (.int .i64 x5_3) rfl (p_move rfl rfl) ?_
        refine DL.pu 18 (ptr b1 x5_3.toNat) rfl (p_ix ty_u52 ty_s39 g72 g74 rfl rfl rfl) ?_
        refine DL.look (v := .int .u64 (a0.getD x5_3.toNat 0)) (x := 1) (b := b1) (i := 2) rfl (Wn.none rfl) rfl rfl rfl rfl rfl (List.mem_of_getElem? (i := 1) rfl) (b_load ty_a39 (enc_at l_a0 g72 g74) rfl rfl) ?_
        refine DL.pu 20 (.int .i64 x5_3) rfl (p_move rfl rfl) ?_
        refine DL.pu 21 (ptr b2 x5_3.toNat) rfl (p_ix ty_u52 ty_s39 g72 g74 rfl rfl rfl) ?_
        refine DL.look (v := .int .u64 (a1.getD x5_3.toNat 0)) (x := 0) (b := b2) (i := 5) rfl (Wn.none rfl) rfl rfl rfl rfl rfl (List.mem_of_getElem? (i := 0) rfl) (b_load ty_a39 (enc_at l_a1 g72 g74) rfl rfl) ?_
        obtain ⟨t82, e83, h84⟩ := nm_some h80
        refine DL.pu 23 (.bool t82) rfl (by rw [e83]; exact p_lss rfl rfl rfl) ?_
        refine DL.pu 4 (.bool t82) rfl (p_assign rfl rfl) ?_
        refine DL.nil' hl81 ?_
        obtain rfl := Option.some.inj h84
        exact ret1 Try.func33 rfl (ResV.tmp rfl) (hk)
      · replace c79 := Bool.eq_false_iff.mpr c79
        have h85 := ite_false c79 h78
        refine TT.cond_false (x := sub [1, 0, 1, 0, 0, 1, 0, 0, 1, 0] B33) (y := sub [1, 0, 1, 0, 0, 1, 0, 0, 1, 1] B33) rfl c79 ?_
        refine TT.skip ?_
        refine TT.inBlock ?_
        refine TT.region (id := 3) (n := 3) (ops := (opsOf (sub [1, 0, 1, 0, 0, 1, 1] B33))) [(.pure, none), (.pure, none), (.pure, none)] rfl ?_
        show DL _ _ _ _ _ _ _ _ _ _ [0, 1, 2] _ _
        refine DL.pu 8 (.int .i64 x5_3) rfl (p_move rfl rfl) ?_
        refine DL.pu 9 (.int .i64 (IntKind.i64.wrap (x5_3 - 1))) rfl (p_sub rfl rfl rfl) ?_
        refine DL.pu 5 (.int .i64 (IntKind.i64.wrap (x5_3 - 1))) rfl (p_assign rfl rfl) ?_
        refine DL.nil ?_
        refine TT.inLoop ?_
        exact TT.weak (ih (IntKind.i64.wrap (x5_3 - 1)) _ h85 hk) (Sub.cons rfl (Sub.cons rfl (Sub.cons rfl (Sub.nil _))))
    · replace c69 := Bool.eq_false_iff.mpr c69
      have h86 := ite_false c69 h
      refine TT.cond_false (x := sub [1, 0, 1, 0, 0, 0, 1, 0] B33) (y := sub [1, 0, 1, 0, 0, 0, 1, 1] B33) rfl c69 ?_
      refine TT.exit rfl ?_
      obtain rfl := Option.some.inj h86
      exact TT.weak (hk) (Sub.nil _)

def ref02_Less.f (a0 : List Int) (a1 : List Int) : Option (Bool) := onw (ref02_Less.L0 a0 a1 17 15) (fun _ => some false) (fun r => some r)
set_option maxRecDepth 20000 in
theorem ref02_Less.ok {a0 : List Int} {a1 : List Int} {r : Bool} (l_a0 : a0.length = 16) (l_a1 : a1.length = 16) (h : ref02_Less.f a0 a1 = some r) (w : World) : Calls Try.prog 33 #[.agg (enc .u64 a0), .agg (enc .u64 a1)] w (Post (fun u => u = .bool r) w) := by
  unfold ref02_Less.f at h
  refine calls_of_TT (N := 24) (S := [(0, .agg (enc .u64 a0)), (1, .agg (enc .u64 a1))]) (c := B33) Try.func33 rfl rfl rfl (by simp) ?_
  show TT _ _ _ _ _ _ [.code (sub [] B33)] _ _
  refine TT.seq (x := sub [0] B33) (y := sub [1] B33) ?_
  refine TT.region (id := 0) (n := 3) (ops := (opsOf (sub [0] B33))) [(.alloc, none), (.alloc, none), (.pure, none)] rfl ?_
  show DL _ _ _ _ _ _ _ _ _ _ [0, 1, 2] _ _
  refine DL.new (ob := .cells (enc .u64 a0) 52) (mk := fun b => ptr b 0) (i := 0) rfl (Wn.none rfl) rfl rfl rfl (f_box (v := .agg (enc .u64 a0)) rfl rfl) ?_
  intro b1 hb1
  refine DL.new (ob := .cells (enc .u64 a1) 52) (mk := fun b => ptr b 0) (i := 1) rfl (Wn.none rfl) rfl rfl rfl (f_box (v := .agg (enc .u64 a1)) rfl rfl) ?_
  intro b2 hb2
  refine DL.pu 4 (.bool false) rfl (p_assign rfl rfl) ?_
  refine DL.nil ?_
  refine TT.seq (x := sub [1, 0] B33) (y := sub [1, 1] B33) ?_
  refine TT.seq (x := sub [1, 0, 0] B33) (y := sub [1, 0, 1] B33) ?_
  refine TT.region (id := 1) (n := 1) (ops := (opsOf (sub [1, 0, 0] B33))) [(.pure, none)] rfl ?_
  show DL _ _ _ _ _ _ _ _ _ _ [0] _ _
  refine DL.pu 5 (.int .i64 15) rfl (p_assign rfl rfl) ?_
  refine DL.nil ?_
  refine TT.block (c := sub [1, 0, 1, 0] B33) ?_
  refine TT.loop (c := sub [1, 0, 1, 0, 0] B33) ?_
  rcases onw_some h with ⟨_, h87, h88⟩ | ⟨r89, h87, h88⟩
  · refine TT.weak (ref02_Less.L0_ok a0 a1 b1 b2 l_a0 l_a1 17 15 (.inl ()) h87 (?_)) (Sub.cons rfl (Sub.cons rfl (Sub.cons rfl (Sub.nil _))))
    show TT _ _ _ _ _ _ _ _ _
    refine TT.seq (x := sub [1, 1, 0] B33) (y := sub [1, 1, 1] B33) ?_
    refine TT.region (id := 6) (n := 1) (ops := (opsOf (sub [1, 1, 0] B33))) [(.pure, none)] rfl ?_
    show DL _ _ _ _ _ _ _ _ _ _ [0] _ _
    refine DL.pu 4 (.bool false) rfl (p_assign rfl rfl) ?_
    refine DL.nil ?_
    obtain rfl := Option.some.inj h88
    exact ret1 Try.func33 rfl (ResV.tmp rfl) rfl
  · obtain rfl := Option.some.inj h88
    exact TT.weak (ref02_Less.L0_ok a0 a1 b1 b2 l_a0 l_a1 17 15 (.inr r89) h87 (rfl)) (Sub.cons rfl (Sub.cons rfl (Sub.cons rfl (Sub.nil _))))
theorem ref02_Less.val {a0 : List Int} {a1 : List Int} {r : Bool} (l_a0 : a0.length = 16) (l_a1 : a1.length = 16) (h : ref02_Less.f a0 a1 = some r) (w : World) : Calls Try.prog 33 #[.agg (enc .u64 a0), .agg (enc .u64 a1)] w fun e w' => e = .returned (.bool r) ∧ Below w.heap.size w w' :=
  calls_value (ref02_Less.ok l_a0 l_a1 h w)

/-! ### escutcheon/escutcheonref03.Order: function 29 -/
noncomputable def B29 : Code := bodyOf Try.f29
def ref03_Order.L1 : Nat → Int → Int → List Int → Option (List Int)
  | 0, _, _, _ => none
  | k + 1, x4_160, x5_161, y_162 => if (decide (x5_161 < 16)) = true then (req (0 ≤ x5_161) (req (x5_161 < 16) (nm (IntKind.u64.wrap (10 * (y_162.getD x5_161.toNat 0))) fun t233 => nm (Int.tmod (IntKind.u64.wrap (t233 + x4_160)) 65536) fun t236 => nm (IntKind.u64.wrap (Int.tdiv (IntKind.u64.wrap (t233 + x4_160)) 65536)) fun t239 => ref03_Order.L1 k t239 (IntKind.i64.wrap (x5_161 + 1)) (y_162.set x5_161.toNat t236)))) else (some y_162)
set_option maxRecDepth 20000 in
theorem ref03_Order.L1_ok (b1 : Nat) (b2 : Nat) (x3_3 : Int) {R : Ending → World → Prop} {w0 : World} {I : Nat → Option Obj} {K : List Item} :
    ∀ (k : Nat) (x4_160 : Int) (x5_161 : Int) (y_162 : List Int) (r0 : List Int) (l_y_162 : y_162.length = 16) (h : ref03_Order.L1 k x4_160 x5_161 y_162 = some r0) (hk : r0.length = 16 → TT Try.prog 29 R 39 w0 I K [(0, ptr b1 0), (1, ptr b2 0), (2, str [50, 55, 55, 52, 50, 51, 49, 55, 55, 55, 55, 51, 55, 50, 51, 53, 51, 53, 51, 53, 56, 53, 49, 57, 51, 55, 55, 57, 48, 56, 56, 51, 54, 52, 56, 52, 57, 51]), (3, .int .i64 x3_3)] [(some b2, .cells (enc .u64 r0) 52 (0, 0)), (some b1, .cells (enc .u64 (List.replicate 16 0)) 52 (0, 0))]),
      TT Try.prog 29 R 39 w0 I (.code (sub [1, 1, 1, 0, 1, 0, 0, 1, 0, 0, 1, 1, 0, 0] B29) :: .inLoop (sub [1, 1, 1, 0, 1, 0, 0, 1, 0, 0, 1, 1, 0, 0] B29) :: .inBlock 2 :: K) [(0, ptr b1 0), (1, ptr b2 0), (2, str [50, 55, 55, 52, 50, 51, 49, 55, 55, 55, 55, 51, 55, 50, 51, 53, 51, 53, 51, 53, 56, 53, 49, 57, 51, 55, 55, 57, 48, 56, 56, 51, 54, 52, 56, 52, 57, 51]), (3, .int .i64 x3_3), (4, .int .u64 x4_160), (5, .int .i64 x5_161)] [(some b2, .cells (enc .u64 y_162) 52 (0, 0)), (some b1, .cells (enc .u64 (List.replicate 16 0)) 52 (0, 0))] := by
  intro k
  induction k with
  | zero => intro x4_160 x5_161 y_162 r0 l_y_162 h; simp [ref03_Order.L1] at h
  | succ k ih =>
    intro x4_160 x5_161 y_162 r0 l_y_162 h hk
    unfold ref03_Order.L1 at h
    refine TT.seq (x := sub [1, 1, 1, 0, 1, 0, 0, 1, 0, 0, 1, 1, 0, 0, 0] B29) (y := sub [1, 1, 1, 0, 1, 0, 0, 1, 0, 0, 1, 1, 0, 0, 1] B29) ?_
    refine TT.seq (x := sub [1, 1, 1, 0, 1, 0, 0, 1, 0, 0, 1, 1, 0, 0, 0, 0] B29) (y := sub [1, 1, 1, 0, 1, 0, 0, 1, 0, 0, 1, 1, 0, 0, 0, 1] B29) ?_
    refine TT.region (id := 8) (n := 2) (ops := (opsOf (sub [1, 1, 1, 0, 1, 0, 0, 1, 0, 0, 1, 1, 0, 0, 0, 0] B29))) [(.pure, none), (.pure, none)] rfl ?_
    show DL _ _ _ _ _ _ _ _ _ _ [0, 1] _ _
    refine DL.pu 18 (.int .i64 x5_161) rfl (p_move rfl rfl) ?_
    refine DL.pu 19 (.bool (decide (x5_161 < 16))) rfl (p_lss rfl rfl rfl) ?_
    refine DL.nil ?_
    by_cases c227 : (decide (x5_161 < 16)) = true
    · have h228 := ite_true c227 h
      refine TT.cond_true (x := sub [1, 1, 1, 0, 1, 0, 0, 1, 0, 0, 1, 1, 0, 0, 0, 1, 0] B29) (y := sub [1, 1, 1, 0, 1, 0, 0, 1, 0, 0, 1, 1, 0, 0, 0, 1, 1] B29) rfl c227 ?_
      refine TT.skip ?_
      refine TT.seq (x := sub [1, 1, 1, 0, 1, 0, 0, 1, 0, 0, 1, 1, 0, 0, 1, 0] B29) (y := sub [1, 1, 1, 0, 1, 0, 0, 1, 0, 0, 1, 1, 0, 0, 1, 1] B29) ?_
      refine TT.block (c := sub [1, 1, 1, 0, 1, 0, 0, 1, 0, 0, 1, 1, 0, 0, 1, 0, 0] B29) ?_
      refine TT.seq (x := sub [1, 1, 1, 0, 1, 0, 0, 1, 0, 0, 1, 1, 0, 0, 1, 0, 0, 0] B29) (y := sub [1, 1, 1, 0, 1, 0, 0, 1, 0, 0, 1, 1, 0, 0, 1, 0, 0, 1] B29) ?_
      refine TT.region (id := 10) (n := 7) (ops := (opsOf (sub [1, 1, 1, 0, 1, 0, 0, 1, 0, 0, 1, 1, 0, 0, 1, 0, 0, 0] B29))) [(.pure, none), (.pure, none), (.quiet, none), (.pure, none), (.pure, none), (.pure, none), (.pure, none)] rfl ?_
      show DL _ _ _ _ _ _ _ _ _ _ [0, 1, 2, 3, 4, 5, 6] _ _
      refine DL.pu 22 (.int .i64 x5_161) rfl (p_move rfl rfl) ?_
      obtain ⟨g229, h230⟩ := req_some h228
      obtain ⟨g231, h232⟩ := req_some h230
      refine DL.pu 23 (ptr b2 x5_161.toNat) rfl (p_ix ty_u52 ty_s39 g229 g231 rfl rfl rfl) ?_
      refine DL.qu 24 (.int .u64 (y_162.getD x5_161.toNat 0)) rfl (f_load (j := 0) ty_a39 rfl (enc_at l_y_162 g229 g231) rfl rfl) ?_
      obtain ⟨t233, e234, h235⟩ := nm_some h232
      refine DL.pu 25 (.int .u64 t233) rfl (by rw [e234]; exact p_mul rfl rfl rfl) ?_
      refine DL.pu 26 (.int .u64 x4_160) rfl (p_move rfl rfl) ?_
      refine DL.pu 27 (.int .u64 (IntKind.u64.wrap (t233 + x4_160))) rfl (p_add rfl rfl rfl) ?_
      refine DL.pu 6 (.int .u64 (IntKind.u64.wrap (t233 + x4_160))) rfl (p_assign rfl rfl) ?_
      refine DL.nil ?_
      refine TT.seq (x := sub [1, 1, 1, 0, 1, 0, 0, 1, 0, 0, 1, 1, 0, 0, 1, 0, 0, 1, 0] B29) (y := sub [1, 1, 1, 0, 1, 0, 0, 1, 0, 0, 1, 1, 0, 0, 1, 0, 0, 1, 1] B29) ?_
      refine TT.region (id := 11) (n := 5) (ops := (opsOf (sub [1, 1, 1, 0, 1, 0, 0, 1, 0, 0, 1, 1, 0, 0, 1, 0, 0, 1, 0] B29))) [(.pure, none), (.pure, none), (.pure, none), (.pure, none), (.store, none)] rfl ?_
      show DL _ _ _ _ _ _ _ _ _ _ [0, 1, 2, 3, 4] _ _
      refine DL.pu 28 (.int .i64 x5_161) rfl (p_move rfl rfl) ?_
      refine DL.pu 29 (.int .u64 (IntKind.u64.wrap (t233 + x4_160))) rfl (p_move rfl rfl) ?_
      obtain ⟨t236, e237, h238⟩ := nm_some h235
      refine DL.pu 30 (.int .u64 t236) rfl (by rw [e237]; exact p_rem (by decide) rfl rfl rfl) ?_
      refine DL.pu 31 (ptr b2 x5_161.toNat) rfl (p_ix ty_u52 ty_s39 g229 g231 rfl rfl rfl) ?_
      refine DL.put (H' := [(some b2, .cells (enc .u64 (y_162.set x5_161.toNat t236)) 52 (0, 0)), (some b1, .cells (enc .u64 (List.replicate 16 0)) 52 (0, 0))]) (i := 4) rfl (Wn.none rfl) rfl rfl (f_storeE (j := 0) ty_s39 rfl (lt_nat l_y_162 g229 g231) rfl rfl rfl) (keep_none rfl) ?_
      refine DL.nil ?_
      refine TT.region (id := 12) (n := 3) (ops := (opsOf (sub [1, 1, 1, 0, 1, 0, 0, 1, 0, 0, 1, 1, 0, 0, 1, 0, 0, 1, 1] B29))) [(.pure, none), (.pure, none), (.pure, none)] rfl ?_
      show DL _ _ _ _ _ _ _ _ _ _ [0, 1, 2] _ _
      refine DL.pu 32 (.int .u64 (IntKind.u64.wrap (t233 + x4_160))) rfl (p_move rfl rfl) ?_
      obtain ⟨t239, e240, h241⟩ := nm_some h238
      refine DL.pu 33 (.int .u64 t239) rfl (by rw [e240]; exact p_quo (by decide) rfl rfl rfl) ?_
      refine DL.pu 4 (.int .u64 t239) rfl (p_assign rfl rfl) ?_
      refine DL.nil ?_
      refine TT.inBlock ?_
      refine TT.region (id := 9) (n := 3) (ops := (opsOf (sub [1, 1, 1, 0, 1, 0, 0, 1, 0, 0, 1, 1, 0, 0, 1, 1] B29))) [(.pure, none), (.pure, none), (.pure, none)] rfl ?_
      show DL _ _ _ _ _ _ _ _ _ _ [0, 1, 2] _ _
      refine DL.pu 20 (.int .i64 x5_161) rfl (p_move rfl rfl) ?_
      refine DL.pu 21 (.int .i64 (IntKind.i64.wrap (x5_161 + 1))) rfl (p_add rfl rfl rfl) ?_
      refine DL.pu 5 (.int .i64 (IntKind.i64.wrap (x5_161 + 1))) rfl (p_assign rfl rfl) ?_
      refine DL.nil ?_
      refine TT.inLoop ?_
      exact TT.weak (ih t239 (IntKind.i64.wrap (x5_161 + 1)) (y_162.set x5_161.toNat t236) r0 (len_set l_y_162) h241 hk) (Sub.cons rfl (Sub.cons rfl (Sub.cons rfl (Sub.cons rfl (Sub.cons rfl (Sub.cons rfl (Sub.nil _)))))))
    · replace c227 := Bool.eq_false_iff.mpr c227
      have h242 := ite_false c227 h
      refine TT.cond_false (x := sub [1, 1, 1, 0, 1, 0, 0, 1, 0, 0, 1, 1, 0, 0, 0, 1, 0] B29) (y := sub [1, 1, 1, 0, 1, 0, 0, 1, 0, 0, 1, 1, 0, 0, 0, 1, 1] B29) rfl c227 ?_
      refine TT.exit rfl ?_
      obtain rfl := Option.some.inj h242
      exact TT.weak (hk l_y_162) (Sub.cons rfl (Sub.cons rfl (Sub.cons rfl (Sub.cons rfl (Sub.nil _)))))

def ref03_Order.L0 : Nat → Int → List Int → Option (List Int)
  | 0, _, _ => none
  | k + 1, x3_3, y_4 => if (decide (x3_3 < 38)) = true then (req (0 ≤ x3_3) (req (x3_3 < ([50, 55, 55, 52, 50, 51, 49, 55, 55, 55, 55, 51, 55, 50, 51, 53, 51, 53, 51, 53, 56, 53, 49, 57, 51, 55, 55, 57, 48, 56, 56, 51, 54, 52, 56, 52, 57, 51].length : Int)) (nm (chr [50, 55, 55, 52, 50, 51, 49, 55, 55, 55, 55, 51, 55, 50, 51, 53, 51, 53, 51, 53, 56, 53, 49, 57, 51, 55, 55, 57, 48, 56, 56, 51, 54, 52, 56, 52, 57, 51] x3_3.toNat) fun t157 => (ref03_Order.L1 17 (IntKind.u64.wrap (IntKind.u8.wrap (t157 - 48))) 0 y_4).bind fun z_b2_226 => ref03_Order.L0 k (IntKind.i64.wrap (x3_3 + 1)) z_b2_226))) else (some y_4)
set_option maxRecDepth 20000 in
theorem ref03_Order.L0_ok (b1 : Nat) (b2 : Nat) {R : Ending → World → Prop} {w0 : World} {I : Nat → Option Obj} {K : List Item} :
    ∀ (k : Nat) (x3_3 : Int) (y_4 : List Int) (r0 : List Int) (l_y_4 : y_4.length = 16) (h : ref03_Order.L0 k x3_3 y_4 = some r0) (hk : r0.length = 16 → TT Try.prog 29 R 39 w0 I K [(0, ptr b1 0), (1, ptr b2 0)] [(some b2, .cells (enc .u64 r0) 52 (0, 0)), (some b1, .cells (enc .u64 (List.replicate 16 0)) 52 (0, 0))]),
      TT Try.prog 29 R 39 w0 I (.code (sub [1, 1, 1, 0, 1, 0, 0] B29) :: .inLoop (sub [1, 1, 1, 0, 1, 0, 0] B29) :: .inBlock 0 :: K) [(0, ptr b1 0), (1, ptr b2 0), (2, str [50, 55, 55, 52, 50, 51, 49, 55, 55, 55, 55, 51, 55, 50, 51, 53, 51, 53, 51, 53, 56, 53, 49, 57, 51, 55, 55, 57, 48, 56, 56, 51, 54, 52, 56, 52, 57, 51]), (3, .int .i64 x3_3)] [(some b2, .cells (enc .u64 y_4) 52 (0, 0)), (some b1, .cells (enc .u64 (List.replicate 16 0)) 52 (0, 0))] := by
  intro k
  induction k with
  | zero => intro x3_3 y_4 r0 l_y_4 h; simp [ref03_Order.L0] at h
  | succ k ih =>
    intro x3_3 y_4 r0 l_y_4 h hk
    unfold ref03_Order.L0 at h
    refine TT.seq (x := sub [1, 1, 1, 0, 1, 0, 0, 0] B29) (y := sub [1, 1, 1, 0, 1, 0, 0, 1] B29) ?_
    refine TT.seq (x := sub [1, 1, 1, 0, 1, 0, 0, 0, 0] B29) (y := sub [1, 1, 1, 0, 1, 0, 0, 0, 1] B29) ?_
    refine TT.region (id := 4) (n := 4) (ops := (opsOf (sub [1, 1, 1, 0, 1, 0, 0, 0, 0] B29))) [(.pure, none), (.pure, none), (.pure, none), (.pure, none)] rfl ?_
    show DL _ _ _ _ _ _ _ _ _ _ [0, 1, 2, 3] _ _
    refine DL.pu 7 (.int .i64 x3_3) rfl (p_move rfl rfl) ?_
    refine DL.pu 8 (str [50, 55, 55, 52, 50, 51, 49, 55, 55, 55, 55, 51, 55, 50, 51, 53, 51, 53, 51, 53, 56, 53, 49, 57, 51, 55, 55, 57, 48, 56, 56, 51, 54, 52, 56, 52, 57, 51]) rfl (p_move rfl rfl) ?_
    refine DL.pu 9 (.int .i64 38) rfl (show FPure _ _ _ (.int .i64 (([50, 55, 55, 52, 50, 51, 49, 55, 55, 55, 55, 51, 55, 50, 51, 53, 51, 53, 51, 53, 56, 53, 49, 57, 51, 55, 55, 57, 48, 56, 56, 51, 54, 52, 56, 52, 57, 51] : List UInt8).length : Int)) from p_strLen ty_u9 rfl rfl) ?_
    refine DL.pu 10 (.bool (decide (x3_3 < 38))) rfl (p_lss rfl rfl rfl) ?_
    refine DL.nil ?_
    by_cases c151 : (decide (x3_3 < 38)) = true
    · have h152 := ite_true c151 h
      refine TT.cond_true (x := sub [1, 1, 1, 0, 1, 0, 0, 0, 1, 0] B29) (y := sub [1, 1, 1, 0, 1, 0, 0, 0, 1, 1] B29) rfl c151 ?_
      refine TT.skip ?_
      refine TT.seq (x := sub [1, 1, 1, 0, 1, 0, 0, 1, 0] B29) (y := sub [1, 1, 1, 0, 1, 0, 0, 1, 1] B29) ?_
      refine TT.block (c := sub [1, 1, 1, 0, 1, 0, 0, 1, 0, 0] B29) ?_
      refine TT.seq (x := sub [1, 1, 1, 0, 1, 0, 0, 1, 0, 0, 0] B29) (y := sub [1, 1, 1, 0, 1, 0, 0, 1, 0, 0, 1] B29) ?_
      refine TT.region (id := 6) (n := 6) (ops := (opsOf (sub [1, 1, 1, 0, 1, 0, 0, 1, 0, 0, 0] B29))) [(.pure, none), (.pure, none), (.pure, none), (.pure, none), (.pure, none), (.pure, none)] rfl ?_
      show DL _ _ _ _ _ _ _ _ _ _ [0, 1, 2, 3, 4, 5] _ _
      refine DL.pu 13 (str [50, 55, 55, 52, 50, 51, 49, 55, 55, 55, 55, 51, 55, 50, 51, 53, 51, 53, 51, 53, 56, 53, 49, 57, 51, 55, 55, 57, 48, 56, 56, 51, 54, 52, 56, 52, 57, 51]) rfl (p_move rfl rfl) ?_
      refine DL.pu 14 (.int .i64 x3_3) rfl (p_move rfl rfl) ?_
      obtain ⟨g153, h154⟩ := req_some h152
      obtain ⟨g155, h156⟩ := req_some h154
      obtain ⟨t157, e158, h159⟩ := nm_some h156
      refine DL.pu 15 (.int .u8 t157) rfl (by rw [e158]; exact p_strIndex ty_u9 g153 g155 rfl rfl rfl) ?_
      refine DL.pu 16 (.int .u8 (IntKind.u8.wrap (t157 - 48))) rfl (p_sub rfl rfl rfl) ?_
      refine DL.pu 17 (.int .u64 (IntKind.u64.wrap (IntKind.u8.wrap (t157 - 48)))) rfl (p_conv ty_u5 ty_u39 ⟨_, rfl⟩ rfl rfl) ?_
      refine DL.pu 4 (.int .u64 (IntKind.u64.wrap (IntKind.u8.wrap (t157 - 48)))) rfl (p_assign rfl rfl) ?_
      refine DL.nil ?_
      refine TT.seq (x := sub [1, 1, 1, 0, 1, 0, 0, 1, 0, 0, 1, 0] B29) (y := sub [1, 1, 1, 0, 1, 0, 0, 1, 0, 0, 1, 1] B29) ?_
      refine TT.region (id := 7) (n := 1) (ops := (opsOf (sub [1, 1, 1, 0, 1, 0, 0, 1, 0, 0, 1, 0] B29))) [(.pure, none)] rfl ?_
      show DL _ _ _ _ _ _ _ _ _ _ [0] _ _
      refine DL.pu 5 (.int .i64 0) rfl (p_assign rfl rfl) ?_
      refine DL.nil ?_
      refine TT.block (c := sub [1, 1, 1, 0, 1, 0, 0, 1, 0, 0, 1, 1, 0] B29) ?_
      refine TT.loop (c := sub [1, 1, 1, 0, 1, 0, 0, 1, 0, 0, 1, 1, 0, 0] B29) ?_
      obtain ⟨z_b2_226, h243, h244⟩ := bind_some h159
      refine TT.weak (ref03_Order.L1_ok b1 b2 x3_3 17 (IntKind.u64.wrap (IntKind.u8.wrap (t157 - 48))) 0 y_4 z_b2_226 l_y_4 h243 (fun l_z_b2_226 => ?_)) (Sub.cons rfl (Sub.cons rfl (Sub.cons rfl (Sub.cons rfl (Sub.cons rfl (Sub.cons rfl (Sub.nil _)))))))
      refine TT.inBlock ?_
      refine TT.region (id := 5) (n := 3) (ops := (opsOf (sub [1, 1, 1, 0, 1, 0, 0, 1, 1] B29))) [(.pure, none), (.pure, none), (.pure, none)] rfl ?_
      show DL _ _ _ _ _ _ _ _ _ _ [0, 1, 2] _ _
      refine DL.pu 11 (.int .i64 x3_3) rfl (p_move rfl rfl) ?_
      refine DL.pu 12 (.int .i64 (IntKind.i64.wrap (x3_3 + 1))) rfl (p_add rfl rfl rfl) ?_
      refine DL.pu 3 (.int .i64 (IntKind.i64.wrap (x3_3 + 1))) rfl (p_assign rfl rfl) ?_
      refine DL.nil ?_
      refine TT.inLoop ?_
      exact TT.weak (ih (IntKind.i64.wrap (x3_3 + 1)) z_b2_226 r0 l_z_b2_226 h244 hk) (Sub.cons rfl (Sub.cons rfl (Sub.cons rfl (Sub.cons rfl (Sub.nil _)))))
    · replace c151 := Bool.eq_false_iff.mpr c151
      have h245 := ite_false c151 h
      refine TT.cond_false (x := sub [1, 1, 1, 0, 1, 0, 0, 0, 1, 0] B29) (y := sub [1, 1, 1, 0, 1, 0, 0, 0, 1, 1] B29) rfl c151 ?_
      refine TT.exit rfl ?_
      obtain rfl := Option.some.inj h245
      exact TT.weak (hk l_y_4) (Sub.cons rfl (Sub.cons rfl (Sub.nil _)))

def ref03_Order.f : Option (List Int) := (ref03_Order.L0 39 0 (List.replicate 16 0)).bind fun z_b2_150 => nm (IntKind.u64.wrap ((z_b2_150.getD ((15 : Int).toNat) 0) + 4096)) fun t248 => some (z_b2_150.set ((15 : Int).toNat) t248)
set_option maxRecDepth 20000 in
theorem ref03_Order.ok {r : List Int} (h : ref03_Order.f = some r) (w : World) : Calls Try.prog 29 #[] w (Post (fun u => u = .agg (enc .u64 r) ∧ r.length = 16) w) := by
  unfold ref03_Order.f at h
  refine calls_of_TT (N := 39) (S := []) (c := B29) Try.func29 rfl rfl rfl (by simp) ?_
  show TT _ _ _ _ _ _ [.code (sub [] B29)] _ _
  refine TT.seq (x := sub [0] B29) (y := sub [1] B29) ?_
  refine TT.region (id := 0) (n := 1) (ops := (opsOf (sub [0] B29))) [(.alloc, none)] rfl ?_
  show DL _ _ _ _ _ _ _ _ _ _ [0] _ _
  refine DL.new (ob := .cells (enc .u64 (List.replicate 16 0)) 52) (mk := fun b => ptr b 0) (i := 0) rfl (Wn.none rfl) rfl rfl rfl (f_alloc ty_z52 rfl) ?_
  intro b1 hb1
  refine DL.nil ?_
  refine TT.seq (x := sub [1, 0] B29) (y := sub [1, 1] B29) ?_
  refine TT.region (id := 1) (n := 1) (ops := (opsOf (sub [1, 0] B29))) [(.alloc, none)] rfl ?_
  show DL _ _ _ _ _ _ _ _ _ _ [0] _ _
  refine DL.new (ob := .cells (enc .u64 (List.replicate 16 0)) 52) (mk := fun b => ptr b 0) (i := 0) rfl (Wn.none rfl) rfl rfl rfl (f_alloc ty_z52 rfl) ?_
  intro b2 hb2
  refine DL.nil ?_
  refine TT.seq (x := sub [1, 1, 0] B29) (y := sub [1, 1, 1] B29) ?_
  refine TT.region (id := 2) (n := 1) (ops := (opsOf (sub [1, 1, 0] B29))) [(.pure, none)] rfl ?_
  show DL _ _ _ _ _ _ _ _ _ _ [0] _ _
  refine DL.pu 2 (str [50, 55, 55, 52, 50, 51, 49, 55, 55, 55, 55, 51, 55, 50, 51, 53, 51, 53, 51, 53, 56, 53, 49, 57, 51, 55, 55, 57, 48, 56, 56, 51, 54, 52, 56, 52, 57, 51]) rfl (p_assign rfl rfl) ?_
  refine DL.nil ?_
  refine TT.seq (x := sub [1, 1, 1, 0] B29) (y := sub [1, 1, 1, 1] B29) ?_
  refine TT.seq (x := sub [1, 1, 1, 0, 0] B29) (y := sub [1, 1, 1, 0, 1] B29) ?_
  refine TT.region (id := 3) (n := 1) (ops := (opsOf (sub [1, 1, 1, 0, 0] B29))) [(.pure, none)] rfl ?_
  show DL _ _ _ _ _ _ _ _ _ _ [0] _ _
  refine DL.pu 3 (.int .i64 0) rfl (p_assign rfl rfl) ?_
  refine DL.nil ?_
  refine TT.block (c := sub [1, 1, 1, 0, 1, 0] B29) ?_
  refine TT.loop (c := sub [1, 1, 1, 0, 1, 0, 0] B29) ?_
  obtain ⟨z_b2_150, h246, h247⟩ := bind_some h
  refine TT.weak (ref03_Order.L0_ok b1 b2 39 0 (List.replicate 16 0) z_b2_150 (List.length_replicate) h246 (fun l_z_b2_150 => ?_)) (Sub.cons rfl (Sub.cons rfl (Sub.cons rfl (Sub.cons rfl (Sub.nil _)))))
  refine TT.seq (x := sub [1, 1, 1, 1, 0] B29) (y := sub [1, 1, 1, 1, 1] B29) ?_
  refine TT.region (id := 13) (n := 5) (ops := (opsOf (sub [1, 1, 1, 1, 0] B29))) [(.pure, none), (.quiet, none), (.pure, none), (.pure, none), (.store, none)] rfl ?_
  show DL _ _ _ _ _ _ _ _ _ _ [0, 1, 2, 3, 4] _ _
  refine DL.pu 34 (ptr b2 ((15 : Int).toNat)) rfl (p_ix ty_u52 ty_s39 (by decide) (by decide) rfl rfl rfl) ?_
  refine DL.qu 35 (.int .u64 (z_b2_150.getD ((15 : Int).toNat) 0)) rfl (f_load (j := 0) ty_a39 rfl (enc_at l_z_b2_150 (by decide) (by decide)) rfl rfl) ?_
  obtain ⟨t248, e249, h250⟩ := nm_some h247
  refine DL.pu 36 (.int .u64 t248) rfl (by rw [e249]; exact p_add rfl rfl rfl) ?_
  refine DL.pu 37 (ptr b2 ((15 : Int).toNat)) rfl (p_ix ty_u52 ty_s39 (by decide) (by decide) rfl rfl rfl) ?_
  refine DL.put (H' := [(some b2, .cells (enc .u64 (z_b2_150.set ((15 : Int).toNat) t248)) 52 (0, 0)), (some b1, .cells (enc .u64 (List.replicate 16 0)) 52 (0, 0))]) (i := 4) rfl (Wn.none rfl) rfl rfl (f_storeE (j := 0) ty_s39 rfl (lt_nat l_z_b2_150 (by decide) (by decide)) rfl rfl rfl) (keep_none rfl) ?_
  refine DL.nil ?_
  refine TT.seq (x := sub [1, 1, 1, 1, 1, 0] B29) (y := sub [1, 1, 1, 1, 1, 1] B29) ?_
  refine TT.region (id := 14) (n := 2) (ops := (opsOf (sub [1, 1, 1, 1, 1, 0] B29))) [(.quiet, none), (.store, none)] rfl ?_
  show DL _ _ _ _ _ _ _ _ _ _ [0, 1] _ _
  refine DL.qu 38 (.agg (enc .u64 (z_b2_150.set ((15 : Int).toNat) t248))) rfl (f_loadA (j := 0) ty_a52 ty_s52 rfl (enc_sz (len_set l_z_b2_150)) rfl rfl) ?_
  refine DL.put (H' := [(some b2, .cells (enc .u64 (z_b2_150.set ((15 : Int).toNat) t248)) 52 (0, 0)), (some b1, .cells (enc .u64 (z_b2_150.set ((15 : Int).toNat) t248)) 52 (0, 0))]) (i := 1) rfl (Wn.none rfl) rfl rfl (f_storeA (j := 1) ty_s52 rfl (enc_sz (len_set l_z_b2_150)) (enc_sz (List.length_replicate)) (enc_oneCell _ _) rfl rfl rfl) (keep_none rfl) ?_
  refine DL.nil ?_
  obtain rfl := Option.some.inj h250
  exact ret1 Try.func29 rfl (ResV.cell (j := 1) ty_a52 ty_s52 rfl rfl (enc_sz (len_set l_z_b2_150))) ⟨rfl, (len_set l_z_b2_150)⟩
theorem ref03_Order.len {r : List Int} (h : ref03_Order.f = some r) : r.length = 16 := by
  obtain ⟨v, hv⟩ := calls_fact (ref03_Order.ok h)
  exact hv.2
theorem ref03_Order.val {r : List Int} (h : ref03_Order.f = some r) (w : World) : Calls Try.prog 29 #[] w fun e w' => e = .returned (.agg (enc .u64 r)) ∧ Below w.heap.size w w' :=
  calls_value ((ref03_Order.ok h w).mono fun e w' ⟨v, he, hv, hb⟩ => ⟨v, he, hv.1, hb⟩)

/-! ### escutcheon/escutcheonref03.Clamp: function 19 -/
noncomputable def B19 : Code := bodyOf Try.f19
def ref03_Clamp.f (a0 : List Int) : Option (List Int) := nm (IntKind.u8.wrap (Int.tdiv (a0.getD ((0 : Int).toNat) 0) 8)) fun t3 => nm (Int.tmod ((a0.set ((0 : Int).toNat) (IntKind.u8.wrap (t3 * 8))).getD ((31 : Int).toNat) 0) 64) fun t6 => some ((a0.set ((0 : Int).toNat) (IntKind.u8.wrap (t3 * 8))).set ((31 : Int).toNat) (IntKind.u8.wrap (t6 + 64)))
set_option maxRecDepth 20000 in
theorem ref03_Clamp.ok {a0 : List Int} {r : List Int} (l_a0 : a0.length = 32) (h : ref03_Clamp.f a0 = some r) (w : World) : Calls Try.prog 19 #[.agg (enc .u8 a0)] w (Post (fun u => u = .agg (enc .u8 r) ∧ r.length = 32) w) := by
  unfold ref03_Clamp.f at h
  refine calls_of_TT (N := 14) (S := [(0, .agg (enc .u8 a0))]) (c := B19) Try.func19 rfl rfl rfl (by simp) ?_
  show TT _ _ _ _ _ _ [.code (sub [] B19)] _ _
  refine TT.seq (x := sub [0] B19) (y := sub [1] B19) ?_
  refine TT.region (id := 0) (n := 2) (ops := (opsOf (sub [0] B19))) [(.alloc, none), (.alloc, none)] rfl ?_
  show DL _ _ _ _ _ _ _ _ _ _ [0, 1] _ _
  refine DL.new (ob := .cells (enc .u8 a0) 23) (mk := fun b => ptr b 0) (i := 0) rfl (Wn.none rfl) rfl rfl rfl (f_box (v := .agg (enc .u8 a0)) rfl rfl) ?_
  intro b1 hb1
  refine DL.new (ob := .cells (enc .u8 (List.replicate 32 0)) 23) (mk := fun b => ptr b 0) (i := 1) rfl (Wn.none rfl) rfl rfl rfl (f_alloc ty_z23 rfl) ?_
  intro b2 hb2
  refine DL.nil ?_
  refine TT.seq (x := sub [1, 0] B19) (y := sub [1, 1] B19) ?_
  refine TT.region (id := 1) (n := 6) (ops := (opsOf (sub [1, 0] B19))) [(.pure, none), (.quiet, none), (.pure, none), (.pure, none), (.pure, none), (.store, none)] rfl ?_
  show DL _ _ _ _ _ _ _ _ _ _ [0, 1, 2, 3, 4, 5] _ _
  refine DL.pu 3 (ptr b1 ((0 : Int).toNat)) rfl (p_ix ty_u23 ty_s5 (by decide) (by decide) rfl rfl rfl) ?_
  refine DL.qu 4 (.int .u8 (a0.getD ((0 : Int).toNat) 0)) rfl (f_load (j := 1) ty_a5 rfl (enc_at l_a0 (by decide) (by decide)) rfl rfl) ?_
  obtain ⟨t3, e4, h5⟩ := nm_some h
  refine DL.pu 5 (.int .u8 t3) rfl (by rw [e4]; exact p_quo (by decide) rfl rfl rfl) ?_
  refine DL.pu 6 (.int .u8 (IntKind.u8.wrap (t3 * 8))) rfl (p_mul rfl rfl rfl) ?_
  refine DL.pu 7 (ptr b1 ((0 : Int).toNat)) rfl (p_ix ty_u23 ty_s5 (by decide) (by decide) rfl rfl rfl) ?_
  refine DL.put (H' := [(some b2, .cells (enc .u8 (List.replicate 32 0)) 23 (0, 0)), (some b1, .cells (enc .u8 (a0.set ((0 : Int).toNat) (IntKind.u8.wrap (t3 * 8)))) 23 (0, 0))]) (i := 5) rfl (Wn.none rfl) rfl rfl (f_storeE (j := 1) ty_s5 rfl (lt_nat l_a0 (by decide) (by decide)) rfl rfl rfl) (keep_none rfl) ?_
  refine DL.nil ?_
  refine TT.seq (x := sub [1, 1, 0] B19) (y := sub [1, 1, 1] B19) ?_
  refine TT.region (id := 2) (n := 6) (ops := (opsOf (sub [1, 1, 0] B19))) [(.pure, none), (.quiet, none), (.pure, none), (.pure, none), (.pure, none), (.store, none)] rfl ?_
  show DL _ _ _ _ _ _ _ _ _ _ [0, 1, 2, 3, 4, 5] _ _
  refine DL.pu 8 (ptr b1 ((31 : Int).toNat)) rfl (p_ix ty_u23 ty_s5 (by decide) (by decide) rfl rfl rfl) ?_
  refine DL.qu 9 (.int .u8 ((a0.set ((0 : Int).toNat) (IntKind.u8.wrap (t3 * 8))).getD ((31 : Int).toNat) 0)) rfl (f_load (j := 1) ty_a5 rfl (enc_at (len_set l_a0) (by decide) (by decide)) rfl rfl) ?_
  obtain ⟨t6, e7, h8⟩ := nm_some h5
  refine DL.pu 10 (.int .u8 t6) rfl (by rw [e7]; exact p_rem (by decide) rfl rfl rfl) ?_
  refine DL.pu 11 (.int .u8 (IntKind.u8.wrap (t6 + 64))) rfl (p_add rfl rfl rfl) ?_
  refine DL.pu 12 (ptr b1 ((31 : Int).toNat)) rfl (p_ix ty_u23 ty_s5 (by decide) (by decide) rfl rfl rfl) ?_
  refine DL.put (H' := [(some b2, .cells (enc .u8 (List.replicate 32 0)) 23 (0, 0)), (some b1, .cells (enc .u8 ((a0.set ((0 : Int).toNat) (IntKind.u8.wrap (t3 * 8))).set ((31 : Int).toNat) (IntKind.u8.wrap (t6 + 64)))) 23 (0, 0))]) (i := 5) rfl (Wn.none rfl) rfl rfl (f_storeE (j := 1) ty_s5 rfl (lt_nat (len_set l_a0) (by decide) (by decide)) rfl rfl rfl) (keep_none rfl) ?_
  refine DL.nil ?_
  refine TT.seq (x := sub [1, 1, 1, 0] B19) (y := sub [1, 1, 1, 1] B19) ?_
  refine TT.region (id := 3) (n := 2) (ops := (opsOf (sub [1, 1, 1, 0] B19))) [(.quiet, none), (.store, none)] rfl ?_
  show DL _ _ _ _ _ _ _ _ _ _ [0, 1] _ _
  refine DL.qu 13 (.agg (enc .u8 ((a0.set ((0 : Int).toNat) (IntKind.u8.wrap (t3 * 8))).set ((31 : Int).toNat) (IntKind.u8.wrap (t6 + 64))))) rfl (f_loadA (j := 1) ty_a23 ty_s23 rfl (enc_sz (len_set (len_set l_a0))) rfl rfl) ?_
  refine DL.put (H' := [(some b2, .cells (enc .u8 ((a0.set ((0 : Int).toNat) (IntKind.u8.wrap (t3 * 8))).set ((31 : Int).toNat) (IntKind.u8.wrap (t6 + 64)))) 23 (0, 0)), (some b1, .cells (enc .u8 ((a0.set ((0 : Int).toNat) (IntKind.u8.wrap (t3 * 8))).set ((31 : Int).toNat) (IntKind.u8.wrap (t6 + 64)))) 23 (0, 0))]) (i := 1) rfl (Wn.none rfl) rfl rfl (f_storeA (j := 0) ty_s23 rfl (enc_sz (len_set (len_set l_a0))) (enc_sz (List.length_replicate)) (enc_oneCell _ _) rfl rfl rfl) (keep_none rfl) ?_
  refine DL.nil ?_
  obtain rfl := Option.some.inj h8
  exact ret1 Try.func19 rfl (ResV.cell (j := 0) ty_a23 ty_s23 rfl rfl (enc_sz (len_set (len_set l_a0)))) ⟨rfl, (len_set (len_set l_a0))⟩
theorem ref03_Clamp.len {a0 : List Int} {r : List Int} (l_a0 : a0.length = 32) (h : ref03_Clamp.f a0 = some r) : r.length = 32 := by
  obtain ⟨v, hv⟩ := calls_fact (ref03_Clamp.ok l_a0 h)
  exact hv.2
theorem ref03_Clamp.val {a0 : List Int} {r : List Int} (l_a0 : a0.length = 32) (h : ref03_Clamp.f a0 = some r) (w : World) : Calls Try.prog 19 #[.agg (enc .u8 a0)] w fun e w' => e = .returned (.agg (enc .u8 r)) ∧ Below w.heap.size w w' :=
  calls_value ((ref03_Clamp.ok l_a0 h w).mono fun e w' ⟨v, he, hv, hb⟩ => ⟨v, he, hv.1, hb⟩)

/-! ### escutcheon/escutcheonref03.May: function 17 -/
noncomputable def B17 : Code := bodyOf Try.f17
def ref03_May.f (a0 : List Int) : Option (Bool) := (ref02_Of.f a0).bind fun t2 => (ref03_Order.f).bind fun t5 => (ref02_Less.f t2 t5).bind fun t8 => some t8
set_option maxRecDepth 20000 in
theorem ref03_May.ok {a0 : List Int} {r : Bool} (l_a0 : a0.length = 32) (h : ref03_May.f a0 = some r) (w : World) : Calls Try.prog 17 #[.agg (enc .u8 a0)] w (Post (fun u => u = .bool r) w) := by
  unfold ref03_May.f at h
  refine calls_of_TT (N := 7) (S := [(0, .agg (enc .u8 a0))]) (c := B17) Try.func17 rfl rfl rfl (by simp) ?_
  show TT _ _ _ _ _ _ [.code (sub [] B17)] _ _
  refine TT.seq (x := sub [0] B17) (y := sub [1] B17) ?_
  refine TT.region (id := 0) (n := 2) (ops := (opsOf (sub [0] B17))) [(.alloc, none), (.pure, none)] rfl ?_
  show DL _ _ _ _ _ _ _ _ _ _ [0, 1] _ _
  refine DL.new (ob := .cells (enc .u8 a0) 23) (mk := fun b => ptr b 0) (i := 0) rfl (Wn.none rfl) rfl rfl rfl (f_box (v := .agg (enc .u8 a0)) rfl rfl) ?_
  intro b1 hb1
  refine DL.pu 2 (.bool false) rfl (p_assign rfl rfl) ?_
  refine DL.nil ?_
  refine TT.seq (x := sub [1, 0] B17) (y := sub [1, 1] B17) ?_
  refine TT.region (id := 1) (n := 5) (ops := (opsOf (sub [1, 0] B17))) [(.quiet, none), (.quiet, none), (.quiet, none), (.quiet, none), (.pure, none)] rfl ?_
  show DL _ _ _ _ _ _ _ _ _ _ [0, 1, 2, 3, 4] _ _
  refine DL.qu 3 (.agg (enc .u8 a0)) rfl (f_loadA (j := 0) ty_a23 ty_s23 rfl (enc_sz l_a0) rfl rfl) ?_
  obtain ⟨t2, h3, h4⟩ := bind_some h
  have l_t2 := ref02_Of.len l_a0 h3
  refine DL.qu 4 (.agg (enc .u64 t2)) rfl (f_call rfl rfl (args_val (vs := [.agg (enc .u8 a0)]) rfl) (fun w => enter30 _ w) (fun w => ref02_Of.val l_a0 h3 w)) ?_
  obtain ⟨t5, h6, h7⟩ := bind_some h4
  have l_t5 := ref03_Order.len h6
  refine DL.qu 5 (.agg (enc .u64 t5)) rfl (f_call rfl rfl (args_val (vs := []) rfl) (fun w => enter29 _ w) (fun w => ref03_Order.val h6 w)) ?_
  obtain ⟨t8, h9, h10⟩ := bind_some h7
  refine DL.qu 6 (.bool t8) rfl (f_call rfl rfl (args_val (vs := [.agg (enc .u64 t2), .agg (enc .u64 t5)]) rfl) (fun w => enter33 _ w) (fun w => ref02_Less.val l_t2 l_t5 h9 w)) ?_
  refine DL.pu 2 (.bool t8) rfl (p_assign rfl rfl) ?_
  refine DL.nil ?_
  obtain rfl := Option.some.inj h10
  exact ret1 Try.func17 rfl (ResV.tmp rfl) rfl
theorem ref03_May.val {a0 : List Int} {r : Bool} (l_a0 : a0.length = 32) (h : ref03_May.f a0 = some r) (w : World) : Calls Try.prog 17 #[.agg (enc .u8 a0)] w fun e w' => e = .returned (.bool r) ∧ Below w.heap.size w w' :=
  calls_value (ref03_May.ok l_a0 h w)

/-! ### escutcheon/escutcheonlaw03.known: function 10 -/
noncomputable def B10 : Code := bodyOf Try.f10
def law03_known.f : Option (Bool) := (scalar_MulAdd.f (2 :: List.replicate 31 0) (3 :: List.replicate 31 0) (4 :: List.replicate 31 0)).bind fun t1 => (if (t1 == (10 :: List.replicate 31 0)) = true then ((scalar_Neg.f (1 :: List.replicate 31 0)).bind fun t10 => some ((t10.getD (0 : Int).toNat 0) == 236)) else (some false)).bind fun q4 => (if q4 = true then ((scalar_Order.f).bind fun t20 => (ref03_Order.f).bind fun t23 => (ref02_Bytes.f t23).bind fun t26 => some (t20 == t26)) else (some false)).bind fun q14 => some q14
set_option maxRecDepth 20000 in
theorem law03_known.ok {r : Bool} (h : law03_known.f = some r) (w : World) : Calls Try.prog 10 #[] w (Post (fun u => u = .bool r) w) := by
  unfold law03_known.f at h
  refine calls_of_TT (N := 19) (S := []) (c := B10) Try.func10 rfl rfl rfl (by simp) ?_
  show TT _ _ _ _ _ _ [.code (sub [] B10)] _ _
  refine TT.seq (x := sub [0] B10) (y := sub [1] B10) ?_
  refine TT.region (id := 0) (n := 1) (ops := (opsOf (sub [0] B10))) [(.pure, none)] rfl ?_
  show DL _ _ _ _ _ _ _ _ _ _ [0] _ _
  refine DL.pu 0 (.bool false) rfl (p_assign rfl rfl) ?_
  refine DL.nil ?_
  refine TT.seq (x := sub [1, 0] B10) (y := sub [1, 1] B10) ?_
  refine TT.region (id := 1) (n := 19) (ops := (opsOf (sub [1, 0] B10))) [(.pure, none), (.pure, none), (.pure, none), (.quiet, none), (.pure, none), (.pure, none), (.pure, none), (.pure, none), (.quiet, none), (.pure, none), (.pure, none), (.pure, none), (.pure, none), (.quiet, none), (.quiet, none), (.quiet, none), (.pure, none), (.pure, none), (.pure, none)] rfl ?_
  show DL _ _ _ _ _ _ _ _ _ _ [0, 1, 2, 3, 4, 5, 6, 7, 8, 9, 10, 11, 12, 13, 14, 15, 16, 17, 18] _ _
  refine DL.pu 1 (.agg (enc .u8 (2 :: List.replicate 31 0))) rfl (p_build (vs := [(0, .int .u8 2)]) (fun w => by kernel_rfl) rfl rfl) ?_
  refine DL.pu 2 (.agg (enc .u8 (3 :: List.replicate 31 0))) rfl (p_build (vs := [(0, .int .u8 3)]) (fun w => by kernel_rfl) rfl rfl) ?_
  refine DL.pu 3 (.agg (enc .u8 (4 :: List.replicate 31 0))) rfl (p_build (vs := [(0, .int .u8 4)]) (fun w => by kernel_rfl) rfl rfl) ?_
  obtain ⟨t1, h2, h3⟩ := bind_some h
  have l_t1 := scalar_MulAdd.len (by simp) (by simp) (by simp) h2
  refine DL.qu 4 (.agg (enc .u8 t1)) rfl (f_call rfl rfl (args_val (vs := [.agg (enc .u8 (2 :: List.replicate 31 0)), .agg (enc .u8 (3 :: List.replicate 31 0)), .agg (enc .u8 (4 :: List.replicate 31 0))]) rfl) (fun w => enter8 _ w) (fun w => scalar_MulAdd.val (by simp) (by simp) (by simp) h2 w)) ?_
  refine DL.pu 5 (.agg (enc .u8 (10 :: List.replicate 31 0))) rfl (p_build (vs := [(0, .int .u8 10)]) (fun w => by kernel_rfl) rfl rfl) ?_
  refine DL.pu 6 (.bool (t1 == (10 :: List.replicate 31 0))) rfl (p_eqAgg ty_g23 (fun w => run_eqRow (d := 9998) ty_ue23 ty_s5 ty_a5 ty_ue5 l_t1 (by simp) w) rfl rfl rfl) ?_
  refine DL.pu 7 (.bool (t1 == (10 :: List.replicate 31 0))) rfl (p_move rfl rfl) ?_
  obtain ⟨q4, h5, h6⟩ := bind_some h3
  refine DL.cut [(12, .bool q4)] [12, 13, 14, 15, 16, 17, 18] ?_ (fun J7 => ?_)
  · refine DL.pu 13 (.bool q4) rfl (p_move rfl rfl) ?_
    obtain ⟨q14, h15, h16⟩ := bind_some h6
    refine DL.cut [(18, .bool q14)] [18] ?_ (fun J17 => ?_)
    · refine DL.pu 0 (.bool q14) rfl (p_assign rfl rfl) ?_
      refine DL.nil ?_
      obtain rfl := Option.some.inj h16
      exact ret1 Try.func10 rfl (ResV.tmp rfl) rfl
    · by_cases c18 : q4 = true
      · have h19 := ite_true c18 h15
        obtain ⟨t20, h21, h22⟩ := bind_some h19
        have l_t20 := scalar_Order.len h21
        refine DL.quiet (v := .agg (enc .u8 t20)) rfl (Wn.yes c18 rfl rfl rfl rfl) rfl rfl rfl (f_call rfl rfl (args_val (vs := []) rfl) (fun w => enter12 _ w) (fun w => scalar_Order.val h21 w)) ?_
        obtain ⟨t23, h24, h25⟩ := bind_some h22
        have l_t23 := ref03_Order.len h24
        refine DL.quiet (v := .agg (enc .u64 t23)) rfl (Wn.yes c18 rfl rfl rfl rfl) rfl rfl rfl (f_call rfl rfl (args_val (vs := []) rfl) (fun w => enter29 _ w) (fun w => ref03_Order.val h24 w)) ?_
        obtain ⟨t26, h27, h28⟩ := bind_some h25
        have l_t26 := ref02_Bytes.len l_t23 h27
        refine DL.quiet (v := .agg (enc .u8 t26)) rfl (Wn.yes c18 rfl rfl rfl rfl) rfl rfl rfl (f_call rfl rfl (args_val (vs := [.agg (enc .u64 t23)]) rfl) (fun w => enter28 _ w) (fun w => ref02_Bytes.val l_t23 h27 w)) ?_
        refine DL.pure (v := .bool (t20 == t26)) rfl (Wn.yes c18 rfl rfl rfl rfl) rfl rfl rfl (p_eqAgg ty_g23 (fun w => run_eqRow (d := 9998) ty_ue23 ty_s5 ty_a5 ty_ue5 l_t20 l_t26 w) rfl rfl rfl) ?_
        refine DL.pu 18 (.bool (t20 == t26)) rfl (p_pick_t c18 rfl rfl rfl) ?_
        obtain rfl := Option.some.inj h28
        exact DL.weak J17 (Sub.cons rfl (Sub.nil _))
      · replace c18 := Bool.eq_false_iff.mpr c18
        have h29 := ite_false c18 h15
        refine DL.not (i := 13) rfl (Wn.no c18 rfl rfl rfl rfl) rfl rfl ?_
        refine DL.not (i := 14) rfl (Wn.no c18 rfl rfl rfl rfl) rfl rfl ?_
        refine DL.not (i := 15) rfl (Wn.no c18 rfl rfl rfl rfl) rfl rfl ?_
        refine DL.not (i := 16) rfl (Wn.no c18 rfl rfl rfl rfl) rfl rfl ?_
        refine DL.pu 18 (.bool false) rfl (p_pick_f c18 rfl rfl rfl) ?_
        obtain rfl := Option.some.inj h29
        exact DL.weak J17 (Sub.cons rfl (Sub.nil _))
  · by_cases c8 : (t1 == (10 :: List.replicate 31 0)) = true
    · have h9 := ite_true c8 h5
      refine DL.pure (v := .agg (enc .u8 (1 :: List.replicate 31 0))) rfl (Wn.yes c8 rfl rfl rfl rfl) rfl rfl rfl (p_build (vs := [(0, .int .u8 1)]) (fun w => by kernel_rfl) rfl rfl) ?_
      obtain ⟨t10, h11, h12⟩ := bind_some h9
      have l_t10 := scalar_Neg.len (by simp) h11
      refine DL.quiet (v := .agg (enc .u8 t10)) rfl (Wn.yes c8 rfl rfl rfl rfl) rfl rfl rfl (f_call rfl rfl (args_val (vs := [.agg (enc .u8 (1 :: List.replicate 31 0))]) rfl) (fun w => enter9 _ w) (fun w => scalar_Neg.val (by simp) h11 w)) ?_
      refine DL.pure (v := .int .u8 (t10.getD (0 : Int).toNat 0)) rfl (Wn.yes c8 rfl rfl rfl rfl) rfl rfl rfl (p_index ty_u23 ty_s5 ty_a5 (by decide) (by decide) (enc_at l_t10 (by decide) (by decide)) rfl rfl rfl) ?_
      refine DL.pure (v := .bool ((t10.getD (0 : Int).toNat 0) == 236)) rfl (Wn.yes c8 rfl rfl rfl rfl) rfl rfl rfl (p_eql rfl rfl rfl) ?_
      refine DL.pu 12 (.bool ((t10.getD (0 : Int).toNat 0) == 236)) rfl (p_pick_t c8 rfl rfl rfl) ?_
      obtain rfl := Option.some.inj h12
      exact DL.weak J7 (Sub.cons rfl (Sub.nil _))
    · replace c8 := Bool.eq_false_iff.mpr c8
      have h13 := ite_false c8 h5
      refine DL.not (i := 7) rfl (Wn.no c8 rfl rfl rfl rfl) rfl rfl ?_
      refine DL.not (i := 8) rfl (Wn.no c8 rfl rfl rfl rfl) rfl rfl ?_
      refine DL.not (i := 9) rfl (Wn.no c8 rfl rfl rfl rfl) rfl rfl ?_
      refine DL.not (i := 10) rfl (Wn.no c8 rfl rfl rfl rfl) rfl rfl ?_
      refine DL.pu 12 (.bool false) rfl (p_pick_f c8 rfl rfl rfl) ?_
      obtain rfl := Option.some.inj h13
      exact DL.weak J7 (Sub.cons rfl (Sub.nil _))
theorem law03_known.val {r : Bool} (h : law03_known.f = some r) (w : World) : Calls Try.prog 10 #[] w fun e w' => e = .returned (.bool r) ∧ Below w.heap.size w w' :=
  calls_value (law03_known.ok h w)

end Go.Proofs.Ytillmeddkdcenaa
