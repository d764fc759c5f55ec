import Derived.Test.YtjomnicfcdkfdaaDkM10
namespace Go.Proofs.Ytjomnicfcdkfdaa
open Go Go.HW Go.RowKit
set_option linter.unusedVariables false
set_option linter.unusedSimpArgs false

noncomputable def B35 : Code := bodyOf Try.f35
theorem en35 (args : Array Value) (w : World) : (callFunc 35 args).run Try.prog w = .ok (.enter 35 args) w := by kernel_rfl
noncomputable def B18 : Code := bodyOf Try.f18
theorem en18 (args : Array Value) (w : World) : (callFunc 18 args).run Try.prog w = .ok (.enter 18 args) w := by kernel_rfl
theorem us32 : Try.prog.underlying 32 = some (.slice 5) := by kernel_rfl
theorem sz5 : (Try.prog.info? 5).map (·.size) = some 1 := by kernel_rfl
/-- a part of a write's bytes over a block's first ones -/
theorem f_copyPart {o : Oper} {S : Slots} {w0 : World} {I : Mem} {H : Heap} {x y : Operand} {b10 b6 i j n c1 c2 : Nat} {xs : List Int} {u : Wr} (hn : n ≤ 512) (hxs : xs.length = 512) (hu2 : u.2.length = 512) (hH : H[i]? = some (some b10, .cells (enc .u8 xs) 62 (0, 0))) (hH2 : H[j]? = some (some b6, .cells (wrc u) 64 (0, 0)))
    (ho : o.op = .call { callee := .builtin .copy, args := #[x, y], argTypes := #[32, 32] }) (hx : ev S x = some (.slice (some ⟨b10, 0, none⟩) n c1)) (hy : ev S y = some (.slice (some ⟨b6, 1, none⟩) n c2)) :
    FAct Try.prog o w0 I S H Unit (fun _ => .int .i64 (n : Int)) (fun _ => H.set i (some b10, .cells (enc .u8 (u.2.take n ++ xs.drop n)) 62 (0, 0))) := fun ρ hρ w hc => by
  obtain ⟨cc, hrun⟩ := run_builtin (P := Try.prog) (ρ := ρ) (vs := #[.slice (some ⟨b10, 0, none⟩) n c1, .slice (some ⟨b6, 1, none⟩) n c2]) ho (by simp [hρ _ _ hx, hρ _ _ hy]) w
  have hb := hc.own b10 _ (List.mem_of_getElem? hH)
  have hb6 := hc.own b6 _ (List.mem_of_getElem? hH2)
  have hl : (encl .u8 (u.2.take n)).length = n := by rw [encl_len, List.length_take]; omega
  have hcopy := run_copy_row (P := Try.prog) w 32 32 o.type 5 b10 0 n c1 ⟨b6, 1, none⟩ n c2 (enc .u8 xs) 62 (encl .u8 (u.2.take n)) us32 sz5 hb (by rw [hl]; exact (Nat.min_self n).symm) (fun q z hq => by
    rw [HW.add_none, cell_of (show w.heap[b6]? = _ from hb6)]
    have hqn : q < n := by
      have := (List.getElem?_eq_some_iff.1 hq).1
      omega
    have e : (encl .u8 (u.2.take n))[q]? = some (.int .u8 (u.2.getD q 0)) := by
      unfold encl
      rw [List.getElem?_map, List.getElem?_take_of_lt hqn]
      have : q < u.2.length := by omega
      simp [List.getElem?_eq_getElem this]
    rw [e] at hq; cases hq
    exact wrc_S (by omega)) (by rw [hl, enc_size]; omega) (encl_one .u8 _)
  have earr : ((enc .u8 xs).toList.take 0 ++ encl .u8 (u.2.take n) ++ (enc .u8 xs).toList.drop (0 + (encl .u8 (u.2.take n)).length)).toArray = enc .u8 (u.2.take n ++ xs.drop n) := by
    rw [hl]
    simp [encl, enc, List.map_drop]
  rw [earr, hl] at hcopy
  refine .inl ⟨(), w.setRow b10 (enc .u8 (u.2.take n ++ xs.drop n)), ?_, ?_⟩
  · rw [hrun]
    exact val_run hcopy
  · exact hc.setObj hH rfl rfl rfl (by simp) (setRow_heap w b10 (enc .u8 xs) _ 62 _ hb) (fun d hd => setRow_other w b10 d _ hd)

theorem p_slAH {P : Program} {o : Oper} {S : Slots} {t e n b off : Nat} {x y : Operand} {k : IntKind} {h : Int} (hu : ∀ w, (underlying t).run P w = .ok (.array n e) w) (hs : ∀ w, (sizeOf e).run P w = .ok 1 w) (h0 : 0 ≤ h) (h1 : h ≤ n) (hn : 0 < n) (ho : o.op = .slice t x none (some y) none) (hx : ev S x = some (ptr b off)) (hy : ev S y = some (.int k h)) : FPure P o S (.slice (some ⟨b, off, none⟩) h.toNat n) := fun ρ hρ w => by
  simp only [execOp, ho, hρ _ _ hx, Option.map_none, Option.map_some, hρ _ _ hy]
  refine val_run ?_
  unfold Instr.sliceAt
  refine (run_of_bind (hu w)).trans ?_
  refine (run_of_bind (a := ⟨b, off, none⟩) (w' := w) rfl).trans ?_
  refine (run_of_bind (run_bounds (l := 0) (h := h.toNat) none (some (.int k h)) (.inr ⟨k, by rw [Int.toNat_of_nonneg h0]⟩) (.inl ⟨rfl, rfl⟩) (by omega) (Nat.zero_le _))).trans ?_
  refine (run_of_bind (hs w)).trans ?_
  rw [if_neg (by omega)]
  simp [Addr.add]
def floorK (p : Int) : Int := if p.tmod 3 < 0 then IntKind.i64.wrap (IntKind.i64.wrap (p.tdiv 3) - 1) else IntKind.i64.wrap (p.tdiv 3)
def howK (p : Int) : Int := (IntKind.i64.wrap (p.tmod 3 + 3)).tmod 3
def tearK (p : Int) (last : Bool) : Int := if howK p = 2 ∧ last = true then (if (floorK p).tmod 513 < 0 then IntKind.i64.wrap ((floorK p).tmod 513 + 513) else (floorK p).tmod 513) else 512
theorem tear_lt (p : Int) (last : Bool) : 0 ≤ tearK p last ∧ tearK p last ≤ 512 := by
  unfold tearK
  split
  · split
    · rename_i h
      have h1 := Int.tmod_lt_of_pos (floorK p) (show (0 : Int) < 513 by decide)
      have h2 : -513 < (floorK p).tmod 513 := by
        have := Int.lt_tmod_of_pos (floorK p) (show (0 : Int) < 513 by decide); omega
      rw [w64 (by omega) (by omega)]; omega
    · rename_i h
      have h1 := Int.tmod_lt_of_pos (floorK p) (show (0 : Int) < 513 by decide)
      omega
  · omega
def crK (s : Dk) (picks : List Int) : Nat → List Wr
  | 0 => s.set
  | k + 1 => match s.late[k]? with
    | none => crK s picks k
    | some w => if howK (picks.getD k 0) = 0 then crK s picks k else mput (crK s picks k) w.1 (w.2.take (tearK (picks.getD k 0) (decide (k + 1 = s.late.length))).toNat ++ (mget (crK s picks k) w.1).drop (tearK (picks.getD k 0) (decide (k + 1 = s.late.length))).toNat)
theorem crK_skip {s : Dk} {picks : List Int} {k : Nat} {y : Wr} (hy : s.late[k]? = some y) (h : howK (picks.getD k 0) = 0) : crK s picks (k + 1) = crK s picks k := by simp only [crK, hy]; rw [if_pos h]
theorem crK_put {s : Dk} {picks : List Int} {k : Nat} {y : Wr} (hy : s.late[k]? = some y) (h : ¬ howK (picks.getD k 0) = 0) : crK s picks (k + 1) = mput (crK s picks k) y.1 (y.2.take (tearK (picks.getD k 0) (decide (k + 1 = s.late.length))).toNat ++ (mget (crK s picks k) y.1).drop (tearK (picks.getD k 0) (decide (k + 1 = s.late.length))).toNat) := by simp only [crK, hy]; rw [if_neg h]
theorem crK_full {s : Dk} {picks : List Int} (hs : Full s.set) (hl : Full s.late) : ∀ k, Full (crK s picks k)
  | 0 => hs
  | k + 1 => by
    have ih := crK_full (picks := picks) hs hl k
    cases hy : s.late[k]? with
    | none => simp only [crK, hy]; exact ih
    | some y =>
      by_cases h : howK (picks.getD k 0) = 0
      · rw [crK_skip hy h]; exact ih
      · rw [crK_put hy h]
        have ht := tear_lt (picks.getD k 0) (decide (k + 1 = s.late.length))
        have h2 : y.2.length = 512 := hl y (List.mem_of_getElem? hy)
        have h3 := mget_len ih y.1
        exact mput_full ih (by rw [List.length_append, List.length_take, List.length_drop, h2, h3]; omega)

theorem floor_1 (w : World) (p : Int) (h : p.tmod 3 < 0) : Calls Try.prog 35 #[.int .i64 p, .int .i64 3] w fun e w' => e = .returned (.int .i64 (IntKind.i64.wrap (IntKind.i64.wrap (p.tdiv 3) - 1))) ∧ Below w.heap.size w w' := by
  refine calls_of_CW (N := 16) Try.func35 (show _ = some B35 by kernel_rfl) (by kernel_rfl) rfl (S := [(0, .int .i64 p), (1, .int .i64 3)]) (by simp) (clsStart w) ?_
  show CW _ _ _ (sub [] B35) _ _ _
  refine C.seq (x := sub [0] B35) (y := sub [1] B35) ?_
  refine C.region (id := 0) (m := 1) (ops := opsOf (sub [0] B35)) rfl ?_
  refine W.pure rfl (wo rfl) rfl rfl (p_assign rfl rfl) (nf rfl) ?_
  refine W.doneQ (y := sub [1] B35) rfl ?_
  refine C.seq (x := sub [1, 0] B35) (y := sub [1, 1] B35) ?_
  refine C.region (id := 1) (m := 4) (ops := opsOf (sub [1, 0] B35)) rfl ?_
  refine W.pure rfl (wo rfl) rfl rfl (p_move rfl rfl) (nf rfl) ?_
  refine W.pure rfl (wo rfl) rfl rfl (p_move rfl rfl) (nf rfl) ?_
  refine W.pure rfl (wo rfl) rfl rfl (p_quo (by decide) rfl rfl rfl) (nf rfl) ?_
  refine W.pure rfl (wo rfl) rfl rfl (p_assign rfl rfl) (nf rfl) ?_
  refine W.doneQ (y := sub [1, 1] B35) rfl ?_
  refine C.seq (x := sub [1, 1, 0] B35) (y := sub [1, 1, 1] B35) ?_
  refine C.seq (x := sub [1, 1, 0, 0] B35) (y := sub [1, 1, 0, 1] B35) ?_
  refine C.region (id := 2) (m := 4) (ops := opsOf (sub [1, 1, 0, 0] B35)) rfl ?_
  refine W.pure rfl (wo rfl) rfl rfl (p_move rfl rfl) (nf rfl) ?_
  refine W.pure rfl (wo rfl) rfl rfl (p_move rfl rfl) (nf rfl) ?_
  refine W.pure rfl (wo rfl) rfl rfl (p_rem (by decide) rfl rfl rfl) (nf rfl) ?_
  refine W.pure rfl (wo rfl) rfl rfl (pT (decide_eq_true h) (p_lss rfl rfl rfl)) (nf rfl) ?_
  refine W.doneQ (y := sub [1, 1, 0, 1] B35) rfl ?_
  refine C.cond_true (x := sub [1, 1, 0, 1, 0] B35) (y := sub [1, 1, 0, 1, 1] B35) rfl rfl ?_
  refine C.region (id := 3) (m := 3) (ops := opsOf (sub [1, 1, 0, 1, 0] B35)) rfl ?_
  refine W.pure rfl (wo rfl) rfl rfl (p_move rfl rfl) (nf rfl) ?_
  refine W.pure rfl (wo rfl) rfl rfl (p_sub rfl rfl rfl) (nf rfl) ?_
  refine W.pure rfl (wo rfl) rfl rfl (p_assign rfl rfl) (nf rfl) ?_
  refine W.doneQ (y := sub [1, 1, 1] B35) rfl ?_
  refine C.seq (x := sub [1, 1, 1, 0] B35) (y := sub [1, 1, 1, 1] B35) ?_
  refine C.region (id := 4) (m := 2) (ops := opsOf (sub [1, 1, 1, 0] B35)) rfl ?_
  refine W.pure rfl (wo rfl) rfl rfl (p_move rfl rfl) (nf rfl) ?_
  refine W.pure rfl (wo rfl) rfl rfl (p_assign rfl rfl) (nf rfl) ?_
  refine W.doneQ (y := sub [1, 1, 1, 1] B35) rfl ?_
  exact C.ret (rs := [.tmp 4]) (vs := [.int .i64 (IntKind.i64.wrap (IntKind.i64.wrap (p.tdiv 3) - 1))]) rfl Try.func35 rfl rfl rfl (res_cons (ResV.tmp rfl) res_nil) fun w1 hc1 => ⟨rfl, hc1.toBelow⟩

theorem floor_2 (w : World) (p : Int) (h : ¬ p.tmod 3 < 0) : Calls Try.prog 35 #[.int .i64 p, .int .i64 3] w fun e w' => e = .returned (.int .i64 (IntKind.i64.wrap (p.tdiv 3))) ∧ Below w.heap.size w w' := by
  refine calls_of_CW (N := 16) Try.func35 (show _ = some B35 by kernel_rfl) (by kernel_rfl) rfl (S := [(0, .int .i64 p), (1, .int .i64 3)]) (by simp) (clsStart w) ?_
  show CW _ _ _ (sub [] B35) _ _ _
  refine C.seq (x := sub [0] B35) (y := sub [1] B35) ?_
  refine C.region (id := 0) (m := 1) (ops := opsOf (sub [0] B35)) rfl ?_
  refine W.pure rfl (wo rfl) rfl rfl (p_assign rfl rfl) (nf rfl) ?_
  refine W.doneQ (y := sub [1] B35) rfl ?_
  refine C.seq (x := sub [1, 0] B35) (y := sub [1, 1] B35) ?_
  refine C.region (id := 1) (m := 4) (ops := opsOf (sub [1, 0] B35)) rfl ?_
  refine W.pure rfl (wo rfl) rfl rfl (p_move rfl rfl) (nf rfl) ?_
  refine W.pure rfl (wo rfl) rfl rfl (p_move rfl rfl) (nf rfl) ?_
  refine W.pure rfl (wo rfl) rfl rfl (p_quo (by decide) rfl rfl rfl) (nf rfl) ?_
  refine W.pure rfl (wo rfl) rfl rfl (p_assign rfl rfl) (nf rfl) ?_
  refine W.doneQ (y := sub [1, 1] B35) rfl ?_
  refine C.seq (x := sub [1, 1, 0] B35) (y := sub [1, 1, 1] B35) ?_
  refine C.seq (x := sub [1, 1, 0, 0] B35) (y := sub [1, 1, 0, 1] B35) ?_
  refine C.region (id := 2) (m := 4) (ops := opsOf (sub [1, 1, 0, 0] B35)) rfl ?_
  refine W.pure rfl (wo rfl) rfl rfl (p_move rfl rfl) (nf rfl) ?_
  refine W.pure rfl (wo rfl) rfl rfl (p_move rfl rfl) (nf rfl) ?_
  refine W.pure rfl (wo rfl) rfl rfl (p_rem (by decide) rfl rfl rfl) (nf rfl) ?_
  refine W.pure rfl (wo rfl) rfl rfl (pF (decide_eq_false h) (p_lss rfl rfl rfl)) (nf rfl) ?_
  refine W.doneQ (y := sub [1, 1, 0, 1] B35) rfl ?_
  refine C.cond_false (x := sub [1, 1, 0, 1, 0] B35) (y := sub [1, 1, 0, 1, 1] B35) rfl rfl ?_
  refine C.skipQ (y := sub [1, 1, 1] B35) rfl ?_
  refine C.seq (x := sub [1, 1, 1, 0] B35) (y := sub [1, 1, 1, 1] B35) ?_
  refine C.region (id := 4) (m := 2) (ops := opsOf (sub [1, 1, 1, 0] B35)) rfl ?_
  refine W.pure rfl (wo rfl) rfl rfl (p_move rfl rfl) (nf rfl) ?_
  refine W.pure rfl (wo rfl) rfl rfl (p_assign rfl rfl) (nf rfl) ?_
  refine W.doneQ (y := sub [1, 1, 1, 1] B35) rfl ?_
  exact C.ret (rs := [.tmp 4]) (vs := [.int .i64 (IntKind.i64.wrap (p.tdiv 3))]) rfl Try.func35 rfl rfl rfl (res_cons (ResV.tmp rfl) res_nil) fun w1 hc1 => ⟨rfl, hc1.toBelow⟩

theorem floor_ok (w : World) (p : Int) : Calls Try.prog 35 #[.int .i64 p, .int .i64 3] w fun e w' => e = .returned (.int .i64 (floorK p)) ∧ Below w.heap.size w w' := by
  unfold floorK
  by_cases h : p.tmod 3 < 0
  · rw [if_pos h]; exact floor_1 w p h
  · rw [if_neg h]; exact floor_2 w p h

end Go.Proofs.Ytjomnicfcdkfdaa
