import Derived.Test.YtjomnicfcdkfdaaDkM7
namespace Go.Proofs.Ytjomnicfcdkfdaa
open Go Go.HW Go.RowKit
set_option linter.unusedVariables false
set_option linter.unusedSimpArgs false

noncomputable def B19 : Code := bodyOf Try.f19
theorem en19 (args : Array Value) (w : World) : (callFunc 19 args).run Try.prog w = .ok (.enter 19 args) w := by kernel_rfl
noncomputable def B20 : Code := bodyOf Try.f20
theorem en20 (args : Array Value) (w : World) : (callFunc 20 args).run Try.prog w = .ok (.enter 20 args) w := by kernel_rfl
theorem en38 (args : Array Value) (w : World) : (callFunc 38 args).run Try.prog w = .ok (.enter 38 args) w := by kernel_rfl

theorem lfind_len : ∀ {l : List Wr} {n : Int} {b : List Int}, (∀ p ∈ l, p.2.length = 512) → lfind l n = some b → b.length = 512
  | [], _, _, _, h => by cases h
  | (a, c) :: r, n, b, hl, h => by
    unfold lfind at h
    split at h
    · cases h; exact hl (a, c) (by simp)
    · exact lfind_len (fun p hp => hl p (by simp [hp])) h
theorem rd_len {s : Dk} (hs : Full s.set) (hl : Full s.late) (n : Int) : (rd s n).length = 512 := by
  unfold rd
  cases h : lfind s.late.reverse n with
  | none => exact mget_len hs n
  | some b => exact lfind_len (fun p hp => hl p (by simpa using hp)) h
theorem DkM.late {M : Mem} {b m : Nat} {v : Value} {s : Dk} (h : DkM M b m v s) : Full s.late := fun p hp => by
  obtain ⟨cs, _, h2⟩ := h.hr
  obtain ⟨i, hi, rfl⟩ := List.getElem_of_mem hp
  exact (h2 i _ (List.getElem?_eq_getElem hi)).2
theorem p_slA {P : Program} {o : Oper} {S : Slots} {t e n b sz : Nat} {x : Operand} (hu : ∀ w, (underlying t).run P w = .ok (.array n e) w) (hs : ∀ w, (sizeOf e).run P w = .ok sz w) (ho : o.op = .slice t x none none none) (hx : ev S x = some (ptr b 0)) (hn : 0 < n) : FPure P o S (.slice (some ⟨b, 0, none⟩) n n) := fun ρ hρ w => by
  simp only [execOp, ho, hρ _ _ hx, Option.map_none]
  refine val_run ?_
  unfold Instr.sliceAt
  refine (run_of_bind (hu w)).trans ?_
  refine (run_of_bind (a := ⟨b, 0, none⟩) (w' := w) rfl).trans ?_
  refine (run_of_bind (a := (0, n, n)) (w' := w) rfl).trans ?_
  refine (run_of_bind (hs w)).trans ?_
  rw [if_neg (by omega)]
  simp [Addr.add]
theorem ts5 (w : World) : (sizeOf 5).run Try.prog w = .ok 1 w := by kernel_rfl

theorem own_arr {xs : List Int} {b : Nat} (h : xs.length = 512) : IntOwn .u8 (.slice (some ⟨b, 0, none⟩) 512 512) (enc .u8 xs) xs := by
  unfold IntOwn
  rw [h]
  exact OwnV.fresh (Nat.le_refl _) (by simp [maxLen]) (by rw [enc_size, h]) (by rw [List.take_of_length_le]; rfl; simp [enc, h]) (by simp [encl, h])

theorem readm_ok {w0 w : World} {I : Mem} {H : Heap} (hc : Cls w0 I H w) {b m : Nat} {v : Value} {s : Dk} (hd : ∀ w, Cls w0 I H w → DkM (heapOf w) b m v s) (hl0 : s.late.length ≤ 1099511627776) (n : Int) (h : hasD s n = true) : Calls Try.prog 20 #[ptr b 0, .int .i64 n] w (fun e w' => ∃ v2 cur2, e = .returned (.tuple #[v2, .int .i64 0]) ∧ IntOwn .u8 v2 cur2 (rd s n) ∧ Cls w0 I ((v2.ownBlock, .cells cur2 62 (0, 0)) :: H) w') := by
  have hrl : (rd s n).length = 512 := rd_len (hd w hc).hs (hd w hc).late n
  refine calls_of_CW (N := 20) Try.func20 (show _ = some B20 by kernel_rfl) (by kernel_rfl) rfl (S := [(0, ptr b 0), (1, .int .i64 n)]) (by simp) hc ?_
  show CW _ _ _ (sub [] B20) _ _ _
  refine C.seq (x := sub [0] B20) (y := sub [1] B20) ?_
  refine C.region (id := 0) (m := 2) (ops := opsOf (sub [0] B20)) rfl ?_
  refine W.pure rfl (wo rfl) rfl rfl (p_assign rfl rfl) (nf rfl) ?_
  refine W.pure rfl (wo rfl) rfl rfl (p_assign rfl rfl) (nf rfl) ?_
  refine W.doneQ (y := sub [1] B20) rfl ?_
  refine C.seq (x := sub [1, 0] B20) (y := sub [1, 1] B20) ?_
  refine C.block (id := 0) (c := sub [1, 0, 0] B20) ?_
  refine C.seq (x := sub [1, 0, 0, 0] B20) (y := sub [1, 0, 0, 1] B20) ?_
  refine C.region (id := 1) (m := 4) (ops := opsOf (sub [1, 0, 0, 0] B20)) rfl ?_
  refine W.pure rfl (wo rfl) rfl rfl (p_move rfl rfl) (nf rfl) ?_
  refine W.quiet rfl (wo rfl) rfl rfl (f_callR rfl rfl (args_val (vs := [ptr b 0]) rfl) (en32 _) (fun w2 hc2 => there_ok (M := heapOf w2) (fun _ _ e => e) (hd w2 hc2))) (nf rfl) ?_
  refine W.pure rfl (wo rfl) rfl rfl (p_not rfl rfl) (nf rfl) ?_
  refine W.pure rfl (wo rfl) rfl rfl (p_assign rfl rfl) (nf rfl) ?_
  refine W.doneQ (y := sub [1, 0, 0, 1] B20) rfl ?_
  refine C.cond_false (x := sub [1, 0, 0, 1, 0] B20) (y := sub [1, 0, 0, 1, 1] B20) rfl rfl ?_
  refine C.seq (x := sub [1, 0, 0, 1, 1, 0] B20) (y := sub [1, 0, 0, 1, 1, 1] B20) ?_
  refine C.region (id := 3) (m := 5) (ops := opsOf (sub [1, 0, 0, 1, 1, 0] B20)) rfl ?_
  refine W.pure rfl (wo rfl) rfl rfl (p_move rfl rfl) (nf rfl) ?_
  refine W.pure rfl (wo rfl) rfl rfl (p_move rfl rfl) (nf rfl) ?_
  refine W.quiet rfl (wo rfl) rfl rfl (qT (h) (f_callR rfl rfl (args_val (vs := [ptr b 0, .int .i64 n]) rfl) (en34 _) (fun w2 hc2 => has_ok (M := heapOf w2) (fun _ _ e => e) (hd w2 hc2) n))) (nf rfl) ?_
  refine W.pure rfl (wo rfl) rfl rfl (p_not rfl rfl) (nf rfl) ?_
  refine W.pure rfl (wo rfl) rfl rfl (p_assign rfl rfl) (nf rfl) ?_
  refine W.doneQ (y := sub [1, 0, 0, 1, 1, 1] B20) rfl ?_
  refine C.cond_false (x := sub [1, 0, 0, 1, 1, 1, 0] B20) (y := sub [1, 0, 0, 1, 1, 1, 1] B20) rfl rfl ?_
  refine C.skipQ (y := sub [1, 1] B20) rfl ?_
  refine C.seq (x := sub [1, 1, 0] B20) (y := sub [1, 1, 1] B20) ?_
  refine C.region (id := 5) (m := 5) (ops := opsOf (sub [1, 1, 0] B20)) rfl ?_
  refine W.pure rfl (wo rfl) rfl rfl (p_move rfl rfl) (nf rfl) ?_
  refine W.pure rfl (wo rfl) rfl rfl (p_move rfl rfl) (nf rfl) ?_
  refine W.quiet rfl (wo rfl) rfl rfl (f_callR rfl rfl (args_val (vs := [ptr b 0, .int .i64 n]) rfl) (en38 _) (fun w2 hc2 => read_ok (M := heapOf w2) (fun _ _ e => e) (hd w2 hc2) hl0 n)) (nf rfl) ?_
  refine W.new rfl (wo rfl) rfl rfl (f_alloc tz62 rfl) (nf rfl) ?_
  intro br hbr
  refine W.put (H' := (some br, .cells (enc .u8 (rd s n)) 62 (0, 0)) :: H) rfl (wo rfl) rfl (f_storeA (j := 0) (c2 := enc .u8 (rd s n)) ts62 rfl (by rw [enc_size]; exact hrl) (by rw [show (Blk zeros).cells = enc .u8 zeros from rfl, enc_size]; exact List.length_replicate) (enc_oneCell _ _) rfl rfl rfl) (nf rfl) ?_
  refine W.doneQ (y := sub [1, 1, 1] B20) rfl ?_
  refine C.seq (x := sub [1, 1, 1, 0] B20) (y := sub [1, 1, 1, 1] B20) ?_
  refine C.region (id := 6) (m := 3) (ops := opsOf (sub [1, 1, 1, 0] B20)) rfl ?_
  refine W.pure rfl (wo rfl) rfl rfl (p_slA tu62 ts5 rfl rfl (by decide)) (nf rfl) ?_
  refine W.pure rfl (wo rfl) rfl rfl (p_assign rfl rfl) (nf rfl) ?_
  refine W.pure rfl (wo rfl) rfl rfl (p_assign rfl rfl) (nf rfl) ?_
  refine W.doneQ (y := sub [1, 1, 1, 1] B20) rfl ?_
  exact C.ret (R := fun e w' => ∃ v2 cur2, e = .returned (.tuple #[v2, .int .i64 0]) ∧ IntOwn .u8 v2 cur2 (rd s n) ∧ Cls w0 I ((v2.ownBlock, .cells cur2 62 (0, 0)) :: H) w') (rs := [.tmp 4, .tmp 5]) (vs := [.slice (some ⟨br, 0, none⟩) 512 512, .int .i64 0]) rfl Try.func20 rfl rfl rfl (res_cons (ResV.tmp rfl) (res_cons (ResV.tmp rfl) res_nil)) fun w1 hc1 => ⟨.slice (some ⟨br, 0, none⟩) 512 512, enc .u8 (rd s n), rfl, own_arr hrl, hc1⟩

end Go.Proofs.Ytjomnicfcdkfdaa
