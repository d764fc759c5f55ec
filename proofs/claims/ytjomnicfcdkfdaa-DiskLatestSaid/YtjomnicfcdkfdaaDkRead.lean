import Derived.Test.YtjomnicfcdkfdaaDkTy
namespace Go.Proofs.Ytjomnicfcdkfdaa
open Go Go.HW Go.RowKit
set_option linter.unusedVariables false
set_option linter.unusedSimpArgs false

theorem wrc_0 (x : Wr) : (wrc x)[0]? = some (.int .i64 x.1) := by
  unfold wrc
  rw [Array.getElem?_append_left (by simp)]; rfl
def bxOf : Value → Nat
  | .func _ _ c => match c[0]? with
    | some (Value.pointer (some a)) => a.block
    | _ => 0
  | _ => 0
theorem callsIn_of_CIM {F : Fence} {n N : Nat} {P : Program} {f : FuncId} {fn : Func} {c : Code} {args : Array Value} {w w0 : World} {I : Mem} {H : Heap} {S : Slots} {R : Ending → World → Prop} (hF : Wide F) (hro : F.round = none) (hf : P.funcs[f]? = some fn) (hb : fn.body = some c) (hN : fn.ntmps = N) (hsz : Nat.ble args.size N = true) (hS : ∀ p ∈ S, args[p.1]? = some p.2)
    (hc : Cls w0 I H w) (h : CI F n P [] N w0 I c (bodyPostM F n P fn R) S H) : CallsIn F n P f args w R := by
  refine callsIn_of_wp_marks hf hb (hF.fn _) (h _ _ ⟨rfl, ?_, fun i v hi => ?_⟩ hc) hro
  · have := Nat.le_of_ble_eq_true hsz
    simp; omega
  · have := hS (i, v) (get_mem hi)
    simp only at this ⊢
    rw [Array.getElem?_append_left (lt_of_get this)]; exact this
set_option maxRecDepth 20000 in
theorem read_ok {w : World} {M : Mem} (hM : Imm M w) {b m : Nat} {v : Value} {s : Dk} (hd : DkM M b m v s) (hlen : s.late.length ≤ 1099511627776) (n : Int) :
    Calls Try.prog 38 #[ptr b 0, .int .i64 n] w fun e w' => e = .returned (Blk (rd s n)) ∧ Below w.heap.size w w' := by
  have hd := hd.mono (show Ext M (heapOf w) from hM)
  have hC0 : Cls w (heapOf w) [] w := ⟨rfl, rfl, rfl, Nat.le_refl _, fun b o e => e, fun b o e => (by cases e), fun b o e => (by cases e), List.nodup_nil⟩
  have hF := wide_wide
  refine (callsIn_wide (n := 3)).1 (callsIn_of_CIM hF rfl Try.func38 bd38 nt38 rfl (S := [(0, ptr b 0), (1, .int .i64 n)]) (by simp) hC0 ?_)
  show CI Fence.wide 3 Try.prog [] 26 w (heapOf w) (sub [] B38) _ _ []
  refine CI.seq (x := sub [0] B38) (y := sub [1] B38) ?_
  refine CI.region (id := 0) (m := 2) (ops := opsOf (sub [0] B38)) rfl ?_
  show WI _ _ _ _ _ _ _ _ [0, 1] _ _ _
  refine WI.new (o := opAt (opsOf (sub [0] B38)) 0) (d := 3) hF rfl rfl (fun c h => by cases h) rfl rfl (f_box rfl rfl) ?_
  intro bn hbn
  refine WI.new (o := opAt (opsOf (sub [0] B38)) 1) (d := 4) hF rfl rfl (fun c h => by cases h) rfl rfl (f_alloc tz62 rfl) ?_
  intro br hbr
  refine WI.nil ?_
  show CI Fence.wide 3 Try.prog [] 26 w (heapOf w) (sub [1] B38) _ _ _
  refine CI.seq (x := sub [1, 0] B38) (y := sub [1, 1] B38) ?_
  refine CI.seq (x := sub [1, 0, 0] B38) (y := sub [1, 0, 1] B38) ?_
  refine CI.region (id := 1) (m := 5) (ops := opsOf (sub [1, 0, 0] B38)) rfl ?_
  show WI _ _ _ _ _ _ _ _ [0, 1, 2, 3, 4] _ _ _
  refine WI.pure (o := opAt (opsOf (sub [1, 0, 0] B38)) 0) (d := 7) hF rfl rfl (fun c h => by cases h) rfl rfl (p_move rfl rfl) ?_
  refine WI.pure (o := opAt (opsOf (sub [1, 0, 0] B38)) 1) (d := 8) hF rfl rfl (fun c h => by cases h) rfl rfl (p_nilCheck rfl rfl) ?_
  refine WI.pure (o := opAt (opsOf (sub [1, 0, 0] B38)) 2) (d := 9) hF rfl rfl (fun c h => by cases h) rfl rfl (p_fieldAddr tf61_2 rfl rfl) ?_
  refine WI.imm (o := opAt (opsOf (sub [1, 0, 0] B38)) 3) (d := 10) hF rfl rfl (fun c h => by cases h) rfl rfl (i_loadBoxO (off := 2) hd.hb rfl ta59 rfl rfl) ?_
  refine WI.call (o := opAt (opsOf (sub [1, 0, 0] B38)) 4) (d := 11) (args := #[v]) (p := fun u => ∃ bx, u = .func (.func 51) #[] #[ptr bx 0] ∧ w.heap.size ≤ bx) (H' := fun u => (some (bxOf u), .cells #[v] 59) :: [(some br, .cells (Blk zeros).cells 62 (0, 0)), (some bn, .cells (Value.int .i64 n).cells 3 (0, 0))]) hF rfl rfl rfl rfl rfl rfl rfl (args_val (vs := [v]) rfl) (en47 _) (fun w1 hc => (back_ok hF rfl v (sl_cells hd.hr.sl) hc).mono fun e w' ⟨bx, he, hb, hc'⟩ => ⟨_, he, ⟨bx, rfl, hb⟩, hc'⟩) ?_
  rintro u ⟨bx, rfl, hbx⟩
  refine WI.nil fun a wL ha hc => ?_
  refine wpIn_block (id := 0) (c := sub [1, 0, 1, 0] B38) ?_
  -- where the loop begins
  let U : Value := .func (.func 51) #[] #[ptr bx 0]
  have hbxL : wL.heap[bx]? = some (.cells #[v] 59 (0, 0)) := hc.own _ _ (by show (some bx, _) ∈ (some bx, _) :: _; exact List.mem_cons_self)
  have hbrL : wL.heap[br]? = some (.cells (enc .u8 zeros) 62 (0, 0)) := hc.own _ _ (List.mem_cons_of_mem _ List.mem_cons_self)
  have hbnL : wL.heap[bn]? = some (.cells #[.int .i64 n] 3 (0, 0)) := hc.own _ _ (List.mem_cons_of_mem _ (List.mem_cons_of_mem _ List.mem_cons_self))
  have hwL : Below w.heap.size w wL := hc.toBelow
  have hextL : Ext (heapOf w) (heapOf wL) := hc.imm
  have hnd := hc.nodup
  have hnd' : bx ≠ br ∧ bx ≠ bn ∧ br ≠ bn := by
    have e : ((some (bxOf U), Obj.cells #[v] 59) :: [(some br, .cells (Blk zeros).cells 62 (0, 0)), (some bn, .cells (Value.int .i64 n).cells 3 (0, 0))]).filterMap Prod.fst = [bx, br, bn] := rfl
    have h2 : [bx, br, bn].Nodup := e ▸ hnd
    simp at h2
    omega
  obtain ⟨hxr, hxn, hrn⟩ := hnd'
  have hlx := lt_of_get hbxL
  have hlr := lt_of_get hbrL
  have hln := lt_of_get hbnL
  have hdL := hd.mono hextL
  -- the writes, each of its length
  have hl5 : ∀ p ∈ s.late, p.2.length = 512 := fun p hp => by
    obtain ⟨cs, _, h2⟩ := hd.hr
    obtain ⟨i, hi, rfl⟩ := List.getElem_of_mem hp
    exact (h2 i _ (List.getElem?_eq_getElem hi)).2
  let zs : List W5 := s.late.attachWith _ hl5
  have hzs : zs.map (·.1) = s.late := List.attachWith_map_subtype_val _
  have hzl : zs.length = s.late.length := by simp [zs]
  let B := wL.heap.size
  let Ib : Mem := fun k => if k = br then none else heapOf wL k
  let I : List (Int × W5) → World → Prop := fun pre W => (∀ p ∈ pre, p.2.1.1 ≠ n) ∧ Below B wL W
  let Ix : Code → List (Int × W5) → World → Prop := fun c pre W => (c = .ret ∧ ∃ ini last, pre = ini ++ [last] ∧ (∀ p ∈ ini, p.2.1.1 ≠ n) ∧ last.2.1.1 = n ∧ Cls wL Ib [(some br, .cells (enc .u8 last.2.1.2) 62 (0, 0))] W)
  let Ax : Int × W5 → Act → World → Prop := fun x a' W => ∃ Bx, B ≤ Bx ∧ W.heap[Bx]? = some (.cells (wrc x.2.1) 64 (0, 0)) ∧ AgreeD [] 26 [(3, ptr bn 0), (4, ptr br 0), (6, ptr Bx 0)] a'
  have hIbB : ∀ b o, Ib b = some o → b < B := fun b o e => by
    simp only [Ib] at e
    split at e
    · cases e
    · exact lt_of_get e
  have hI : OwnFrom B I := OwnFrom.and (ownFrom_pure _ _) (ownFrom_below (Nat.le_refl _) (Nat.le_refl _))
  have hIx : ∀ c, OwnFrom B (Ix c) := fun c s W W' row hs hg hr => by
    obtain ⟨h1, ini, last, h2, h3, h4, h5⟩ := hs
    exact ⟨h1, ini, last, h2, h3, h4, cls_grown h5 hIbB (fun b o hm => by simp at hm; obtain ⟨rfl, _⟩ := hm; exact hlr) hg fun r e => (hr r e).1⟩
  have hAx : ∀ x a', OwnFrom B (fun (_ : Unit) W => Ax x a' W) := fun x a' _ W W' row hs hg hr => by
    obtain ⟨Bx, h1, h2, h3⟩ := hs
    refine ⟨Bx, h1, ?_, h3⟩
    rw [hg.block Bx (lt_of_get h2) fun e => ?_]
    · exact h2
    · obtain ⟨_, o, ho, hoc⟩ := hr Bx e.symm
      rw [h2] at ho; cases ho; cases hoc
  have hMz : ∀ b o, heapOf wL b = some o → b < B := fun b o e => lt_of_get e
  have hfin : ∀ (D : Nat) (a' : Act) (W' : World) (bs : List Int), B ≤ D → AgreeD [{ target := .collected D, args := #[] }] 26 [(4, ptr br 0)] a' → Cls wL Ib [(some br, .cells (enc .u8 bs) 62 (0, 0))] W' → W'.heap[D]? = some (.deferred (some [])) → bs.length = 512 → bs = rd s n →
      bodyPostM Fence.wide 3 Try.prog Try.f38 (fun e w' => e = .returned (Blk (rd s n)) ∧ Below w.heap.size w w') .ret a' W' := fun D a' W' bs hD ha' hcl hKD hbs he => by
    subst he
    have hcl2 : Cls wL Ib [(some br, .cells (enc .u8 (rd s n)) 62 (0, 0))] (W'.putObj D (.deferred none)) := cls_grown hcl hIbB (fun b o hm => by simp at hm; obtain ⟨rfl, _⟩ := hm; exact hlr) (grownBy_putObj' W' D (.deferred none)) fun r e => by cases e; exact hD
    have hbel : Below w.heap.size w (W'.putObj D (.deferred none)) := ⟨hcl2.os.trans hwL.os, hcl2.tape.trans hwL.tape, hcl2.output.trans hwL.output, Nat.le_trans hwL.size hcl2.size, fun k hk => by
      have hkL : k < wL.heap.size := Nat.lt_of_lt_of_le hk hwL.size
      have e : Ib k = some wL.heap[k] := by
        simp only [Ib]; rw [if_neg (by omega)]; exact Array.getElem?_eq_getElem hkL
      rw [hcl2.imm _ _ e, ← hwL.block k hk]
      exact (Array.getElem?_eq_getElem hkL).symm⟩
    have hag : Agree 26 [(4, ptr br 0)] { tmps := a'.tmps, defers := [] } := ⟨rfl, ha'.2.1, ha'.2.2⟩
    obtain ⟨_, fn', v', hf', hr', hR'⟩ := fin_of (P := Try.prog) (f := 38) (N := 26) (w0 := wL) (I := Ib) (S := [(4, ptr br 0)]) (H := [(some br, .cells (enc .u8 (rd s n)) 62 (0, 0))]) (R := fun e w' => e = .returned (Blk (rd s n)) ∧ Below w.heap.size w w') (rs := [.cell 4 62]) (vs := [.agg (enc .u8 (rd s n))]) (Blk (rd s n)) Try.func38 rfl rfl rfl (res_cons (ResV.cell (j := 0) ta62 ts62 rfl rfl (by rw [enc_size]; exact hbs)) res_nil) hag hcl2 ⟨rfl, hbel⟩
    rw [Try.func38] at hf'; cases hf'
    show LeavesInM _ _ _ _ a'.tmps _ a'.defers _ _
    rw [ha'.1]
    exact ⟨by simp, .inl ⟨_, _, rfl, run_takeDeferred hKD, v', hr', hR'⟩⟩
  refine wpIn_rangeFunc_ownH (Kp := Below B) rfl (by decide) (gf := 51) (lb := #[ptr bx 0]) (ha.val (.tmp 11) _ rfl) trivial en51 (seqStops hF rfl bx v zs (by rw [hzl]; exact hlen) wL (heapOf wL) hMz (fun b o e => e) hbxL (by rw [hzs]; exact hdL.hr)) belowK_t (belowK_b (Nat.le_refl _)) (Below.refl _ _) (fun _ => rfl) I Ix hI hIx ⟨fun p hp => (by cases hp), Below.refl _ _⟩ Ax hAx ?assign ?body ?done ?stop
  case assign =>
    intro l pre x W K hi hK
    have hFl := hF.round l
    have hag : AgreeD [] 26 [(13, .agg (wrc x.2.1)), (12, .int .i64 x.1), (3, ptr bn 0), (4, ptr br 0)] { tmps := ((#[12, 13] : Array Tmp).zip #[.int .i64 x.1, .agg (wrc x.2.1)]).foldl (fun t (p, v) => t.setIfInBounds p v) a.tmps, defers := [] } := by
      have h0 : AgreeD [] 26 [(3, ptr bn 0), (4, ptr br 0)] { tmps := a.tmps, defers := [] } := ⟨rfl, ha.2.1, fun i u hi => (ha.sub (S' := [(3, ptr bn 0), (4, ptr br 0)]) (Sub.cons rfl (Sub.cons rfl (Sub.nil _)))).2.2 i u hi⟩
      have h1 := (h0.put (d := 12) (by decide) (.int .i64 x.1)).put (d := 13) (by decide) (.agg (wrc x.2.1))
      simpa [Act.put] using h1
    refine (show CI (Fence.wide.inRound l) (3 - 1 - 1) Try.prog [] 26 W (heapOf W) (sub [1, 0, 1, 0, 0] B38) _ _ [] from ?_) _ W hag ⟨rfl, rfl, rfl, Nat.le_refl _, fun b o e => e, fun b o e => (by cases e), fun b o e => (by cases e), List.nodup_nil⟩
    refine CI.region (id := 2) (m := 2) (ops := opsOf (sub [1, 0, 1, 0, 0] B38)) rfl ?_
    show WI _ _ _ _ _ _ _ _ [0, 1] _ _ _
    refine WI.new (o := opAt (opsOf (sub [1, 0, 1, 0, 0] B38)) 0) (d := 6) hFl rfl rfl (fun c h => by cases h) rfl rfl (f_alloc tz64 rfl) ?_
    intro Bx hBx
    refine WI.put (o := opAt (opsOf (sub [1, 0, 1, 0, 0] B38)) 1) (H' := [(some Bx, .cells (wrc x.2.1) 64 (0, 0))]) hFl rfl rfl (fun c h => by cases h) rfl (f_storeA (j := 0) (c2 := wrc x.2.1) ts64 rfl (wrc_size x.2.2) (wrc_size List.length_replicate) wrc_one rfl rfl rfl) ?_
    refine WI.nil fun a' W' ha' hc' => ?_
    have hb' := hc'.toBelow
    have hbB : Below B W W' := hb'.mono hi.2.size
    refine hK a' W' ⟨hb'.size, fun k o _ hk _ => by rw [hb'.block k (lt_of_get hk)]; exact hk⟩ hbB ⟨hi.1, hi.2.trans hbB⟩ ⟨Bx, Nat.le_trans hi.2.size hBx, hc'.own _ _ List.mem_cons_self, ha'.sub (Sub.cons rfl (Sub.cons rfl (Sub.cons rfl (Sub.nil _))))⟩
  case body =>
    rintro l pre x a' W hl hrec hi ⟨Bx, hBx, hxb, hag⟩ hlp
    have hFl := hF.round l
    have hbrW : W.heap[br]? = some (.cells (enc .u8 zeros) 62 (0, 0)) := by rw [hi.2.block br hlr]; exact hbrL
    have hbnW : W.heap[bn]? = some (.cells #[.int .i64 n] 3 (0, 0)) := by rw [hi.2.block bn hln]; exact hbnL
    let Iw : Mem := fun k => if k = br then none else heapOf W k
    have hcW : Cls W Iw [(some br, .cells (enc .u8 zeros) 62 (0, 0))] W := ⟨rfl, rfl, rfl, Nat.le_refl _, fun b o e => by
      simp only [Iw] at e
      split at e
      · cases e
      · exact e, fun b o hm => by simp at hm; obtain ⟨rfl, rfl⟩ := hm; exact hbrW, fun b o hm => by simp at hm; obtain ⟨rfl, rfl⟩ := hm; simp [Iw], by simp⟩
    have hIx1 : Iw Bx = some (.cells (wrc x.2.1) 64 (0, 0)) := by
      simp only [Iw]
      rw [if_neg (by omega)]; exact hxb
    have hIn1 : Iw bn = some (.cells #[.int .i64 n] 3 (0, 0)) := by
      simp only [Iw]
      rw [if_neg (Ne.symm hrn)]; exact hbnW
    refine wpIn_block (id := 1) (c := sub [1, 0, 1, 0, 1, 0] B38) ?_
    refine (show CI (Fence.wide.inRound l) (3 - 1 - 1) Try.prog [] 26 W Iw (sub [1, 0, 1, 0, 1, 0] B38) _ _ _ from ?_) a' W hag hcW
    refine CI.seq (x := sub [1, 0, 1, 0, 1, 0, 0] B38) (y := sub [1, 0, 1, 0, 1, 0, 1] B38) ?_
    refine CI.region (id := 3) (m := 4) (ops := opsOf (sub [1, 0, 1, 0, 1, 0, 0] B38)) rfl ?_
    show WI _ _ _ _ _ _ _ _ [0, 1, 2, 3] _ _ _
    refine WI.pure (o := opAt (opsOf (sub [1, 0, 1, 0, 1, 0, 0] B38)) 0) (d := 14) hFl rfl rfl (fun c h => by cases h) rfl rfl (p_fieldAddr tf64_0 rfl rfl) ?_
    refine WI.imm (o := opAt (opsOf (sub [1, 0, 1, 0, 1, 0, 0] B38)) 1) (d := 15) (v := .int .i64 x.2.1.1) hFl rfl rfl (fun c h => by cases h) rfl rfl (i_loadBoxO (off := 0) hIx1 (wrc_0 _) ta3 rfl rfl) ?_
    refine WI.imm (o := opAt (opsOf (sub [1, 0, 1, 0, 1, 0, 0] B38)) 2) (d := 16) hFl rfl rfl (fun c h => by cases h) rfl rfl (i_loadBox hIn1 rfl ta3 rfl rfl) ?_
    refine WI.pure (o := opAt (opsOf (sub [1, 0, 1, 0, 1, 0, 0] B38)) 3) (d := 17) hFl rfl rfl (fun c h => by cases h) rfl rfl (p_eql rfl rfl rfl) ?_
    refine WI.nil ?_
    show CI (Fence.wide.inRound l) (3 - 1 - 1) Try.prog [] 26 W Iw (sub [1, 0, 1, 0, 1, 0, 1] B38) _ _ _
    by_cases hx : x.2.1.1 = n
    · intro a2 W2 ha2 hc2
      refine wpIn_cond_true (c := .tmp 17) (x := sub [1, 0, 1, 0, 1, 0, 1, 0] B38) (y := sub [1, 0, 1, 0, 1, 0, 1, 1] B38) ?_ ?_
      · rw [ha2.val (.tmp 17) _ rfl, hx]; simp
      refine (show CI (Fence.wide.inRound l) (3 - 1 - 1) Try.prog [] 26 W Iw (sub [1, 0, 1, 0, 1, 0, 1, 0] B38) _ _ _ from ?_) a2 W2 ha2 hc2
      refine CI.seq (x := sub [1, 0, 1, 0, 1, 0, 1, 0, 0] B38) (y := sub [1, 0, 1, 0, 1, 0, 1, 0, 1] B38) ?_
      refine CI.region (id := 4) (m := 3) (ops := opsOf (sub [1, 0, 1, 0, 1, 0, 1, 0, 0] B38)) rfl ?_
      show WI _ _ _ _ _ _ _ _ [0, 1, 2] _ _ _
      refine WI.pure (o := opAt (opsOf (sub [1, 0, 1, 0, 1, 0, 1, 0, 0] B38)) 0) (d := 18) (v := ptr Bx 1) hFl rfl rfl (fun c h => by cases h) rfl rfl (p_fieldAddr tf64_1 rfl rfl) ?_
      refine WI.imm (o := opAt (opsOf (sub [1, 0, 1, 0, 1, 0, 1, 0, 0] B38)) 1) (d := 19) (v := .agg (encl .u8 x.2.1.2).toArray) hFl rfl rfl (fun c h => by cases h) rfl rfl (fun ρ hρ w hw => b_loadSubA (off := 1) ta62 ts62 (by simp [encl, x.2.2]) (wrc_drop x.2.2) rfl rfl ρ hρ w (hw _ _ hIx1)) ?_
      refine WI.put (o := opAt (opsOf (sub [1, 0, 1, 0, 1, 0, 1, 0, 0] B38)) 2) (H' := [(some br, .cells (enc .u8 x.2.1.2) 62 (0, 0))]) hFl rfl rfl (fun c h => by cases h) rfl (f_storeA (j := 0) (c2 := enc .u8 x.2.1.2) ts62 rfl (by rw [enc_size]; exact x.2.2) (by rw [enc_size]; exact List.length_replicate) (enc_oneCell _ _) rfl rfl rfl) ?_
      refine WI.nil fun a3 W3 ha3 hc3 => ?_
      refine wpIn_ret ?_
      have hkeep : ∀ k, k ≠ br → k < W.heap.size → W3.heap[k]? = W.heap[k]? := fun k hk hlt => by
        have e : Iw k = some W.heap[k] := by simp only [Iw]; rw [if_neg hk]; exact Array.getElem?_eq_getElem hlt
        rw [hc3.imm _ _ e]; exact (Array.getElem?_eq_getElem hlt).symm
      refine ⟨⟨hc3.size, fun k o hkB hk hoc => by
        rw [hkeep k (by omega) (lt_of_get hk)]; exact hk⟩, rfl, pre, x, rfl, hi.1, hx, ?_⟩
      refine ⟨hc3.os.trans hi.2.os, hc3.tape.trans hi.2.tape, hc3.output.trans hi.2.output, Nat.le_trans hi.2.size hc3.size, fun k o e => ?_, fun k o hm => hc3.own k o hm, fun k o hm => by simp at hm; obtain ⟨rfl, _⟩ := hm; simp [Ib], by simp⟩
      simp only [Ib] at e
      split at e
      · cases e
      · rename_i hk
        have hlt := lt_of_get (show wL.heap[k]? = some o from e)
        rw [hkeep k hk (Nat.lt_of_lt_of_le hlt hi.2.size), hi.2.block k hlt]; exact e
    · intro a2 W2 ha2 hc2
      refine wpIn_cond_false (c := .tmp 17) (x := sub [1, 0, 1, 0, 1, 0, 1, 0] B38) (y := sub [1, 0, 1, 0, 1, 0, 1, 1] B38) ?_ ?_
      · rw [ha2.val (.tmp 17) _ rfl]
        congr 1
        simpa using hx
      refine wpIn_skip ?_
      have hkeep : ∀ k, k < W.heap.size → W2.heap[k]? = W.heap[k]? := fun k hlt => by
        by_cases hk : k = br
        · subst hk; rw [hbrW]; exact hc2.own _ _ List.mem_cons_self
        · have e : Iw k = some W.heap[k] := by simp only [Iw]; rw [if_neg hk]; exact Array.getElem?_eq_getElem hlt
          rw [hc2.imm _ _ e]; exact (Array.getElem?_eq_getElem hlt).symm
      have hb2 : Below B W W2 := ⟨hc2.os, hc2.tape, hc2.output, hc2.size, fun k hk => hkeep k (Nat.lt_of_lt_of_le hk hi.2.size)⟩
      refine ⟨⟨hc2.size, fun k o _ hk _ => by rw [hkeep k (lt_of_get hk)]; exact hk⟩, hb2, fun p hp => ?_, hi.2.trans hb2⟩
      rcases List.mem_append.1 hp with hp | hp
      · exact hi.1 p hp
      · simp at hp; subst hp; exact hx
  case done =>
    rintro D xs W hD rfl hi hKD
    have hno : lfind s.late.reverse n = none := by
      refine lfind_none fun p hp => ?_
      rw [← hzs, ← List.map_reverse] at hp
      have h1 := bk_upto zs zs.length (Nat.le_refl _)
      rw [List.take_of_length_le (by simp)] at h1
      rw [← h1] at hp
      obtain ⟨q, hq, rfl⟩ := List.mem_map.1 hp
      exact hi.1 q hq
    have hrd : rd s n = mget s.set n := by unfold rd; rw [hno]; rfl
    have hbrW : W.heap[br]? = some (.cells (enc .u8 zeros) 62 (0, 0)) := by rw [hi.2.block br hlr]; exact hbrL
    have hbnW : W.heap[bn]? = some (.cells #[.int .i64 n] 3 (0, 0)) := by rw [hi.2.block bn hln]; exact hbnL
    let Iw : Mem := fun k => if k = br then none else heapOf W k
    have hcW : Cls W Iw [(some br, .cells (enc .u8 zeros) 62 (0, 0))] W := ⟨rfl, rfl, rfl, Nat.le_refl _, fun b o e => by
      simp only [Iw] at e
      split at e
      · cases e
      · exact e, fun b o hm => by simp at hm; obtain ⟨rfl, rfl⟩ := hm; exact hbrW, fun b o hm => by simp at hm; obtain ⟨rfl, rfl⟩ := hm; simp [Iw], by simp⟩
    have hIw : ∀ k o, heapOf w k = some o → Iw k = some o := fun k o e => by
      have h1 := lt_of_get e
      simp only [Iw]
      rw [if_neg (by omega)]
      show W.heap[k]? = _
      rw [hi.2.block k (lt_of_get (hextL k o e))]; exact hextL k o e
    have hdW := hd.mono hIw
    have hIn1 : Iw bn = some (.cells #[.int .i64 n] 3 (0, 0)) := by
      simp only [Iw]
      rw [if_neg (Ne.symm hrn)]; exact hbnW
    show (sub [1, 1] B38).wpIn Fence.wide 3 Try.prog (bodyPostM Fence.wide 3 Try.prog Try.f38 _) _ W
    refine wpIn_seq (x := sub [1, 1, 0] B38) (y := sub [1, 1, 1] B38) ?_
    refine wpIn_wide.2 ?_
    have hbs := mget_len hd.hs n
    let Q : Act → Heap → Prop := fun a H => ∀ w', Cls W Iw H w' → AgreeD [{ target := .collected D, args := #[] }] 26 [(4, ptr br 0)] a ∧ w'.heap[br]? = some (.cells (enc .u8 (mget s.set n)) 62 (0, 0)) ∧ ∃ H', Cls W Iw H' w'
    refine wp_region_D (id := 5) (ops := opsOf (sub [1, 1, 0] B38)) (l := [0, 1, 2, 3, 4, 5, 6]) (ll := [(.pure, none), (.pure, none), (.pure, none), (.pure, none), (.pure, none), (.pure, none), (.store, none)]) (Q := Q) mixedT (okD_of_okP (m := [0, 1, 3, 7, 0, 31, 63]) (by kernel_rfl)) ⟨fun a H1 H2 hp h w' hc => h w' (hc.perm hp.symm), fun a H h w' hc => absurd ⟨w', hc⟩ h⟩ ?_ hcW ?_
    · intro a2 H2 W2 hc2 hq
      obtain ⟨ha2, hb2, _⟩ := hq W2 hc2
      show Code.ret.wpIn _ _ _ _ _ _
      refine wpIn_ret (hfin D a2 W2 (mget s.set n) hD ha2 ⟨hc2.os.trans hi.2.os, hc2.tape.trans hi.2.tape, hc2.output.trans hi.2.output, Nat.le_trans hi.2.size hc2.size, fun k o e => ?_, fun k o hm => by simp at hm; obtain ⟨rfl, rfl⟩ := hm; exact hb2, fun k o hm => by simp at hm; obtain ⟨rfl, _⟩ := hm; simp [Ib], by simp⟩ ?_ hbs hrd.symm)
      · simp only [Ib] at e
        split at e
        · cases e
        · rename_i hk
          have hlt := lt_of_get (show wL.heap[k]? = some o from e)
          refine hc2.imm k o ?_
          simp only [Iw]
          rw [if_neg hk]
          show W.heap[k]? = _
          rw [hi.2.block k hlt]; exact e
      · refine hc2.imm D _ ?_
        simp only [Iw]
        rw [if_neg (by have := hD; omega)]; exact hKD
    · have hag : AgreeD [{ target := .collected D, args := #[] }] 26 [(4, ptr br 0), (3, ptr bn 0), (0, ptr b 0)] { a with defers := { target := .collected D, args := #[] } :: a.defers } := by
        have h1 := ha.sub (S' := [(4, ptr br 0), (3, ptr bn 0), (0, ptr b 0)]) (Sub.cons rfl (Sub.cons rfl (Sub.cons rfl (Sub.nil _))))
        exact ⟨by rw [h1.1], h1.2.1, h1.2.2⟩
      refine (show DE Try.prog [{ target := .collected D, args := #[] }] 26 W Iw (opsOf (sub [1, 1, 0] B38)) _ _ Q [0, 1, 2, 3, 4, 5, 6] _ _ from ?_) _ hag
      refine DE.imm (o := opAt (opsOf (sub [1, 1, 0] B38)) 0) (d := 20) rfl rfl rfl rfl rfl (fun ρ hρ w _ => p_move rfl rfl ρ hρ w) ?_
      refine DE.imm (o := opAt (opsOf (sub [1, 1, 0] B38)) 1) (d := 21) rfl rfl rfl rfl rfl (fun ρ hρ w _ => p_nilCheck rfl rfl ρ hρ w) ?_
      refine DE.imm (o := opAt (opsOf (sub [1, 1, 0] B38)) 2) (d := 22) rfl rfl rfl rfl rfl (fun ρ hρ w _ => p_fieldAddr tf61_1 rfl rfl ρ hρ w) ?_
      refine DE.imm (o := opAt (opsOf (sub [1, 1, 0] B38)) 3) (d := 23) rfl rfl rfl rfl rfl (i_loadBoxO (off := 1) hdW.hb rfl ta58 rfl rfl) ?_
      refine DE.imm (o := opAt (opsOf (sub [1, 1, 0] B38)) 4) (d := 24) rfl rfl rfl rfl rfl (i_loadBox hIn1 rfl ta3 rfl rfl) ?_
      refine DE.imm (o := opAt (opsOf (sub [1, 1, 0] B38)) 5) (d := 25) rfl rfl rfl rfl rfl (i_mget tu58 tu3 tz62 hdW.hm rfl rfl rfl) ?_
      refine DE.put (o := opAt (opsOf (sub [1, 1, 0] B38)) 6) (H' := [(some br, .cells (enc .u8 (mget s.set n)) 62 (0, 0))]) rfl rfl rfl rfl rfl (f_storeA (j := 0) (c2 := enc .u8 (mget s.set n)) ts62 rfl (by rw [enc_size]; exact hbs) (by rw [enc_size]; exact List.length_replicate) (enc_oneCell _ _) rfl rfl rfl) ?_
      intro a3 ha3 w' hc'
      exact ⟨ha3.sub (Sub.cons rfl (Sub.nil _)), hc'.own _ _ List.mem_cons_self, _, hc'⟩
  case stop =>
    rintro D c pre W hD ⟨k, hk, rfl⟩ ⟨rfl, ini, last, h1, h2, h3, h4⟩ hKD
    have hrd : rd s n = last.2.1.2 := by
      have e1 : (ini.map (fun p => p.2.1)) ++ [last.2.1] = (zs.reverse.take k).map (·.1) := by
        rw [← bk_upto zs k hk, h1]; simp
      have e2 : s.late.reverse = (ini.map (fun p => p.2.1)) ++ (n, last.2.1.2) :: (zs.reverse.drop k).map (·.1) := by
        rw [← hzs, ← List.map_reverse]
        conv => lhs; rw [← List.take_append_drop k zs.reverse, List.map_append, ← e1]
        rw [List.append_assoc]
        congr 1
        rw [← h3]; rfl
      unfold rd
      rw [e2, lfind_some fun p hp => by
        obtain ⟨q, hq, rfl⟩ := List.mem_map.1 hp
        exact h2 q hq]
      rfl
    have hag : AgreeD [{ target := .collected D, args := #[] }] 26 [(4, ptr br 0)] { a with defers := { target := .collected D, args := #[] } :: a.defers } := by
      have h1 := ha.sub (S' := [(4, ptr br 0)]) (Sub.cons rfl (Sub.nil _))
      exact ⟨by rw [h1.1], h1.2.1, h1.2.2⟩
    exact wpIn_ret (hfin D _ W last.2.1.2 hD hag h4 hKD last.2.2 hrd.symm)
end Go.Proofs.Ytjomnicfcdkfdaa
