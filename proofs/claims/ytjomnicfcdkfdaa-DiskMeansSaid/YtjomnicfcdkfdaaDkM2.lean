import Derived.Test.YtjomnicfcdkfdaaDkTy
section
namespace Go.Proofs.Ytjomnicfcdkfdaa
open Go Go.HW Go.RowKit
set_option linter.unusedVariables false
set_option linter.unusedSimpArgs false

theorem wrc_0 (x : Wr) : (wrc x)[0]? = some (.int .i64 x.1) := by
  unfold wrc
  rw [Array.getElem?_append_left (by simp)]; rfl
def bxOf : Value → Nat
  | .func _ _ c => match c[0]? with
    | some (Value.pointer (some a)) => a.block
    | _ => 0
  | _ => 0
theorem callsIn_of_CIM {F : Fence} {n N : Nat} {P : Program} {f : FuncId} {fn : Func} {c : Code} {args : Array Value} {w w0 : World} {I : Mem} {H : Heap} {S : Slots} {R : Ending → World → Prop} (hF : Wide F) (hro : F.round = none) (hf : P.funcs[f]? = some fn) (hb : fn.body = some c) (hN : fn.ntmps = N) (hsz : Nat.ble args.size N = true) (hS : ∀ p ∈ S, args[p.1]? = some p.2)
    (hc : Cls w0 I H w) (h : CI F n P [] N w0 I c (bodyPostM F n P fn R) S H) : CallsIn F n P f args w R := by
  refine callsIn_of_wp_marks hf hb (hF.fn _) (h _ _ ⟨rfl, ?_, fun i v hi => ?_⟩ hc) hro
  · have := Nat.le_of_ble_eq_true hsz
    simp; omega
  · have := hS (i, v) (get_mem hi)
    simp only at this ⊢
    rw [Array.getElem?_append_left (lt_of_get this)]; exact this
set_option maxRecDepth 20000 in
theorem read_ok {w : World} {M : Mem} (hM : Imm M w) {b m : Nat} {v : Value} {s : Dk} (hd : DkM M b m v s) (hlen : s.late.length ≤ 1099511627776) (n : Int) :
    Calls Try.prog 38 #[ptr b 0, .int .i64 n] w fun e w' => e = .returned (Blk (rd s n)) ∧ Below w.heap.size w w' := by
  have hd := hd.mono (show Ext M (heapOf w) from hM)
  have hC0 : Cls w (heapOf w) [] w := ⟨rfl, rfl, rfl, Nat.le_refl _, fun b o e => e, fun b o e => (by cases e), fun b o e => (by cases e), List.nodup_nil⟩
  have hF := wide_wide
  refine (callsIn_wide (n := 3)).1 (callsIn_of_CIM hF rfl Try.func38 bd38 nt38 rfl (S := [(0, ptr b 0), (1, .int .i64 n)]) (by simp) hC0 ?_)
  show CI Fence.wide 3 Try.prog [] 26 w (heapOf w) (sub [] B38) _ _ []
  refine CI.seq (x := sub [0] B38) (y := sub [1] B38) ?_
  refine CI.region (id := 0) (m := 2) (ops := opsOf (sub [0] B38)) rfl ?_
  show WI _ _ _ _ _ _ _ _ [0, 1] _ _ _
  refine WI.new (o := opAt (opsOf (sub [0] B38)) 0) (d := 3) hF rfl rfl (fun c h => by cases h) rfl rfl (f_box rfl rfl) ?_
  intro bn hbn
  refine WI.new (o := opAt (opsOf (sub [0] B38)) 1) (d := 4) hF rfl rfl (fun c h => by cases h) rfl rfl (f_alloc tz62 rfl) ?_
  intro br hbr
  refine WI.nil ?_
  show CI Fence.wide 3 Try.prog [] 26 w (heapOf w) (sub [1] B38) _ _ _
  refine CI.seq (x := sub [1, 0] B38) (y := sub [1, 1] B38) ?_
  refine CI.seq (x := sub [1, 0, 0] B38) (y := sub [1, 0, 1] B38) ?_
  refine CI.region (id := 1) (m := 5) (ops := opsOf (sub [1, 0, 0] B38)) rfl ?_
  show WI _ _ _ _ _ _ _ _ [0, 1, 2, 3, 4] _ _ _
  refine WI.pure (o := opAt (opsOf (sub [1, 0, 0] B38)) 0) (d := 7) hF rfl rfl (fun c h => by cases h) rfl rfl (p_move rfl rfl) ?_
  refine WI.pure (o := opAt (opsOf (sub [1, 0, 0] B38)) 1) (d := 8) hF rfl rfl (fun c h => by cases h) rfl rfl (p_nilCheck rfl rfl) ?_
  refine WI.pure (o := opAt (opsOf (sub [1, 0, 0] B38)) 2) (d := 9) hF rfl rfl (fun c h => by cases h) rfl rfl (p_fieldAddr tf61_2 rfl rfl) ?_
  refine WI.imm (o := opAt (opsOf (sub [1, 0, 0] B38)) 3) (d := 10) hF rfl rfl (fun c h => by cases h) rfl rfl (i_loadBoxO (off := 2) hd.hb rfl ta59 rfl rfl) ?_
  refine WI.call (o := opAt (opsOf (sub [1, 0, 0] B38)) 4) (d := 11) (args := #[v]) (p := fun u => ∃ bx, u = .func (.func 51) #[] #[ptr bx 0] ∧ w.heap.size ≤ bx) (H' := fun u => (some (bxOf u), .cells #[v] 59) :: [(some br, .cells (Blk zeros).cells 62 (0, 0)), (some bn, .cells (Value.int .i64 n).cells 3 (0, 0))]) hF rfl rfl rfl rfl rfl rfl rfl (args_val (vs := [v]) rfl) (en47 _) (fun w1 hc => (back_ok hF rfl v (sl_cells hd.hr.sl) hc).mono fun e w' ⟨bx, he, hb, hc'⟩ => ⟨_, he, ⟨bx, rfl, hb⟩, hc'⟩) ?_
  rintro u ⟨bx, rfl, hbx⟩
  refine WI.nil fun a wL ha hc => ?_
  refine wpIn_block (id := 0) (c := sub [1, 0, 1, 0] B38) ?_
  -- where the loop begins
  let U : Value := .func (.func 51) #[] #[ptr bx 0]
  have hbxL : wL.heap[bx]? = some (.cells #[v] 59 (0, 0)) := hc.own _ _ (by show (some bx, _) ∈ (some bx, _) :: _; exact List.mem_cons_self)
  have hbrL : wL.heap[br]? = some (.cells (enc .u8 zeros) 62 (0, 0)) := hc.own _ _ (List.mem_cons_of_mem _ List.mem_cons_self)
  have hbnL : wL.heap[bn]? = some (.cells #[.int .i64 n] 3 (0, 0)) := hc.own _ _ (List.mem_cons_of_mem _ (List.mem_cons_of_mem _ List.mem_cons_self))
  have hwL : Below w.heap.size w wL := hc.toBelow
  have hextL : Ext (heapOf w) (heapOf wL) := hc.imm
  have hnd := hc.nodup
  have hnd' : bx ≠ br ∧ bx ≠ bn ∧ br ≠ bn := by
    have e : ((some (bxOf U), Obj.cells #[v] 59) :: [(some br, .cells (Blk zeros).cells 62 (0, 0)), (some bn, .cells (Value.int .i64 n).cells 3 (0, 0))]).filterMap Prod.fst = [bx, br, bn] := rfl
    have h2 : [bx, br, bn].Nodup := e ▸ hnd
    simp at h2
    omega
  obtain ⟨hxr, hxn, hrn⟩ := hnd'
  have hlx := lt_of_get hbxL
  have hlr := lt_of_get hbrL
  have hln := lt_of_get hbnL
  have hdL := hd.mono hextL
  -- the writes, each of its length
  have hl5 : ∀ p ∈ s.late, p.2.length = 512 := fun p hp => by
    obtain ⟨cs, _, h2⟩ := hd.hr
    obtain ⟨i, hi, rfl⟩ := List.getElem_of_mem hp
    exact (h2 i _ (List.getElem?_eq_getElem hi)).2
  let zs : List W5 := s.late.attachWith _ hl5
  have hzs : zs.map (·.1) = s.late := List.attachWith_map_subtype_val _
  have hzl : zs.length = s.late.length := by simp [zs]
  let B := wL.heap.size
  let Ib : Mem := fun k => if k = br then none else heapOf wL k
  let I : List (Int × W5) → World → Prop := fun pre W => (∀ p ∈ pre, p.2.1.1 ≠ n) ∧ Below B wL W
  let Ix : Code → List (Int × W5) → World → Prop := fun c pre W => (c = .ret ∧ ∃ ini last, pre = ini ++ [last] ∧ (∀ p ∈ ini, p.2.1.1 ≠ n) ∧ last.2.1.1 = n ∧ Cls wL Ib [(some br, .cells (enc .u8 last.2.1.2) 62 (0, 0))] W)
  let Ax : Int × W5 → Act → World → Prop := fun x a' W => ∃ Bx, B ≤ Bx ∧ W.heap[Bx]? = some (.cells (wrc x.2.1) 64 (0, 0)) ∧ AgreeD [] 26 [(3, ptr bn 0), (4, ptr br 0), (6, ptr Bx 0)] a'
  have hIbB : ∀ b o, Ib b = some o → b < B := fun b o e => by
    simp only [Ib] at e
    split at e
    · cases e
    · exact lt_of_get e
  have hI : OwnFrom B I := OwnFrom.and (ownFrom_pure _ _) (ownFrom_below (Nat.le_refl _) (Nat.le_refl _))
  have hIx : ∀ c, OwnFrom B (Ix c) := fun c s W W' row hs hg hr => by
    obtain ⟨h1, ini, last, h2, h3, h4, h5⟩ := hs
    exact ⟨h1, ini, last, h2, h3, h4, cls_grown h5 hIbB (fun b o hm => by simp at hm; obtain ⟨rfl, _⟩ := hm; exact hlr) hg fun r e => (hr r e).1⟩
  have hAx : ∀ x a', OwnFrom B (fun (_ : Unit) W => Ax x a' W) := fun x a' _ W W' row hs hg hr => by
    obtain ⟨Bx, h1, h2, h3⟩ := hs
    refine ⟨Bx, h1, ?_, h3⟩
    rw [hg.block Bx (lt_of_get h2) fun e => ?_]
    · exact h2
    · obtain ⟨_, o, ho, hoc⟩ := hr Bx e.symm
      rw [h2] at ho; cases ho; cases hoc
  have hMz : ∀ b o, heapOf wL b = some o → b < B := fun b o e => lt_of_get e
  have hfin : ∀ (D : Nat) (a' : Act) (W' : World) (bs : List Int), B ≤ D → AgreeD [{ target := .collected D, args := #[] }] 26 [(4, ptr br 0)] a' → Cls wL Ib [(some br, .cells (enc .u8 bs) 62 (0, 0))] W' → W'.heap[D]? = some (.deferred (some [])) → bs.length = 512 → bs = rd s n →
      bodyPostM Fence.wide 3 Try.prog Try.f38 (fun e w' => e = .returned (Blk (rd s n)) ∧ Below w.heap.size w w') .ret a' W' := fun D a' W' bs hD ha' hcl hKD hbs he => by
    subst he
    have hcl2 : Cls wL Ib [(some br, .cells (enc .u8 (rd s n)) 62 (0, 0))] (W'.putObj D (.deferred none)) := cls_grown hcl hIbB (fun b o hm => by simp at hm; obtain ⟨rfl, _⟩ := hm; exact hlr) (grownBy_putObj' W' D (.deferred none)) fun r e => by cases e; exact hD
    have hbel : Below w.heap.size w (W'.putObj D (.deferred none)) := ⟨hcl2.os.trans hwL.os, hcl2.tape.trans hwL.tape, hcl2.output.trans hwL.output, Nat.le_trans hwL.size hcl2.size, fun k hk => by
      have hkL : k < wL.heap.size := Nat.lt_of_lt_of_le hk hwL.size
      have e : Ib k = some wL.heap[k] := by
        simp only [Ib]; rw [if_neg (by omega)]; exact Array.getElem?_eq_getElem hkL
      rw [hcl2.imm _ _ e, ← hwL.block k hk]
      exact (Array.getElem?_eq_getElem hkL).symm⟩
    have hag : Agree 26 [(4, ptr br 0)] { tmps := a'.tmps, defers := [] } := ⟨rfl, ha'.2.1, ha'.2.2⟩
    obtain ⟨_, fn', v', hf', hr', hR'⟩ := fin_of (P := Try.prog) (f := 38) (N := 26) (w0 := wL) (I := Ib) (S := [(4, ptr br 0)]) (H := [(some br, .cells (enc .u8 (rd s n)) 62 (0, 0))]) (R := fun e w' => e = .returned (Blk (rd s n)) ∧ Below w.heap.size w w') (rs := [.cell 4 62]) (vs := [.agg (enc .u8 (rd s n))]) (Blk (rd s n)) Try.func38 rfl rfl rfl (res_cons (ResV.cell (j := 0) ta62 ts62 rfl rfl (by rw [enc_size]; exact hbs)) res_nil) hag hcl2 ⟨rfl, hbel⟩
    rw [Try.func38] at hf'; cases hf'
    show LeavesInM _ _ _ _ a'.tmps _ a'.defers _ _
    rw [ha'.1]
    exact ⟨by simp, .inl ⟨_, _, rfl, run_takeDeferred hKD, v', hr', hR'⟩⟩
  refine wpIn_rangeFunc_ownH (Kp := Below B) rfl (by decide) (gf := 51) (lb := #[ptr bx 0]) (ha.val (.tmp 11) _ rfl) trivial en51 (seqStops hF rfl bx v zs (by rw [hzl]; exact hlen) wL (heapOf wL) hMz (fun b o e => e) hbxL (by rw [hzs]; exact hdL.hr)) belowK_t (belowK_b (Nat.le_refl _)) (Below.refl _ _) (fun _ => rfl) I Ix hI hIx ⟨fun p hp => (by cases hp), Below.refl _ _⟩ Ax hAx ?assign ?body ?done ?stop
  case assign =>
    intro l pre x W K hi hK
    have hFl := hF.round l
    have hag : AgreeD [] 26 [(13, .agg (wrc x.2.1)), (12, .int .i64 x.1), (3, ptr bn 0), (4, ptr br 0)] { tmps := ((#[12, 13] : Array Tmp).zip #[.int .i64 x.1, .agg (wrc x.2.1)]).foldl (fun t (p, v) => t.setIfInBounds p v) a.tmps, defers := [] } := by
      have h0 : AgreeD [] 26 [(3, ptr bn 0), (4, ptr br 0)] { tmps := a.tmps, defers := [] } := ⟨rfl, ha.2.1, fun i u hi => (ha.sub (S' := [(3, ptr bn 0), (4, ptr br 0)]) (Sub.cons rfl (Sub.cons rfl (Sub.nil _)))).2.2 i u hi⟩
      have h1 := (h0.put (d := 12) (by decide) (.int .i64 x.1)).put (d := 13) (by decide) (.agg (wrc x.2.1))
      simpa [Act.put] using h1
    refine (show CI (Fence.wide.inRound l) (3 - 1 - 1) Try.prog [] 26 W (heapOf W) (sub [1, 0, 1, 0, 0] B38) _ _ [] from ?_) _ W hag ⟨rfl, rfl, rfl, Nat.le_refl _, fun b o e => e, fun b o e => (by cases e), fun b o e => (by cases e), List.nodup_nil⟩
    refine CI.region (id := 2) (m := 2) (ops := opsOf (sub [1, 0, 1, 0, 0] B38)) rfl ?_
    show WI _ _ _ _ _ _ _ _ [0, 1] _ _ _
    refine WI.new (o := opAt (opsOf (sub [1, 0, 1, 0, 0] B38)) 0) (d := 6) hFl rfl rfl (fun c h => by cases h) rfl rfl (f_alloc tz64 rfl) ?_
    intro Bx hBx
    refine WI.put (o := opAt (opsOf (sub [1, 0, 1, 0, 0] B38)) 1) (H' := [(some Bx, .cells (wrc x.2.1) 64 (0, 0))]) hFl rfl rfl (fun c h => by cases h) rfl (f_storeA (j := 0) (c2 := wrc x.2.1) ts64 rfl (wrc_size x.2.2) (wrc_size List.length_replicate) wrc_one rfl rfl rfl) ?_
    refine WI.nil fun a' W' ha' hc' => ?_
    have hb' := hc'.toBelow
    have hbB : Below B W W' := hb'.mono hi.2.size
    refine hK a' W' ⟨hb'.size, fun k o _ hk _ => by rw [hb'.block k (lt_of_get hk)]; exact hk⟩ hbB ⟨hi.1, hi.2.trans hbB⟩ ⟨Bx, Nat.le_trans hi.2.size hBx, hc'.own _ _ List.mem_cons_self, ha'.sub (Sub.cons rfl (Sub.cons rfl (Sub.cons rfl (Sub.nil _))))⟩
  case body =>
    rintro l pre x a' W hl hrec hi ⟨Bx, hBx, hxb, hag⟩ hlp
    have hFl := hF.round l
    have hbrW : W.heap[br]? = some (.cells (enc .u8 zeros) 62 (0, 0)) := by rw [hi.2.block br hlr]; exact hbrL
    have hbnW : W.heap[bn]? = some (.cells #[.int .i64 n] 3 (0, 0)) := by rw [hi.2.block bn hln]; exact hbnL
    let Iw : Mem := fun k => if k = br then none else heapOf W k
    have hcW : Cls W Iw [(some br, .cells (enc .u8 zeros) 62 (0, 0))] W := ⟨rfl, rfl, rfl, Nat.le_refl _, fun b o e => by
      simp only [Iw] at e
      split at e
      · cases e
      · exact e, fun b o hm => by simp at hm; obtain ⟨rfl, rfl⟩ := hm; exact hbrW, fun b o hm => by simp at hm; obtain ⟨rfl, rfl⟩ := hm; simp [Iw], by simp⟩
    have hIx1 : Iw Bx = some (.cells (wrc x.2.1) 64 (0, 0)) := by
      simp only [Iw]
      rw [if_neg (by omega)]; exact hxb
    have hIn1 : Iw bn = some (.cells #[.int .i64 n] 3 (0, 0)) := by
      simp only [Iw]
      rw [if_neg (Ne.symm hrn)]; exact hbnW
    refine wpIn_block (id := 1) (c := sub [1, 0, 1, 0, 1, 0] B38) ?_
    refine (show CI (Fence.wide.inRound l) (3 - 1 - 1) Try.prog [] 26 W Iw (sub [1, 0, 1, 0, 1, 0] B38) _ _ _ from ?_) a' W hag hcW
    refine CI.seq (x := sub [1, 0, 1, 0, 1, 0, 0] B38) (y := sub [1, 0, 1, 0, 1, 0, 1] B38) ?_
    refine CI.region (id := 3) (m := 4) (ops := opsOf (sub [1, 0, 1, 0, 1, 0, 0] B38)) rfl ?_
    show WI _ _ _ _ _ _ _ _ [0, 1, 2, 3] _ _ _
    refine WI.pure (o := opAt (opsOf (sub [1, 0, 1, 0, 1, 0, 0] B38)) 0) (d := 14) hFl rfl rfl (fun c h => by cases h) rfl rfl (p_fieldAddr tf64_0 rfl rfl) ?_
    refine WI.imm (o := opAt (opsOf (sub [1, 0, 1, 0, 1, 0, 0] B38)) 1) (d := 15) (v := .int .i64 x.2.1.1) hFl rfl rfl (fun c h => by cases h) rfl rfl (i_loadBoxO (off := 0) hIx1 (wrc_0 _) ta3 rfl rfl) ?_
    refine WI.imm (o := opAt (opsOf (sub [1, 0, 1, 0, 1, 0, 0] B38)) 2) (d := 16) hFl rfl rfl (fun c h => by cases h) rfl rfl (i_loadBox hIn1 rfl ta3 rfl rfl) ?_
    refine WI.pure (o := opAt (opsOf (sub [1, 0, 1, 0, 1, 0, 0] B38)) 3) (d := 17) hFl rfl rfl (fun c h => by cases h) rfl rfl (p_eql rfl rfl rfl) ?_
    refine WI.nil ?_
    show CI (Fence.wide.inRound l) (3 - 1 - 1) Try.prog [] 26 W Iw (sub [1, 0, 1, 0, 1, 0, 1] B38) _ _ _
    by_cases hx : x.2.1.1 = n
    · intro a2 W2 ha2 hc2
      refine wpIn_cond_true (c := .tmp 17) (x := sub [1, 0, 1, 0, 1, 0, 1, 0] B38) (y := sub [1, 0, 1, 0, 1, 0, 1, 1] B38) ?_ ?_
      · rw [ha2.val (.tmp 17) _ rfl, hx]; simp
      refine (show CI (Fence.wide.inRound l) (3 - 1 - 1) Try.prog [] 26 W Iw (sub [1, 0, 1, 0, 1, 0, 1, 0] B38) _ _ _ from ?_) a2 W2 ha2 hc2
      refine CI.seq (x := sub [1, 0, 1, 0, 1, 0, 1, 0, 0] B38) (y := sub [1, 0, 1, 0, 1, 0, 1, 0, 1] B38) ?_
      refine CI.region (id := 4) (m := 3) (ops := opsOf (sub [1, 0, 1, 0, 1, 0, 1, 0, 0] B38)) rfl ?_
      show WI _ _ _ _ _ _ _ _ [0, 1, 2] _ _ _
      refine WI.pure (o := opAt (opsOf (sub [1, 0, 1, 0, 1, 0, 1, 0, 0] B38)) 0) (d := 18) (v := ptr Bx 1) hFl rfl rfl (fun c h => by cases h) rfl rfl (p_fieldAddr tf64_1 rfl rfl) ?_
      refine WI.imm (o := opAt (opsOf (sub [1, 0, 1, 0, 1, 0, 1, 0, 0] B38)) 1) (d := 19) (v := .agg (encl .u8 x.2.1.2).toArray) hFl rfl rfl (fun c h => by cases h) rfl rfl (fun ρ hρ w hw => b_loadSubA (off := 1) ta62 ts62 (by simp [encl, x.2.2]) (wrc_drop x.2.2) rfl rfl ρ hρ w (hw _ _ hIx1)) ?_
      refine WI.put (o := opAt (opsOf (sub [1, 0, 1, 0, 1, 0, 1, 0, 0] B38)) 2) (H' := [(some br, .cells (enc .u8 x.2.1.2) 62 (0, 0))]) hFl rfl rfl (fun c h => by cases h) rfl (f_storeA (j := 0) (c2 := enc .u8 x.2.1.2) ts62 rfl (by rw [enc_size]; exact x.2.2) (by rw [enc_size]; exact List.length_replicate) (enc_oneCell _ _) rfl rfl rfl) ?_
      refine WI.nil fun a3 W3 ha3 hc3 => ?_
      refine wpIn_ret ?_
      have hkeep : ∀ k, k ≠ br → k < W.heap.size → W3.heap[k]? = W.heap[k]? := fun k hk hlt => by
        have e : Iw k = some W.heap[k] := by simp only [Iw]; rw [if_neg hk]; exact Array.getElem?_eq_getElem hlt
        rw [hc3.imm _ _ e]; exact (Array.getElem?_eq_getElem hlt).symm
      refine ⟨⟨hc3.size, fun k o hkB hk hoc => by
        rw [hkeep k (by omega) (lt_of_get hk)]; exact hk⟩, rfl, pre, x, rfl, hi.1, hx, ?_⟩
      refine ⟨hc3.os.trans hi.2.os, hc3.tape.trans hi.2.tape, hc3.output.trans hi.2.output, Nat.le_trans hi.2.size hc3.size, fun k o e => ?_, fun k o hm => hc3.own k o hm, fun k o hm => by simp at hm; obtain ⟨rfl, _⟩ := hm; simp [Ib], by simp⟩
      simp only [Ib] at e
      split at e
      · cases e
      · rename_i hk
        have hlt := lt_of_get (show wL.heap[k]? = some o from e)
        rw [hkeep k hk (Nat.lt_of_lt_of_le hlt hi.2.size), hi.2.block k hlt]; exact e
    · intro a2 W2 ha2 hc2
      refine wpIn_cond_false (c := .tmp 17) (x := sub [1, 0, 1, 0, 1, 0, 1, 0] B38) (y := sub [1, 0, 1, 0, 1, 0, 1, 1] B38) ?_ ?_
      · rw [ha2.val (.tmp 17) _ rfl]
        congr 1
        simpa using hx
      refine wpIn_skip ?_
      have hkeep : ∀ k, k < W.heap.size → W2.heap[k]? = W.heap[k]? := fun k hlt => by
        by_cases hk : k = br
        · subst hk; rw [hbrW]; exact hc2.own _ _ List.mem_cons_self
        · have e : Iw k = some W.heap[k] := by simp only [Iw]; rw [if_neg hk]; exact Array.getElem?_eq_getElem hlt
          rw [hc2.imm _ _ e]; exact (Array.getElem?_eq_getElem hlt).symm
      have hb2 : Below B W W2 := ⟨hc2.os, hc2.tape, hc2.output, hc2.size, fun k hk => hkeep k (Nat.lt_of_lt_of_le hk hi.2.size)⟩
      refine ⟨⟨hc2.size, fun k o _ hk _ => by rw [hkeep k (lt_of_get hk)]; exact hk⟩, hb2, fun p hp => ?_, hi.2.trans hb2⟩
      rcases List.mem_append.1 hp with hp | hp
      · exact hi.1 p hp
      · simp at hp; subst hp; exact hx
  case done =>
    rintro D xs W hD rfl hi hKD
    have hno : lfind s.late.reverse n = none := by
      refine lfind_none fun p hp => ?_
      rw [← hzs, ← List.map_reverse] at hp
      have h1 := bk_upto zs zs.length (Nat.le_refl _)
      rw [List.take_of_length_le (by simp)] at h1
      rw [← h1] at hp
      obtain ⟨q, hq, rfl⟩ := List.mem_map.1 hp
      exact hi.1 q hq
    have hrd : rd s n = mget s.set n := by unfold rd; rw [hno]; rfl
    have hbrW : W.heap[br]? = some (.cells (enc .u8 zeros) 62 (0, 0)) := by rw [hi.2.block br hlr]; exact hbrL
    have hbnW : W.heap[bn]? = some (.cells #[.int .i64 n] 3 (0, 0)) := by rw [hi.2.block bn hln]; exact hbnL
    let Iw : Mem := fun k => if k = br then none else heapOf W k
    have hcW : Cls W Iw [(some br, .cells (enc .u8 zeros) 62 (0, 0))] W := ⟨rfl, rfl, rfl, Nat.le_refl _, fun b o e => by
      simp only [Iw] at e
      split at e
      · cases e
      · exact e, fun b o hm => by simp at hm; obtain ⟨rfl, rfl⟩ := hm; exact hbrW, fun b o hm => by simp at hm; obtain ⟨rfl, rfl⟩ := hm; simp [Iw], by simp⟩
    have hIw : ∀ k o, heapOf w k = some o → Iw k = some o := fun k o e => by
      have h1 := lt_of_get e
      simp only [Iw]
      rw [if_neg (by omega)]
      show W.heap[k]? = _
      rw [hi.2.block k (lt_of_get (hextL k o e))]; exact hextL k o e
    have hdW := hd.mono hIw
    have hIn1 : Iw bn = some (.cells #[.int .i64 n] 3 (0, 0)) := by
      simp only [Iw]
      rw [if_neg (Ne.symm hrn)]; exact hbnW
    show (sub [1, 1] B38).wpIn Fence.wide 3 Try.prog (bodyPostM Fence.wide 3 Try.prog Try.f38 _) _ W
    refine wpIn_seq (x := sub [1, 1, 0] B38) (y := sub [1, 1, 1] B38) ?_
    refine wpIn_wide.2 ?_
    have hbs := mget_len hd.hs n
    let Q : Act → Heap → Prop := fun a H => ∀ w', Cls W Iw H w' → AgreeD [{ target := .collected D, args := #[] }] 26 [(4, ptr br 0)] a ∧ w'.heap[br]? = some (.cells (enc .u8 (mget s.set n)) 62 (0, 0)) ∧ ∃ H', Cls W Iw H' w'
    refine wp_region_D (id := 5) (ops := opsOf (sub [1, 1, 0] B38)) (l := [0, 1, 2, 3, 4, 5, 6]) (ll := [(.pure, none), (.pure, none), (.pure, none), (.pure, none), (.pure, none), (.pure, none), (.store, none)]) (Q := Q) mixedT (okD_of_okP (m := [0, 1, 3, 7, 0, 31, 63]) (by kernel_rfl)) ⟨fun a H1 H2 hp h w' hc => h w' (hc.perm hp.symm), fun a H h w' hc => absurd ⟨w', hc⟩ h⟩ ?_ hcW ?_
    · intro a2 H2 W2 hc2 hq
      obtain ⟨ha2, hb2, _⟩ := hq W2 hc2
      show Code.ret.wpIn _ _ _ _ _ _
      refine wpIn_ret (hfin D a2 W2 (mget s.set n) hD ha2 ⟨hc2.os.trans hi.2.os, hc2.tape.trans hi.2.tape, hc2.output.trans hi.2.output, Nat.le_trans hi.2.size hc2.size, fun k o e => ?_, fun k o hm => by simp at hm; obtain ⟨rfl, rfl⟩ := hm; exact hb2, fun k o hm => by simp at hm; obtain ⟨rfl, _⟩ := hm; simp [Ib], by simp⟩ ?_ hbs hrd.symm)
      · simp only [Ib] at e
        split at e
        · cases e
        · rename_i hk
          have hlt := lt_of_get (show wL.heap[k]? = some o from e)
          refine hc2.imm k o ?_
          simp only [Iw]
          rw [if_neg hk]
          show W.heap[k]? = _
          rw [hi.2.block k hlt]; exact e
      · refine hc2.imm D _ ?_
        simp only [Iw]
        rw [if_neg (by have := hD; omega)]; exact hKD
    · have hag : AgreeD [{ target := .collected D, args := #[] }] 26 [(4, ptr br 0), (3, ptr bn 0), (0, ptr b 0)] { a with defers := { target := .collected D, args := #[] } :: a.defers } := by
        have h1 := ha.sub (S' := [(4, ptr br 0), (3, ptr bn 0), (0, ptr b 0)]) (Sub.cons rfl (Sub.cons rfl (Sub.cons rfl (Sub.nil _))))
        exact ⟨by rw [h1.1], h1.2.1, h1.2.2⟩
      refine (show DE Try.prog [{ target := .collected D, args := #[] }] 26 W Iw (opsOf (sub [1, 1, 0] B38)) _ _ Q [0, 1, 2, 3, 4, 5, 6] _ _ from ?_) _ hag
      refine DE.imm (o := opAt (opsOf (sub [1, 1, 0] B38)) 0) (d := 20) rfl rfl rfl rfl rfl (fun ρ hρ w _ => p_move rfl rfl ρ hρ w) ?_
      refine DE.imm (o := opAt (opsOf (sub [1, 1, 0] B38)) 1) (d := 21) rfl rfl rfl rfl rfl (fun ρ hρ w _ => p_nilCheck rfl rfl ρ hρ w) ?_
      refine DE.imm (o := opAt (opsOf (sub [1, 1, 0] B38)) 2) (d := 22) rfl rfl rfl rfl rfl (fun ρ hρ w _ => p_fieldAddr tf61_1 rfl rfl ρ hρ w) ?_
      refine DE.imm (o := opAt (opsOf (sub [1, 1, 0] B38)) 3) (d := 23) rfl rfl rfl rfl rfl (i_loadBoxO (off := 1) hdW.hb rfl ta58 rfl rfl) ?_
      refine DE.imm (o := opAt (opsOf (sub [1, 1, 0] B38)) 4) (d := 24) rfl rfl rfl rfl rfl (i_loadBox hIn1 rfl ta3 rfl rfl) ?_
      refine DE.imm (o := opAt (opsOf (sub [1, 1, 0] B38)) 5) (d := 25) rfl rfl rfl rfl rfl (i_mget tu58 tu3 tz62 hdW.hm rfl rfl rfl) ?_
      refine DE.put (o := opAt (opsOf (sub [1, 1, 0] B38)) 6) (H' := [(some br, .cells (enc .u8 (mget s.set n)) 62 (0, 0))]) rfl rfl rfl rfl rfl (f_storeA (j := 0) (c2 := enc .u8 (mget s.set n)) ts62 rfl (by rw [enc_size]; exact hbs) (by rw [enc_size]; exact List.length_replicate) (enc_oneCell _ _) rfl rfl rfl) ?_
      intro a3 ha3 w' hc'
      exact ⟨ha3.sub (Sub.cons rfl (Sub.nil _)), hc'.own _ _ List.mem_cons_self, _, hc'⟩
  case stop =>
    rintro D c pre W hD ⟨k, hk, rfl⟩ ⟨rfl, ini, last, h1, h2, h3, h4⟩ hKD
    have hrd : rd s n = last.2.1.2 := by
      have e1 : (ini.map (fun p => p.2.1)) ++ [last.2.1] = (zs.reverse.take k).map (·.1) := by
        rw [← bk_upto zs k hk, h1]; simp
      have e2 : s.late.reverse = (ini.map (fun p => p.2.1)) ++ (n, last.2.1.2) :: (zs.reverse.drop k).map (·.1) := by
        rw [← hzs, ← List.map_reverse]
        conv => lhs; rw [← List.take_append_drop k zs.reverse, List.map_append, ← e1]
        rw [List.append_assoc]
        congr 1
        rw [← h3]; rfl
      unfold rd
      rw [e2, lfind_some fun p hp => by
        obtain ⟨q, hq, rfl⟩ := List.mem_map.1 hp
        exact h2 q hq]
      rfl
    have hag : AgreeD [{ target := .collected D, args := #[] }] 26 [(4, ptr br 0)] { a with defers := { target := .collected D, args := #[] } :: a.defers } := by
      have h1 := ha.sub (S' := [(4, ptr br 0)]) (Sub.cons rfl (Sub.nil _))
      exact ⟨by rw [h1.1], h1.2.1, h1.2.2⟩
    exact wpIn_ret (hfin D _ W last.2.1.2 hD hag h4 hKD last.2.2 hrd.symm)
end Go.Proofs.Ytjomnicfcdkfdaa
end

section
namespace Go.Proofs.Ytjomnicfcdkfdaa
open Go Go.HW Go.RowKit
set_option linter.unusedVariables false
set_option linter.unusedSimpArgs false

/-! ### rules for walks by hand: the fence is the wide one, nothing is deferred -/
abbrev CW (N : Nat) (w0 : World) (I : Mem) (c : Code) (Q : Exit → Act → World → Prop) (S : Slots) (H : Heap) : Prop := CI Fence.wide 3 Try.prog [] N w0 I c Q S H
abbrev WW (N : Nat) (w0 : World) (I : Mem) (ops : Array Oper) (l : List Nat) (Q : Exit → Act → World → Prop) (S : Slots) (H : Heap) : Prop := WI Fence.wide 3 Try.prog [] N w0 I ops l Q S H
section
variable {N : Nat} {S : Slots} {w0 : World} {I : Mem} {H : Heap} {Q : Exit → Act → World → Prop} {ops : Array Oper} {l : List Nat} {i d : Nat} {o : Oper} {v : Value} {P : Program}
theorem opsW_go (hi : ops[i]? = some o) (hw : Wn ops S o true) (hnd : ∀ c, o.op ≠ .defer c) {a : Act} (ha : AgreeD [] N S a) {w : World} (h : o.uponIn Fence.wide 3 Try.prog a (wpOpsIn Fence.wide 3 Try.prog ops Q l) Q ((execOp a.eval o).run Try.prog w)) : wpOpsIn Fence.wide 3 Try.prog ops Q (i :: l) a w := by
  unfold wpOpsIn
  rw [hi]
  simp only [hw N a (show Agree N S a from ha), if_true]
  exact ⟨fun f _ => trivial, by rw [Oper.semAt_eq _ _ _ hnd]; exact h⟩
theorem W.imm (hi : ops[i]? = some o) (hw : Wn ops S o true) (hd : o.dst = some d) (hN : Nat.blt d N = true) (hp : FImm Try.prog o I S v) (hnd : ∀ c, o.op ≠ .defer c) (h : WW N w0 I ops l Q ((d, v) :: S) H) : WW N w0 I ops (i :: l) Q S H := fun a w ha hc =>
  opsW_go hi hw hnd ha (by rw [hp _ ha.val w hc.imm]; show wpOpsIn _ _ _ _ _ _ _ _; rw [hd]; exact h _ _ (ha.put (by simpa [Nat.blt_eq] using hN) v) hc)
theorem W.pure (hi : ops[i]? = some o) (hw : Wn ops S o true) (hd : o.dst = some d) (hN : Nat.blt d N = true) (hp : FPure Try.prog o S v) (hnd : ∀ c, o.op ≠ .defer c) (h : WW N w0 I ops l Q ((d, v) :: S) H) : WW N w0 I ops (i :: l) Q S H :=
  W.imm hi hw hd hN (fun ρ hρ w _ => hp ρ hρ w) hnd h
theorem W.not (hi : ops[i]? = some o) (hw : Wn ops S o false) (hd : o.dst = some d) (hN : Nat.blt d N = true) (h : WW N w0 I ops l Q ((d, undef) :: S) H) : WW N w0 I ops (i :: l) Q S H := fun a w ha hc => by
  show wpOpsIn _ _ _ _ _ _ _ _
  unfold wpOpsIn
  rw [hi]
  simp only [hw N a (show Agree N S a from ha), Bool.false_eq_true, if_false]
  exact ⟨fun f _ => trivial, by rw [hd]; exact h _ _ (ha.put (by simpa [Nat.blt_eq] using hN) undef) hc⟩
theorem W.quiet (hi : ops[i]? = some o) (hw : Wn ops S o true) (hd : o.dst = some d) (hN : Nat.blt d N = true) (hp : FQuiet Try.prog o w0 I S H v) (hnd : ∀ c, o.op ≠ .defer c) (h : WW N w0 I ops l Q ((d, v) :: S) H) : WW N w0 I ops (i :: l) Q S H := fun a w ha hc =>
  opsW_go hi hw hnd ha (by
    rcases hp _ ha.val w hc with hq | ⟨f, args, hq, hcalls⟩
    · rw [hq]; show wpOpsIn _ _ _ _ _ _ _ _; rw [hd]; exact h _ _ (ha.put (by simpa [Nat.blt_eq] using hN) v) hc
    · rw [hq, Oper.uponIn_enter]
      refine ⟨fun hx => (by cases hx), (callsIn_wide.2 hcalls).mono fun e w' ⟨he, hb⟩ => ?_⟩
      subst he
      show wpOpsIn _ _ _ _ _ _ _ _
      rw [hd]
      exact h _ _ (ha.put (by simpa [Nat.blt_eq] using hN) v) (hc.below hb))
theorem W.new {ob : Obj} {mk : Nat → Value} (hi : ops[i]? = some o) (hw : Wn ops S o true) (hd : o.dst = some d) (hN : Nat.blt d N = true) (hp : FNew Try.prog o S ob mk) (hnd : ∀ c, o.op ≠ .defer c)
    (h : ∀ b, w0.heap.size ≤ b → WW N w0 I ops l Q ((d, mk b) :: S) ((some b, ob) :: H)) : WW N w0 I ops (i :: l) Q S H := fun a w ha hc =>
  opsW_go hi hw hnd ha (by rw [hp _ ha.val w]; show wpOpsIn _ _ _ _ _ _ _ _; rw [hd]; exact h _ hc.size _ _ (ha.put (by simpa [Nat.blt_eq] using hN) _) (hc.alloc ob))
theorem W.put {H' : Heap} (hi : ops[i]? = some o) (hw : Wn ops S o true) (hd : o.dst = none) (hp : FPut Try.prog o w0 I S H H') (hnd : ∀ c, o.op ≠ .defer c) (h : WW N w0 I ops l Q S H') : WW N w0 I ops (i :: l) Q S H := fun a w ha hc => by
  obtain ⟨w', hr, hc'⟩ := hp _ ha.val w hc
  exact opsW_go hi hw hnd ha (by rw [hr]; show wpOpsIn _ _ _ _ _ _ _ _; rw [hd]; exact h _ _ ha hc')
theorem W.act {X : Type} {u : X → Value} {H' : X → Heap} (hi : ops[i]? = some o) (hw : Wn ops S o true) (hd : o.dst = some d) (hN : Nat.blt d N = true) (hp : FAct Try.prog o w0 I S H X u H') (hnd : ∀ c, o.op ≠ .defer c)
    (h : ∀ x, WW N w0 I ops l Q ((d, u x) :: S) (H' x)) : WW N w0 I ops (i :: l) Q S H := fun a w ha hc =>
  opsW_go hi hw hnd ha (by
    rcases hp _ ha.val w hc with ⟨x, w', hq, hc'⟩ | ⟨x, w', hq, hv, hc'⟩ | ⟨f, args, w1, hq, hcalls⟩
    · rw [hq]; show wpOpsIn _ _ _ _ _ _ _ _; rw [hd]; exact h x _ _ (ha.put (by simpa [Nat.blt_eq] using hN) _) hc'
    · rw [hq]; show wpOpsIn _ _ _ _ _ _ _ _; rw [hd]; have := h x _ _ (ha.put (by simpa [Nat.blt_eq] using hN) (u x)) hc'; rw [hv] at this; exact this
    · rw [hq, Oper.uponIn_enter]
      refine ⟨fun hx => (by cases hx), (callsIn_wide.2 hcalls).mono fun e w' ⟨x, he, hc'⟩ => ?_⟩
      subst he
      show wpOpsIn _ _ _ _ _ _ _ _
      rw [hd]
      exact h x _ _ (ha.put (by simpa [Nat.blt_eq] using hN) _) hc')
/-- a call that turns what is owned -/
theorem W.callX {X : Type} {u : X → Value} {H' : X → Heap} {cl : Call} {fo : Operand} {g : FuncId} {args : Array Value} (hi : ops[i]? = some o) (hw : Wn ops S o true) (hd : o.dst = some d) (hN : Nat.blt d N = true)
    (ho : o.op = .call cl) (hcal : cl.callee = .value fo) (hf : ev S fo = some (.func (.func g) #[] #[])) (hargs : ∀ ρ, Val S ρ → cl.args.map ρ = args) (hbody : ∀ w, (callFunc g args).run Try.prog w = .ok (.enter g args) w)
    (hc : ∀ w, Cls w0 I H w → Calls Try.prog g args w fun e w' => ∃ x, e = .returned (u x) ∧ Cls w0 I (H' x) w') (h : ∀ x, WW N w0 I ops l Q ((d, u x) :: S) (H' x)) : WW N w0 I ops (i :: l) Q S H :=
  W.act hi hw hd hN (fun ρ hρ w hcl => .inr (.inr ⟨g, args, w, by
    simp only [execOp, ho, resolve, hcal, hargs _ hρ]
    rw [hρ _ _ hf]
    show (callFunc g (#[] ++ args ++ #[])).run Try.prog w = _
    simpa using hbody w, hc w hcl⟩)) (fun c hx => by rw [ho] at hx; cases hx) h
theorem W.done {y : Code} (h : CW N w0 I y Q S H) : WW N w0 I ops [] (Exit.then (y.wpIn Fence.wide 3 Try.prog Q) Q) S H := fun a w ha hc => h a w ha hc
theorem W.end' (h : ∀ a w, AgreeD [] N S a → Cls w0 I H w → Q .normal a w) : WW N w0 I ops [] Q S H := fun a w ha hc => h a w ha hc
theorem W.doneQ {y : Code} {Q2 : Exit → Act → World → Prop} (hQ : Q .normal = y.wpIn Fence.wide 3 Try.prog Q2) (h : CW N w0 I y Q2 S H) : WW N w0 I ops [] Q S H := fun a w ha hc => by show Q .normal a w; rw [hQ]; exact h a w ha hc
theorem C.skipQ {y : Code} {Q2 : Exit → Act → World → Prop} (hQ : Q .normal = y.wpIn Fence.wide 3 Try.prog Q2) (h : CW N w0 I y Q2 S H) : CW N w0 I .skip Q S H := fun a w ha hc => wpIn_skip (by rw [hQ]; exact h a w ha hc)
theorem C.region {id m : Nat} {ops : Array Oper} (hm : ops.size = m) (h : WW N w0 I ops (List.range m) Q S H) : CW N w0 I (.region id ops false) Q S H := CI.region hm h
theorem C.seq {x y : Code} (h : CW N w0 I x (Exit.then (y.wpIn Fence.wide 3 Try.prog Q) Q) S H) : CW N w0 I (.seq x y) Q S H := CI.seq h
theorem C.skip {y : Code} (h : CW N w0 I y Q S H) : CW N w0 I .skip (Exit.then (y.wpIn Fence.wide 3 Try.prog Q) Q) S H := fun a w ha hc => wpIn_skip (h a w ha hc)
theorem C.block {id : Nat} {c : Code} (h : CW N w0 I c (Exit.inBlock id Q) S H) : CW N w0 I (.block id c) Q S H := fun a w ha hc => wpIn_block (h a w ha hc)
theorem C.cond_true {c : Operand} {x y : Code} {p : Bool} (hc : ev S c = some (.bool p)) (hp : p = true) (h : CW N w0 I x Q S H) : CW N w0 I (.cond c x y) Q S H := fun a w ha hcl => wpIn_cond_true (by rw [ha.val _ _ hc, hp]) (h a w ha hcl)
theorem C.cond_false {c : Operand} {x y : Code} {p : Bool} (hc : ev S c = some (.bool p)) (hp : p = false) (h : CW N w0 I y Q S H) : CW N w0 I (.cond c x y) Q S H := fun a w ha hcl => wpIn_cond_false (by rw [ha.val _ _ hc, hp]) (h a w ha hcl)
theorem C.weak {c : Code} {S' : Slots} (h : CW N w0 I c Q S' H) (hs : Sub S' S) : CW N w0 I c Q S H := fun a w ha hc => h a w (ha.sub hs) hc
theorem C.perm {c : Code} {H' : Heap} (h : CW N w0 I c Q S H') (hp : H.Perm H') : CW N w0 I c Q S H := fun a w ha hc => h a w ha (hc.perm hp)
theorem C.fewer {c : Code} {H' : Heap} (h : CW N w0 I c Q S H') (hp : H'.Sublist H) : CW N w0 I c Q S H := fun a w ha hc => h a w ha (hc.fewer hp)
theorem C.ret {f : FuncId} {fn : Func} {R : Ending → World → Prop} {rs : List ResultVar} {vs : List Value} (hQ : Q .ret = bodyPost Try.prog fn R .ret) (hf : Try.prog.funcs[f]? = some fn) (hrs : fn.results = rs.toArray) (hl : rs.length = vs.length)
    (hv : (if h : vs.toArray.size = 1 then vs.toArray[0] else .tuple vs.toArray) = v) (hall : ∀ (i : Nat) (r : ResultVar) (u : Value), rs[i]? = some r → vs[i]? = some u → ResV Try.prog N w0 I S H r u) (hR : ∀ w, Cls w0 I H w → R (.returned v) w) :
    CW N w0 I .ret Q S H := fun a w ha hc => by
  refine wpIn_ret ?_
  rw [hQ]
  obtain ⟨hd, fn', v', hf', hr, hR'⟩ := fin_of (P := Try.prog) (f := f) (N := N) (R := R) v hf hrs hl hv hall (show Agree N S a from ha) hc (hR w hc)
  rw [hf] at hf'; cases hf'
  exact ⟨hd, v', hr, hR'⟩
theorem wpIn_loop_rel {F : Fence} {n : Nat} {P : Program} {a : Act} {w : World} {c : Code} {α : Type} (L : α → Nat) (J : α → Act → World → Prop) {x0 : α} (h₀ : J x0 a w)
    (round : ∀ x a w, J x a w → c.wpIn F n P (Exit.then (fun a' w' => ∃ y, J y a' w' ∧ L y < L x) Q) a w) : (Code.loop c).wpIn F n P Q a w := by
  intro b k cs hro hb hr
  have key : ∀ j x a w, L x = j → J x a w →
      ∃ e a' w', Q e a' w' ∧ ArrivesIn (Machine.fenced P F) P (lone (b.atR a (.code c :: .inLoop c :: k)) cs w) b k cs e a' w' := by
    intro j
    induction j using Nat.strongRecOn with
    | _ j ih =>
      intro x a w hn hI
      obtain ⟨e, a₁, w₁, hq, harr⟩ := round x a w hI b (.inLoop c :: k) cs hro hb hr
      cases e with
      | normal =>
        obtain ⟨y, hI₁, hlt⟩ := hq
        obtain ⟨e₂, a₂, w₂, hq₂, harr₂⟩ := ih (L y) (hn ▸ hlt) y a₁ w₁ rfl hI₁
        exact ⟨e₂, a₂, w₂, hq₂, .of_steps (StepsIn.trans harr (.one (fenced_calm hb hr rfl) stepR_inLoop)) harr₂⟩
      | exit id => exact ⟨_, a₁, w₁, hq, .pass (x := .inLoop c) rfl (fun _ _ => .inl (by simp)) harr⟩
      | goto l => exact ⟨_, a₁, w₁, hq, .pass (x := .inLoop c) rfl (fun _ _ => .inl (by simp)) harr⟩
      | ret => exact ⟨_, a₁, w₁, hq, .pass (x := .inLoop c) rfl (fun _ _ => .inl (by simp)) harr⟩
      | panic ch => exact ⟨_, a₁, w₁, hq, .pass (x := .inLoop c) rfl (fun _ _ => .inl (by simp)) harr⟩
      | outgrown => exact ⟨_, a₁, w₁, hq, .pass (x := .inLoop c) rfl (fun _ _ => .inl (by simp)) harr⟩
  obtain ⟨e, a', w', hq, harr⟩ := key _ x0 a w rfl h₀
  exact ⟨e, a', w', hq, .of_steps (.one (fenced_calm hb hr rfl) stepR_loop) harr⟩
/-- A loop: round for round, 'S k', 'H k' for what stands as round k begins. -/
theorem C.loop {c : Code} {α : Type} (L : α → Nat) (Sx : α → Slots) (Hx : α → Heap) (p : α → Prop) (x0 : α) (h0 : p x0) (hs : Sub (Sx x0) S) (hH : H = Hx x0)
    (h : ∀ x, p x → ∀ Q' : Exit → Act → World → Prop, (∀ y, p y → L y < L x → ∀ a w, AgreeD [] N (Sx y) a → Cls w0 I (Hx y) w → Q' .normal a w) → (∀ e a w, e ≠ .normal → Q e a w → Q' e a w) → CW N w0 I c Q' (Sx x) (Hx x)) : CW N w0 I (.loop c) Q S H := fun a w ha hc => by
  subst hH
  refine wpIn_loop_rel L (fun x a w => p x ∧ AgreeD [] N (Sx x) a ∧ Cls w0 I (Hx x) w) ⟨h0, ha.sub hs, hc⟩ fun x a w ⟨hp, hA, hC⟩ => ?_
  refine h x hp _ (fun y hy hlt a' w' hA' hC' => ⟨y, ⟨hy, hA', hC'⟩, hlt⟩) (fun e a w he hq => ?_) a w hA hC
  cases e <;> first | exact absurd rfl he | exact hq
theorem calls_of_CW {f : FuncId} {fn : Func} {c : Code} {args : Array Value} {w : World} {R : Ending → World → Prop} (hf : Try.prog.funcs[f]? = some fn) (hb : fn.body = some c) (hN : fn.ntmps = N) (hsz : Nat.ble args.size N = true) (hS : ∀ p ∈ S, args[p.1]? = some p.2)
    (hc : Cls w0 I H w) (h : CW N w0 I c (bodyPost Try.prog fn R) S H) : Calls Try.prog f args w R :=
  callsIn_wide.1 (callsIn_of_CI wide_wide rfl hf hb hN hsz hS hc h)
end
def wnB (ops : Array Oper) (S : Slots) (o : Oper) : Option Bool := match o.guard with
  | none => some true
  | some (j, want) => match (ops[j]?).bind (·.dst) with
    | none => none
    | some t => match HW.get S t with
      | some (.bool p) => some (p == want)
      | _ => none
theorem wo {ops : Array Oper} {S : Slots} {o : Oper} {b : Bool} (h : wnB ops S o = some b) : Wn ops S o b := by
  unfold wnB at h
  cases hg : o.guard with
  | none => rw [hg] at h; cases h; exact Wn.none hg
  | some q =>
    obtain ⟨j, want⟩ := q
    rw [hg] at h
    simp only at h
    cases hj : (ops[j]?).bind (·.dst) with
    | none => rw [hj] at h; cases h
    | some t =>
      rw [hj] at h
      simp only at h
      cases ht : HW.get S t with
      | none => rw [ht] at h; cases h
      | some v =>
        rw [ht] at h
        cases v with
        | bool p => simp only [Option.some.injEq] at h; exact Wn.some hg hj ht h
        | _ => cases h
def nfB : Op → Bool
  | .defer _ => false
  | _ => true
theorem nf {o : Oper} (h : nfB o.op = true) : ∀ c, o.op ≠ .defer c := fun c e => by rw [e] at h; cases h

end Go.Proofs.Ytjomnicfcdkfdaa
namespace Go.Proofs.Ytjomnicfcdkfdaa
open Go Go.HW Go.RowKit
set_option linter.unusedVariables false
/-! #### regions that draw their order -/
section
variable {N : Nat} {S : Slots} {w0 w1 : World} {I : Mem} {H : Heap} {Q : Exit → Act → World → Prop} {Qn : Act → Heap → Prop} {ops : Array Oper} {lab : Lab} {ids : Nat → Option Nat} {l : List Nat} {i d : Nat} {o : Oper} {v : Value}
abbrev DD (N : Nat) (w0 : World) (I : Mem) (ops : Array Oper) (lab : Lab) (ids : Nat → Option Nat) (Q : Act → Heap → Prop) (l : List Nat) (S : Slots) (H : Heap) : Prop := DE Try.prog [] N w0 I ops lab ids Q l S H
theorem DW.pure (hi : ops[i]? = some o) (hg : o.guard = none) (hd : o.dst = some d) (hN : Nat.blt d N = true) (hk : (lab i).1 = .pure) (hp : FPure Try.prog o S v) (h : DD N w0 I ops lab ids Qn l ((d, v) :: S) H) : DD N w0 I ops lab ids Qn (i :: l) S H :=
  DE.imm hi hg hd hN hk (fun ρ hρ w _ => hp ρ hρ w) h
theorem DW.imm (hi : ops[i]? = some o) (hg : o.guard = none) (hd : o.dst = some d) (hN : Nat.blt d N = true) (hk : (lab i).1 = .pure) (hp : FImm Try.prog o I S v) (h : DD N w0 I ops lab ids Qn l ((d, v) :: S) H) : DD N w0 I ops lab ids Qn (i :: l) S H :=
  DE.imm hi hg hd hN hk hp h
theorem DW.quiet (hi : ops[i]? = some o) (hg : o.guard = none) (hd : o.dst = some d) (hN : Nat.blt d N = true) (hk : (lab i).1 = .quiet) (hp : FQuiet Try.prog o w0 I S H v) (h : DD N w0 I ops lab ids Qn l ((d, v) :: S) H) : DD N w0 I ops lab ids Qn (i :: l) S H := fun a ha => by
  show stepD Try.prog ops w0 I lab ids i _ a H
  unfold stepD
  rw [hi]
  intro _
  exact ⟨.val v, .inl ⟨by simp [Region.wanted, hg], .inr (.inl ⟨hk, fun w hc => hp _ ha.val w hc⟩)⟩, by show listD _ _ _ _ _ _ _ _ _ _; rw [hd]; exact h _ (ha.put (by simpa [Nat.blt_eq] using hN) v)⟩
theorem DW.new {ob : Obj} {mk : Nat → Value} (hi : ops[i]? = some o) (hg : o.guard = none) (hd : o.dst = some d) (hN : Nat.blt d N = true) (hk : (lab i).1 = .alloc) (hp : FNew Try.prog o S ob mk)
    (h : ∀ b, w0.heap.size ≤ b → DD N w0 I ops lab ids Qn l ((d, mk b) :: S) ((some b, ob) :: H)) : DD N w0 I ops lab ids Qn (i :: l) S H := fun a ha => by
  show stepD Try.prog ops w0 I lab ids i _ a H
  unfold stepD
  rw [hi]
  intro _
  exact ⟨.new ob mk, .inl ⟨by simp [Region.wanted, hg], hk, hp _ ha.val⟩, fun b hb => by show listD _ _ _ _ _ _ _ _ _ _; rw [hd]; exact h b hb _ (ha.put (by simpa [Nat.blt_eq] using hN) (mk b))⟩
theorem DW.actx {X : Type} {u : X → Value} {H' : X → Heap} (hi : ops[i]? = some o) (hg : o.guard = none) (hd : o.dst = some d) (hN : Nat.blt d N = true) (hk : (lab i).1 = .actx) (hp : FAct Try.prog o w0 I S H X u H')
    (h : ∀ x, DD N w0 I ops lab ids Qn l ((d, u x) :: S) (H' x)) : DD N w0 I ops lab ids Qn (i :: l) S H := fun a ha => by
  show stepD Try.prog ops w0 I lab ids i _ a H
  unfold stepD
  rw [hi]
  intro _
  exact ⟨.act X u H', .inl ⟨by simp [Region.wanted, hg], .inr (.inl hk), fun w hc => hp _ ha.val w hc⟩, fun x => by show listD _ _ _ _ _ _ _ _ _ _; rw [hd]; exact h x _ (ha.put (by simpa [Nat.blt_eq] using hN) (u x))⟩
theorem DW.look {x b : Nat} {ob : Obj} (hi : ops[i]? = some o) (hg : o.guard = none) (hd : o.dst = some d) (hN : Nat.blt d N = true) (hk : (lab i).1 = .look) (hx : (lab i).2 = some x) (hb : ids x = some b) (hm : (some b, ob) ∈ H)
    (hp : ∀ ρ, Val S ρ → ∀ w, w.heap[b]? = some ob → (execOp ρ o).run Try.prog w = .ok (.value v) w) (h : DD N w0 I ops lab ids Qn l ((d, v) :: S) H) : DD N w0 I ops lab ids Qn (i :: l) S H := fun a ha => by
  show stepD Try.prog ops w0 I lab ids i _ a H
  unfold stepD
  rw [hi]
  intro _
  exact ⟨.val v, .inl ⟨by simp [Region.wanted, hg], .inr (.inr ⟨hk, x, b, ob, hx, hb, hm, fun w hc => hp _ ha.val w hc⟩)⟩, by show listD _ _ _ _ _ _ _ _ _ _; rw [hd]; exact h _ (ha.put (by simpa [Nat.blt_eq] using hN) v)⟩
theorem DW.keep {X : Type} {u : X → Value} {H' : X → Heap} (hkeep : ∀ x p, p ∈ H → p ∈ H' x) (hi : ops[i]? = some o) (hg : o.guard = none) (hd : o.dst = some d) (hN : Nat.blt d N = true) (hk : (lab i).1 = .keep) (hp : FAct Try.prog o w0 I S H X u H')
    (h : ∀ x, DD N w0 I ops lab ids Qn l ((d, u x) :: S) (H' x)) : DD N w0 I ops lab ids Qn (i :: l) S H := fun a ha => by
  show stepD Try.prog ops w0 I lab ids i _ a H
  unfold stepD
  rw [hi]
  intro _
  exact ⟨.act X u H', .inl ⟨by simp [Region.wanted, hg], .inr (.inr (.inl ⟨hk, hkeep⟩)), fun w hc => hp _ ha.val w hc⟩, fun x => by show listD _ _ _ _ _ _ _ _ _ _; rw [hd]; exact h x _ (ha.put (by simpa [Nat.blt_eq] using hN) (u x))⟩
/-- what a call does, as an operation -/
theorem f_callX {X : Type} {u : X → Value} {H' : X → Heap} {cl : Call} {fo : Operand} {g : FuncId} {args : Array Value} (ho : o.op = .call cl) (hcal : cl.callee = .value fo) (hf : ev S fo = some (.func (.func g) #[] #[])) (hargs : ∀ ρ, Val S ρ → cl.args.map ρ = args) (hbody : ∀ w, (callFunc g args).run Try.prog w = .ok (.enter g args) w)
    (hc : ∀ w, Cls w0 I H w → Calls Try.prog g args w fun e w' => ∃ x, e = .returned (u x) ∧ Cls w0 I (H' x) w') : FAct Try.prog o w0 I S H X u H' := fun ρ hρ w hcl => .inr (.inr ⟨g, args, w, by
    simp only [execOp, ho, resolve, hcal, hargs _ hρ]
    rw [hρ _ _ hf]
    show (callFunc g (#[] ++ args ++ #[])).run Try.prog w = _
    simpa using hbody w, hc w hcl⟩)
theorem DW.put {H' : Heap} (hi : ops[i]? = some o) (hg : o.guard = none) (hd : o.dst = none) (hk : (lab i).1 = .store) (hn : (lab i).2 = none) (hp : FPut Try.prog o w0 I S H H') (h : DD N w0 I ops lab ids Qn l S H') : DD N w0 I ops lab ids Qn (i :: l) S H := DE.put hi hg hd hk hn hp h
theorem C.regionD {id : Nat} (l m : List Nat) (ll : List (Kd × Option Nat)) (hB : okP ops (labOf ll) l m = true)
    (h : ∀ w1, Later w0 w1 → DD N w1 I ops (labOf ll) (idsOf H) (fun a H2 => ∀ w', Cls w1 I H2 w' → Q .normal a w') l S H) : CW N w0 I (.region id ops true) Q S H := fun a w ha hc =>
  wpIn_wide.2 (wp_region_D mixedT (okD_of_okP hB) ⟨fun a H1 H2 hp h w' hc => h w' (hc.perm hp.symm), fun a H h w' hc => absurd ⟨w', hc⟩ h⟩ (fun a H w' hc hq => hq w' hc) hc (h w ⟨hc.os, hc.tape, hc.output, hc.size⟩ a ha))
theorem DW.doneQ {y : Code} {Q2 : Exit → Act → World → Prop} (hl : Later w0 w1) (hQ : Q .normal = y.wpIn Fence.wide 3 Try.prog Q2) (h : CW N w0 I y Q2 S H) : DD N w1 I ops lab ids (fun a H2 => ∀ w', Cls w1 I H2 w' → Q .normal a w') [] S H := fun a ha w' hc => by rw [hQ]; exact h a w' ha (hc.later hl)
theorem DW.end' (hl : Later w0 w1) (h : ∀ a w', AgreeD [] N S a → Cls w0 I H w' → Q .normal a w') : DD N w1 I ops lab ids (fun a H2 => ∀ w', Cls w1 I H2 w' → Q .normal a w') [] S H := fun a ha w' hc => h a w' ha (hc.later hl)
theorem C.exit {id : Nat} (h : ∀ a w, AgreeD [] N S a → Cls w0 I H w → Q (.exit id) a w) : CW N w0 I (.exit id) Q S H := fun a w ha hc => wpIn_exit (h a w ha hc)
theorem C.skipE (h : ∀ a w, AgreeD [] N S a → Cls w0 I H w → Q .normal a w) : CW N w0 I .skip Q S H := fun a w ha hc => wpIn_skip (h a w ha hc)
/-- a piece with more than one way through it -/
theorem C.join {c y : Code} {Q2 : Exit → Act → World → Prop} (S2 : Slots) (H2 : Heap) (hQ : Q .normal = y.wpIn Fence.wide 3 Try.prog Q2)
    (h : ∀ Q' : Exit → Act → World → Prop, (∀ a w, AgreeD [] N S2 a → Cls w0 I H2 w → Q' .normal a w) → CW N w0 I c Q' S H) (hy : CW N w0 I y Q2 S2 H2) : CW N w0 I c Q S H := fun a w ha hc =>
  wpIn_mono (h (fun e a w => e = .normal ∧ AgreeD [] N S2 a ∧ Cls w0 I H2 w) (fun a w ha hc => ⟨rfl, ha, hc⟩) a w ha hc) fun e a w ⟨he, ha, hc⟩ => by
    subst he; rw [hQ]; exact hy a w ha hc
/-- a loop in its block, and what stands behind -/
theorem C.loopB {id : Nat} {c y : Code} {Q2 : Exit → Act → World → Prop} {α : Type} (L : α → Nat) (Sx : α → Slots) (Hx : α → Heap) (p : α → Prop) (x0 : α) (h0 : p x0) (hs : Sub (Sx x0) S) (hH : H = Hx x0)
    (hQ : Q .normal = y.wpIn Fence.wide 3 Try.prog Q2) (e : α → Prop)
    (h : ∀ x, p x → ∀ Q' : Exit → Act → World → Prop, (∀ y, p y → L y < L x → ∀ a w, AgreeD [] N (Sx y) a → Cls w0 I (Hx y) w → Q' .normal a w) → (e x → ∀ a w, AgreeD [] N (Sx x) a → Cls w0 I (Hx x) w → Q' (.exit id) a w) → (∀ a w, Q .ret a w → Q' .ret a w) → CW N w0 I c Q' (Sx x) (Hx x)) (hy : ∀ x, p x → e x → CW N w0 I y Q2 (Sx x) (Hx x)) : CW N w0 I (.block id (.loop c)) Q S H := by
  refine C.block ?_
  refine C.loop L Sx Hx p x0 h0 hs hH fun x hp Q' hn he => ?_
  refine h x hp Q' hn (fun hx a w ha hc => he _ a w (by simp) ?_) (fun a w hq => he _ a w (by simp) hq)
  show Exit.inBlock id Q (.exit id) a w
  simp only [Exit.inBlock, if_true]
  rw [hQ]
  exact hy x hp hx a w ha hc
end
end Go.Proofs.Ytjomnicfcdkfdaa
end

section
namespace Go.Proofs.Ytjomnicfcdkfdaa
open Go Go.HW Go.RowKit
set_option linter.unusedVariables false
set_option linter.unusedSimpArgs false

def dk1 (b m : Nat) (v : Value) (s : Dk) : Option Nat × Obj := (some b, .cells #[.int .i64 s.n, .map (some m), v, .int .i64 s.fuse, .bool s.armed, .bool s.dead] 61 (0, 0))
def dkH (b m : Nat) (v : Value) (cur : Array Value) (s : Dk) : Heap := [dk1 b m v s, (some m, dmap s.set), (v.ownBlock, .cells cur 64 (0, 0))]
structure DkO (v : Value) (cur : Array Value) (s : Dk) : Prop where
  hr : OwnS ShWr (fun _ => none) v cur s.late
  hs : Full s.set
theorem OwnS.anyM {M M' : Mem} {v : Value} {cur : Array Value} {xs : List Wr} (h : OwnS ShWr M v cur xs) : OwnS ShWr M' v cur xs := h
theorem RowS.anyM {M M' : Mem} {v : Value} {xs : List Wr} (h : OwnS ShWr M v #[] xs) : OwnS ShWr M' v #[] xs := h
theorem DkO.M {v : Value} {cur : Array Value} {s : Dk} (h : DkO v cur s) {w0 w : World} {I : Mem} {H : Heap} {b m : Nat} (hc : Cls w0 I H w) (hs : ∀ p ∈ dkH b m v cur s, p ∈ H) : DkM (heapOf w) b m v s := by
  refine ⟨hc.own _ _ (hs _ List.mem_cons_self), hc.own _ _ (hs _ (List.mem_cons_of_mem _ List.mem_cons_self)), ?_, h.hs⟩
  obtain ⟨cs, h1, h2⟩ := h.hr
  exact ⟨cs, h1.row hc (hs _ (List.mem_cons_of_mem _ (List.mem_cons_of_mem _ List.mem_cons_self))), h2⟩

theorem p_neNil {P : Program} {o : Oper} {S : Slots} {T U : TypeId} {x y : Operand} {v z : Value} {b : Bool} (hr : ∀ w, (binOp .neq T v z).run P w = .ok (.bool b) w) (hg : ∀ w, (eqGuard .neq T x y v z).run P w = .ok () w) (ho : o.op = .binOp .neq T x y U) (hx : ev S x = some v) (hy : ev S y = some z) : FPure P o S (.bool b) := fun ρ hρ w => by
  simp only [execOp, ho, hρ _ _ hx, hρ _ _ hy]
  refine val_run ?_
  exact (run_of_bind (hg w)).trans (hr w)
theorem ne24 (b : Nat) (w : World) : (binOp .neq 24 (ptr b 0) (.pointer none)).run Try.prog w = .ok (.bool true) w := by kernel_rfl
theorem ne58 (b : Nat) (w : World) : (binOp .neq 58 (.map (some b)) (.map none)).run Try.prog w = .ok (.bool true) w := by kernel_rfl
theorem eg24 (x y : Operand) (b : Nat) (w : World) : (eqGuard .neq 24 x y (ptr b 0) (.pointer none)).run Try.prog w = .ok () w := by kernel_rfl
theorem eg58 (x y : Operand) (b : Nat) (w : World) : (eqGuard .neq 58 x y (.map (some b)) (.map none)).run Try.prog w = .ok () w := by kernel_rfl
theorem ta4 (w : World) : (isAgg 4).run Try.prog w = .ok false w := by kernel_rfl
theorem en32 (args : Array Value) (w : World) : (callFunc 32 args).run Try.prog w = .ok (.enter 32 args) w := by kernel_rfl
theorem en34 (args : Array Value) (w : World) : (callFunc 34 args).run Try.prog w = .ok (.enter 34 args) w := by kernel_rfl
noncomputable def B32 : Code := bodyOf Try.f32
noncomputable def B34 : Code := bodyOf Try.f34
noncomputable def B17 : Code := bodyOf Try.f17
noncomputable def B25 : Code := bodyOf Try.f25
theorem clsStart (w : World) : Cls w (heapOf w) [] w := ⟨rfl, rfl, rfl, Nat.le_refl _, fun b o e => e, fun b o e => (by cases e), fun b o e => (by cases e), List.nodup_nil⟩

theorem there_ok {w : World} {M : Mem} (hM : Imm M w) {b m : Nat} {v : Value} {s : Dk} (hd : DkM M b m v s) : Calls Try.prog 32 #[ptr b 0] w fun e w' => e = .returned (.bool true) ∧ Below w.heap.size w w' := by
  have hd := hd.mono (show Ext M (heapOf w) from hM)
  refine calls_of_CW (N := 12) Try.func32 (show _ = some B32 by kernel_rfl) (by kernel_rfl) rfl (S := [(0, ptr b 0)]) (by simp) (clsStart w) ?_
  show CW _ _ _ (sub [] B32) _ _ _
  refine C.seq (x := sub [0] B32) (y := sub [1] B32) ?_
  refine C.region (id := 0) (m := 1) (ops := opsOf (sub [0] B32)) rfl ?_
  refine W.pure rfl (wo rfl) rfl rfl (p_assign (v := .bool false) rfl rfl) (nf rfl) ?_
  refine W.done (y := sub [1] B32) ?_
  refine C.seq (x := sub [1, 0] B32) (y := sub [1, 1] B32) ?_
  refine C.region (id := 1) (m := 10) (ops := opsOf (sub [1, 0] B32)) rfl ?_
  refine W.pure rfl (wo rfl) rfl rfl (p_move rfl rfl) (nf rfl) ?_
  refine W.pure rfl (wo rfl) rfl rfl (p_neNil (ne24 b) (eg24 _ _ b) rfl rfl rfl) (nf rfl) ?_
  refine W.pure rfl (wo rfl) rfl rfl (p_move rfl rfl) (nf rfl) ?_
  refine W.pure rfl (wo rfl) rfl rfl (p_move rfl rfl) (nf rfl) ?_
  refine W.pure rfl (wo rfl) rfl rfl (p_nilCheck rfl rfl) (nf rfl) ?_
  refine W.pure rfl (wo rfl) rfl rfl (p_fieldAddr tf61_1 rfl rfl) (nf rfl) ?_
  refine W.imm rfl (wo rfl) rfl rfl (i_loadBoxO (off := 1) hd.hb rfl ta58 rfl rfl) (nf rfl) ?_
  refine W.pure rfl (wo rfl) rfl rfl (p_neNil (ne58 m) (eg58 _ _ m) rfl rfl rfl) (nf rfl) ?_
  refine W.pure rfl (wo rfl) rfl rfl (p_pick_true rfl rfl rfl) (nf rfl) ?_
  refine W.pure rfl (wo rfl) rfl rfl (p_assign rfl rfl) (nf rfl) ?_
  refine W.done (y := sub [1, 1] B32) ?_
  exact C.ret (rs := [.tmp 2]) (vs := [.bool true]) rfl Try.func32 rfl rfl rfl (res_cons (ResV.tmp rfl) res_nil) fun w' hc => ⟨rfl, hc.toBelow⟩
end Go.Proofs.Ytjomnicfcdkfdaa
end

section
namespace Go.Proofs.Ytjomnicfcdkfdaa
open Go Go.HW Go.RowKit
set_option linter.unusedVariables false
set_option linter.unusedSimpArgs false

theorem pT {P : Program} {o : Oper} {S : Slots} {b : Bool} (h : b = true) (hp : FPure P o S (.bool b)) : FPure P o S (.bool true) := by rw [← h]; exact hp
theorem pF {P : Program} {o : Oper} {S : Slots} {b : Bool} (h : b = false) (hp : FPure P o S (.bool b)) : FPure P o S (.bool false) := by rw [← h]; exact hp

theorem has_neg {w : World} {M : Mem} (hM : Imm M w) {b m : Nat} {v : Value} {s : Dk} (hd : DkM M b m v s) (n : Int) (h : n < 0) : Calls Try.prog 34 #[ptr b 0, .int .i64 n] w fun e w' => e = .returned (.bool false) ∧ Below w.heap.size w w' := by
  have hd := hd.mono (show Ext M (heapOf w) from hM)
  refine calls_of_CW (N := 15) Try.func34 (show _ = some B34 by kernel_rfl) (by kernel_rfl) rfl (S := [(0, ptr b 0), (1, .int .i64 n)]) (by simp) (clsStart w) ?_
  show CW _ _ _ (sub [] B34) _ _ _
  refine C.seq (x := sub [0] B34) (y := sub [1] B34) ?_
  refine C.region (id := 0) (m := 1) (ops := opsOf (sub [0] B34)) rfl ?_
  refine W.pure rfl (wo rfl) rfl rfl (p_assign rfl rfl) (nf rfl) ?_
  refine W.doneQ (y := sub [1] B34) rfl ?_
  refine C.seq (x := sub [1, 0] B34) (y := sub [1, 1] B34) ?_
  refine C.region (id := 1) (m := 11) (ops := opsOf (sub [1, 0] B34)) rfl ?_
  refine W.pure rfl (wo rfl) rfl rfl (p_move rfl rfl) (nf rfl) ?_
  refine W.pure rfl (wo rfl) rfl rfl (pF (decide_eq_false (by omega)) (p_geq rfl rfl rfl)) (nf rfl) ?_
  refine W.pure rfl (wo rfl) rfl rfl (p_move rfl rfl) (nf rfl) ?_
  refine W.not rfl (wo rfl) rfl rfl ?_
  refine W.not rfl (wo rfl) rfl rfl ?_
  refine W.not rfl (wo rfl) rfl rfl ?_
  refine W.not rfl (wo rfl) rfl rfl ?_
  refine W.not rfl (wo rfl) rfl rfl ?_
  refine W.not rfl (wo rfl) rfl rfl ?_
  refine W.pure rfl (wo rfl) rfl rfl (p_pick_false rfl rfl rfl) (nf rfl) ?_
  refine W.pure rfl (wo rfl) rfl rfl (p_assign rfl rfl) (nf rfl) ?_
  refine W.doneQ (y := sub [1, 1] B34) rfl ?_
  exact C.ret (rs := [.tmp 4]) (vs := [.bool false]) rfl Try.func34 rfl rfl rfl (res_cons (ResV.tmp rfl) res_nil) fun w1 hc1 => ⟨rfl, hc1.toBelow⟩

theorem has_pos {w : World} {M : Mem} (hM : Imm M w) {b m : Nat} {v : Value} {s : Dk} (hd : DkM M b m v s) (n : Int) (h : 0 ≤ n) : Calls Try.prog 34 #[ptr b 0, .int .i64 n] w fun e w' => e = .returned (.bool (decide (n < s.n))) ∧ Below w.heap.size w w' := by
  have hd := hd.mono (show Ext M (heapOf w) from hM)
  refine calls_of_CW (N := 15) Try.func34 (show _ = some B34 by kernel_rfl) (by kernel_rfl) rfl (S := [(0, ptr b 0), (1, .int .i64 n)]) (by simp) (clsStart w) ?_
  show CW _ _ _ (sub [] B34) _ _ _
  refine C.seq (x := sub [0] B34) (y := sub [1] B34) ?_
  refine C.region (id := 0) (m := 1) (ops := opsOf (sub [0] B34)) rfl ?_
  refine W.pure rfl (wo rfl) rfl rfl (p_assign rfl rfl) (nf rfl) ?_
  refine W.doneQ (y := sub [1] B34) rfl ?_
  refine C.seq (x := sub [1, 0] B34) (y := sub [1, 1] B34) ?_
  refine C.region (id := 1) (m := 11) (ops := opsOf (sub [1, 0] B34)) rfl ?_
  refine W.pure rfl (wo rfl) rfl rfl (p_move rfl rfl) (nf rfl) ?_
  refine W.pure rfl (wo rfl) rfl rfl (pT (decide_eq_true h) (p_geq rfl rfl rfl)) (nf rfl) ?_
  refine W.pure rfl (wo rfl) rfl rfl (p_move rfl rfl) (nf rfl) ?_
  refine W.pure rfl (wo rfl) rfl rfl (p_move rfl rfl) (nf rfl) ?_
  refine W.pure rfl (wo rfl) rfl rfl (p_move rfl rfl) (nf rfl) ?_
  refine W.pure rfl (wo rfl) rfl rfl (p_nilCheck rfl rfl) (nf rfl) ?_
  refine W.pure rfl (wo rfl) rfl rfl (p_fieldAddr tf61_0 rfl rfl) (nf rfl) ?_
  refine W.imm rfl (wo rfl) rfl rfl (i_loadBoxO (off := 0) hd.hb rfl ta3 rfl rfl) (nf rfl) ?_
  refine W.pure rfl (wo rfl) rfl rfl (p_lss rfl rfl rfl) (nf rfl) ?_
  refine W.pure rfl (wo rfl) rfl rfl (p_pick_true rfl rfl rfl) (nf rfl) ?_
  refine W.pure rfl (wo rfl) rfl rfl (p_assign rfl rfl) (nf rfl) ?_
  refine W.doneQ (y := sub [1, 1] B34) rfl ?_
  exact C.ret (rs := [.tmp 4]) (vs := [.bool (decide (n < s.n))]) rfl Try.func34 rfl rfl rfl (res_cons (ResV.tmp rfl) res_nil) fun w1 hc1 => ⟨rfl, hc1.toBelow⟩

def hasD (s : Dk) (n : Int) : Bool := decide (0 ≤ n ∧ n < s.n)
theorem has_ok {w : World} {M : Mem} (hM : Imm M w) {b m : Nat} {v : Value} {s : Dk} (hd : DkM M b m v s) (n : Int) : Calls Try.prog 34 #[ptr b 0, .int .i64 n] w fun e w' => e = .returned (.bool (hasD s n)) ∧ Below w.heap.size w w' := by
  unfold hasD
  by_cases h : 0 ≤ n
  · simp only [h, true_and]; exact has_pos hM hd n h
  · simp only [h, false_and, decide_false]; exact has_neg hM hd n (by omega)

theorem en17 (args : Array Value) (w : World) : (callFunc 17 args).run Try.prog w = .ok (.enter 17 args) w := by kernel_rfl
theorem dead_ok {w : World} {M : Mem} (hM : Imm M w) {b m : Nat} {v : Value} {s : Dk} (hd : DkM M b m v s) : Calls Try.prog 17 #[ptr b 0] w fun e w' => e = .returned (.bool s.dead) ∧ Below w.heap.size w w' := by
  have hd := hd.mono (show Ext M (heapOf w) from hM)
  refine calls_of_CW (N := 11) Try.func17 (show _ = some B17 by kernel_rfl) (by kernel_rfl) rfl (S := [(0, ptr b 0)]) (by simp) (clsStart w) ?_
  show CW _ _ _ (sub [] B17) _ _ _
  refine C.seq (x := sub [0] B17) (y := sub [1] B17) ?_
  refine C.region (id := 0) (m := 1) (ops := opsOf (sub [0] B17)) rfl ?_
  refine W.pure rfl (wo rfl) rfl rfl (p_assign rfl rfl) (nf rfl) ?_
  refine W.doneQ (y := sub [1] B17) rfl ?_
  refine C.seq (x := sub [1, 0] B17) (y := sub [1, 1] B17) ?_
  refine C.region (id := 1) (m := 9) (ops := opsOf (sub [1, 0] B17)) rfl ?_
  refine W.pure rfl (wo rfl) rfl rfl (p_move rfl rfl) (nf rfl) ?_
  refine W.quiet rfl (wo rfl) rfl rfl (f_callR rfl rfl (args_val (vs := [ptr b 0]) rfl) (en32 _) (fun w1 hc1 => there_ok hc1.imm hd)) (nf rfl) ?_
  refine W.pure rfl (wo rfl) rfl rfl (p_move rfl rfl) (nf rfl) ?_
  refine W.pure rfl (wo rfl) rfl rfl (p_move rfl rfl) (nf rfl) ?_
  refine W.pure rfl (wo rfl) rfl rfl (p_nilCheck rfl rfl) (nf rfl) ?_
  refine W.pure rfl (wo rfl) rfl rfl (p_fieldAddr tf61_5 rfl rfl) (nf rfl) ?_
  refine W.imm rfl (wo rfl) rfl rfl (i_loadBoxO (off := 5) hd.hb rfl ta4 rfl rfl) (nf rfl) ?_
  refine W.pure rfl (wo rfl) rfl rfl (p_pick_true rfl rfl rfl) (nf rfl) ?_
  refine W.pure rfl (wo rfl) rfl rfl (p_assign rfl rfl) (nf rfl) ?_
  refine W.doneQ (y := sub [1, 1] B17) rfl ?_
  exact C.ret (rs := [.tmp 2]) (vs := [.bool s.dead]) rfl Try.func17 rfl rfl rfl (res_cons (ResV.tmp rfl) res_nil) fun w1 hc1 => ⟨rfl, hc1.toBelow⟩

theorem en25 (args : Array Value) (w : World) : (callFunc 25 args).run Try.prog w = .ok (.enter 25 args) w := by kernel_rfl
theorem unsynced_ok {w : World} {M : Mem} (hM : Imm M w) {b m : Nat} {v : Value} {s : Dk} (hd : DkM M b m v s) : Calls Try.prog 25 #[ptr b 0] w fun e w' => e = .returned (.int .i64 (s.late.length : Int)) ∧ Below w.heap.size w w' := by
  have hd := hd.mono (show Ext M (heapOf w) from hM)
  refine calls_of_CW (N := 11) Try.func25 (show _ = some B25 by kernel_rfl) (by kernel_rfl) rfl (S := [(0, ptr b 0)]) (by simp) (clsStart w) ?_
  show CW _ _ _ (sub [] B25) _ _ _
  refine C.seq (x := sub [0] B25) (y := sub [1] B25) ?_
  refine C.region (id := 0) (m := 1) (ops := opsOf (sub [0] B25)) rfl ?_
  refine W.pure rfl (wo rfl) rfl rfl (p_assign rfl rfl) (nf rfl) ?_
  refine W.doneQ (y := sub [1] B25) rfl ?_
  refine C.seq (x := sub [1, 0] B25) (y := sub [1, 1] B25) ?_
  refine C.seq (x := sub [1, 0, 0] B25) (y := sub [1, 0, 1] B25) ?_
  refine C.region (id := 1) (m := 3) (ops := opsOf (sub [1, 0, 0] B25)) rfl ?_
  refine W.pure rfl (wo rfl) rfl rfl (p_move rfl rfl) (nf rfl) ?_
  refine W.quiet rfl (wo rfl) rfl rfl (f_callR rfl rfl (args_val (vs := [ptr b 0]) rfl) (en32 _) (fun w1 hc1 => there_ok hc1.imm hd)) (nf rfl) ?_
  refine W.pure rfl (wo rfl) rfl rfl (p_not rfl rfl) (nf rfl) ?_
  refine W.doneQ (y := sub [1, 0, 1] B25) rfl ?_
  refine C.cond_false (x := sub [1, 0, 1, 0] B25) (y := sub [1, 0, 1, 1] B25) rfl rfl ?_
  refine C.skipQ (y := sub [1, 1] B25) rfl ?_
  refine C.seq (x := sub [1, 1, 0] B25) (y := sub [1, 1, 1] B25) ?_
  refine C.region (id := 3) (m := 6) (ops := opsOf (sub [1, 1, 0] B25)) rfl ?_
  refine W.pure rfl (wo rfl) rfl rfl (p_move rfl rfl) (nf rfl) ?_
  refine W.pure rfl (wo rfl) rfl rfl (p_nilCheck rfl rfl) (nf rfl) ?_
  refine W.pure rfl (wo rfl) rfl rfl (p_fieldAddr tf61_2 rfl rfl) (nf rfl) ?_
  refine W.imm rfl (wo rfl) rfl rfl (i_loadBoxO (off := 2) hd.hb rfl ta59 rfl rfl) (nf rfl) ?_
  refine W.pure rfl (wo rfl) rfl rfl (p_slLen tu59 hd.hr.sl rfl rfl) (nf rfl) ?_
  refine W.pure rfl (wo rfl) rfl rfl (p_assign rfl rfl) (nf rfl) ?_
  refine W.doneQ (y := sub [1, 1, 1] B25) rfl ?_
  exact C.ret (rs := [.tmp 2]) (vs := [.int .i64 (s.late.length : Int)]) rfl Try.func25 rfl rfl rfl (res_cons (ResV.tmp rfl) res_nil) fun w1 hc1 => ⟨rfl, hc1.toBelow⟩

end Go.Proofs.Ytjomnicfcdkfdaa
end
