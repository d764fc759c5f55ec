import Derived.Test.YtjomnicfcdkfdaaDkR4
section
namespace Go.Proofs.Ytjomnicfcdkfdaa
open Go Go.HW Go.RowKit
set_option linter.unusedVariables false
set_option linter.unusedSimpArgs false

noncomputable def B45 : Code := bodyOf Try.f45
theorem en45 (args : Array Value) (w : World) : (callFunc 45 args).run Try.prog w = .ok (.enter 45 args) w := by kernel_rfl
theorem rRead {I : Mem} {b : Nat} {s : Rk} (x : Rx s) (n : Int) (h : hasL s.B.length n = true) (hl : s.L.length ≤ 1099511627775) : Turn I 45 #[ptr b 0, .int .i64 n] (rX b x) (fun y : Ox .u8 (rrd s n) => .tuple #[y.1.1, .int .i64 0]) (fun y => oX y ++ rX b x) := fun I' he w0 w hc => by
  rw [L_len x.2] at hl
  obtain ⟨r0, hr0, hm0⟩ := has_row x.2 h
  have hc : Cls w0 I' (rX b x ++ []) w := by rw [List.append_nil]; exact hc
  refine calls_of_CW (N := 48) Try.func45 (show _ = some B45 by kernel_rfl) (by kernel_rfl) rfl (S := [(0, ptr b 0), (1, .int .i64 n)]) (by simp) hc ?_
  show CW _ _ _ (sub [] B45) _ _ _
  refine C.seq (x := sub [0] B45) (y := sub [1] B45) ?_
  refine C.region (id := 0) (m := 2) (ops := opsOf (sub [0] B45)) rfl ?_
  refine W.pure rfl (wo rfl) rfl rfl (p_assign rfl rfl) (nf rfl) ?_
  refine W.pure rfl (wo rfl) rfl rfl (p_assign rfl rfl) (nf rfl) ?_
  refine W.doneQ (y := sub [1] B45) rfl ?_
  refine C.seq (x := sub [1, 0] B45) (y := sub [1, 1] B45) ?_
  refine C.seq (x := sub [1, 0, 0] B45) (y := sub [1, 0, 1] B45) ?_
  refine C.region (id := 1) (m := 4) (ops := opsOf (sub [1, 0, 0] B45)) rfl ?_
  refine W.pure rfl (wo rfl) rfl rfl (p_move rfl rfl) (nf rfl) ?_
  refine W.pure rfl (wo rfl) rfl rfl (p_move rfl rfl) (nf rfl) ?_
  refine W.quiet rfl (wo rfl) rfl rfl (f_callR (v := .bool true) rfl rfl (args_val rfl) (en48 _) (fun w1 hc1 => by rw [← h]; exact rhas_x (g := x.1) (s2 := s) x (List.mem_append_left _ List.mem_cons_self) hc1 n)) (nf rfl) ?_
  refine W.pure rfl (wo rfl) rfl rfl (p_not rfl rfl) (nf rfl) ?_
  refine W.doneQ (y := sub [1, 0, 1] B45) rfl ?_
  refine C.cond_false (x := sub [1, 0, 1, 0] B45) (y := sub [1, 0, 1, 1] B45) rfl rfl ?_
  refine C.skipQ (y := sub [1, 1] B45) rfl ?_
  refine C.seq (x := sub [1, 1, 0] B45) (y := sub [1, 1, 1] B45) ?_
  refine C.region (id := 3) (m := 8) (ops := opsOf (sub [1, 1, 0] B45)) rfl ?_
  refine W.pure rfl (wo rfl) rfl rfl (p_move rfl rfl) (nf rfl) ?_
  refine W.pure rfl (wo rfl) rfl rfl (p_nilCheck rfl rfl) (nf rfl) ?_
  refine W.pure rfl (wo rfl) rfl rfl (p_fieldAddr tf73_0 rfl rfl) (nf rfl) ?_
  refine W.quiet rfl (wo rfl) rfl rfl (f_load (j := 0) ta70 rfl (off := 0) rfl rfl rfl) (nf rfl) ?_
  refine W.pure rfl (wo rfl) rfl rfl (p_move rfl rfl) (nf rfl) ?_
  refine W.pure rfl (wo rfl) rfl rfl (p_ixVI x.2.hB (hasL_iff h).1 (by have := (hasL_iff h).2; rw [B_len x.2] at this; exact this) tu70 ts32 rfl rfl rfl) (nf rfl) ?_
  refine W.quiet rfl (wo rfl) rfl rfl (f_loadEl (q := r0.1) (i := 1) rfl x.2.hB (by rw [Nat.mul_one, List.getElem?_map, hr0]; rfl) ta32 rfl rfl) (nf rfl) ?_
  refine W.pure rfl (wo rfl) rfl rfl (p_assign rfl rfl) (nf rfl) ?_
  refine W.doneQ (y := sub [1, 1, 1] B45) rfl ?_
  refine C.seq (x := sub [1, 1, 1, 0] B45) (y := sub [1, 1, 1, 1] B45) ?_
  refine C.seq (x := sub [1, 1, 1, 0, 0] B45) (y := sub [1, 1, 1, 0, 1] B45) ?_
  refine C.region (id := 4) (m := 1) (ops := opsOf (sub [1, 1, 1, 0, 0] B45)) rfl ?_
  refine W.pure rfl (wo rfl) rfl rfl (p_assign rfl rfl) (nf rfl) ?_
  refine W.doneQ (y := sub [1, 1, 1, 0, 1] B45) rfl ?_
  refine C.loopB (id := 0) (c := sub [1, 1, 1, 0, 1, 0, 0] B45) (y := sub [1, 1, 1, 1] B45) (fun k : Nat => x.1.Ls.length - k) (fun k => [(0, ptr b 0), (1, .int .i64 n), (4, .slice none 0 0), (5, .int .i64 0), (6, (lastR x.1 r0 n k).1), (7, .int .i64 (k : Int))]) (fun k => rX b x ++ []) (fun k => k ≤ x.1.Ls.length) 0 (Nat.zero_le _) (Sub.cons rfl (Sub.cons rfl (Sub.cons rfl (Sub.cons rfl (Sub.cons rfl (Sub.cons rfl (Sub.nil _))))))) rfl rfl (fun k => k = x.1.Ls.length) ?_ ?_
  · intro k hk Q' hN hE hR
    by_cases hlt : k < x.1.Ls.length
    · obtain ⟨p, hp⟩ : ∃ p, x.1.Ls[k]? = some p := ⟨_, List.getElem?_eq_getElem hlt⟩
      refine C.seq (x := sub [1, 1, 1, 0, 1, 0, 0, 0] B45) (y := sub [1, 1, 1, 0, 1, 0, 0, 1] B45) ?_
      refine C.seq (x := sub [1, 1, 1, 0, 1, 0, 0, 0, 0] B45) (y := sub [1, 1, 1, 0, 1, 0, 0, 0, 1] B45) ?_
      refine C.region (id := 5) (m := 7) (ops := opsOf (sub [1, 1, 1, 0, 1, 0, 0, 0, 0] B45)) rfl ?_
      refine W.pure rfl (wo rfl) rfl rfl (p_move rfl rfl) (nf rfl) ?_
      refine W.pure rfl (wo rfl) rfl rfl (p_move rfl rfl) (nf rfl) ?_
      refine W.pure rfl (wo rfl) rfl rfl (p_nilCheck rfl rfl) (nf rfl) ?_
      refine W.pure rfl (wo rfl) rfl rfl (p_fieldAddr tf73_1 rfl rfl) (nf rfl) ?_
      refine W.quiet rfl (wo rfl) rfl rfl (f_load (j := 0) ta71 rfl (off := 1) rfl rfl rfl) (nf rfl) ?_
      refine W.pure rfl (wo rfl) rfl rfl (p_slLen tu71 (own_len x.2.hL) rfl rfl) (nf rfl) ?_
      refine W.pure rfl (wo rfl) rfl rfl (pT (decide_eq_true (by omega)) (p_lss rfl rfl rfl)) (nf rfl) ?_
      refine W.doneQ (y := sub [1, 1, 1, 0, 1, 0, 0, 0, 1] B45) rfl ?_
      refine C.cond_true (x := sub [1, 1, 1, 0, 1, 0, 0, 0, 1, 0] B45) (y := sub [1, 1, 1, 0, 1, 0, 0, 0, 1, 1] B45) rfl rfl ?_
      refine C.skipQ (y := sub [1, 1, 1, 0, 1, 0, 0, 1] B45) rfl ?_
      refine C.seq (x := sub [1, 1, 1, 0, 1, 0, 0, 1, 0] B45) (y := sub [1, 1, 1, 0, 1, 0, 0, 1, 1] B45) ?_
      refine C.block (id := 1) (c := sub [1, 1, 1, 0, 1, 0, 0, 1, 0, 0] B45) ?_
      refine C.seq (x := sub [1, 1, 1, 0, 1, 0, 0, 1, 0, 0, 0] B45) (y := sub [1, 1, 1, 0, 1, 0, 0, 1, 0, 0, 1] B45) ?_
      refine C.region (id := 7) (m := 10) (ops := opsOf (sub [1, 1, 1, 0, 1, 0, 0, 1, 0, 0, 0] B45)) rfl ?_
      refine W.pure rfl (wo rfl) rfl rfl (p_move rfl rfl) (nf rfl) ?_
      refine W.pure rfl (wo rfl) rfl rfl (p_nilCheck rfl rfl) (nf rfl) ?_
      refine W.pure rfl (wo rfl) rfl rfl (p_fieldAddr tf73_1 rfl rfl) (nf rfl) ?_
      refine W.quiet rfl (wo rfl) rfl rfl (f_load (j := 0) ta71 rfl (off := 1) rfl rfl rfl) (nf rfl) ?_
      refine W.pure rfl (wo rfl) rfl rfl (p_move rfl rfl) (nf rfl) ?_
      refine W.pure rfl (wo rfl) rfl rfl (p_ixV x.2.hL hlt tu71 ts80 rfl rfl rfl) (nf rfl) ?_
      refine W.pure rfl (wo rfl) rfl rfl (p_fieldEl (own_plain x.2.hL hlt) tf80_0 rfl rfl) (nf rfl) ?_
      refine W.quiet rfl (wo rfl) rfl rfl (f_loadEl (i := 2) rfl x.2.hL (lcells_0 hp).1 ta3 rfl rfl) (nf rfl) ?_
      refine W.pure rfl (wo rfl) rfl rfl (p_move rfl rfl) (nf rfl) ?_
      by_cases he : p.1 = n
      · refine W.pure rfl (wo rfl) rfl rfl (pT (by simpa using he) (p_eql rfl rfl rfl)) (nf rfl) ?_
        refine W.doneQ (y := sub [1, 1, 1, 0, 1, 0, 0, 1, 0, 0, 1] B45) rfl ?_
        refine C.cond_true (x := sub [1, 1, 1, 0, 1, 0, 0, 1, 0, 0, 1, 0] B45) (y := sub [1, 1, 1, 0, 1, 0, 0, 1, 0, 0, 1, 1] B45) rfl rfl ?_
        refine C.region (id := 8) (m := 9) (ops := opsOf (sub [1, 1, 1, 0, 1, 0, 0, 1, 0, 0, 1, 0] B45)) rfl ?_
        refine W.pure rfl (wo rfl) rfl rfl (p_move rfl rfl) (nf rfl) ?_
        refine W.pure rfl (wo rfl) rfl rfl (p_nilCheck rfl rfl) (nf rfl) ?_
        refine W.pure rfl (wo rfl) rfl rfl (p_fieldAddr tf73_1 rfl rfl) (nf rfl) ?_
        refine W.quiet rfl (wo rfl) rfl rfl (f_load (j := 0) ta71 rfl (off := 1) rfl rfl rfl) (nf rfl) ?_
        refine W.pure rfl (wo rfl) rfl rfl (p_move rfl rfl) (nf rfl) ?_
        refine W.pure rfl (wo rfl) rfl rfl (p_ixV x.2.hL hlt tu71 ts80 rfl rfl rfl) (nf rfl) ?_
        refine W.pure rfl (wo rfl) rfl rfl (p_fieldEl (own_plain x.2.hL hlt) tf80_1 rfl rfl) (nf rfl) ?_
        refine W.quiet rfl (wo rfl) rfl rfl (f_loadEl (i := 2) rfl x.2.hL (lcells_0 hp).2 ta32 rfl rfl) (nf rfl) ?_
        refine W.pure rfl (wo rfl) rfl rfl (p_assign rfl rfl) (nf rfl) ?_
        refine W.doneQ (y := sub [1, 1, 1, 0, 1, 0, 0, 1, 1] B45) rfl ?_
        refine C.region (id := 6) (m := 3) (ops := opsOf (sub [1, 1, 1, 0, 1, 0, 0, 1, 1] B45)) rfl ?_
        refine W.pure rfl (wo rfl) rfl rfl (p_move rfl rfl) (nf rfl) ?_
        refine W.pure rfl (wo rfl) rfl rfl (pI (wk (by omega)) (p_add rfl rfl rfl)) (nf rfl) ?_
        refine W.pure rfl (wo rfl) rfl rfl (p_assign rfl rfl) (nf rfl) ?_
        refine W.end' fun a1 w1 ha1 hc1 => hN (k + 1) (by omega) (by omega) a1 w1 (by rw [lastR_hit hp he]; exact ha1.sub (Sub.cons rfl (Sub.cons rfl (Sub.cons rfl (Sub.cons rfl (Sub.cons rfl (Sub.cons rfl (Sub.nil _)))))))) hc1
      · refine W.pure rfl (wo rfl) rfl rfl (pF (by simpa using he) (p_eql rfl rfl rfl)) (nf rfl) ?_
        refine W.doneQ (y := sub [1, 1, 1, 0, 1, 0, 0, 1, 0, 0, 1] B45) rfl ?_
        refine C.cond_false (x := sub [1, 1, 1, 0, 1, 0, 0, 1, 0, 0, 1, 0] B45) (y := sub [1, 1, 1, 0, 1, 0, 0, 1, 0, 0, 1, 1] B45) rfl rfl ?_
        refine C.skipQ (y := sub [1, 1, 1, 0, 1, 0, 0, 1, 1] B45) rfl ?_
        refine C.region (id := 6) (m := 3) (ops := opsOf (sub [1, 1, 1, 0, 1, 0, 0, 1, 1] B45)) rfl ?_
        refine W.pure rfl (wo rfl) rfl rfl (p_move rfl rfl) (nf rfl) ?_
        refine W.pure rfl (wo rfl) rfl rfl (pI (wk (by omega)) (p_add rfl rfl rfl)) (nf rfl) ?_
        refine W.pure rfl (wo rfl) rfl rfl (p_assign rfl rfl) (nf rfl) ?_
        refine W.end' fun a1 w1 ha1 hc1 => hN (k + 1) (by omega) (by omega) a1 w1 (by rw [lastR_miss hp he]; exact ha1.sub (Sub.cons rfl (Sub.cons rfl (Sub.cons rfl (Sub.cons rfl (Sub.cons rfl (Sub.cons rfl (Sub.nil _)))))))) hc1
    · refine C.seq (x := sub [1, 1, 1, 0, 1, 0, 0, 0] B45) (y := sub [1, 1, 1, 0, 1, 0, 0, 1] B45) ?_
      refine C.seq (x := sub [1, 1, 1, 0, 1, 0, 0, 0, 0] B45) (y := sub [1, 1, 1, 0, 1, 0, 0, 0, 1] B45) ?_
      refine C.region (id := 5) (m := 7) (ops := opsOf (sub [1, 1, 1, 0, 1, 0, 0, 0, 0] B45)) rfl ?_
      refine W.pure rfl (wo rfl) rfl rfl (p_move rfl rfl) (nf rfl) ?_
      refine W.pure rfl (wo rfl) rfl rfl (p_move rfl rfl) (nf rfl) ?_
      refine W.pure rfl (wo rfl) rfl rfl (p_nilCheck rfl rfl) (nf rfl) ?_
      refine W.pure rfl (wo rfl) rfl rfl (p_fieldAddr tf73_1 rfl rfl) (nf rfl) ?_
      refine W.quiet rfl (wo rfl) rfl rfl (f_load (j := 0) ta71 rfl (off := 1) rfl rfl rfl) (nf rfl) ?_
      refine W.pure rfl (wo rfl) rfl rfl (p_slLen tu71 (own_len x.2.hL) rfl rfl) (nf rfl) ?_
      refine W.pure rfl (wo rfl) rfl rfl (pF (decide_eq_false (by omega)) (p_lss rfl rfl rfl)) (nf rfl) ?_
      refine W.doneQ (y := sub [1, 1, 1, 0, 1, 0, 0, 0, 1] B45) rfl ?_
      refine C.cond_false (x := sub [1, 1, 1, 0, 1, 0, 0, 0, 1, 0] B45) (y := sub [1, 1, 1, 0, 1, 0, 0, 0, 1, 1] B45) rfl rfl ?_
      exact C.exit fun a1 w1 ha1 hc1 => hE (show k = x.1.Ls.length by omega) a1 w1 (ha1.sub (Sub.cons rfl (Sub.cons rfl (Sub.cons rfl (Sub.cons rfl (Sub.cons rfl (Sub.cons rfl (Sub.nil _)))))))) hc1
  intro k hk hke
  subst hke
  refine C.seq (x := sub [1, 1, 1, 1, 0] B45) (y := sub [1, 1, 1, 1, 1] B45) ?_
  refine C.region (id := 9) (m := 4) (ops := opsOf (sub [1, 1, 1, 1, 0] B45)) rfl ?_
  refine W.pure rfl (wo rfl) rfl rfl (p_move rfl rfl) (nf rfl) ?_
  refine W.act rfl (wo rfl) rfl rfl (f_app0 (xs := (lastR x.1 r0 n x.1.Ls.length).2.2) (by rw [(lastR_ok (b := b) x.2 hm0 n _).1.2]; decide) (fun w hc => rw_src (lastR_ok (b := b) x.2 hm0 n _).1 (List.mem_append_left _ (lastR_ok (b := b) x.2 hm0 n _).2) hc) rfl rfl rfl) (nf rfl) ?_
  intro z
  refine W.pure rfl (wo rfl) rfl rfl (p_assign rfl rfl) (nf rfl) ?_
  refine W.pure rfl (wo rfl) rfl rfl (p_assign rfl rfl) (nf rfl) ?_
  refine W.doneQ (y := sub [1, 1, 1, 1, 1] B45) rfl ?_
  exact C.ret (R := fun e w' => ∃ y : Ox .u8 (rrd s n), e = .returned (.tuple #[y.1.1, .int .i64 0]) ∧ Cls w0 I' (oX y ++ rX b x) w') (rs := [.tmp 4, .tmp 5]) (vs := [z.1.1, .int .i64 0]) rfl Try.func45 rfl rfl rfl (res_cons (ResV.tmp rfl) (res_cons (ResV.tmp rfl) res_nil)) fun w1 hc1 => ⟨castO (lastR_rrd x.2 hr0) ⟨(z.1.1, z.1.2, 5), z.2⟩, rfl, by rw [List.append_nil] at hc1; exact hc1⟩

theorem rReadNo {I : Mem} {b : Nat} {s : Rk} (x : Rx s) (n : Int) (h : hasL s.B.length n = false) : Turn I 45 #[ptr b 0, .int .i64 n] (rX b x) (fun _ : Unit => .tuple #[.slice none 0 0, .int .i64 2]) (fun _ => rX b x) := fun I' he w0 w hc => by
  have hc : Cls w0 I' (rX b x ++ []) w := by rw [List.append_nil]; exact hc
  refine calls_of_CW (N := 48) Try.func45 (show _ = some B45 by kernel_rfl) (by kernel_rfl) rfl (S := [(0, ptr b 0), (1, .int .i64 n)]) (by simp) hc ?_
  show CW _ _ _ (sub [] B45) _ _ _
  refine C.seq (x := sub [0] B45) (y := sub [1] B45) ?_
  refine C.region (id := 0) (m := 2) (ops := opsOf (sub [0] B45)) rfl ?_
  refine W.pure rfl (wo rfl) rfl rfl (p_assign rfl rfl) (nf rfl) ?_
  refine W.pure rfl (wo rfl) rfl rfl (p_assign rfl rfl) (nf rfl) ?_
  refine W.doneQ (y := sub [1] B45) rfl ?_
  refine C.seq (x := sub [1, 0] B45) (y := sub [1, 1] B45) ?_
  refine C.seq (x := sub [1, 0, 0] B45) (y := sub [1, 0, 1] B45) ?_
  refine C.region (id := 1) (m := 4) (ops := opsOf (sub [1, 0, 0] B45)) rfl ?_
  refine W.pure rfl (wo rfl) rfl rfl (p_move rfl rfl) (nf rfl) ?_
  refine W.pure rfl (wo rfl) rfl rfl (p_move rfl rfl) (nf rfl) ?_
  refine W.quiet rfl (wo rfl) rfl rfl (f_callR (v := .bool false) rfl rfl (args_val rfl) (en48 _) (fun w1 hc1 => by rw [← h]; exact rhas_x (g := x.1) (s2 := s) x (List.mem_append_left _ List.mem_cons_self) hc1 n)) (nf rfl) ?_
  refine W.pure rfl (wo rfl) rfl rfl (p_not rfl rfl) (nf rfl) ?_
  refine W.doneQ (y := sub [1, 0, 1] B45) rfl ?_
  refine C.cond_true (x := sub [1, 0, 1, 0] B45) (y := sub [1, 0, 1, 1] B45) rfl rfl ?_
  refine C.seq (x := sub [1, 0, 1, 0, 0] B45) (y := sub [1, 0, 1, 0, 1] B45) ?_
  refine C.region (id := 2) (m := 2) (ops := opsOf (sub [1, 0, 1, 0, 0] B45)) rfl ?_
  refine W.pure rfl (wo rfl) rfl rfl (p_assign rfl rfl) (nf rfl) ?_
  refine W.pure rfl (wo rfl) rfl rfl (p_assign rfl rfl) (nf rfl) ?_
  refine W.doneQ (y := sub [1, 0, 1, 0, 1] B45) rfl ?_
  exact C.ret (R := fun e w' => ∃ y : Unit, e = .returned (.tuple #[.slice none 0 0, .int .i64 2]) ∧ Cls w0 I' (rX b x) w') (rs := [.tmp 4, .tmp 5]) (vs := [.slice none 0 0, .int .i64 2]) rfl Try.func45 rfl rfl rfl (res_cons (ResV.tmp rfl) (res_cons (ResV.tmp rfl) res_nil)) fun w1 hc1 => ⟨(), rfl, by rw [List.append_nil] at hc1; exact hc1⟩

theorem rstep_B {s s2 : Rk} {e : Int} (h : rstepK s = (e, s2)) : s2.B = s.B := by
  have : (rstepK s).2.B = s.B := by
    unfold rstepK
    by_cases a : s.dead = true
    · rw [if_pos a]
    · rw [if_neg a]
      by_cases b : s.fuse = 0
      · rw [if_pos b]
      · rw [if_neg b]
        by_cases c : 0 < s.fuse
        · rw [if_pos c]
        · rw [if_neg c]
  rw [h] at this; exact this
theorem rstep_L {s s2 : Rk} {e : Int} (h : rstepK s = (e, s2)) : s2.L = s.L := by
  have : (rstepK s).2.L = s.L := by
    unfold rstepK
    by_cases a : s.dead = true
    · rw [if_pos a]
    · rw [if_neg a]
      by_cases b : s.fuse = 0
      · rw [if_pos b]
      · rw [if_neg b]
        by_cases c : 0 < s.fuse
        · rw [if_pos c]
        · rw [if_neg c]
  rw [h] at this; exact this
theorem build80 (n : Int) (a : Option Addr) (m c : Nat) (w : World) : (Instr.build 80 #[(0, .int .i64 n), (1, .slice a m c)]).run Try.prog w = .ok (.agg #[.int .i64 n, .slice a m c]) w := by kernel_rfl
theorem fill80 (n : Int) (v : Value) : Instr.fill (fun i => some (i * 2, 2)) ((Array.range (1 * 2)).map (fun x => (Value.agg #[.int .i64 0, .slice none 0 0]).cells[x % (Value.agg #[.int .i64 0, .slice none 0 0]).cells.size]!)) [(0, .agg #[.int .i64 n, v])] = some #[.int .i64 n, v] := by kernel_rfl
theorem two_one (n : Int) (a : Option Addr) (m c : Nat) : ∀ v ∈ [Value.int .i64 n, .slice a m c], v.oneCell' = true := by
  intro v hv
  simp only [List.mem_cons, List.not_mem_nil, or_false] at hv
  rcases hv with rfl | rfl <;> rfl

noncomputable def B40 : Code := bodyOf Try.f40
theorem en40 (args : Array Value) (w : World) : (callFunc 40 args).run Try.prog w = .ok (.enter 40 args) w := by kernel_rfl
theorem rWrite {I : Mem} {b : Nat} {s s2 : Rk} {e : Int} {xs : List Int} (x : Rx s) (y : Ox .u8 xs) (n : Int) (hK : rwriteK s n xs = (e, s2)) (hl : s.L.length ≤ 1099511627775) : Turn I 40 #[ptr b 0, .int .i64 n, y.1.1] (rX b x ++ oX y) (fun _ : Rx s2 => .int .i64 e) (fun x' => rX b x' ++ oX y) := fun I' he w0 w hc => by
  refine calls_of_CW (N := 35) Try.func40 (show _ = some B40 by kernel_rfl) (by kernel_rfl) rfl (S := [(0, ptr b 0), (1, .int .i64 n), (2, y.1.1)]) (by simp) hc ?_
  show CW _ _ _ (sub [] B40) _ _ _
  refine C.seq (x := sub [0] B40) (y := sub [1] B40) ?_
  refine C.region (id := 0) (m := 1) (ops := opsOf (sub [0] B40)) rfl ?_
  refine W.pure rfl (wo rfl) rfl rfl (p_assign rfl rfl) (nf rfl) ?_
  refine W.doneQ (y := sub [1] B40) rfl ?_
  refine C.seq (x := sub [1, 0] B40) (y := sub [1, 1] B40) ?_
  refine C.seq (x := sub [1, 0, 0] B40) (y := sub [1, 0, 1] B40) ?_
  refine C.region (id := 1) (m := 9) (ops := opsOf (sub [1, 0, 0] B40)) rfl ?_
  refine W.pure rfl (wo rfl) rfl rfl (p_move rfl rfl) (nf rfl) ?_
  refine W.pure rfl (wo rfl) rfl rfl (p_move rfl rfl) (nf rfl) ?_
  refine W.quiet rfl (wo rfl) rfl rfl (f_callR (v := .bool (hasL s.B.length n)) rfl rfl (args_val rfl) (en48 _) (fun w1 hc1 => rhas_x (g := x.1) (s2 := s) x (List.mem_append_left _ List.mem_cons_self) hc1 n)) (nf rfl) ?_
  refine W.pure rfl (wo rfl) rfl rfl (p_not rfl rfl) (nf rfl) ?_
  by_cases h1 : hasL s.B.length n = false
  · refine W.pure rfl (wo rfl) rfl rfl (pT (by rw [h1]; rfl) (p_move rfl rfl)) (nf rfl) ?_
    refine W.not rfl (wo rfl) rfl rfl ?_
    refine W.not rfl (wo rfl) rfl rfl ?_
    refine W.not rfl (wo rfl) rfl rfl ?_
    refine W.pure rfl (wo rfl) rfl rfl (p_pick_true rfl rfl rfl) (nf rfl) ?_
    refine W.doneQ (y := sub [1, 0, 1] B40) rfl ?_
    refine C.cond_true (x := sub [1, 0, 1, 0] B40) (y := sub [1, 0, 1, 1] B40) rfl rfl ?_
    refine C.seq (x := sub [1, 0, 1, 0, 0] B40) (y := sub [1, 0, 1, 0, 1] B40) ?_
    refine C.region (id := 2) (m := 1) (ops := opsOf (sub [1, 0, 1, 0, 0] B40)) rfl ?_
    refine W.pure rfl (wo rfl) rfl rfl (p_assign rfl rfl) (nf rfl) ?_
    refine W.doneQ (y := sub [1, 0, 1, 0, 1] B40) rfl ?_
    obtain ⟨rfl, rfl⟩ : 2 = e ∧ s = s2 := Prod.mk.inj ((show rwriteK s n xs = (2, s) from by unfold rwriteK; rw [if_pos (by simpa using h1)]).symm.trans hK)
    exact C.ret (R := fun e' w' => ∃ x' : Rx s, e' = .returned (.int .i64 2) ∧ Cls w0 I' (rX b x' ++ oX y) w') (rs := [.tmp 6]) (vs := [.int .i64 2]) rfl Try.func40 rfl rfl rfl (res_cons (ResV.tmp rfl) res_nil) fun w1 hc1 => ⟨x, rfl, hc1⟩
  · refine W.pure rfl (wo rfl) rfl rfl (pF (by simpa using h1) (p_move rfl rfl)) (nf rfl) ?_
    refine W.pure rfl (wo rfl) rfl rfl (p_move rfl rfl) (nf rfl) ?_
    refine W.pure rfl (wo rfl) rfl rfl (p_slLen tu32 (ox_sl y) rfl rfl) (nf rfl) ?_
    by_cases h2 : ¬ xs.length = 512
    · refine W.pure rfl (wo rfl) rfl rfl (pT (by simpa using (show ¬ (xs.length : Int) = 512 by omega)) (p_neq rfl rfl rfl)) (nf rfl) ?_
      refine W.pure rfl (wo rfl) rfl rfl (p_pick_false rfl rfl rfl) (nf rfl) ?_
      refine W.doneQ (y := sub [1, 0, 1] B40) rfl ?_
      refine C.cond_true (x := sub [1, 0, 1, 0] B40) (y := sub [1, 0, 1, 1] B40) rfl rfl ?_
      refine C.seq (x := sub [1, 0, 1, 0, 0] B40) (y := sub [1, 0, 1, 0, 1] B40) ?_
      refine C.region (id := 2) (m := 1) (ops := opsOf (sub [1, 0, 1, 0, 0] B40)) rfl ?_
      refine W.pure rfl (wo rfl) rfl rfl (p_assign rfl rfl) (nf rfl) ?_
      refine W.doneQ (y := sub [1, 0, 1, 0, 1] B40) rfl ?_
      obtain ⟨rfl, rfl⟩ : 2 = e ∧ s = s2 := Prod.mk.inj ((show rwriteK s n xs = (2, s) from by unfold rwriteK; rw [if_neg h1, if_pos h2]).symm.trans hK)
      exact C.ret (R := fun e' w' => ∃ x' : Rx s, e' = .returned (.int .i64 2) ∧ Cls w0 I' (rX b x' ++ oX y) w') (rs := [.tmp 6]) (vs := [.int .i64 2]) rfl Try.func40 rfl rfl rfl (res_cons (ResV.tmp rfl) res_nil) fun w1 hc1 => ⟨x, rfl, hc1⟩
    · refine W.pure rfl (wo rfl) rfl rfl (pF (by simpa using (show (xs.length : Int) = 512 by omega)) (p_neq rfl rfl rfl)) (nf rfl) ?_
      refine W.pure rfl (wo rfl) rfl rfl (p_pick_false rfl rfl rfl) (nf rfl) ?_
      refine W.doneQ (y := sub [1, 0, 1] B40) rfl ?_
      refine C.cond_false (x := sub [1, 0, 1, 0] B40) (y := sub [1, 0, 1, 1] B40) rfl rfl ?_
      refine C.skipQ (y := sub [1, 1] B40) rfl ?_
      refine C.seq (x := sub [1, 1, 0] B40) (y := sub [1, 1, 1] B40) ?_
      refine C.region (id := 3) (m := 3) (ops := opsOf (sub [1, 1, 0] B40)) rfl ?_
      refine W.pure rfl (wo rfl) rfl rfl (p_move rfl rfl) (nf rfl) ?_
      obtain ⟨e1, s1, hS⟩ : ∃ e1 s1, rstepK s = (e1, s1) := ⟨_, _, rfl⟩
      refine W.c11 rfl (wo rfl) rfl rfl rfl (rStep x hS) (en49 _) rfl rfl rfl (args_val rfl) ?_
      intro x1
      have hlen : x.1.Bs.length = x1.1.Bs.length := by rw [← B_len x.2, ← B_len x1.2, show s1.B = s.B from rstep_B hS]
      have hn1 : 0 ≤ n ∧ n < (x1.1.Bs.length : Int) := by rw [← hlen, ← B_len x.2]; exact hasL_iff (by simpa using h1)
      refine W.pure rfl (wo rfl) rfl rfl (p_assign rfl rfl) (nf rfl) ?_
      refine W.doneQ (y := sub [1, 1, 1] B40) rfl ?_
      refine C.seq (x := sub [1, 1, 1, 0] B40) (y := sub [1, 1, 1, 1] B40) ?_
      refine C.seq (x := sub [1, 1, 1, 0, 0] B40) (y := sub [1, 1, 1, 0, 1] B40) ?_
      refine C.region (id := 4) (m := 2) (ops := opsOf (sub [1, 1, 1, 0, 0] B40)) rfl ?_
      refine W.pure rfl (wo rfl) rfl rfl (p_move rfl rfl) (nf rfl) ?_
      by_cases h3 : ¬ e1 = 14
      · refine W.pure rfl (wo rfl) rfl rfl (pT (by simpa using h3) (p_neq rfl rfl rfl)) (nf rfl) ?_
        refine W.doneQ (y := sub [1, 1, 1, 0, 1] B40) rfl ?_
        refine C.cond_true (x := sub [1, 1, 1, 0, 1, 0] B40) (y := sub [1, 1, 1, 0, 1, 1] B40) rfl rfl ?_
        refine C.regionD (id := 5) (ops := opsOf (sub [1, 1, 1, 0, 1, 0] B40)) [0, 1, 2, 3, 4, 5, 6, 7, 8, 9, 10, 11, 12, 13] [0, 0, 2, 6, 14, 0, 0, 64, 224, 480, 1022, 2047, 4095, 8191] [(.pure, none), (.pure, none), (.pure, none), (.pure, none), (.quiet, none), (.pure, none), (.pure, none), (.keep, none), (.pure, none), (.alloc, none), (.actx, none), (.pure, none), (.pure, none), (.store, none)] (by kernel_rfl) ?_
        intro wD5 hl5
        refine DW.pure rfl rfl rfl rfl rfl (p_move rfl rfl) ?_
        refine DW.pure rfl rfl rfl rfl rfl (p_move rfl rfl) ?_
        refine DW.pure rfl rfl rfl rfl rfl (p_nilCheck rfl rfl) ?_
        refine DW.pure rfl rfl rfl rfl rfl (p_fieldAddr tf73_1 rfl rfl) ?_
        refine DW.quiet rfl rfl rfl rfl rfl (f_load (j := 0) ta71 rfl (off := 1) rfl rfl rfl) ?_
        refine DW.pure rfl rfl rfl rfl rfl (p_move rfl rfl) ?_
        refine DW.pure rfl rfl rfl rfl rfl (p_move rfl rfl) ?_
        refine DW.keep (fun z p hp => List.mem_cons_of_mem _ hp) rfl rfl rfl rfl rfl (f_app0 (xs := xs) (by omega) (fun w hc => OwnV.src y.2 hc (List.mem_append_right _ (List.mem_append_left _ (List.mem_singleton.2 rfl))) (encl_one .u8 xs)) rfl rfl rfl) ?_
        rintro ⟨⟨zv, zc⟩, hz⟩
        obtain ⟨za, zk, rfl⟩ := own_len hz
        refine DW.pure rfl rfl rfl rfl rfl (p_build (vs := [(0, .int .i64 n), (1, .slice za xs.length zk)]) (fun w => build80 _ _ _ _ w) rfl rfl) ?_
        refine DW.new rfl rfl rfl rfl rfl (f_buildS (n := 1) (vs := [(0, .agg #[.int .i64 n, .slice za xs.length zk])]) elem71 (by decide) (by decide) (fill80 _ _) rfl (args_val2 rfl)) ?_
        intro bw hbw
        refine DW.actx rfl rfl rfl rfl rfl (f_append (j := 4) (m := 1) (news := [.int .i64 n, .slice za xs.length zk]) elem71 rfl x1.2.hL (by rw [← L_len x1.2, show s1.L = s.L from rstep_L hS]; omega) (by decide) (fun w hc => OwnV.src (e := 80) (cur := #[.int .i64 n, .slice za xs.length zk]) (v := .slice (some ⟨bw, 0, none⟩) 1 1) (OwnV.fresh (Nat.le_refl _) (by decide) rfl rfl rfl) hc List.mem_cons_self (two_one _ _ _ _)) rfl rfl rfl) ?_
        rintro ⟨⟨v2, c2⟩, hz2⟩
        obtain ⟨va, vk, rfl⟩ := own_len hz2
        refine DW.pure rfl rfl rfl rfl rfl (p_nilCheck rfl rfl) ?_
        refine DW.pure rfl rfl rfl rfl rfl (p_fieldAddr tf73_1 rfl rfl) ?_
        refine DW.put rfl rfl rfl rfl rfl (f_store (j := 2) (off := 1) (v := .slice va (x1.1.Ls.length + 1) vk) ts71 rfl rfl (show 1 < 4 by decide) trivial rfl rfl rfl) ?_
        refine DW.doneQ (y := sub [1, 1, 1, 1] B40) hl5 rfl ?_
        refine C.seq (x := sub [1, 1, 1, 1, 0] B40) (y := sub [1, 1, 1, 1, 1] B40) ?_
        refine C.region (id := 6) (m := 2) (ops := opsOf (sub [1, 1, 1, 1, 0] B40)) rfl ?_
        refine W.pure rfl (wo rfl) rfl rfl (p_move rfl rfl) (nf rfl) ?_
        refine W.pure rfl (wo rfl) rfl rfl (p_assign rfl rfl) (nf rfl) ?_
        refine W.doneQ (y := sub [1, 1, 1, 1, 1] B40) rfl ?_
        obtain ⟨rfl, rfl⟩ : e1 = e ∧ { s1 with L := s1.L ++ [(n, xs)] } = s2 := Prod.mk.inj ((show rwriteK s n xs = (e1, { s1 with L := s1.L ++ [(n, xs)] }) from by unfold rwriteK; rw [if_neg h1, if_neg h2, if_neg (by rw [hS]; exact h3), hS]).symm.trans hK)
        exact C.ret (R := fun e' w' => ∃ x' : Rx { s1 with L := s1.L ++ [(n, xs)] }, e' = .returned (.int .i64 e1) ∧ Cls w0 I' (rX b x' ++ oX y) w') (rs := [.tmp 6]) (vs := [.int .i64 e1]) rfl Try.func40 rfl rfl rfl (res_cons (ResV.tmp rfl) res_nil) fun w1 hc1 => ⟨⟨_, rk_pushL (r' := (.slice za xs.length zk, zc, xs)) x1.2 ⟨hz, by show xs.length = 512; omega⟩ hn1 hz2⟩, rfl, cls_pushL hc1⟩
      · refine W.pure rfl (wo rfl) rfl rfl (pF (by simpa using h3) (p_neq rfl rfl rfl)) (nf rfl) ?_
        refine W.doneQ (y := sub [1, 1, 1, 0, 1] B40) rfl ?_
        refine C.cond_false (x := sub [1, 1, 1, 0, 1, 0] B40) (y := sub [1, 1, 1, 0, 1, 1] B40) rfl rfl ?_
        refine C.skipQ (y := sub [1, 1, 1, 1] B40) rfl ?_
        refine C.seq (x := sub [1, 1, 1, 1, 0] B40) (y := sub [1, 1, 1, 1, 1] B40) ?_
        refine C.region (id := 6) (m := 2) (ops := opsOf (sub [1, 1, 1, 1, 0] B40)) rfl ?_
        refine W.pure rfl (wo rfl) rfl rfl (p_move rfl rfl) (nf rfl) ?_
        refine W.pure rfl (wo rfl) rfl rfl (p_assign rfl rfl) (nf rfl) ?_
        refine W.doneQ (y := sub [1, 1, 1, 1, 1] B40) rfl ?_
        have h3 : e1 = 14 := Decidable.not_not.1 h3
        obtain ⟨rfl, rfl⟩ : 14 = e ∧ s1 = s2 := Prod.mk.inj ((show rwriteK s n xs = (14, s1) from by unfold rwriteK; rw [if_neg h1, if_neg h2, if_pos (by rw [hS]; exact h3), hS, h3]).symm.trans hK)
        exact C.ret (R := fun e' w' => ∃ x' : Rx s1, e' = .returned (.int .i64 14) ∧ Cls w0 I' (rX b x' ++ oX y) w') (rs := [.tmp 6]) (vs := [.int .i64 e1]) rfl Try.func40 rfl rfl rfl (res_cons (ResV.tmp rfl) res_nil) fun w1 hc1 => ⟨x1, by rw [h3]; rfl, hc1⟩

end Go.Proofs.Ytjomnicfcdkfdaa
end

section
namespace Go.Proofs.Ytjomnicfcdkfdaa
open Go Go.HW Go.RowKit
set_option linter.unusedVariables false
set_option linter.unusedSimpArgs false

def stB (s : Rk) (i : Nat) : Rk := { s with B := rsetB s i }
theorem rsetB_succ {s : Rk} {i : Nat} {w : Wr} (h : s.L[i]? = some w) : rsetB s (i + 1) = (rsetB s i).set w.1.toNat w.2 := by
  unfold rsetB
  rw [List.take_add_one, h, List.foldl_append]; rfl
def casR {s s' : Rk} (h : s = s') (g : Rg) (hg : RkO g s) : Rx s' := ⟨g, h ▸ hg⟩
theorem L_at {g : Rg} {s : Rk} (h : RkO g s) {i : Nat} {p : Int × Rw} (hp : g.Ls[i]? = some p) : s.L[i]? = some (p.1, p.2.2.2) := by rw [h.sL, List.getElem?_map, hp]; rfl
theorem B_at {g : Rg} {s : Rk} (h : RkO g s) {n : Nat} {r : Rw} (hr : g.Bs[n]? = some r) : s.B.getD n [] = r.2.2 := by rw [h.sB, List.getD_eq_getElem?_getD, List.getElem?_map, hr]; rfl
theorem B_row {g : Rg} {s : Rk} (h : RkO g s) {p : Int × Rw} (hp : p ∈ g.Ls) : ∃ r, g.Bs[p.1.toNat]? = some r ∧ r ∈ g.Bs := by
  obtain ⟨h0, h1⟩ := h.ok p hp
  have : p.1.toNat < g.Bs.length := by omega
  exact ⟨_, List.getElem?_eq_getElem this, List.getElem_mem this⟩
theorem rw_row {r : Rw} (h : rwOk r) : IntRow (fun _ => some (.cells r.2.1 5 (0, 0))) .u8 r.1 r.2.2 := by
  have := row_of_mem (M := fun _ => some (.cells r.2.1 5 (0, 0))) (⟨(r.1, r.2.1, 5), h.1⟩ : Ox .u8 r.2.2) (fun b o hm => by
    simp only [oX, List.mem_singleton, Prod.mk.injEq] at hm
    rw [hm.2])
  exact this
theorem getDi {xs : List Int} {j : Nat} (h : j < xs.length) : xs[j]? = some (xs.getD j 0) := by
  rw [List.getD_eq_getElem?_getD, List.getElem?_eq_getElem h]; rfl
theorem rw_cell {r : Rw} (h : rwOk r) {j : Nat} (hj : j < 512) : (encl .u8 r.2.2)[j * 1]? = some (.int .u8 (r.2.2.getD j 0)) := by
  have := getDi (xs := r.2.2) (j := j) (by rw [h.2]; exact hj)
  rw [Nat.mul_one, encl, List.getElem?_map, this]; rfl
section
variable {N : Nat} {S : Slots} {w0 w1 : World} {I I' : Mem} {H : Heap} {Q : Exit → Act → World → Prop} {Qn : Act → Heap → Prop} {ops : Array Oper} {lab : Lab} {ids : Nat → Option Nat} {l : List Nat} {i d : Nat} {o : Oper} {v : Value}
theorem C.heapIs {c : Code} {H2 : Heap} (hH : H = H2) (h : CW N w0 I c Q S H2) : CW N w0 I c Q S H := by subst hH; exact h
theorem C.cls {c : Code} {H2 : Heap} (hH : ∀ w, Cls w0 I H w → Cls w0 I H2 w) (h : CW N w0 I c Q S H2) : CW N w0 I c Q S H := fun a w ha hc => h a w ha (hH w hc)
/-- what stays for a while -/
structure Thaw (I I' : Mem) (E : Heap) : Prop where
  ext : Ext I I'
  mem : ∀ b o, (some b, o) ∈ E → I' b = some o
  disj : ∀ b o, (some b, o) ∈ E → I b = none
  nodup : (E.filterMap Prod.fst).Nodup
theorem Thaw.cls {E : Heap} (h : Thaw I I' E) {w : World} (hc : Cls w0 I' H w) : Cls w0 I (E ++ H) w := by
  have hc2 := cls_less h.ext hc
  refine ⟨hc.os, hc.tape, hc.output, hc.size, hc2.imm, fun b o hm => ?_, fun b o hm => ?_, ?_⟩
  · rcases List.mem_append.1 hm with hm | hm
    · exact hc.imm b o (h.mem b o hm)
    · exact hc.own b o hm
  · rcases List.mem_append.1 hm with hm | hm
    · exact h.disj b o hm
    · exact hc2.disj b o hm
  · rw [List.filterMap_append, List.nodup_append]
    refine ⟨h.nodup, hc.nodup, fun a ha b hb e => ?_⟩
    subst e
    obtain ⟨z, hz⟩ := mem_ids.1 ha
    obtain ⟨y, hy⟩ := mem_ids.1 hb
    have h1 := hc.disj a y hy
    rw [h.mem a z hz] at h1; cases h1
theorem C.settleZ {c : Code} {E R : Heap} (hH : H = E ++ R) (h : ∀ I', Thaw I I' E → CW N w0 I' c Q S R) : CW N w0 I c Q S H := fun a w ha hc => by
  subst hH
  have hnE : (E.filterMap Prod.fst).Nodup := hc.nodup.sublist ((List.sublist_append_left E R).filterMap _)
  refine h (addJ I E) ⟨Ext.addJ _ _, fun b o hm => ?_, fun b o hm => hc.disj b o (List.mem_append_left _ hm), hnE⟩ a w ha ((hc.perm (List.perm_append_comm)).settle)
  unfold addJ
  rw [hc.disj b o (List.mem_append_left _ hm)]
  exact inJ_of_mem hnE hm
theorem DW.doneZ {y : Code} {Q2 : Exit → Act → World → Prop} {E : Heap} (hl : Later w0 w1) (hz : Thaw I I' E) (hQ : Q .normal = y.wpIn Fence.wide 3 Try.prog Q2) (h : CW N w0 I y Q2 S (E ++ H)) : DD N w1 I' ops lab ids (fun a H2 => ∀ w', Cls w1 I' H2 w' → Q .normal a w') [] S H := fun a ha w' hc => by rw [hQ]; exact h a w' ha (hz.cls (hc.later hl))
end
theorem cls_to {w0 w : World} {I : Mem} {H H2 : Heap} (h : Cls w0 I H w) (e : H = H2) : Cls w0 I H2 w := by subst e; exact h
theorem cls_nilL0 {w0 w : World} {I : Mem} {b : Nat} {g : Rg} {s' : Rk} (h : Cls w0 I (rk0 b { g with vL := .slice none 0 0, cL := #[], Ls := [] } s' :: (g.vB.ownBlock, .cells g.cB 32 (0, 0)) :: (g.vL.ownBlock, .cells g.cL 80 (0, 0)) :: (rkT g ++ [])) w) : Cls w0 I (rkH b { g with vL := .slice none 0 0, cL := #[], Ls := [] } s') w := by
  have h2 := cls_nilL (s := s') (R := []) h
  rw [List.append_nil] at h2; exact h2
theorem tz80 (w : World) : (zeroValue 80).run Try.prog w = .ok (.agg #[.int .i64 0, .slice none 0 0]) w := by kernel_rfl
theorem edL_0 (l : List Wr) (n a x : Int) : edL l n a x 0 = l := by simp [edL]
theorem edL_full (l : List Wr) (n a x : Int) : edL l n a x l.length = l.map (edW n a x) := by simp [edL]
def edSt (s : Rk) (n a x : Int) (i : Nat) : Rk := { s with B := s.B.set n.toNat (xorAt (s.B.getD n.toNat []) a x), L := edL s.L n a x i }
def crSt (s : Rk) (picks : List Int) (i : Nat) : Rk := { s with B := rcrB s picks i }
theorem rcrB_skip {s : Rk} {picks : List Int} {k : Nat} {w : Wr} (h : s.L[k]? = some w) (h0 : divR (picks.getD k 0) 3 = 0) : rcrB s picks (k + 1) = rcrB s picks k := by simp only [rcrB, h]; rw [if_pos h0]
theorem rcrB_put {s : Rk} {picks : List Int} {k : Nat} {w : Wr} (h : s.L[k]? = some w) (h0 : ¬ divR (picks.getD k 0) 3 = 0) : rcrB s picks (k + 1) = (rcrB s picks k).set w.1.toNat (w.2.take (rtear (picks.getD k 0) (decide (k + 1 = s.L.length))).toNat ++ ((rcrB s picks k).getD w.1.toNat []).drop (rtear (picks.getD k 0) (decide (k + 1 = s.L.length))).toNat) := by simp only [rcrB, h]; rw [if_neg h0]
theorem divR_rng {n b : Int} (hb : 0 < b) (hb2 : b ≤ 1000) : 0 ≤ divR n b ∧ divR n b < b := by
  have h1 := Int.tmod_lt_of_pos n hb
  have h2 := Int.lt_tmod_of_pos n hb
  unfold divR
  split
  · rw [w64 (by omega) (by omega)]; omega
  · omega
theorem rtear_rng (p : Int) (l : Bool) : 0 ≤ rtear p l ∧ rtear p l ≤ 512 := by
  unfold rtear
  split
  · have := divR_rng (n := divQ p 3) (b := 513) (by decide) (by decide); omega
  · omega
end Go.Proofs.Ytjomnicfcdkfdaa
end

section
namespace Go.Proofs.Ytjomnicfcdkfdaa
open Go Go.HW Go.RowKit
set_option linter.unusedVariables false
set_option linter.unusedSimpArgs false

noncomputable def B41 : Code := bodyOf Try.f41
theorem en41 (args : Array Value) (w : World) : (callFunc 41 args).run Try.prog w = .ok (.enter 41 args) w := by kernel_rfl
theorem rSync {I : Mem} {b : Nat} {s s2 : Rk} {e : Int} (x : Rx s) (hK : rsyncK s = (e, s2)) (hl : s.L.length ≤ 1099511627775) : Turn I 41 #[ptr b 0] (rX b x) (fun _ : Rx s2 => .int .i64 e) (fun x' => rX b x') := fun I' he w0 w hc => by
  have hc : Cls w0 I' (rX b x ++ []) w := by rw [List.append_nil]; exact hc
  have hlS : ∀ e1 s1, rstepK s = (e1, s1) → s1.L.length ≤ 1099511627775 := fun e1 s1 h => by rw [rstep_L h]; exact hl
  refine calls_of_CW (N := 48) Try.func41 (show _ = some B41 by kernel_rfl) (by kernel_rfl) rfl (S := [(0, ptr b 0)]) (by simp) hc ?_
  show CW _ _ _ (sub [] B41) _ _ _
  refine C.seq (x := sub [0] B41) (y := sub [1] B41) ?_
  refine C.region (id := 0) (m := 1) (ops := opsOf (sub [0] B41)) rfl ?_
  refine W.pure rfl (wo rfl) rfl rfl (p_assign rfl rfl) (nf rfl) ?_
  refine W.doneQ (y := sub [1] B41) rfl ?_
  refine C.seq (x := sub [1, 0] B41) (y := sub [1, 1] B41) ?_
  refine C.region (id := 1) (m := 3) (ops := opsOf (sub [1, 0] B41)) rfl ?_
  refine W.pure rfl (wo rfl) rfl rfl (p_move rfl rfl) (nf rfl) ?_
  obtain ⟨e1, s1, hS⟩ : ∃ e1 s1, rstepK s = (e1, s1) := ⟨_, _, rfl⟩
  have hl1 := hlS e1 s1 hS
  refine W.c11 rfl (wo rfl) rfl rfl rfl (rStep x hS) (en49 _) rfl rfl rfl (args_val rfl) ?_
  intro x2
  refine W.pure rfl (wo rfl) rfl rfl (p_assign rfl rfl) (nf rfl) ?_
  refine W.doneQ (y := sub [1, 1] B41) rfl ?_
  refine C.seq (x := sub [1, 1, 0] B41) (y := sub [1, 1, 1] B41) ?_
  refine C.seq (x := sub [1, 1, 0, 0] B41) (y := sub [1, 1, 0, 1] B41) ?_
  by_cases h3 : e1 = 0
  · subst h3
    refine C.region (id := 2) (m := 1) (ops := opsOf (sub [1, 1, 0, 0] B41)) rfl ?_
    refine W.pure rfl (wo rfl) rfl rfl (p_assign rfl rfl) (nf rfl) ?_
    refine W.doneQ (y := sub [1, 1, 0, 1] B41) rfl ?_
    refine C.loopB (id := 0) (c := sub [1, 1, 0, 1, 0, 0] B41) (y := sub [1, 1, 1] B41) (α := (i : Nat) × Rx (stB s1 i)) (fun q => s1.L.length - q.1) (fun q => [(0, ptr b 0), (3, .int .i64 0), (4, .int .i64 (q.1 : Int))]) (fun q => rX b q.2 ++ []) (fun q => q.1 ≤ s1.L.length) ⟨0, x2⟩ (Nat.zero_le _) (Sub.cons rfl (Sub.cons rfl (Sub.cons rfl (Sub.nil _)))) rfl rfl (fun q => q.1 = s1.L.length) ?_ ?_
    · rintro ⟨i, xi⟩ (hi : i ≤ s1.L.length) Q' hN hE hR
      show CW _ _ _ _ _ [(0, ptr b 0), (3, .int .i64 0), (4, .int .i64 (i : Int))] (rX b xi ++ [])
      have hll : s1.L.length = xi.1.Ls.length := (show (stB s1 i).L.length = _ from L_len xi.2)
      by_cases hlt : i < xi.1.Ls.length
      · obtain ⟨p, hp⟩ : ∃ p, xi.1.Ls[i]? = some p := ⟨_, List.getElem?_eq_getElem hlt⟩
        have hm : p ∈ xi.1.Ls := List.mem_of_getElem? hp
        have hrp := xi.2.rL p hm
        obtain ⟨r0, hr0, hm0⟩ := B_row xi.2 hm
        have hst : { stB s1 i with B := (stB s1 i).B.set p.1.toNat p.2.2.2 } = stB s1 (i + 1) := by unfold stB; rw [rsetB_succ (show s1.L[i]? = _ from L_at xi.2 hp)]
        refine C.seq (x := sub [1, 1, 0, 1, 0, 0, 0] B41) (y := sub [1, 1, 0, 1, 0, 0, 1] B41) ?_
        refine C.seq (x := sub [1, 1, 0, 1, 0, 0, 0, 0] B41) (y := sub [1, 1, 0, 1, 0, 0, 0, 1] B41) ?_
        refine C.region (id := 3) (m := 11) (ops := opsOf (sub [1, 1, 0, 1, 0, 0, 0, 0] B41)) rfl ?_
        refine W.pure rfl (wo rfl) rfl rfl (p_move rfl rfl) (nf rfl) ?_
        refine W.pure rfl (wo rfl) rfl rfl (p_move rfl rfl) (nf rfl) ?_
        refine W.pure rfl (wo rfl) rfl rfl (p_nilCheck rfl rfl) (nf rfl) ?_
        refine W.pure rfl (wo rfl) rfl rfl (p_fieldAddr tf73_1 rfl rfl) (nf rfl) ?_
        refine W.quiet rfl (wo rfl) rfl rfl (f_load (j := 0) ta71 rfl (off := 1) rfl rfl rfl) (nf rfl) ?_
        refine W.pure rfl (wo rfl) rfl rfl (p_slLen tu71 (own_len xi.2.hL) rfl rfl) (nf rfl) ?_
        refine W.pure rfl (wo rfl) rfl rfl (pT (decide_eq_true (by omega)) (p_lss rfl rfl rfl)) (nf rfl) ?_
        refine W.pure rfl (wo rfl) rfl rfl (p_move rfl rfl) (nf rfl) ?_
        refine W.pure rfl (wo rfl) rfl rfl (p_move rfl rfl) (nf rfl) ?_
        refine W.pure rfl (wo rfl) rfl rfl (pT (by rfl) (p_eql rfl rfl rfl)) (nf rfl) ?_
        refine W.pure rfl (wo rfl) rfl rfl (p_pick_true rfl rfl rfl) (nf rfl) ?_
        refine W.doneQ (y := sub [1, 1, 0, 1, 0, 0, 0, 1] B41) rfl ?_
        refine C.cond_true (x := sub [1, 1, 0, 1, 0, 0, 0, 1, 0] B41) (y := sub [1, 1, 0, 1, 0, 0, 0, 1, 1] B41) rfl rfl ?_
        refine C.skipQ (y := sub [1, 1, 0, 1, 0, 0, 1] B41) rfl ?_
        refine C.seq (x := sub [1, 1, 0, 1, 0, 0, 1, 0] B41) (y := sub [1, 1, 0, 1, 0, 0, 1, 1] B41) ?_
        refine C.block (id := 1) (c := sub [1, 1, 0, 1, 0, 0, 1, 0, 0] B41) ?_
        refine C.regionD (id := 5) (ops := opsOf (sub [1, 1, 0, 1, 0, 0, 1, 0, 0] B41)) [0, 1, 2, 3, 4, 5, 6, 7, 8, 9, 10, 11, 12, 13, 14, 15, 16, 17, 18, 19, 20, 21, 22] [0, 1, 3, 7, 0, 16, 48, 112, 0, 496, 1008, 2032, 0, 4096, 12288, 28672, 0, 126976, 258048, 520192, 1044480, 2097151, 4194303] [(.pure, none), (.pure, none), (.pure, none), (.quiet, none), (.pure, none), (.pure, none), (.pure, none), (.quiet, none), (.pure, none), (.pure, none), (.pure, none), (.quiet, none), (.pure, none), (.pure, none), (.pure, none), (.quiet, none), (.pure, none), (.pure, none), (.pure, none), (.quiet, none), (.keep, none), (.pure, none), (.store, none)] (by kernel_rfl) ?_
        intro wD5 hl5
        refine DW.pure rfl rfl rfl rfl rfl (p_move rfl rfl) ?_
        refine DW.pure rfl rfl rfl rfl rfl (p_nilCheck rfl rfl) ?_
        refine DW.pure rfl rfl rfl rfl rfl (p_fieldAddr tf73_0 rfl rfl) ?_
        refine DW.quiet rfl rfl rfl rfl rfl (f_load (j := 0) ta70 rfl (off := 0) rfl rfl rfl) ?_
        refine DW.pure rfl rfl rfl rfl rfl (p_move rfl rfl) ?_
        refine DW.pure rfl rfl rfl rfl rfl (p_nilCheck rfl rfl) ?_
        refine DW.pure rfl rfl rfl rfl rfl (p_fieldAddr tf73_1 rfl rfl) ?_
        refine DW.quiet rfl rfl rfl rfl rfl (f_load (j := 0) ta71 rfl (off := 1) rfl rfl rfl) ?_
        refine DW.pure rfl rfl rfl rfl rfl (p_move rfl rfl) ?_
        refine DW.pure rfl rfl rfl rfl rfl (p_ixV xi.2.hL hlt tu71 ts80 rfl rfl rfl) ?_
        refine DW.pure rfl rfl rfl rfl rfl (p_fieldEl (own_plain xi.2.hL hlt) tf80_0 rfl rfl) ?_
        refine DW.quiet rfl rfl rfl rfl rfl (f_loadEl (i := 2) rfl xi.2.hL (lcells_0 hp).1 ta3 rfl rfl) ?_
        refine DW.pure rfl rfl rfl rfl rfl (p_move rfl rfl) ?_
        refine DW.pure rfl rfl rfl rfl rfl (p_nilCheck rfl rfl) ?_
        refine DW.pure rfl rfl rfl rfl rfl (p_fieldAddr tf73_1 rfl rfl) ?_
        refine DW.quiet rfl rfl rfl rfl rfl (f_load (j := 0) ta71 rfl (off := 1) rfl rfl rfl) ?_
        refine DW.pure rfl rfl rfl rfl rfl (p_move rfl rfl) ?_
        refine DW.pure rfl rfl rfl rfl rfl (p_ixV xi.2.hL hlt tu71 ts80 rfl rfl rfl) ?_
        refine DW.pure rfl rfl rfl rfl rfl (p_fieldEl (own_plain xi.2.hL hlt) tf80_1 rfl rfl) ?_
        refine DW.quiet rfl rfl rfl rfl rfl (f_loadEl (i := 2) rfl xi.2.hL (lcells_0 hp).2 ta32 rfl rfl) ?_
        refine DW.keep (fun z p hp => List.mem_cons_of_mem _ hp) rfl rfl rfl rfl rfl (f_app0 (xs := p.2.2.2) (by rw [hrp.2]; decide) (fun w hc => rw_src hrp (List.mem_append_left _ (mem_L hm)) hc) rfl rfl rfl) ?_
        rintro ⟨⟨zv, zc⟩, hz⟩
        obtain ⟨za, zk, rfl⟩ := own_len hz
        refine DW.pure rfl rfl rfl rfl rfl (p_ixVI xi.2.hB (xi.2.ok p hm).1 (xi.2.ok p hm).2 tu70 ts32 rfl rfl rfl) ?_
        refine DW.put rfl rfl rfl rfl rfl (f_storeEl (q := .slice za p.2.2.2.length zk) (i := 2) ts32 rfl xi.2.hB (j := p.1.toNat * 1) (by have := xi.2.ok p hm; omega) rfl trivial rfl rfl rfl) ?_
        refine DW.doneQ (y := sub [1, 1, 0, 1, 0, 0, 1, 1] B41) hl5 rfl ?_
        refine C.cls (H2 := rX b (casR hst _ (rk_setB (r' := (.slice za p.2.2.2.length zk, zc, p.2.2.2)) xi.2 ⟨hz, hrp.2⟩ (n := p.1.toNat) (by have := xi.2.ok p hm; omega))) ++ []) (fun w hc => cls_setB hr0 ⟨rfl, rfl⟩ (by rw [Nat.mul_one] at hc; exact hc)) ?_
        refine C.region (id := 4) (m := 3) (ops := opsOf (sub [1, 1, 0, 1, 0, 0, 1, 1] B41)) rfl ?_
        refine W.pure rfl (wo rfl) rfl rfl (p_move rfl rfl) (nf rfl) ?_
        refine W.pure rfl (wo rfl) rfl rfl (pI (wk (by omega)) (p_add rfl rfl rfl)) (nf rfl) ?_
        refine W.pure rfl (wo rfl) rfl rfl (p_assign rfl rfl) (nf rfl) ?_
        refine W.end' fun a1 w1 ha1 hc1 => hN ⟨i + 1, _⟩ (show i + 1 ≤ s1.L.length by omega) (show s1.L.length - (i + 1) < s1.L.length - i by omega) a1 w1 (ha1.sub (Sub.cons rfl (Sub.cons rfl (Sub.cons rfl (Sub.nil _))))) hc1
      · refine C.seq (x := sub [1, 1, 0, 1, 0, 0, 0] B41) (y := sub [1, 1, 0, 1, 0, 0, 1] B41) ?_
        refine C.seq (x := sub [1, 1, 0, 1, 0, 0, 0, 0] B41) (y := sub [1, 1, 0, 1, 0, 0, 0, 1] B41) ?_
        refine C.region (id := 3) (m := 11) (ops := opsOf (sub [1, 1, 0, 1, 0, 0, 0, 0] B41)) rfl ?_
        refine W.pure rfl (wo rfl) rfl rfl (p_move rfl rfl) (nf rfl) ?_
        refine W.pure rfl (wo rfl) rfl rfl (p_move rfl rfl) (nf rfl) ?_
        refine W.pure rfl (wo rfl) rfl rfl (p_nilCheck rfl rfl) (nf rfl) ?_
        refine W.pure rfl (wo rfl) rfl rfl (p_fieldAddr tf73_1 rfl rfl) (nf rfl) ?_
        refine W.quiet rfl (wo rfl) rfl rfl (f_load (j := 0) ta71 rfl (off := 1) rfl rfl rfl) (nf rfl) ?_
        refine W.pure rfl (wo rfl) rfl rfl (p_slLen tu71 (own_len xi.2.hL) rfl rfl) (nf rfl) ?_
        refine W.pure rfl (wo rfl) rfl rfl (pF (decide_eq_false (by omega)) (p_lss rfl rfl rfl)) (nf rfl) ?_
        refine W.pure rfl (wo rfl) rfl rfl (p_move rfl rfl) (nf rfl) ?_
        refine W.not rfl (wo rfl) rfl rfl ?_
        refine W.not rfl (wo rfl) rfl rfl ?_
        refine W.pure rfl (wo rfl) rfl rfl (p_pick_false rfl rfl rfl) (nf rfl) ?_
        refine W.doneQ (y := sub [1, 1, 0, 1, 0, 0, 0, 1] B41) rfl ?_
        refine C.cond_false (x := sub [1, 1, 0, 1, 0, 0, 0, 1, 0] B41) (y := sub [1, 1, 0, 1, 0, 0, 0, 1, 1] B41) rfl rfl ?_
        exact C.exit fun a1 w1 ha1 hc1 => hE (show i = s1.L.length by omega) a1 w1 (ha1.sub (Sub.cons rfl (Sub.cons rfl (Sub.cons rfl (Sub.nil _))))) hc1
    rintro ⟨i, xi⟩ (hi : i ≤ s1.L.length) (hie : i = s1.L.length)
    subst hie
    show CW _ _ _ _ _ [(0, ptr b 0), (3, .int .i64 0), (4, .int .i64 (s1.L.length : Int))] (rX b xi ++ [])
    refine C.seq (x := sub [1, 1, 1, 0] B41) (y := sub [1, 1, 1, 1] B41) ?_
    refine C.seq (x := sub [1, 1, 1, 0, 0] B41) (y := sub [1, 1, 1, 0, 1] B41) ?_
    refine C.region (id := 6) (m := 2) (ops := opsOf (sub [1, 1, 1, 0, 0] B41)) rfl ?_
    refine W.pure rfl (wo rfl) rfl rfl (p_move rfl rfl) (nf rfl) ?_
    refine W.pure rfl (wo rfl) rfl rfl (pT (by rfl) (p_eql rfl rfl rfl)) (nf rfl) ?_
    refine W.doneQ (y := sub [1, 1, 1, 0, 1] B41) rfl ?_
    refine C.cond_true (x := sub [1, 1, 1, 0, 1, 0] B41) (y := sub [1, 1, 1, 0, 1, 1] B41) rfl rfl ?_
    refine C.region (id := 7) (m := 4) (ops := opsOf (sub [1, 1, 1, 0, 1, 0] B41)) rfl ?_
    refine W.pure rfl (wo rfl) rfl rfl (p_move rfl rfl) (nf rfl) ?_
    refine W.pure rfl (wo rfl) rfl rfl (p_nilCheck rfl rfl) (nf rfl) ?_
    refine W.pure rfl (wo rfl) rfl rfl (p_fieldAddr tf73_1 rfl rfl) (nf rfl) ?_
    refine W.put rfl (wo rfl) rfl (f_st0 (k := 1) (u := .slice none 0 0) ts71 rfl trivial (show 1 < 4 by decide) rfl rfl rfl) (nf rfl) ?_
    refine W.doneQ (y := sub [1, 1, 1, 1] B41) rfl ?_
    refine C.seq (x := sub [1, 1, 1, 1, 0] B41) (y := sub [1, 1, 1, 1, 1] B41) ?_
    refine C.region (id := 8) (m := 2) (ops := opsOf (sub [1, 1, 1, 1, 0] B41)) rfl ?_
    refine W.pure rfl (wo rfl) rfl rfl (p_move rfl rfl) (nf rfl) ?_
    refine W.pure rfl (wo rfl) rfl rfl (p_assign rfl rfl) (nf rfl) ?_
    refine W.doneQ (y := sub [1, 1, 1, 1, 1] B41) rfl ?_
    obtain ⟨rfl, rfl⟩ : 0 = e ∧ { stB s1 s1.L.length with L := [] } = s2 := Prod.mk.inj ((show rsyncK s = (0, { stB s1 s1.L.length with L := [] }) from by unfold rsyncK; rw [hS]; exact if_pos rfl).symm.trans hK)
    exact C.ret (R := fun e' w' => ∃ x' : Rx { stB s1 s1.L.length with L := [] }, e' = .returned (.int .i64 0) ∧ Cls w0 I' (rX b x') w') (rs := [.tmp 2]) (vs := [.int .i64 0]) rfl Try.func41 rfl rfl rfl (res_cons (ResV.tmp rfl) res_nil) fun w1 hc1 => ⟨⟨_, rk_nilL xi.2⟩, rfl, cls_nilL0 hc1⟩
  · refine C.region (id := 2) (m := 1) (ops := opsOf (sub [1, 1, 0, 0] B41)) rfl ?_
    refine W.pure rfl (wo rfl) rfl rfl (p_assign rfl rfl) (nf rfl) ?_
    refine W.doneQ (y := sub [1, 1, 0, 1] B41) rfl ?_
    refine C.loopB (id := 0) (c := sub [1, 1, 0, 1, 0, 0] B41) (y := sub [1, 1, 1] B41) (α := Unit) (fun _ => 0) (fun _ => [(0, ptr b 0), (3, .int .i64 e1), (4, .int .i64 (0 : Int))]) (fun _ => rX b x2 ++ []) (fun _ => True) () trivial (Sub.cons rfl (Sub.cons rfl (Sub.cons rfl (Sub.nil _)))) rfl rfl (fun _ => True) ?_ ?_
    · intro _ _ Q' hN hE hR
      refine C.seq (x := sub [1, 1, 0, 1, 0, 0, 0] B41) (y := sub [1, 1, 0, 1, 0, 0, 1] B41) ?_
      refine C.seq (x := sub [1, 1, 0, 1, 0, 0, 0, 0] B41) (y := sub [1, 1, 0, 1, 0, 0, 0, 1] B41) ?_
      refine C.region (id := 3) (m := 11) (ops := opsOf (sub [1, 1, 0, 1, 0, 0, 0, 0] B41)) rfl ?_
      refine W.pure rfl (wo rfl) rfl rfl (p_move rfl rfl) (nf rfl) ?_
      refine W.pure rfl (wo rfl) rfl rfl (p_move rfl rfl) (nf rfl) ?_
      refine W.pure rfl (wo rfl) rfl rfl (p_nilCheck rfl rfl) (nf rfl) ?_
      refine W.pure rfl (wo rfl) rfl rfl (p_fieldAddr tf73_1 rfl rfl) (nf rfl) ?_
      refine W.quiet rfl (wo rfl) rfl rfl (f_load (j := 0) ta71 rfl (off := 1) rfl rfl rfl) (nf rfl) ?_
      refine W.pure rfl (wo rfl) rfl rfl (p_slLen tu71 (own_len x2.2.hL) rfl rfl) (nf rfl) ?_
      by_cases hl0 : 0 < x2.1.Ls.length
      · refine W.pure rfl (wo rfl) rfl rfl (pT (decide_eq_true (by omega)) (p_lss rfl rfl rfl)) (nf rfl) ?_
        refine W.pure rfl (wo rfl) rfl rfl (p_move rfl rfl) (nf rfl) ?_
        refine W.pure rfl (wo rfl) rfl rfl (p_move rfl rfl) (nf rfl) ?_
        refine W.pure rfl (wo rfl) rfl rfl (pF (by simpa using h3) (p_eql rfl rfl rfl)) (nf rfl) ?_
        refine W.pure rfl (wo rfl) rfl rfl (p_pick_true rfl rfl rfl) (nf rfl) ?_
        refine W.doneQ (y := sub [1, 1, 0, 1, 0, 0, 0, 1] B41) rfl ?_
        refine C.cond_false (x := sub [1, 1, 0, 1, 0, 0, 0, 1, 0] B41) (y := sub [1, 1, 0, 1, 0, 0, 0, 1, 1] B41) rfl rfl ?_
        exact C.exit fun a1 w1 ha1 hc1 => hE trivial a1 w1 (ha1.sub (Sub.cons rfl (Sub.cons rfl (Sub.cons rfl (Sub.nil _))))) hc1
      · refine W.pure rfl (wo rfl) rfl rfl (pF (decide_eq_false (by omega)) (p_lss rfl rfl rfl)) (nf rfl) ?_
        refine W.pure rfl (wo rfl) rfl rfl (p_move rfl rfl) (nf rfl) ?_
        refine W.not rfl (wo rfl) rfl rfl ?_
        refine W.not rfl (wo rfl) rfl rfl ?_
        refine W.pure rfl (wo rfl) rfl rfl (p_pick_false rfl rfl rfl) (nf rfl) ?_
        refine W.doneQ (y := sub [1, 1, 0, 1, 0, 0, 0, 1] B41) rfl ?_
        refine C.cond_false (x := sub [1, 1, 0, 1, 0, 0, 0, 1, 0] B41) (y := sub [1, 1, 0, 1, 0, 0, 0, 1, 1] B41) rfl rfl ?_
        exact C.exit fun a1 w1 ha1 hc1 => hE trivial a1 w1 (ha1.sub (Sub.cons rfl (Sub.cons rfl (Sub.cons rfl (Sub.nil _))))) hc1
    intro _ _ _
    refine C.seq (x := sub [1, 1, 1, 0] B41) (y := sub [1, 1, 1, 1] B41) ?_
    refine C.seq (x := sub [1, 1, 1, 0, 0] B41) (y := sub [1, 1, 1, 0, 1] B41) ?_
    refine C.region (id := 6) (m := 2) (ops := opsOf (sub [1, 1, 1, 0, 0] B41)) rfl ?_
    refine W.pure rfl (wo rfl) rfl rfl (p_move rfl rfl) (nf rfl) ?_
    refine W.pure rfl (wo rfl) rfl rfl (pF (by simpa using h3) (p_eql rfl rfl rfl)) (nf rfl) ?_
    refine W.doneQ (y := sub [1, 1, 1, 0, 1] B41) rfl ?_
    refine C.cond_false (x := sub [1, 1, 1, 0, 1, 0] B41) (y := sub [1, 1, 1, 0, 1, 1] B41) rfl rfl ?_
    refine C.skipQ (y := sub [1, 1, 1, 1] B41) rfl ?_
    refine C.seq (x := sub [1, 1, 1, 1, 0] B41) (y := sub [1, 1, 1, 1, 1] B41) ?_
    refine C.region (id := 8) (m := 2) (ops := opsOf (sub [1, 1, 1, 1, 0] B41)) rfl ?_
    refine W.pure rfl (wo rfl) rfl rfl (p_move rfl rfl) (nf rfl) ?_
    refine W.pure rfl (wo rfl) rfl rfl (p_assign rfl rfl) (nf rfl) ?_
    refine W.doneQ (y := sub [1, 1, 1, 1, 1] B41) rfl ?_
    obtain ⟨rfl, rfl⟩ : e1 = e ∧ s1 = s2 := Prod.mk.inj ((show rsyncK s = (e1, s1) from by unfold rsyncK; rw [hS]; exact if_neg h3).symm.trans hK)
    exact C.ret (R := fun e' w' => ∃ x' : Rx s1, e' = .returned (.int .i64 e1) ∧ Cls w0 I' (rX b x') w') (rs := [.tmp 2]) (vs := [.int .i64 e1]) rfl Try.func41 rfl rfl rfl (res_cons (ResV.tmp rfl) res_nil) fun w1 hc1 => ⟨x2, rfl, by rw [List.append_nil] at hc1; exact hc1⟩

end Go.Proofs.Ytjomnicfcdkfdaa
end
