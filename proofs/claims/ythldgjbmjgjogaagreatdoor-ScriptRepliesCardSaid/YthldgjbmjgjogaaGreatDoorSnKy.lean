import Derived.Test.YthldgjbmjgjogaaGreatDoorSe1
import Derived.Laws.IdiomCopy
namespace Go.Proofs.YthldgjbmjgjogaaGreatDoor
open Go Go.HW Go.RowKit
set_option linter.unusedVariables false
set_option linter.unusedSimpArgs false
set_option maxRecDepth 20000

/-! ### copy(key[:], bytes) -/
theorem pad32_getD (k : List Int) (i : Nat) (h : i < 32) : (pad32 k).getD i 0 = k.getD i 0 := by
  unfold pad32
  match i, h with
  | 0, _ | 1, _ | 2, _ | 3, _ | 4, _ | 5, _ | 6, _ | 7, _ | 8, _ | 9, _ | 10, _ | 11, _ | 12, _ | 13, _ | 14, _ | 15, _ => rfl
  | 16, _ | 17, _ | 18, _ | 19, _ | 20, _ | 21, _ | 22, _ | 23, _ | 24, _ | 25, _ | 26, _ | 27, _ | 28, _ | 29, _ | 30, _ | 31, _ => rfl
  | n + 32, h => omega
theorem pad32_copy (ys : List Int) : ys.take 32 ++ (List.replicate 32 (0 : Int)).drop (ys.take 32).length = pad32 ys := by
  apply List.ext_getElem?
  intro i
  have hlen : (ys.take 32 ++ (List.replicate 32 (0 : Int)).drop (ys.take 32).length).length = 32 := by simp; omega
  by_cases h : i < 32
  · have e1 : (ys.take 32 ++ (List.replicate 32 (0 : Int)).drop (ys.take 32).length)[i]? = some (ys.getD i 0) := by
      by_cases h2 : i < ys.length
      · rw [List.getElem?_append_left (by simp; omega), List.getElem?_take_of_lt h, List.getElem?_eq_getElem h2, List.getD_eq_getElem?_getD, List.getElem?_eq_getElem h2]; rfl
      · rw [List.getElem?_append_right (by simp; omega), List.getElem?_drop, List.getElem?_replicate, if_pos (by simp; omega), List.getD_eq_getElem?_getD, List.getElem?_eq_none (by omega)]; rfl
    have e2 : (pad32 ys)[i]? = some (ys.getD i 0) := by
      have := pad32_getD ys i h
      rw [List.getD_eq_getElem?_getD] at this
      cases hq : (pad32 ys)[i]? with
      | none => rw [List.getElem?_eq_none_iff, pad32_len] at hq; omega
      | some x => rw [hq] at this; simp at this; rw [this]; simp [List.getD_eq_getElem?_getD]
    rw [e1, e2]
  · rw [List.getElem?_eq_none (by omega), List.getElem?_eq_none (by rw [pad32_len]; omega)]
section
variable {Kc : Act → World → Prop} {P : Program} {o : Oper} {S : Slots} {w0 : World} {I : Mem} {H : Heap} {N : Nat} {ops : Array Oper} {lab : Lab} {ids : Nat → Option Nat} {l : List Nat} {i d : Nat}
theorem f_copyKey {M : Mem} {t t' e j b : Nat} {x y : Operand} {v : Value} {ys : List Int} (hu : P.underlying t = some (.slice e)) (hs : (P.info? e).map (·.size) = some 1) (hM : ∀ w, Cls w0 I H w → Imm M w) (hr : IntRow M .u8 v ys) (hH : H[j]? = some (some b, .cells (enc .u8 (List.replicate 32 0)) t' (0, 0)))
    (ho : o.op = .call { callee := .builtin .copy, args := #[x, y], argTypes := #[t, t] }) (hx : ev S x = some (.slice (some ⟨b, 0, none⟩) 32 32)) (hy : ev S y = some v) :
    FAct P o w0 I S H Unit (fun _ => .int .i64 ((ys.take 32).length : Int)) (fun _ => H.set j (some b, .cells (enc .u8 (pad32 ys)) t' (0, 0))) := fun ρ hρ w hc => by
  obtain ⟨h0, a, c, rfl, hcl, h3⟩ := RowV.world hr (hM w hc)
  obtain ⟨cc, hrun⟩ := run_builtin (P := P) (ρ := ρ) (vs := #[.slice (some ⟨b, 0, none⟩) 32 32, .slice a ys.length c]) ho (by simp [hρ _ _ hx, hρ _ _ hy]) w
  have hb := hc.own b _ (List.mem_of_getElem? hH)
  rcases h3 with h3 | ⟨b2, off, arr, t2, z, rfl, e2, e3⟩
  · have hy0 : ys = [] := List.eq_nil_of_length_eq_zero h3
    subst hy0
    refine .inl ⟨(), w, ?_, ?_⟩
    · rw [hrun]
      exact val_run (run_copy_none (P := P) w t t o.type e (some ⟨b, 0, none⟩) a 32 32 0 c hu hs rfl)
    · have : H.set j (some b, .cells (enc .u8 (pad32 [])) t' (0, 0)) = H := by
        have h32 : (pad32 []) = List.replicate 32 0 := by kernel_rfl
        rw [h32]
        exact List.ext_getElem? fun q => by
          rw [List.getElem?_set]
          split
          · rename_i hq; subst hq; split
            · exact hH.symm
            · rename_i hlt; rw [List.getElem?_eq_none (by omega)]
          · rfl
      rw [this]; exact hc
  · have hl : (encl .u8 (ys.take 32)).length = min ys.length 32 := by
      rw [encl_len, List.length_take]; exact Nat.min_comm _ _
    have hcopy := run_copy_row (P := P) w t t o.type e b 0 32 32 ⟨b2, off, none⟩ ys.length c (enc .u8 (List.replicate 32 0)) t' (encl .u8 (ys.take 32)) hu hs hb hl (fun q u hq => by
      rw [add_none, cell_of (show w.heap[b2]? = _ from e2)]
      have hq1 : (encl .u8 ys)[q]? = some u := by
        have hlt : q < 32 := by
          rcases Nat.lt_or_ge q 32 with h | h
          · exact h
          · rw [List.getElem?_eq_none (by rw [hl]; omega)] at hq; cases hq
        unfold encl at hq ⊢
        rw [List.map_take, List.getElem?_take_of_lt hlt] at hq
        exact hq
      exact e3 q u hq1) (by rw [hl, enc_size]; simp; omega) (encl_one .u8 _)
    have earr : ((enc .u8 (List.replicate 32 (0 : Int))).toList.take 0 ++ encl .u8 (ys.take 32) ++ (enc .u8 (List.replicate 32 (0 : Int))).toList.drop (0 + (encl .u8 (ys.take 32)).length)).toArray = enc .u8 (pad32 ys) := by
      rw [← pad32_copy ys, encl_len]
      unfold enc encl
      simp only [List.take_zero, List.nil_append, Nat.zero_add, List.map_append, List.map_drop]
    rw [earr, encl_len] at hcopy
    refine .inl ⟨(), w.setRow b (enc .u8 (pad32 ys)), ?_, ?_⟩
    · rw [hrun]
      exact val_run hcopy
    · exact hc.setObj hH rfl rfl rfl (by simp) (setRow_heap w b _ _ t' _ hb) (fun d hd => setRow_other w b d _ hd)
end

/-! ### escutcheon/script.keyOf: function 52 -/
noncomputable def B52 : Code := bodyOf Tryz.f52
theorem kenter53 (args : Array Value) (w : World) : (callFunc 53 args).run Tryz.prog w = .ok (.enter 53 args) w := by kernel_rfl
def script_keyOf.f (a0 : List UInt8) : Option (List Int) := script_bytesOf.f a0
theorem script_keyOf.ok {s : List UInt8} {l : List Int} (h : script_keyOf.f s = some l) {M : Mem} (w : World) (hM : Ext M (heapOf w)) : Calls Tryz.prog 52 #[str s] w (Post (fun u => u = .agg (enc .u8 (pad32 l))) w) := by
  have hE := Env.start hM
  refine calls_of_TT (N := 8) (S := [(0, str s)]) (c := B52) Tryz.func52 rfl rfl rfl (by simp) ?_
  show TT _ _ _ _ _ _ [.code (sub [] B52)] _ _
  refine TT.seq (x := sub [0] B52) (y := sub [1] B52) ?_
  refine TT.region (id := 0) (n := 1) (ops := (opsOf (sub [0] B52))) [(.alloc, none)] rfl ?_
  refine DL.new (ob := .cells (enc .u8 (List.replicate 32 0)) 26) (mk := fun b => ptr b 0) (i := 0) rfl (Wn.none rfl) rfl rfl rfl (f_alloc (z := .agg (enc .u8 (List.replicate 32 0))) (fun w => by kernel_rfl) rfl) ?_
  intro b hb
  refine DL.nil ?_
  refine TT.seq (x := sub [1, 0] B52) (y := sub [1, 1] B52) ?_
  refine TT.regionD (id := 1) (ops := (opsOf (sub [1, 0] B52))) [0, 1, 2, 3] [0, 0, 2, 7] [(.pure, none), (.pure, none), (.free, none), (.actx, none)] mixed (by kernel_rfl) ?_
  intro w3 hl3 hj3 hz3
  refine DL.pu 3 (.slice (some ⟨b, 0, none⟩) 32 32) rfl (p_sliceBox (fun w => by kernel_rfl) rfl rfl) ?_
  refine DL.pu 4 (str s) rfl (p_move rfl rfl) ?_
  refine DL.callFf (G := Value) (u := fun g => g) (Q := fun g M_ => IntRow M_ .u8 g l) (A := [(some b, .cells (enc .u8 (List.replicate 32 0)) 26 (0, 0))]) (J := []) (fun J4 => (some b, .cells (enc .u8 (List.replicate 32 0)) 26 (0, 0)) :: J4) hl3.2.2.2 hE.nil (List.append_nil _).symm (fun _ => rfl) (by simp) (i := 2) rfl (Wn.none rfl) rfl rfl rfl rfl rfl rfl (args_val (vs := [str s]) rfl) (fun w => kenter53 _ w) (fun w hc hI => script_bytesOf.ok h (M := M) w hI) ?_
  rintro v M4 J4 hE4 hx4 hr
  refine DL.actx (X := Unit) (u := fun _ => .int .i64 ((l.take 32).length : Int)) (H' := fun _ => (some b, .cells (enc .u8 (pad32 l)) 26 (0, 0)) :: J4) (i := 3) rfl (Wn.none rfl) rfl rfl rfl (f_copyKey (M := M4) (t := 31) (e := 5) (j := 0) (by kernel_rfl) (by kernel_rfl) (fun w hc => hE4.immJ (A := [(some b, .cells (enc .u8 (List.replicate 32 0)) 26 (0, 0))]) hc rfl) hr rfl rfl rfl rfl) ?_
  intro _
  refine DL.nil' hl3 ?_
  refine TT.settle (A := [(some b, .cells (enc .u8 (pad32 l)) 26 (0, 0))]) (J := J4) hE4 ?_
  intro I5 hE5 hxI5
  refine TT.seq (x := sub [1, 1, 0] B52) (y := sub [1, 1, 1] B52) ?_
  refine TT.region (id := 2) (n := 2) (ops := (opsOf (sub [1, 1, 0] B52))) [(.quiet, none), (.store, none)] rfl ?_
  refine DL.qu 7 (.agg (enc .u8 (pad32 l))) rfl (f_loadA (j := 0) (fun w => by kernel_rfl) (fun w => by kernel_rfl) rfl rfl rfl rfl) ?_
  refine DL.put (H' := [(some b, .cells (enc .u8 (pad32 l)) 26 (0, 0))]) (i := 1) rfl (Wn.none rfl) rfl rfl (f_storeA (j := 0) (fun w => by kernel_rfl) rfl rfl rfl (one_int .u8 (pad32 l)) rfl rfl rfl) (keep_none rfl) ?_
  refine DL.nil ?_
  exact ret1E hE5.base Tryz.func52 rfl (ResV.cell (j := 0) (fun w => by kernel_rfl) (fun w => by kernel_rfl) rfl rfl rfl) rfl
theorem script_keyOf.val {s : List UInt8} {l : List Int} (h : script_keyOf.f s = some l) {M : Mem} (w : World) (hM : Ext M (heapOf w)) : Calls Tryz.prog 52 #[str s] w fun e w' => e = .returned (.agg (enc .u8 (pad32 l))) ∧ Below w.heap.size w w' :=
  (script_keyOf.ok h w hM).mono fun e w' ⟨v, he, hp, hb⟩ => ⟨by rw [he, hp], hb⟩
end Go.Proofs.YthldgjbmjgjogaaGreatDoor
