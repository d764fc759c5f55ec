import Derived.Test.YtjomnicfcdkfdaaDkM9
section
namespace Go.Proofs.Ytjomnicfcdkfdaa
open Go Go.HW Go.RowKit
set_option linter.unusedVariables false
set_option linter.unusedSimpArgs false

noncomputable def B30 : Code := bodyOf Try.f30
theorem en30 (args : Array Value) (w : World) : (callFunc 30 args).run Try.prog w = .ok (.enter 30 args) w := by kernel_rfl
theorem wrc_S {x : Wr} {a : Nat} (h : a < x.2.length) : (wrc x)[1 + a]? = some (.int .u8 (x.2.getD a 0)) := by
  unfold wrc
  rw [Array.getElem?_append_right (by simp)]
  have e : 1 + a - (#[Value.int .i64 x.1] : Array Value).size = a := by simp
  rw [e]; exact enc_get .u8 h
theorem own_cell {v : Value} {c : Array Value} {n : Nat} {cs : List Value} (h : OwnV v c 513 n cs) {k : Nat} {y : Wr} (hk : k < n) (hy : chunk cs 513 k = (wrc y).toList) {q : Nat} (hq : q < 513) {u : Value} (hu : (wrc y)[q]? = some u) : c[k * 513 + q]? = some u := by
  have h1 : (chunk cs 513 k)[q]? = some u := by rw [hy]; simpa using hu
  have h2 := chunk_get h1
  rcases h.2 with ⟨_, h0⟩ | ⟨g, cap, _, _, _, _, k4⟩
  · omega
  · rw [← k4] at h2
    have hlt : k * 513 + q < n * 513 := by
      have := Nat.mul_le_mul_right 513 (show k + 1 ≤ n from hk)
      rw [Nat.add_mul] at this; omega
    rw [List.getElem?_take_of_lt hlt] at h2
    simpa using h2
theorem chunk_set {cs : List Value} {k j q : Nat} {z : Value} (hq : q < 513) : chunk (cs.set (k * 513 + q) z) 513 j = if j = k then (chunk cs 513 k).set q z else chunk cs 513 j := by
  unfold chunk
  rcases Nat.lt_trichotomy j k with h | h | h
  · have h1 : (j + 1) * 513 ≤ k * 513 := Nat.mul_le_mul_right _ h
    rw [Nat.add_mul] at h1
    rw [if_neg (by omega), List.drop_set, if_neg (by omega), List.take_set, List.set_eq_of_length_le]
    rw [List.length_take]; omega
  · subst h
    rw [if_pos rfl, List.drop_set, if_neg (by omega), List.take_set, show j * 513 + q - j * 513 = q by omega]
  · have h1 : (k + 1) * 513 ≤ j * 513 := Nat.mul_le_mul_right _ h
    rw [Nat.add_mul] at h1
    rw [if_neg (by omega), List.drop_set, if_pos (by omega)]
theorem wrc_set {y : Wr} {a : Nat} {z : Int} : (wrc y).toList.set (1 + a) (.int .u8 z) = (wrc (y.1, y.2.set a z)).toList := by
  simp only [wrc, Array.toList_append, List.cons_append, List.nil_append]
  rw [Nat.add_comm, List.set_cons_succ]
  simp [enc, List.map_set]
theorem own_upd {M : Mem} {v : Value} {c : Array Value} {xs : List Wr} (h : OwnS ShWr M v c xs) {k : Nat} {y : Wr} (hy : xs[k]? = some y) {a : Nat} (ha : a < 512) (z : Int) : OwnS ShWr M v (c.setIfInBounds (k * 513 + (1 + a)) (.int .u8 z)) (xs.set k (y.1, y.2.set a z)) := by
  obtain ⟨cs, h1, h2⟩ := h
  refine ⟨cs.set (k * 513 + (1 + a)) (.int .u8 z), ⟨by rw [List.length_set, List.length_set]; exact h1.1, ?_⟩, fun i x hx => ?_⟩
  · rw [List.length_set]
    rcases h1.2 with ⟨rfl, h0⟩ | ⟨g, cap, rfl, k1, k2, k3, k4⟩
    · exact .inl ⟨rfl, h0⟩
    · exact .inr ⟨g, cap, rfl, k1, k2, by rw [Array.size_setIfInBounds]; exact k3, by rw [Array.toList_setIfInBounds, List.take_set, k4]⟩
  · show chunk _ 513 i = _ ∧ _
    rw [chunk_set (by omega)]
    by_cases hik : i = k
    · subst hik
      have hlt := (List.getElem?_eq_some_iff.1 hy).1
      rw [List.getElem?_set_self hlt] at hx
      cases hx
      obtain ⟨g1, g2⟩ := h2 i y hy
      rw [if_pos rfl, show chunk cs 513 i = _ from g1, wrc_set]
      exact ⟨rfl, by simpa using g2⟩
    · rw [List.getElem?_set_ne (Ne.symm hik)] at hx
      rw [if_neg hik]; exact h2 i x hx
def xorAt (b : List Int) (at_ : Int) (x : Int) : List Int := b.set at_.toNat (ixor .u8 (b.getD at_.toNat 0) x)
def edW (n at_ x : Int) (w : Wr) : Wr := if w.1 == n then (w.1, xorAt w.2 at_ x) else w
def edL (l : List Wr) (n at_ x : Int) (k : Nat) : List Wr := (l.take k).map (edW n at_ x) ++ l.drop k
theorem edL_len (l : List Wr) (n at_ x : Int) (k : Nat) (h : k ≤ l.length) : (edL l n at_ x k).length = l.length := by simp [edL]; omega
theorem edL_get {l : List Wr} {n at_ x : Int} {k : Nat} {y : Wr} (h : l[k]? = some y) : (edL l n at_ x k)[k]? = some y := by
  have hlt := (List.getElem?_eq_some_iff.1 h).1
  unfold edL
  rw [List.getElem?_append_right (by simp; omega)]
  simp [Nat.min_eq_left (Nat.le_of_lt hlt)]
  simpa using h
theorem edL_succ {l : List Wr} {n at_ x : Int} {k : Nat} {y : Wr} (h : l[k]? = some y) : edL l n at_ x (k + 1) = (edL l n at_ x k).set k (edW n at_ x y) := by
  have hlt := (List.getElem?_eq_some_iff.1 h).1
  have hy := (List.getElem?_eq_some_iff.1 h).2
  unfold edL
  rw [List.take_add_one, h, List.map_append, List.set_append, if_neg (by simp; omega), List.drop_eq_getElem_cons hlt, hy]
  simp [Nat.min_eq_left (Nat.le_of_lt hlt)]
theorem edL_same {l : List Wr} {n at_ x : Int} {k : Nat} {y : Wr} (h : l[k]? = some y) (hn : (y.1 == n) = false) : edL l n at_ x (k + 1) = edL l n at_ x k := by
  rw [edL_succ h]
  have e : edW n at_ x y = y := by unfold edW; rw [hn]; rfl
  rw [e]
  apply List.ext_getElem?
  intro i
  by_cases hi : k = i
  · subst hi
    rw [edL_get h, List.getElem?_set_self (by rw [edL_len _ _ _ _ _ (Nat.le_of_lt (List.getElem?_eq_some_iff.1 h).1)]; exact (List.getElem?_eq_some_iff.1 h).1)]
  · rw [List.getElem?_set_ne hi]
theorem p_slP {P : Program} {o : Oper} {S : Slots} {T e sz n g cap k : Nat} {x y : Operand} {kk : IntKind} (hu : ∀ w, (underlying T).run P w = .ok (.slice e) w) (hs : ∀ w, (sizeOf e).run P w = .ok sz w) (hk : k < n) (ho : o.op = .indexAddr T x y) (hx : ev S x = some (.slice (some ⟨g, 0, none⟩) n cap)) (hy : ev S y = some (.int kk (k : Int))) : FPure P o S (ptr g (k * sz)) := by
  have h := p_slIx (P := P) (o := o) (S := S) (i := (k : Int)) hu hs ⟨_, _, rfl⟩ (Int.natCast_nonneg k) (by omega) ho hx hy
  have e : elp (.slice (some ⟨g, 0, none⟩) n cap) ((k : Int).toNat * sz) = ptr g (k * sz) := by
    simp only [elp, Int.toNat_natCast, HW.add_none, Nat.zero_add, ptr]
  rwa [e] at h
def editK (s : Dk) (n at_ x : Int) : Int × Dk := if hasD s n = false then (2, s) else if at_ < 0 then (2, s) else if 512 ≤ at_ then (2, s) else (0, { s with set := mput s.set n (xorAt (mget s.set n) at_ x), late := s.late.map (edW n at_ x) })

theorem edit_1 {w0 w : World} {I : Mem} {b m : Nat} {v : Value} {cur : Array Value} {s : Dk} (hc : Cls w0 I (dkH b m v cur s) w) (ho : DkO v cur s) (n at_ x : Int) (h : hasD s n = false) : Calls Try.prog 30 #[ptr b 0, .int .i64 n, .int .i64 at_, .int .u8 x] w (fun e w' => ∃ cur2, e = .returned (.int .i64 2) ∧ DkO v cur2 s ∧ Cls w0 I (dkH b m v cur2 s) w') := by
  refine calls_of_CW (N := 80) Try.func30 (show _ = some B30 by kernel_rfl) (by kernel_rfl) rfl (S := [(0, ptr b 0), (1, .int .i64 n), (2, .int .i64 at_), (3, .int .u8 x)]) (by simp) hc ?_
  show CW _ _ _ (sub [] B30) _ _ _
  refine C.seq (x := sub [0] B30) (y := sub [1] B30) ?_
  refine C.region (id := 0) (m := 1) (ops := opsOf (sub [0] B30)) rfl ?_
  refine W.pure rfl (wo rfl) rfl rfl (p_assign rfl rfl) (nf rfl) ?_
  refine W.doneQ (y := sub [1] B30) rfl ?_
  refine C.seq (x := sub [1, 0] B30) (y := sub [1, 1] B30) ?_
  refine C.block (id := 0) (c := sub [1, 0, 0] B30) ?_
  refine C.seq (x := sub [1, 0, 0, 0] B30) (y := sub [1, 0, 0, 1] B30) ?_
  refine C.region (id := 1) (m := 4) (ops := opsOf (sub [1, 0, 0, 0] B30)) rfl ?_
  refine W.pure rfl (wo rfl) rfl rfl (p_move rfl rfl) (nf rfl) ?_
  refine W.quiet rfl (wo rfl) rfl rfl (f_callR rfl rfl (args_val (vs := [ptr b 0]) rfl) (en32 _) (fun w2 hc2 => there_ok (M := heapOf w2) (fun _ _ e => e) (ho.M (b := b) (m := m) hc2 (fun p hp => by first | exact hp | exact List.mem_cons_of_mem _ hp | exact List.mem_cons_of_mem _ (List.mem_cons_of_mem _ hp) | exact List.mem_append_left _ hp)))) (nf rfl) ?_
  refine W.pure rfl (wo rfl) rfl rfl (p_not rfl rfl) (nf rfl) ?_
  refine W.pure rfl (wo rfl) rfl rfl (p_assign rfl rfl) (nf rfl) ?_
  refine W.doneQ (y := sub [1, 0, 0, 1] B30) rfl ?_
  refine C.cond_false (x := sub [1, 0, 0, 1, 0] B30) (y := sub [1, 0, 0, 1, 1] B30) rfl rfl ?_
  refine C.seq (x := sub [1, 0, 0, 1, 1, 0] B30) (y := sub [1, 0, 0, 1, 1, 1] B30) ?_
  refine C.region (id := 3) (m := 13) (ops := opsOf (sub [1, 0, 0, 1, 1, 0] B30)) rfl ?_
  refine W.pure rfl (wo rfl) rfl rfl (p_move rfl rfl) (nf rfl) ?_
  refine W.pure rfl (wo rfl) rfl rfl (p_move rfl rfl) (nf rfl) ?_
  refine W.quiet rfl (wo rfl) rfl rfl (qF (h) (f_callR rfl rfl (args_val (vs := [ptr b 0, .int .i64 n]) rfl) (en34 _) (fun w2 hc2 => has_ok (M := heapOf w2) (fun _ _ e => e) (ho.M (b := b) (m := m) hc2 (fun p hp => by first | exact hp | exact List.mem_cons_of_mem _ hp | exact List.mem_cons_of_mem _ (List.mem_cons_of_mem _ hp) | exact List.mem_append_left _ hp)) n))) (nf rfl) ?_
  refine W.pure rfl (wo rfl) rfl rfl (p_not rfl rfl) (nf rfl) ?_
  refine W.pure rfl (wo rfl) rfl rfl (p_move rfl rfl) (nf rfl) ?_
  refine W.not rfl (wo rfl) rfl rfl ?_
  refine W.not rfl (wo rfl) rfl rfl ?_
  refine W.pure rfl (wo rfl) rfl rfl (p_pick_true rfl rfl rfl) (nf rfl) ?_
  refine W.pure rfl (wo rfl) rfl rfl (p_move rfl rfl) (nf rfl) ?_
  refine W.not rfl (wo rfl) rfl rfl ?_
  refine W.not rfl (wo rfl) rfl rfl ?_
  refine W.pure rfl (wo rfl) rfl rfl (p_pick_true rfl rfl rfl) (nf rfl) ?_
  refine W.pure rfl (wo rfl) rfl rfl (p_assign rfl rfl) (nf rfl) ?_
  refine W.doneQ (y := sub [1, 0, 0, 1, 1, 1] B30) rfl ?_
  refine C.cond_true (x := sub [1, 0, 0, 1, 1, 1, 0] B30) (y := sub [1, 0, 0, 1, 1, 1, 1] B30) rfl rfl ?_
  refine C.seq (x := sub [1, 0, 0, 1, 1, 1, 0, 0] B30) (y := sub [1, 0, 0, 1, 1, 1, 0, 1] B30) ?_
  refine C.region (id := 4) (m := 1) (ops := opsOf (sub [1, 0, 0, 1, 1, 1, 0, 0] B30)) rfl ?_
  refine W.pure rfl (wo rfl) rfl rfl (p_assign rfl rfl) (nf rfl) ?_
  refine W.doneQ (y := sub [1, 0, 0, 1, 1, 1, 0, 1] B30) rfl ?_
  exact C.ret (R := fun e w' => ∃ cur2, e = .returned (.int .i64 2) ∧ DkO v cur2 s ∧ Cls w0 I (dkH b m v cur2 s) w') (rs := [.tmp 8]) (vs := [.int .i64 2]) rfl Try.func30 rfl rfl rfl (res_cons (ResV.tmp rfl) res_nil) fun w1 hc1 => ⟨cur, rfl, ho, hc1⟩

theorem edit_2 {w0 w : World} {I : Mem} {b m : Nat} {v : Value} {cur : Array Value} {s : Dk} (hc : Cls w0 I (dkH b m v cur s) w) (ho : DkO v cur s) (n at_ x : Int) (h : hasD s n = true) (h2 : at_ < 0) : Calls Try.prog 30 #[ptr b 0, .int .i64 n, .int .i64 at_, .int .u8 x] w (fun e w' => ∃ cur2, e = .returned (.int .i64 2) ∧ DkO v cur2 s ∧ Cls w0 I (dkH b m v cur2 s) w') := by
  refine calls_of_CW (N := 80) Try.func30 (show _ = some B30 by kernel_rfl) (by kernel_rfl) rfl (S := [(0, ptr b 0), (1, .int .i64 n), (2, .int .i64 at_), (3, .int .u8 x)]) (by simp) hc ?_
  show CW _ _ _ (sub [] B30) _ _ _
  refine C.seq (x := sub [0] B30) (y := sub [1] B30) ?_
  refine C.region (id := 0) (m := 1) (ops := opsOf (sub [0] B30)) rfl ?_
  refine W.pure rfl (wo rfl) rfl rfl (p_assign rfl rfl) (nf rfl) ?_
  refine W.doneQ (y := sub [1] B30) rfl ?_
  refine C.seq (x := sub [1, 0] B30) (y := sub [1, 1] B30) ?_
  refine C.block (id := 0) (c := sub [1, 0, 0] B30) ?_
  refine C.seq (x := sub [1, 0, 0, 0] B30) (y := sub [1, 0, 0, 1] B30) ?_
  refine C.region (id := 1) (m := 4) (ops := opsOf (sub [1, 0, 0, 0] B30)) rfl ?_
  refine W.pure rfl (wo rfl) rfl rfl (p_move rfl rfl) (nf rfl) ?_
  refine W.quiet rfl (wo rfl) rfl rfl (f_callR rfl rfl (args_val (vs := [ptr b 0]) rfl) (en32 _) (fun w2 hc2 => there_ok (M := heapOf w2) (fun _ _ e => e) (ho.M (b := b) (m := m) hc2 (fun p hp => by first | exact hp | exact List.mem_cons_of_mem _ hp | exact List.mem_cons_of_mem _ (List.mem_cons_of_mem _ hp) | exact List.mem_append_left _ hp)))) (nf rfl) ?_
  refine W.pure rfl (wo rfl) rfl rfl (p_not rfl rfl) (nf rfl) ?_
  refine W.pure rfl (wo rfl) rfl rfl (p_assign rfl rfl) (nf rfl) ?_
  refine W.doneQ (y := sub [1, 0, 0, 1] B30) rfl ?_
  refine C.cond_false (x := sub [1, 0, 0, 1, 0] B30) (y := sub [1, 0, 0, 1, 1] B30) rfl rfl ?_
  refine C.seq (x := sub [1, 0, 0, 1, 1, 0] B30) (y := sub [1, 0, 0, 1, 1, 1] B30) ?_
  refine C.region (id := 3) (m := 13) (ops := opsOf (sub [1, 0, 0, 1, 1, 0] B30)) rfl ?_
  refine W.pure rfl (wo rfl) rfl rfl (p_move rfl rfl) (nf rfl) ?_
  refine W.pure rfl (wo rfl) rfl rfl (p_move rfl rfl) (nf rfl) ?_
  refine W.quiet rfl (wo rfl) rfl rfl (qT (h) (f_callR rfl rfl (args_val (vs := [ptr b 0, .int .i64 n]) rfl) (en34 _) (fun w2 hc2 => has_ok (M := heapOf w2) (fun _ _ e => e) (ho.M (b := b) (m := m) hc2 (fun p hp => by first | exact hp | exact List.mem_cons_of_mem _ hp | exact List.mem_cons_of_mem _ (List.mem_cons_of_mem _ hp) | exact List.mem_append_left _ hp)) n))) (nf rfl) ?_
  refine W.pure rfl (wo rfl) rfl rfl (p_not rfl rfl) (nf rfl) ?_
  refine W.pure rfl (wo rfl) rfl rfl (p_move rfl rfl) (nf rfl) ?_
  refine W.pure rfl (wo rfl) rfl rfl (p_move rfl rfl) (nf rfl) ?_
  refine W.pure rfl (wo rfl) rfl rfl (pT (decide_eq_true h2) (p_lss rfl rfl rfl)) (nf rfl) ?_
  refine W.pure rfl (wo rfl) rfl rfl (p_pick_false rfl rfl rfl) (nf rfl) ?_
  refine W.pure rfl (wo rfl) rfl rfl (p_move rfl rfl) (nf rfl) ?_
  refine W.not rfl (wo rfl) rfl rfl ?_
  refine W.not rfl (wo rfl) rfl rfl ?_
  refine W.pure rfl (wo rfl) rfl rfl (p_pick_true rfl rfl rfl) (nf rfl) ?_
  refine W.pure rfl (wo rfl) rfl rfl (p_assign rfl rfl) (nf rfl) ?_
  refine W.doneQ (y := sub [1, 0, 0, 1, 1, 1] B30) rfl ?_
  refine C.cond_true (x := sub [1, 0, 0, 1, 1, 1, 0] B30) (y := sub [1, 0, 0, 1, 1, 1, 1] B30) rfl rfl ?_
  refine C.seq (x := sub [1, 0, 0, 1, 1, 1, 0, 0] B30) (y := sub [1, 0, 0, 1, 1, 1, 0, 1] B30) ?_
  refine C.region (id := 4) (m := 1) (ops := opsOf (sub [1, 0, 0, 1, 1, 1, 0, 0] B30)) rfl ?_
  refine W.pure rfl (wo rfl) rfl rfl (p_assign rfl rfl) (nf rfl) ?_
  refine W.doneQ (y := sub [1, 0, 0, 1, 1, 1, 0, 1] B30) rfl ?_
  exact C.ret (R := fun e w' => ∃ cur2, e = .returned (.int .i64 2) ∧ DkO v cur2 s ∧ Cls w0 I (dkH b m v cur2 s) w') (rs := [.tmp 8]) (vs := [.int .i64 2]) rfl Try.func30 rfl rfl rfl (res_cons (ResV.tmp rfl) res_nil) fun w1 hc1 => ⟨cur, rfl, ho, hc1⟩

theorem edit_3 {w0 w : World} {I : Mem} {b m : Nat} {v : Value} {cur : Array Value} {s : Dk} (hc : Cls w0 I (dkH b m v cur s) w) (ho : DkO v cur s) (n at_ x : Int) (h : hasD s n = true) (h2 : ¬ at_ < 0) (h3 : 512 ≤ at_) : Calls Try.prog 30 #[ptr b 0, .int .i64 n, .int .i64 at_, .int .u8 x] w (fun e w' => ∃ cur2, e = .returned (.int .i64 2) ∧ DkO v cur2 s ∧ Cls w0 I (dkH b m v cur2 s) w') := by
  refine calls_of_CW (N := 80) Try.func30 (show _ = some B30 by kernel_rfl) (by kernel_rfl) rfl (S := [(0, ptr b 0), (1, .int .i64 n), (2, .int .i64 at_), (3, .int .u8 x)]) (by simp) hc ?_
  show CW _ _ _ (sub [] B30) _ _ _
  refine C.seq (x := sub [0] B30) (y := sub [1] B30) ?_
  refine C.region (id := 0) (m := 1) (ops := opsOf (sub [0] B30)) rfl ?_
  refine W.pure rfl (wo rfl) rfl rfl (p_assign rfl rfl) (nf rfl) ?_
  refine W.doneQ (y := sub [1] B30) rfl ?_
  refine C.seq (x := sub [1, 0] B30) (y := sub [1, 1] B30) ?_
  refine C.block (id := 0) (c := sub [1, 0, 0] B30) ?_
  refine C.seq (x := sub [1, 0, 0, 0] B30) (y := sub [1, 0, 0, 1] B30) ?_
  refine C.region (id := 1) (m := 4) (ops := opsOf (sub [1, 0, 0, 0] B30)) rfl ?_
  refine W.pure rfl (wo rfl) rfl rfl (p_move rfl rfl) (nf rfl) ?_
  refine W.quiet rfl (wo rfl) rfl rfl (f_callR rfl rfl (args_val (vs := [ptr b 0]) rfl) (en32 _) (fun w2 hc2 => there_ok (M := heapOf w2) (fun _ _ e => e) (ho.M (b := b) (m := m) hc2 (fun p hp => by first | exact hp | exact List.mem_cons_of_mem _ hp | exact List.mem_cons_of_mem _ (List.mem_cons_of_mem _ hp) | exact List.mem_append_left _ hp)))) (nf rfl) ?_
  refine W.pure rfl (wo rfl) rfl rfl (p_not rfl rfl) (nf rfl) ?_
  refine W.pure rfl (wo rfl) rfl rfl (p_assign rfl rfl) (nf rfl) ?_
  refine W.doneQ (y := sub [1, 0, 0, 1] B30) rfl ?_
  refine C.cond_false (x := sub [1, 0, 0, 1, 0] B30) (y := sub [1, 0, 0, 1, 1] B30) rfl rfl ?_
  refine C.seq (x := sub [1, 0, 0, 1, 1, 0] B30) (y := sub [1, 0, 0, 1, 1, 1] B30) ?_
  refine C.region (id := 3) (m := 13) (ops := opsOf (sub [1, 0, 0, 1, 1, 0] B30)) rfl ?_
  refine W.pure rfl (wo rfl) rfl rfl (p_move rfl rfl) (nf rfl) ?_
  refine W.pure rfl (wo rfl) rfl rfl (p_move rfl rfl) (nf rfl) ?_
  refine W.quiet rfl (wo rfl) rfl rfl (qT (h) (f_callR rfl rfl (args_val (vs := [ptr b 0, .int .i64 n]) rfl) (en34 _) (fun w2 hc2 => has_ok (M := heapOf w2) (fun _ _ e => e) (ho.M (b := b) (m := m) hc2 (fun p hp => by first | exact hp | exact List.mem_cons_of_mem _ hp | exact List.mem_cons_of_mem _ (List.mem_cons_of_mem _ hp) | exact List.mem_append_left _ hp)) n))) (nf rfl) ?_
  refine W.pure rfl (wo rfl) rfl rfl (p_not rfl rfl) (nf rfl) ?_
  refine W.pure rfl (wo rfl) rfl rfl (p_move rfl rfl) (nf rfl) ?_
  refine W.pure rfl (wo rfl) rfl rfl (p_move rfl rfl) (nf rfl) ?_
  refine W.pure rfl (wo rfl) rfl rfl (pF (decide_eq_false h2) (p_lss rfl rfl rfl)) (nf rfl) ?_
  refine W.pure rfl (wo rfl) rfl rfl (p_pick_false rfl rfl rfl) (nf rfl) ?_
  refine W.pure rfl (wo rfl) rfl rfl (p_move rfl rfl) (nf rfl) ?_
  refine W.pure rfl (wo rfl) rfl rfl (p_move rfl rfl) (nf rfl) ?_
  refine W.pure rfl (wo rfl) rfl rfl (pT (decide_eq_true h3) (p_geq rfl rfl rfl)) (nf rfl) ?_
  refine W.pure rfl (wo rfl) rfl rfl (p_pick_false rfl rfl rfl) (nf rfl) ?_
  refine W.pure rfl (wo rfl) rfl rfl (p_assign rfl rfl) (nf rfl) ?_
  refine W.doneQ (y := sub [1, 0, 0, 1, 1, 1] B30) rfl ?_
  refine C.cond_true (x := sub [1, 0, 0, 1, 1, 1, 0] B30) (y := sub [1, 0, 0, 1, 1, 1, 1] B30) rfl rfl ?_
  refine C.seq (x := sub [1, 0, 0, 1, 1, 1, 0, 0] B30) (y := sub [1, 0, 0, 1, 1, 1, 0, 1] B30) ?_
  refine C.region (id := 4) (m := 1) (ops := opsOf (sub [1, 0, 0, 1, 1, 1, 0, 0] B30)) rfl ?_
  refine W.pure rfl (wo rfl) rfl rfl (p_assign rfl rfl) (nf rfl) ?_
  refine W.doneQ (y := sub [1, 0, 0, 1, 1, 1, 0, 1] B30) rfl ?_
  exact C.ret (R := fun e w' => ∃ cur2, e = .returned (.int .i64 2) ∧ DkO v cur2 s ∧ Cls w0 I (dkH b m v cur2 s) w') (rs := [.tmp 8]) (vs := [.int .i64 2]) rfl Try.func30 rfl rfl rfl (res_cons (ResV.tmp rfl) res_nil) fun w1 hc1 => ⟨cur, rfl, ho, hc1⟩

theorem edit_4 {w0 w : World} {I : Mem} {b m : Nat} {v : Value} {cur : Array Value} {s : Dk} (hc : Cls w0 I (dkH b m v cur s) w) (ho : DkO v cur s) (n at_ x : Int) (h : hasD s n = true) (h2 : ¬ at_ < 0) (h3 : ¬ 512 ≤ at_) (hl : s.late.length ≤ 137438953471) : Calls Try.prog 30 #[ptr b 0, .int .i64 n, .int .i64 at_, .int .u8 x] w (fun e w' => ∃ cur2, e = .returned (.int .i64 0) ∧ DkO v cur2 { s with set := mput s.set n (xorAt (mget s.set n) at_ x), late := s.late.map (edW n at_ x) } ∧ Cls w0 I (dkH b m v cur2 { s with set := mput s.set n (xorAt (mget s.set n) at_ x), late := s.late.map (edW n at_ x) }) w') := by
  have ha0 : 0 ≤ at_ := by omega
  have ha1 : at_ < ((512 : Nat) : Int) := by omega
  have hml : (mget s.set n).length = 512 := mget_len ho.hs n
  have hxl : (xorAt (mget s.set n) at_ x).length = 512 := by unfold xorAt; rw [List.length_set]; exact hml
  refine calls_of_CW (N := 80) Try.func30 (show _ = some B30 by kernel_rfl) (by kernel_rfl) rfl (S := [(0, ptr b 0), (1, .int .i64 n), (2, .int .i64 at_), (3, .int .u8 x)]) (by simp) hc ?_
  show CW _ _ _ (sub [] B30) _ _ _
  refine C.seq (x := sub [0] B30) (y := sub [1] B30) ?_
  refine C.region (id := 0) (m := 1) (ops := opsOf (sub [0] B30)) rfl ?_
  refine W.pure rfl (wo rfl) rfl rfl (p_assign rfl rfl) (nf rfl) ?_
  refine W.doneQ (y := sub [1] B30) rfl ?_
  refine C.seq (x := sub [1, 0] B30) (y := sub [1, 1] B30) ?_
  refine C.block (id := 0) (c := sub [1, 0, 0] B30) ?_
  refine C.seq (x := sub [1, 0, 0, 0] B30) (y := sub [1, 0, 0, 1] B30) ?_
  refine C.region (id := 1) (m := 4) (ops := opsOf (sub [1, 0, 0, 0] B30)) rfl ?_
  refine W.pure rfl (wo rfl) rfl rfl (p_move rfl rfl) (nf rfl) ?_
  refine W.quiet rfl (wo rfl) rfl rfl (f_callR rfl rfl (args_val (vs := [ptr b 0]) rfl) (en32 _) (fun w2 hc2 => there_ok (M := heapOf w2) (fun _ _ e => e) (ho.M (b := b) (m := m) hc2 (fun p hp => by first | exact hp | exact List.mem_cons_of_mem _ hp | exact List.mem_cons_of_mem _ (List.mem_cons_of_mem _ hp) | exact List.mem_append_left _ hp)))) (nf rfl) ?_
  refine W.pure rfl (wo rfl) rfl rfl (p_not rfl rfl) (nf rfl) ?_
  refine W.pure rfl (wo rfl) rfl rfl (p_assign rfl rfl) (nf rfl) ?_
  refine W.doneQ (y := sub [1, 0, 0, 1] B30) rfl ?_
  refine C.cond_false (x := sub [1, 0, 0, 1, 0] B30) (y := sub [1, 0, 0, 1, 1] B30) rfl rfl ?_
  refine C.seq (x := sub [1, 0, 0, 1, 1, 0] B30) (y := sub [1, 0, 0, 1, 1, 1] B30) ?_
  refine C.region (id := 3) (m := 13) (ops := opsOf (sub [1, 0, 0, 1, 1, 0] B30)) rfl ?_
  refine W.pure rfl (wo rfl) rfl rfl (p_move rfl rfl) (nf rfl) ?_
  refine W.pure rfl (wo rfl) rfl rfl (p_move rfl rfl) (nf rfl) ?_
  refine W.quiet rfl (wo rfl) rfl rfl (qT (h) (f_callR rfl rfl (args_val (vs := [ptr b 0, .int .i64 n]) rfl) (en34 _) (fun w2 hc2 => has_ok (M := heapOf w2) (fun _ _ e => e) (ho.M (b := b) (m := m) hc2 (fun p hp => by first | exact hp | exact List.mem_cons_of_mem _ hp | exact List.mem_cons_of_mem _ (List.mem_cons_of_mem _ hp) | exact List.mem_append_left _ hp)) n))) (nf rfl) ?_
  refine W.pure rfl (wo rfl) rfl rfl (p_not rfl rfl) (nf rfl) ?_
  refine W.pure rfl (wo rfl) rfl rfl (p_move rfl rfl) (nf rfl) ?_
  refine W.pure rfl (wo rfl) rfl rfl (p_move rfl rfl) (nf rfl) ?_
  refine W.pure rfl (wo rfl) rfl rfl (pF (decide_eq_false h2) (p_lss rfl rfl rfl)) (nf rfl) ?_
  refine W.pure rfl (wo rfl) rfl rfl (p_pick_false rfl rfl rfl) (nf rfl) ?_
  refine W.pure rfl (wo rfl) rfl rfl (p_move rfl rfl) (nf rfl) ?_
  refine W.pure rfl (wo rfl) rfl rfl (p_move rfl rfl) (nf rfl) ?_
  refine W.pure rfl (wo rfl) rfl rfl (pF (decide_eq_false h3) (p_geq rfl rfl rfl)) (nf rfl) ?_
  refine W.pure rfl (wo rfl) rfl rfl (p_pick_false rfl rfl rfl) (nf rfl) ?_
  refine W.pure rfl (wo rfl) rfl rfl (p_assign rfl rfl) (nf rfl) ?_
  refine W.doneQ (y := sub [1, 0, 0, 1, 1, 1] B30) rfl ?_
  refine C.cond_false (x := sub [1, 0, 0, 1, 1, 1, 0] B30) (y := sub [1, 0, 0, 1, 1, 1, 1] B30) rfl rfl ?_
  refine C.skipQ (y := sub [1, 1] B30) rfl ?_
  refine C.seq (x := sub [1, 1, 0] B30) (y := sub [1, 1, 1] B30) ?_
  refine C.region (id := 5) (m := 8) (ops := opsOf (sub [1, 1, 0] B30)) rfl ?_
  refine W.pure rfl (wo rfl) rfl rfl (p_move rfl rfl) (nf rfl) ?_
  refine W.pure rfl (wo rfl) rfl rfl (p_nilCheck rfl rfl) (nf rfl) ?_
  refine W.pure rfl (wo rfl) rfl rfl (p_fieldAddr tf61_1 rfl rfl) (nf rfl) ?_
  refine W.quiet rfl (wo rfl) rfl rfl (f_load (j := 0) ta58 rfl (off := 1) rfl rfl rfl) (nf rfl) ?_
  refine W.pure rfl (wo rfl) rfl rfl (p_move rfl rfl) (nf rfl) ?_
  refine W.quiet rfl (wo rfl) rfl rfl (f_mget (j := 1) tu58 tu3 tz62 rfl rfl rfl rfl) (nf rfl) ?_
  refine W.new rfl (wo rfl) rfl rfl (f_alloc tz62 rfl) (nf rfl) ?_
  intro b9 hb9
  refine W.put (H' := (some b9, .cells (enc .u8 (mget s.set n)) 62 (0, 0)) :: dkH b m v cur s) rfl (wo rfl) rfl (f_storeA (j := 0) (c2 := enc .u8 (mget s.set n)) ts62 rfl (by rw [enc_size]; exact hml) (by rw [show (Blk zeros).cells = enc .u8 zeros from rfl, enc_size]; exact List.length_replicate) (enc_oneCell _ _) rfl rfl rfl) (nf rfl) ?_
  refine W.doneQ (y := sub [1, 1, 1] B30) rfl ?_
  refine C.seq (x := sub [1, 1, 1, 0] B30) (y := sub [1, 1, 1, 1] B30) ?_
  refine C.region (id := 6) (m := 7) (ops := opsOf (sub [1, 1, 1, 0] B30)) rfl ?_
  refine W.pure rfl (wo rfl) rfl rfl (p_move rfl rfl) (nf rfl) ?_
  refine W.pure rfl (wo rfl) rfl rfl (p_ix tu62 ts5 ha0 ha1 rfl rfl rfl) (nf rfl) ?_
  refine W.quiet rfl (wo rfl) rfl rfl (f_load (j := 0) ta5 rfl (off := at_.toNat) (enc_get .u8 (by rw [hml]; omega)) rfl rfl) (nf rfl) ?_
  refine W.pure rfl (wo rfl) rfl rfl (p_move rfl rfl) (nf rfl) ?_
  refine W.pure rfl (wo rfl) rfl rfl (p_xor rfl rfl rfl) (nf rfl) ?_
  refine W.pure rfl (wo rfl) rfl rfl (p_ix tu62 ts5 ha0 ha1 rfl rfl rfl) (nf rfl) ?_
  refine W.put (H' := (some b9, .cells (enc .u8 (xorAt (mget s.set n) at_ x)) 62 (0, 0)) :: dkH b m v cur s) rfl (wo rfl) rfl (f_storeE (j := 0) (off := at_.toNat) ts5 rfl (by rw [hml]; omega) rfl rfl rfl) (nf rfl) ?_
  refine W.doneQ (y := sub [1, 1, 1, 1] B30) rfl ?_
  refine C.seq (x := sub [1, 1, 1, 1, 0] B30) (y := sub [1, 1, 1, 1, 1] B30) ?_
  refine C.regionD (id := 7) (ops := opsOf (sub [1, 1, 1, 1, 0] B30)) [0, 1, 2, 3, 4, 5, 6] [0, 1, 3, 7, 0, 0, 63] [(.pure, none), (.pure, none), (.pure, none), (.quiet, none), (.pure, none), (.quiet, none), (.store, none)] (by kernel_rfl) ?_
  intro wD7 hl7
  refine DW.pure rfl rfl rfl rfl rfl (p_move rfl rfl) ?_
  refine DW.pure rfl rfl rfl rfl rfl (p_nilCheck rfl rfl) ?_
  refine DW.pure rfl rfl rfl rfl rfl (p_fieldAddr tf61_1 rfl rfl) ?_
  refine DW.quiet rfl rfl rfl rfl rfl (f_load (j := 1) ta58 rfl (off := 1) rfl rfl rfl) ?_
  refine DW.pure rfl rfl rfl rfl rfl (p_move rfl rfl) ?_
  refine DW.quiet rfl rfl rfl rfl rfl (f_loadA (j := 0) ta62 ts62 rfl (by rw [enc_size]; exact hxl) rfl rfl) ?_
  refine DW.put (H' := (some b9, .cells (enc .u8 (xorAt (mget s.set n) at_ x)) 62 (0, 0)) :: dkH b m v cur { s with set := mput s.set n (xorAt (mget s.set n) at_ x) }) rfl rfl rfl rfl rfl (f_mput (j := 2) tu58 tu3 rfl rfl rfl rfl rfl) ?_
  refine DW.doneQ (y := sub [1, 1, 1, 1, 1] B30) hl7 rfl ?_
  refine C.seq (x := sub [1, 1, 1, 1, 1, 0] B30) (y := sub [1, 1, 1, 1, 1, 1] B30) ?_
  refine C.seq (x := sub [1, 1, 1, 1, 1, 0, 0] B30) (y := sub [1, 1, 1, 1, 1, 0, 1] B30) ?_
  refine C.region (id := 8) (m := 6) (ops := opsOf (sub [1, 1, 1, 1, 1, 0, 0] B30)) rfl ?_
  refine W.pure rfl (wo rfl) rfl rfl (p_move rfl rfl) (nf rfl) ?_
  refine W.pure rfl (wo rfl) rfl rfl (p_nilCheck rfl rfl) (nf rfl) ?_
  refine W.pure rfl (wo rfl) rfl rfl (p_fieldAddr tf61_2 rfl rfl) (nf rfl) ?_
  refine W.quiet rfl (wo rfl) rfl rfl (f_load (j := 1) ta59 rfl (off := 2) rfl rfl rfl) (nf rfl) ?_
  refine W.pure rfl (wo rfl) rfl rfl (p_slLen tu59 ho.hr.sl rfl rfl) (nf rfl) ?_
  refine W.pure rfl (wo rfl) rfl rfl (p_move rfl rfl) (nf rfl) ?_
  refine W.doneQ (y := sub [1, 1, 1, 1, 1, 0, 1] B30) rfl ?_
  refine C.loopB (id := 1) (c := sub [1, 1, 1, 1, 1, 0, 1, 0, 0] B30) (y := sub [1, 1, 1, 1, 1, 1] B30) (fun z : Nat × Array Value => s.late.length - z.1) (fun z => [(0, ptr b 0), (1, .int .i64 n), (2, .int .i64 at_), (3, .int .u8 x), (50, .int .i64 (s.late.length : Int)), (51, .int .i64 (z.1 : Int))]) (fun z => (some b9, .cells (enc .u8 (xorAt (mget s.set n) at_ x)) 62 (0, 0)) :: dkH b m v z.2 { s with set := mput s.set n (xorAt (mget s.set n) at_ x), late := edL s.late n at_ x z.1 }) (fun z => z.1 ≤ s.late.length ∧ OwnS ShWr (fun _ => none) v z.2 (edL s.late n at_ x z.1)) (0, cur) ⟨Nat.zero_le _, by rw [show edL s.late n at_ x 0 = s.late from rfl]; exact ho.hr⟩ (Sub.cons rfl (Sub.cons rfl (Sub.cons rfl (Sub.cons rfl (Sub.cons rfl (Sub.cons rfl (Sub.nil _))))))) rfl rfl (fun z => z.1 = s.late.length) ?_ ?_
  · rintro ⟨k, c⟩ ⟨hk, hoc⟩ Q' hN hE hR
    simp only at hk hoc
    show CW _ _ _ _ _ [(0, ptr b 0), (1, .int .i64 n), (2, .int .i64 at_), (3, .int .u8 x), (50, .int .i64 (s.late.length : Int)), (51, .int .i64 (k : Int))] ((some b9, .cells (enc .u8 (xorAt (mget s.set n) at_ x)) 62 (0, 0)) :: dkH b m v c { s with set := mput s.set n (xorAt (mget s.set n) at_ x), late := edL s.late n at_ x k })
    by_cases hlt : k < s.late.length
    · obtain ⟨y, hy⟩ : ∃ y, s.late[k]? = some y := ⟨_, List.getElem?_eq_getElem hlt⟩
      have hyk := edL_get (n := n) (at_ := at_) (x := x) hy
      have hy2 := late_len ho hy
      obtain ⟨cs, hcs, hch⟩ := id hoc
      have hch2 := (hch k y hyk).1
      have hlen := edL_len s.late n at_ x k hk
      have hlt2 : k < (edL s.late n at_ x k).length := by omega
      have hbyte := own_cell hcs hlt2 hch2 (q := 1 + at_.toNat) (by omega) (wrc_S (a := at_.toNat) (by rw [hy2]; omega))
      rw [← Nat.add_assoc] at hbyte
      rcases hcs.2 with ⟨rfl, h0⟩ | ⟨g, cap, rfl, c1, c2, c3, c4⟩
      · omega
      cases heq : (y.1 == n) with
      | true =>
        refine C.seq (x := sub [1, 1, 1, 1, 1, 0, 1, 0, 0, 0] B30) (y := sub [1, 1, 1, 1, 1, 0, 1, 0, 0, 1] B30) ?_
        refine C.region (id := 9) (m := 1) (ops := opsOf (sub [1, 1, 1, 1, 1, 0, 1, 0, 0, 0] B30)) rfl ?_
        refine W.pure rfl (wo rfl) rfl rfl (pT (decide_eq_true (by omega)) (p_lss rfl rfl rfl)) (nf rfl) ?_
        refine W.doneQ (y := sub [1, 1, 1, 1, 1, 0, 1, 0, 0, 1] B30) rfl ?_
        refine C.seq (x := sub [1, 1, 1, 1, 1, 0, 1, 0, 0, 1, 0] B30) (y := sub [1, 1, 1, 1, 1, 0, 1, 0, 0, 1, 1] B30) ?_
        refine C.cond_true (x := sub [1, 1, 1, 1, 1, 0, 1, 0, 0, 1, 0, 0] B30) (y := sub [1, 1, 1, 1, 1, 0, 1, 0, 0, 1, 0, 1] B30) rfl rfl ?_
        refine C.skipQ (y := sub [1, 1, 1, 1, 1, 0, 1, 0, 0, 1, 1] B30) rfl ?_
        refine C.seq (x := sub [1, 1, 1, 1, 1, 0, 1, 0, 0, 1, 1, 0] B30) (y := sub [1, 1, 1, 1, 1, 0, 1, 0, 0, 1, 1, 1] B30) ?_
        refine C.block (id := 2) (c := sub [1, 1, 1, 1, 1, 0, 1, 0, 0, 1, 1, 0, 0] B30) ?_
        refine C.seq (x := sub [1, 1, 1, 1, 1, 0, 1, 0, 0, 1, 1, 0, 0, 0] B30) (y := sub [1, 1, 1, 1, 1, 0, 1, 0, 0, 1, 1, 0, 0, 1] B30) ?_
        refine C.region (id := 10) (m := 2) (ops := opsOf (sub [1, 1, 1, 1, 1, 0, 1, 0, 0, 1, 1, 0, 0, 0] B30)) rfl ?_
        refine W.pure rfl (wo rfl) rfl rfl (p_move rfl rfl) (nf rfl) ?_
        refine W.pure rfl (wo rfl) rfl rfl (p_assign rfl rfl) (nf rfl) ?_
        refine W.doneQ (y := sub [1, 1, 1, 1, 1, 0, 1, 0, 0, 1, 1, 0, 0, 1] B30) rfl ?_
        refine C.seq (x := sub [1, 1, 1, 1, 1, 0, 1, 0, 0, 1, 1, 0, 0, 1, 0] B30) (y := sub [1, 1, 1, 1, 1, 0, 1, 0, 0, 1, 1, 0, 0, 1, 1] B30) ?_
        refine C.region (id := 11) (m := 10) (ops := opsOf (sub [1, 1, 1, 1, 1, 0, 1, 0, 0, 1, 1, 0, 0, 1, 0] B30)) rfl ?_
        refine W.pure rfl (wo rfl) rfl rfl (p_move rfl rfl) (nf rfl) ?_
        refine W.pure rfl (wo rfl) rfl rfl (p_nilCheck rfl rfl) (nf rfl) ?_
        refine W.pure rfl (wo rfl) rfl rfl (p_fieldAddr tf61_2 rfl rfl) (nf rfl) ?_
        refine W.quiet rfl (wo rfl) rfl rfl (f_load (j := 1) ta59 rfl (off := 2) rfl rfl rfl) (nf rfl) ?_
        refine W.pure rfl (wo rfl) rfl rfl (p_move rfl rfl) (nf rfl) ?_
        refine W.pure rfl (wo rfl) rfl rfl (p_slP tu59 ts64 hlt2 rfl rfl rfl) (nf rfl) ?_
        refine W.pure rfl (wo rfl) rfl rfl (p_fieldAddr tf64_0 rfl rfl) (nf rfl) ?_
        refine W.quiet rfl (wo rfl) rfl rfl (f_load (j := 3) ta3 rfl (off := k * 513 + 0) (own_cell hcs hlt2 hch2 (by decide) (wrc_0 y)) rfl rfl) (nf rfl) ?_
        refine W.pure rfl (wo rfl) rfl rfl (p_move rfl rfl) (nf rfl) ?_
        refine W.pure rfl (wo rfl) rfl rfl (pT (heq) (p_eql rfl rfl rfl)) (nf rfl) ?_
        refine W.doneQ (y := sub [1, 1, 1, 1, 1, 0, 1, 0, 0, 1, 1, 0, 0, 1, 1] B30) rfl ?_
        refine C.cond_true (x := sub [1, 1, 1, 1, 1, 0, 1, 0, 0, 1, 1, 0, 0, 1, 1, 0] B30) (y := sub [1, 1, 1, 1, 1, 0, 1, 0, 0, 1, 1, 0, 0, 1, 1, 1] B30) rfl rfl ?_
        refine C.regionD (id := 12) (ops := opsOf (sub [1, 1, 1, 1, 1, 0, 1, 0, 0, 1, 1, 0, 0, 1, 1, 0] B30)) [0, 1, 2, 3, 4, 5, 6, 7, 8, 9, 10, 11, 12, 13, 14, 15] [0, 1, 3, 7, 0, 0, 31, 95, 255, 511, 0, 2047, 31, 4127, 16383, 32767] [(.pure, none), (.pure, none), (.pure, none), (.quiet, none), (.pure, none), (.pure, none), (.pure, none), (.pure, none), (.pure, none), (.quiet, none), (.pure, none), (.pure, none), (.pure, none), (.pure, none), (.pure, none), (.store, none)] (by kernel_rfl) ?_
        intro wD12 hl12
        refine DW.pure rfl rfl rfl rfl rfl (p_move rfl rfl) ?_
        refine DW.pure rfl rfl rfl rfl rfl (p_nilCheck rfl rfl) ?_
        refine DW.pure rfl rfl rfl rfl rfl (p_fieldAddr tf61_2 rfl rfl) ?_
        refine DW.quiet rfl rfl rfl rfl rfl (f_load (j := 1) ta59 rfl (off := 2) rfl rfl rfl) ?_
        refine DW.pure rfl rfl rfl rfl rfl (p_move rfl rfl) ?_
        refine DW.pure rfl rfl rfl rfl rfl (p_move rfl rfl) ?_
        refine DW.pure rfl rfl rfl rfl rfl (p_slP tu59 ts64 hlt2 rfl rfl rfl) ?_
        refine DW.pure rfl rfl rfl rfl rfl (p_fieldAddr tf64_1 rfl rfl) ?_
        refine DW.pure rfl rfl rfl rfl rfl (p_ixO tu62 ts5 ha0 ha1 rfl rfl rfl) ?_
        refine DW.quiet rfl rfl rfl rfl rfl (f_load (j := 3) ta5 rfl (off := k * 513 + 1 + at_.toNat) (by rw [Nat.add_assoc]; exact own_cell hcs hlt2 hch2 (by omega) (wrc_S (by rw [hy2]; omega))) rfl rfl) ?_
        refine DW.pure rfl rfl rfl rfl rfl (p_move rfl rfl) ?_
        refine DW.pure rfl rfl rfl rfl rfl (p_xor rfl rfl rfl) ?_
        refine DW.pure rfl rfl rfl rfl rfl (p_slP tu59 ts64 hlt2 rfl rfl rfl) ?_
        refine DW.pure rfl rfl rfl rfl rfl (p_fieldAddr tf64_1 rfl rfl) ?_
        refine DW.pure rfl rfl rfl rfl rfl (p_ixO tu62 ts5 ha0 ha1 rfl rfl rfl) ?_
        refine DW.put (H' := (some b9, .cells (enc .u8 (xorAt (mget s.set n) at_ x)) 62 (0, 0)) :: [dk1 b m (.slice (some ⟨g, 0, none⟩) (edL s.late n at_ x k).length cap) s, (some m, dmap (mput s.set n (xorAt (mget s.set n) at_ x))), (some g, .cells (c.setIfInBounds (k * 513 + 1 + at_.toNat) (.int .u8 (ixor .u8 (y.2.getD at_.toNat 0) x))) 64 (0, 0))]) rfl rfl rfl rfl rfl (f_store (j := 3) (off := k * 513 + 1 + at_.toNat) ts5 rfl rfl (Array.getElem?_eq_some_iff.1 hbyte).1 trivial rfl rfl rfl) ?_
        refine DW.doneQ (y := sub [1, 1, 1, 1, 1, 0, 1, 0, 0, 1, 1, 1] B30) hl12 rfl ?_
        refine C.region (id := 13) (m := 2) (ops := opsOf (sub [1, 1, 1, 1, 1, 0, 1, 0, 0, 1, 1, 1] B30)) rfl ?_
        refine W.pure rfl (wo rfl) rfl rfl (pI (wk (by omega)) (p_add rfl rfl rfl)) (nf rfl) ?_
        refine W.pure rfl (wo rfl) rfl rfl (p_move rfl rfl) (nf rfl) ?_
        refine W.end' fun a1 w1 ha1 hc1 => hN (k + 1, c.setIfInBounds (k * 513 + 1 + at_.toNat) (.int .u8 (ixor .u8 (y.2.getD at_.toNat 0) x))) ⟨by simp only; omega, ?_⟩ (by simp only; omega) a1 w1 (ha1.sub (Sub.cons rfl (Sub.cons rfl (Sub.cons rfl (Sub.cons rfl (Sub.cons rfl (Sub.cons rfl (Sub.nil _)))))))) hc1
        rw [edL_succ hy]
        have hu := own_upd hoc hyk (show at_.toNat < 512 by omega) (ixor .u8 (y.2.getD at_.toNat 0) x)
        rw [← Nat.add_assoc] at hu
        have e : edW n at_ x y = (y.1, y.2.set at_.toNat (ixor .u8 (y.2.getD at_.toNat 0) x)) := by unfold edW; rw [heq]; rfl
        rw [e]; exact hu
      | false =>
        refine C.seq (x := sub [1, 1, 1, 1, 1, 0, 1, 0, 0, 0] B30) (y := sub [1, 1, 1, 1, 1, 0, 1, 0, 0, 1] B30) ?_
        refine C.region (id := 9) (m := 1) (ops := opsOf (sub [1, 1, 1, 1, 1, 0, 1, 0, 0, 0] B30)) rfl ?_
        refine W.pure rfl (wo rfl) rfl rfl (pT (decide_eq_true (by omega)) (p_lss rfl rfl rfl)) (nf rfl) ?_
        refine W.doneQ (y := sub [1, 1, 1, 1, 1, 0, 1, 0, 0, 1] B30) rfl ?_
        refine C.seq (x := sub [1, 1, 1, 1, 1, 0, 1, 0, 0, 1, 0] B30) (y := sub [1, 1, 1, 1, 1, 0, 1, 0, 0, 1, 1] B30) ?_
        refine C.cond_true (x := sub [1, 1, 1, 1, 1, 0, 1, 0, 0, 1, 0, 0] B30) (y := sub [1, 1, 1, 1, 1, 0, 1, 0, 0, 1, 0, 1] B30) rfl rfl ?_
        refine C.skipQ (y := sub [1, 1, 1, 1, 1, 0, 1, 0, 0, 1, 1] B30) rfl ?_
        refine C.seq (x := sub [1, 1, 1, 1, 1, 0, 1, 0, 0, 1, 1, 0] B30) (y := sub [1, 1, 1, 1, 1, 0, 1, 0, 0, 1, 1, 1] B30) ?_
        refine C.block (id := 2) (c := sub [1, 1, 1, 1, 1, 0, 1, 0, 0, 1, 1, 0, 0] B30) ?_
        refine C.seq (x := sub [1, 1, 1, 1, 1, 0, 1, 0, 0, 1, 1, 0, 0, 0] B30) (y := sub [1, 1, 1, 1, 1, 0, 1, 0, 0, 1, 1, 0, 0, 1] B30) ?_
        refine C.region (id := 10) (m := 2) (ops := opsOf (sub [1, 1, 1, 1, 1, 0, 1, 0, 0, 1, 1, 0, 0, 0] B30)) rfl ?_
        refine W.pure rfl (wo rfl) rfl rfl (p_move rfl rfl) (nf rfl) ?_
        refine W.pure rfl (wo rfl) rfl rfl (p_assign rfl rfl) (nf rfl) ?_
        refine W.doneQ (y := sub [1, 1, 1, 1, 1, 0, 1, 0, 0, 1, 1, 0, 0, 1] B30) rfl ?_
        refine C.seq (x := sub [1, 1, 1, 1, 1, 0, 1, 0, 0, 1, 1, 0, 0, 1, 0] B30) (y := sub [1, 1, 1, 1, 1, 0, 1, 0, 0, 1, 1, 0, 0, 1, 1] B30) ?_
        refine C.region (id := 11) (m := 10) (ops := opsOf (sub [1, 1, 1, 1, 1, 0, 1, 0, 0, 1, 1, 0, 0, 1, 0] B30)) rfl ?_
        refine W.pure rfl (wo rfl) rfl rfl (p_move rfl rfl) (nf rfl) ?_
        refine W.pure rfl (wo rfl) rfl rfl (p_nilCheck rfl rfl) (nf rfl) ?_
        refine W.pure rfl (wo rfl) rfl rfl (p_fieldAddr tf61_2 rfl rfl) (nf rfl) ?_
        refine W.quiet rfl (wo rfl) rfl rfl (f_load (j := 1) ta59 rfl (off := 2) rfl rfl rfl) (nf rfl) ?_
        refine W.pure rfl (wo rfl) rfl rfl (p_move rfl rfl) (nf rfl) ?_
        refine W.pure rfl (wo rfl) rfl rfl (p_slP tu59 ts64 hlt2 rfl rfl rfl) (nf rfl) ?_
        refine W.pure rfl (wo rfl) rfl rfl (p_fieldAddr tf64_0 rfl rfl) (nf rfl) ?_
        refine W.quiet rfl (wo rfl) rfl rfl (f_load (j := 3) ta3 rfl (off := k * 513 + 0) (own_cell hcs hlt2 hch2 (by decide) (wrc_0 y)) rfl rfl) (nf rfl) ?_
        refine W.pure rfl (wo rfl) rfl rfl (p_move rfl rfl) (nf rfl) ?_
        refine W.pure rfl (wo rfl) rfl rfl (pF (heq) (p_eql rfl rfl rfl)) (nf rfl) ?_
        refine W.doneQ (y := sub [1, 1, 1, 1, 1, 0, 1, 0, 0, 1, 1, 0, 0, 1, 1] B30) rfl ?_
        refine C.cond_false (x := sub [1, 1, 1, 1, 1, 0, 1, 0, 0, 1, 1, 0, 0, 1, 1, 0] B30) (y := sub [1, 1, 1, 1, 1, 0, 1, 0, 0, 1, 1, 0, 0, 1, 1, 1] B30) rfl rfl ?_
        refine C.skipQ (y := sub [1, 1, 1, 1, 1, 0, 1, 0, 0, 1, 1, 1] B30) rfl ?_
        refine C.region (id := 13) (m := 2) (ops := opsOf (sub [1, 1, 1, 1, 1, 0, 1, 0, 0, 1, 1, 1] B30)) rfl ?_
        refine W.pure rfl (wo rfl) rfl rfl (pI (wk (by omega)) (p_add rfl rfl rfl)) (nf rfl) ?_
        refine W.pure rfl (wo rfl) rfl rfl (p_move rfl rfl) (nf rfl) ?_
        refine W.end' fun a1 w1 ha1 hc1 => hN (k + 1, c) ⟨by simp only; omega, ?_⟩ (by simp only; omega) a1 w1 (ha1.sub (Sub.cons rfl (Sub.cons rfl (Sub.cons rfl (Sub.cons rfl (Sub.cons rfl (Sub.cons rfl (Sub.nil _)))))))) hc1
        rw [edL_same hy heq]; exact hoc
    · refine C.seq (x := sub [1, 1, 1, 1, 1, 0, 1, 0, 0, 0] B30) (y := sub [1, 1, 1, 1, 1, 0, 1, 0, 0, 1] B30) ?_
      refine C.region (id := 9) (m := 1) (ops := opsOf (sub [1, 1, 1, 1, 1, 0, 1, 0, 0, 0] B30)) rfl ?_
      refine W.pure rfl (wo rfl) rfl rfl (pF (decide_eq_false (by omega)) (p_lss rfl rfl rfl)) (nf rfl) ?_
      refine W.doneQ (y := sub [1, 1, 1, 1, 1, 0, 1, 0, 0, 1] B30) rfl ?_
      refine C.seq (x := sub [1, 1, 1, 1, 1, 0, 1, 0, 0, 1, 0] B30) (y := sub [1, 1, 1, 1, 1, 0, 1, 0, 0, 1, 1] B30) ?_
      refine C.cond_false (x := sub [1, 1, 1, 1, 1, 0, 1, 0, 0, 1, 0, 0] B30) (y := sub [1, 1, 1, 1, 1, 0, 1, 0, 0, 1, 0, 1] B30) rfl rfl ?_
      exact C.exit fun a1 w1 ha1 hc1 => hE (by simp only; omega) a1 w1 (ha1.sub (Sub.cons rfl (Sub.cons rfl (Sub.cons rfl (Sub.cons rfl (Sub.cons rfl (Sub.cons rfl (Sub.nil _)))))))) hc1
  rintro ⟨k, c⟩ ⟨hk, hoc⟩ hke
  simp only at hk hoc hke
  subst hke
  have hmap : edL s.late n at_ x s.late.length = s.late.map (edW n at_ x) := by unfold edL; rw [List.take_length, List.drop_length, List.append_nil]
  rw [hmap] at hoc
  simp only [hmap]
  refine C.seq (x := sub [1, 1, 1, 1, 1, 1, 0] B30) (y := sub [1, 1, 1, 1, 1, 1, 1] B30) ?_
  refine C.region (id := 14) (m := 1) (ops := opsOf (sub [1, 1, 1, 1, 1, 1, 0] B30)) rfl ?_
  refine W.pure rfl (wo rfl) rfl rfl (p_assign rfl rfl) (nf rfl) ?_
  refine W.doneQ (y := sub [1, 1, 1, 1, 1, 1, 1] B30) rfl ?_
  exact C.ret (R := fun e w' => ∃ cur2, e = .returned (.int .i64 0) ∧ DkO v cur2 { s with set := mput s.set n (xorAt (mget s.set n) at_ x), late := s.late.map (edW n at_ x) } ∧ Cls w0 I (dkH b m v cur2 { s with set := mput s.set n (xorAt (mget s.set n) at_ x), late := s.late.map (edW n at_ x) }) w') (rs := [.tmp 8]) (vs := [.int .i64 0]) rfl Try.func30 rfl rfl rfl (res_cons (ResV.tmp rfl) res_nil) fun w1 hc1 => ⟨c, rfl, ⟨hoc, mput_full ho.hs hxl⟩, hc1.tail⟩

theorem edit_ok {w0 w : World} {I : Mem} {b m : Nat} {v : Value} {cur : Array Value} {s : Dk} (hc : Cls w0 I (dkH b m v cur s) w) (ho : DkO v cur s) (n at_ x : Int) (hl : s.late.length ≤ 137438953471) : Calls Try.prog 30 #[ptr b 0, .int .i64 n, .int .i64 at_, .int .u8 x] w (fun e w' => ∃ cur2, e = .returned (.int .i64 (editK s n at_ x).1) ∧ DkO v cur2 (editK s n at_ x).2 ∧ Cls w0 I (dkH b m v cur2 (editK s n at_ x).2) w') := by
  unfold editK
  by_cases h : hasD s n = false
  · rw [if_pos h]; exact edit_1 hc ho n at_ x h
  · rw [if_neg h]
    have h' : hasD s n = true := by simpa using h
    by_cases h2 : at_ < 0
    · rw [if_pos h2]; exact edit_2 hc ho n at_ x h' h2
    · rw [if_neg h2]
      by_cases h3 : 512 ≤ at_
      · rw [if_pos h3]; exact edit_3 hc ho n at_ x h' h2 h3
      · rw [if_neg h3]; exact edit_4 hc ho n at_ x h' h2 h3 hl

end Go.Proofs.Ytjomnicfcdkfdaa
end

section
namespace Go.Proofs.Ytjomnicfcdkfdaa
open Go Go.HW Go.RowKit
set_option linter.unusedVariables false
set_option linter.unusedSimpArgs false

noncomputable def B35 : Code := bodyOf Try.f35
theorem en35 (args : Array Value) (w : World) : (callFunc 35 args).run Try.prog w = .ok (.enter 35 args) w := by kernel_rfl
noncomputable def B18 : Code := bodyOf Try.f18
theorem en18 (args : Array Value) (w : World) : (callFunc 18 args).run Try.prog w = .ok (.enter 18 args) w := by kernel_rfl
theorem us32 : Try.prog.underlying 32 = some (.slice 5) := by kernel_rfl
theorem sz5 : (Try.prog.info? 5).map (·.size) = some 1 := by kernel_rfl
/-- a part of a write's bytes over a block's first ones -/
theorem f_copyPart {o : Oper} {S : Slots} {w0 : World} {I : Mem} {H : Heap} {x y : Operand} {b10 b6 i j n c1 c2 : Nat} {xs : List Int} {u : Wr} (hn : n ≤ 512) (hxs : xs.length = 512) (hu2 : u.2.length = 512) (hH : H[i]? = some (some b10, .cells (enc .u8 xs) 62 (0, 0))) (hH2 : H[j]? = some (some b6, .cells (wrc u) 64 (0, 0)))
    (ho : o.op = .call { callee := .builtin .copy, args := #[x, y], argTypes := #[32, 32] }) (hx : ev S x = some (.slice (some ⟨b10, 0, none⟩) n c1)) (hy : ev S y = some (.slice (some ⟨b6, 1, none⟩) n c2)) :
    FAct Try.prog o w0 I S H Unit (fun _ => .int .i64 (n : Int)) (fun _ => H.set i (some b10, .cells (enc .u8 (u.2.take n ++ xs.drop n)) 62 (0, 0))) := fun ρ hρ w hc => by
  obtain ⟨cc, hrun⟩ := run_builtin (P := Try.prog) (ρ := ρ) (vs := #[.slice (some ⟨b10, 0, none⟩) n c1, .slice (some ⟨b6, 1, none⟩) n c2]) ho (by simp [hρ _ _ hx, hρ _ _ hy]) w
  have hb := hc.own b10 _ (List.mem_of_getElem? hH)
  have hb6 := hc.own b6 _ (List.mem_of_getElem? hH2)
  have hl : (encl .u8 (u.2.take n)).length = n := by rw [encl_len, List.length_take]; omega
  have hcopy := run_copy_row (P := Try.prog) w 32 32 o.type 5 b10 0 n c1 ⟨b6, 1, none⟩ n c2 (enc .u8 xs) 62 (encl .u8 (u.2.take n)) us32 sz5 hb (by rw [hl]; exact (Nat.min_self n).symm) (fun q z hq => by
    rw [HW.add_none, cell_of (show w.heap[b6]? = _ from hb6)]
    have hqn : q < n := by
      have := (List.getElem?_eq_some_iff.1 hq).1
      omega
    have e : (encl .u8 (u.2.take n))[q]? = some (.int .u8 (u.2.getD q 0)) := by
      unfold encl
      rw [List.getElem?_map, List.getElem?_take_of_lt hqn]
      have : q < u.2.length := by omega
      simp [List.getElem?_eq_getElem this]
    rw [e] at hq; cases hq
    exact wrc_S (by omega)) (by rw [hl, enc_size]; omega) (encl_one .u8 _)
  have earr : ((enc .u8 xs).toList.take 0 ++ encl .u8 (u.2.take n) ++ (enc .u8 xs).toList.drop (0 + (encl .u8 (u.2.take n)).length)).toArray = enc .u8 (u.2.take n ++ xs.drop n) := by
    rw [hl]
    simp [encl, enc, List.map_drop]
  rw [earr, hl] at hcopy
  refine .inl ⟨(), w.setRow b10 (enc .u8 (u.2.take n ++ xs.drop n)), ?_, ?_⟩
  · rw [hrun]
    exact val_run hcopy
  · exact hc.setObj hH rfl rfl rfl (by simp) (setRow_heap w b10 (enc .u8 xs) _ 62 _ hb) (fun d hd => setRow_other w b10 d _ hd)

theorem p_slAH {P : Program} {o : Oper} {S : Slots} {t e n b off : Nat} {x y : Operand} {k : IntKind} {h : Int} (hu : ∀ w, (underlying t).run P w = .ok (.array n e) w) (hs : ∀ w, (sizeOf e).run P w = .ok 1 w) (h0 : 0 ≤ h) (h1 : h ≤ n) (hn : 0 < n) (ho : o.op = .slice t x none (some y) none) (hx : ev S x = some (ptr b off)) (hy : ev S y = some (.int k h)) : FPure P o S (.slice (some ⟨b, off, none⟩) h.toNat n) := fun ρ hρ w => by
  simp only [execOp, ho, hρ _ _ hx, Option.map_none, Option.map_some, hρ _ _ hy]
  refine val_run ?_
  unfold Instr.sliceAt
  refine (run_of_bind (hu w)).trans ?_
  refine (run_of_bind (a := ⟨b, off, none⟩) (w' := w) rfl).trans ?_
  refine (run_of_bind (run_bounds (l := 0) (h := h.toNat) none (some (.int k h)) (.inr ⟨k, by rw [Int.toNat_of_nonneg h0]⟩) (.inl ⟨rfl, rfl⟩) (by omega) (Nat.zero_le _))).trans ?_
  refine (run_of_bind (hs w)).trans ?_
  rw [if_neg (by omega)]
  simp [Addr.add]
def floorK (p : Int) : Int := if p.tmod 3 < 0 then IntKind.i64.wrap (IntKind.i64.wrap (p.tdiv 3) - 1) else IntKind.i64.wrap (p.tdiv 3)
def howK (p : Int) : Int := (IntKind.i64.wrap (p.tmod 3 + 3)).tmod 3
def tearK (p : Int) (last : Bool) : Int := if howK p = 2 ∧ last = true then (if (floorK p).tmod 513 < 0 then IntKind.i64.wrap ((floorK p).tmod 513 + 513) else (floorK p).tmod 513) else 512
theorem tear_lt (p : Int) (last : Bool) : 0 ≤ tearK p last ∧ tearK p last ≤ 512 := by
  unfold tearK
  split
  · split
    · rename_i h
      have h1 := Int.tmod_lt_of_pos (floorK p) (show (0 : Int) < 513 by decide)
      have h2 : -513 < (floorK p).tmod 513 := by
        have := Int.lt_tmod_of_pos (floorK p) (show (0 : Int) < 513 by decide); omega
      rw [w64 (by omega) (by omega)]; omega
    · rename_i h
      have h1 := Int.tmod_lt_of_pos (floorK p) (show (0 : Int) < 513 by decide)
      omega
  · omega
def crK (s : Dk) (picks : List Int) : Nat → List Wr
  | 0 => s.set
  | k + 1 => match s.late[k]? with
    | none => crK s picks k
    | some w => if howK (picks.getD k 0) = 0 then crK s picks k else mput (crK s picks k) w.1 (w.2.take (tearK (picks.getD k 0) (decide (k + 1 = s.late.length))).toNat ++ (mget (crK s picks k) w.1).drop (tearK (picks.getD k 0) (decide (k + 1 = s.late.length))).toNat)
theorem crK_skip {s : Dk} {picks : List Int} {k : Nat} {y : Wr} (hy : s.late[k]? = some y) (h : howK (picks.getD k 0) = 0) : crK s picks (k + 1) = crK s picks k := by simp only [crK, hy]; rw [if_pos h]
theorem crK_put {s : Dk} {picks : List Int} {k : Nat} {y : Wr} (hy : s.late[k]? = some y) (h : ¬ howK (picks.getD k 0) = 0) : crK s picks (k + 1) = mput (crK s picks k) y.1 (y.2.take (tearK (picks.getD k 0) (decide (k + 1 = s.late.length))).toNat ++ (mget (crK s picks k) y.1).drop (tearK (picks.getD k 0) (decide (k + 1 = s.late.length))).toNat) := by simp only [crK, hy]; rw [if_neg h]
theorem crK_full {s : Dk} {picks : List Int} (hs : Full s.set) (hl : Full s.late) : ∀ k, Full (crK s picks k)
  | 0 => hs
  | k + 1 => by
    have ih := crK_full (picks := picks) hs hl k
    cases hy : s.late[k]? with
    | none => simp only [crK, hy]; exact ih
    | some y =>
      by_cases h : howK (picks.getD k 0) = 0
      · rw [crK_skip hy h]; exact ih
      · rw [crK_put hy h]
        have ht := tear_lt (picks.getD k 0) (decide (k + 1 = s.late.length))
        have h2 : y.2.length = 512 := hl y (List.mem_of_getElem? hy)
        have h3 := mget_len ih y.1
        exact mput_full ih (by rw [List.length_append, List.length_take, List.length_drop, h2, h3]; omega)

theorem floor_1 (w : World) (p : Int) (h : p.tmod 3 < 0) : Calls Try.prog 35 #[.int .i64 p, .int .i64 3] w fun e w' => e = .returned (.int .i64 (IntKind.i64.wrap (IntKind.i64.wrap (p.tdiv 3) - 1))) ∧ Below w.heap.size w w' := by
  refine calls_of_CW (N := 16) Try.func35 (show _ = some B35 by kernel_rfl) (by kernel_rfl) rfl (S := [(0, .int .i64 p), (1, .int .i64 3)]) (by simp) (clsStart w) ?_
  show CW _ _ _ (sub [] B35) _ _ _
  refine C.seq (x := sub [0] B35) (y := sub [1] B35) ?_
  refine C.region (id := 0) (m := 1) (ops := opsOf (sub [0] B35)) rfl ?_
  refine W.pure rfl (wo rfl) rfl rfl (p_assign rfl rfl) (nf rfl) ?_
  refine W.doneQ (y := sub [1] B35) rfl ?_
  refine C.seq (x := sub [1, 0] B35) (y := sub [1, 1] B35) ?_
  refine C.region (id := 1) (m := 4) (ops := opsOf (sub [1, 0] B35)) rfl ?_
  refine W.pure rfl (wo rfl) rfl rfl (p_move rfl rfl) (nf rfl) ?_
  refine W.pure rfl (wo rfl) rfl rfl (p_move rfl rfl) (nf rfl) ?_
  refine W.pure rfl (wo rfl) rfl rfl (p_quo (by decide) rfl rfl rfl) (nf rfl) ?_
  refine W.pure rfl (wo rfl) rfl rfl (p_assign rfl rfl) (nf rfl) ?_
  refine W.doneQ (y := sub [1, 1] B35) rfl ?_
  refine C.seq (x := sub [1, 1, 0] B35) (y := sub [1, 1, 1] B35) ?_
  refine C.seq (x := sub [1, 1, 0, 0] B35) (y := sub [1, 1, 0, 1] B35) ?_
  refine C.region (id := 2) (m := 4) (ops := opsOf (sub [1, 1, 0, 0] B35)) rfl ?_
  refine W.pure rfl (wo rfl) rfl rfl (p_move rfl rfl) (nf rfl) ?_
  refine W.pure rfl (wo rfl) rfl rfl (p_move rfl rfl) (nf rfl) ?_
  refine W.pure rfl (wo rfl) rfl rfl (p_rem (by decide) rfl rfl rfl) (nf rfl) ?_
  refine W.pure rfl (wo rfl) rfl rfl (pT (decide_eq_true h) (p_lss rfl rfl rfl)) (nf rfl) ?_
  refine W.doneQ (y := sub [1, 1, 0, 1] B35) rfl ?_
  refine C.cond_true (x := sub [1, 1, 0, 1, 0] B35) (y := sub [1, 1, 0, 1, 1] B35) rfl rfl ?_
  refine C.region (id := 3) (m := 3) (ops := opsOf (sub [1, 1, 0, 1, 0] B35)) rfl ?_
  refine W.pure rfl (wo rfl) rfl rfl (p_move rfl rfl) (nf rfl) ?_
  refine W.pure rfl (wo rfl) rfl rfl (p_sub rfl rfl rfl) (nf rfl) ?_
  refine W.pure rfl (wo rfl) rfl rfl (p_assign rfl rfl) (nf rfl) ?_
  refine W.doneQ (y := sub [1, 1, 1] B35) rfl ?_
  refine C.seq (x := sub [1, 1, 1, 0] B35) (y := sub [1, 1, 1, 1] B35) ?_
  refine C.region (id := 4) (m := 2) (ops := opsOf (sub [1, 1, 1, 0] B35)) rfl ?_
  refine W.pure rfl (wo rfl) rfl rfl (p_move rfl rfl) (nf rfl) ?_
  refine W.pure rfl (wo rfl) rfl rfl (p_assign rfl rfl) (nf rfl) ?_
  refine W.doneQ (y := sub [1, 1, 1, 1] B35) rfl ?_
  exact C.ret (rs := [.tmp 4]) (vs := [.int .i64 (IntKind.i64.wrap (IntKind.i64.wrap (p.tdiv 3) - 1))]) rfl Try.func35 rfl rfl rfl (res_cons (ResV.tmp rfl) res_nil) fun w1 hc1 => ⟨rfl, hc1.toBelow⟩

theorem floor_2 (w : World) (p : Int) (h : ¬ p.tmod 3 < 0) : Calls Try.prog 35 #[.int .i64 p, .int .i64 3] w fun e w' => e = .returned (.int .i64 (IntKind.i64.wrap (p.tdiv 3))) ∧ Below w.heap.size w w' := by
  refine calls_of_CW (N := 16) Try.func35 (show _ = some B35 by kernel_rfl) (by kernel_rfl) rfl (S := [(0, .int .i64 p), (1, .int .i64 3)]) (by simp) (clsStart w) ?_
  show CW _ _ _ (sub [] B35) _ _ _
  refine C.seq (x := sub [0] B35) (y := sub [1] B35) ?_
  refine C.region (id := 0) (m := 1) (ops := opsOf (sub [0] B35)) rfl ?_
  refine W.pure rfl (wo rfl) rfl rfl (p_assign rfl rfl) (nf rfl) ?_
  refine W.doneQ (y := sub [1] B35) rfl ?_
  refine C.seq (x := sub [1, 0] B35) (y := sub [1, 1] B35) ?_
  refine C.region (id := 1) (m := 4) (ops := opsOf (sub [1, 0] B35)) rfl ?_
  refine W.pure rfl (wo rfl) rfl rfl (p_move rfl rfl) (nf rfl) ?_
  refine W.pure rfl (wo rfl) rfl rfl (p_move rfl rfl) (nf rfl) ?_
  refine W.pure rfl (wo rfl) rfl rfl (p_quo (by decide) rfl rfl rfl) (nf rfl) ?_
  refine W.pure rfl (wo rfl) rfl rfl (p_assign rfl rfl) (nf rfl) ?_
  refine W.doneQ (y := sub [1, 1] B35) rfl ?_
  refine C.seq (x := sub [1, 1, 0] B35) (y := sub [1, 1, 1] B35) ?_
  refine C.seq (x := sub [1, 1, 0, 0] B35) (y := sub [1, 1, 0, 1] B35) ?_
  refine C.region (id := 2) (m := 4) (ops := opsOf (sub [1, 1, 0, 0] B35)) rfl ?_
  refine W.pure rfl (wo rfl) rfl rfl (p_move rfl rfl) (nf rfl) ?_
  refine W.pure rfl (wo rfl) rfl rfl (p_move rfl rfl) (nf rfl) ?_
  refine W.pure rfl (wo rfl) rfl rfl (p_rem (by decide) rfl rfl rfl) (nf rfl) ?_
  refine W.pure rfl (wo rfl) rfl rfl (pF (decide_eq_false h) (p_lss rfl rfl rfl)) (nf rfl) ?_
  refine W.doneQ (y := sub [1, 1, 0, 1] B35) rfl ?_
  refine C.cond_false (x := sub [1, 1, 0, 1, 0] B35) (y := sub [1, 1, 0, 1, 1] B35) rfl rfl ?_
  refine C.skipQ (y := sub [1, 1, 1] B35) rfl ?_
  refine C.seq (x := sub [1, 1, 1, 0] B35) (y := sub [1, 1, 1, 1] B35) ?_
  refine C.region (id := 4) (m := 2) (ops := opsOf (sub [1, 1, 1, 0] B35)) rfl ?_
  refine W.pure rfl (wo rfl) rfl rfl (p_move rfl rfl) (nf rfl) ?_
  refine W.pure rfl (wo rfl) rfl rfl (p_assign rfl rfl) (nf rfl) ?_
  refine W.doneQ (y := sub [1, 1, 1, 1] B35) rfl ?_
  exact C.ret (rs := [.tmp 4]) (vs := [.int .i64 (IntKind.i64.wrap (p.tdiv 3))]) rfl Try.func35 rfl rfl rfl (res_cons (ResV.tmp rfl) res_nil) fun w1 hc1 => ⟨rfl, hc1.toBelow⟩

theorem floor_ok (w : World) (p : Int) : Calls Try.prog 35 #[.int .i64 p, .int .i64 3] w fun e w' => e = .returned (.int .i64 (floorK p)) ∧ Below w.heap.size w w' := by
  unfold floorK
  by_cases h : p.tmod 3 < 0
  · rw [if_pos h]; exact floor_1 w p h
  · rw [if_neg h]; exact floor_2 w p h

end Go.Proofs.Ytjomnicfcdkfdaa
end
