import Derived.Test.YtjomnicfcdkfdaaDkM6
namespace Go.Proofs.Ytjomnicfcdkfdaa
open Go Go.HW Go.RowKit
set_option linter.unusedVariables false
set_option linter.unusedSimpArgs false

theorem en11 (args : Array Value) (w : World) : (callFunc 11 args).run Try.prog w = .ok (.enter 11 args) w := by kernel_rfl
noncomputable def B11 : Code := bodyOf Try.f11
theorem bu61 (n : Int) (m : Nat) (w : World) : (Instr.build 61 #[(0, .int .i64 n), (1, .map (some m))]).run Try.prog w = .ok (.agg #[.int .i64 n, .map (some m), .slice none 0 0, .int .i64 0, .bool false, .bool false]) w := by kernel_rfl
def newK (n : Int) : Dk := ⟨n, [], [], 0, false, false⟩
theorem new_ok {w0 w : World} {I : Mem} {H : Heap} (hc : Cls w0 I H w) (n : Int) (h : ¬ n < 1) (h2 : ¬ 8192 < n) : Calls Try.prog 11 #[.int .i64 n] w (fun e w' => ∃ b m, e = .returned (.tuple #[ptr b 0, .int .i64 0]) ∧ Cls w0 I (dkH b m (.slice none 0 0) #[] (newK n) ++ H) w') := by
  refine calls_of_CW (N := 14) Try.func11 (show _ = some B11 by kernel_rfl) (by kernel_rfl) rfl (S := [(0, .int .i64 n)]) (by simp) hc ?_
  show CW _ _ _ (sub [] B11) _ _ _
  refine C.seq (x := sub [0] B11) (y := sub [1] B11) ?_
  refine C.region (id := 0) (m := 2) (ops := opsOf (sub [0] B11)) rfl ?_
  refine W.pure rfl (wo rfl) rfl rfl (p_assign rfl rfl) (nf rfl) ?_
  refine W.pure rfl (wo rfl) rfl rfl (p_assign rfl rfl) (nf rfl) ?_
  refine W.doneQ (y := sub [1] B11) rfl ?_
  refine C.seq (x := sub [1, 0] B11) (y := sub [1, 1] B11) ?_
  refine C.seq (x := sub [1, 0, 0] B11) (y := sub [1, 0, 1] B11) ?_
  refine C.region (id := 1) (m := 6) (ops := opsOf (sub [1, 0, 0] B11)) rfl ?_
  refine W.pure rfl (wo rfl) rfl rfl (p_move rfl rfl) (nf rfl) ?_
  refine W.pure rfl (wo rfl) rfl rfl (pF (decide_eq_false h) (p_lss rfl rfl rfl)) (nf rfl) ?_
  refine W.pure rfl (wo rfl) rfl rfl (p_move rfl rfl) (nf rfl) ?_
  refine W.pure rfl (wo rfl) rfl rfl (p_move rfl rfl) (nf rfl) ?_
  refine W.pure rfl (wo rfl) rfl rfl (pF (decide_eq_false h2) (p_gtr rfl rfl rfl)) (nf rfl) ?_
  refine W.pure rfl (wo rfl) rfl rfl (p_pick_false rfl rfl rfl) (nf rfl) ?_
  refine W.doneQ (y := sub [1, 0, 1] B11) rfl ?_
  refine C.cond_false (x := sub [1, 0, 1, 0] B11) (y := sub [1, 0, 1, 1] B11) rfl rfl ?_
  refine C.skipQ (y := sub [1, 1] B11) rfl ?_
  refine C.seq (x := sub [1, 1, 0] B11) (y := sub [1, 1, 1] B11) ?_
  refine C.region (id := 3) (m := 6) (ops := opsOf (sub [1, 1, 0] B11)) rfl ?_
  refine W.pure rfl (wo rfl) rfl rfl (p_move rfl rfl) (nf rfl) ?_
  refine W.new rfl (wo rfl) rfl rfl (f_makeMap (k := .i64) rfl) (nf rfl) ?_
  intro m hm
  refine W.pure rfl (wo rfl) rfl rfl (p_build (vs := [(0, .int .i64 n), (1, .map (some m))]) (fun w => bu61 n m w) rfl rfl) (nf rfl) ?_
  refine W.new rfl (wo rfl) rfl rfl (f_box rfl rfl) (nf rfl) ?_
  intro b hb
  refine W.pure rfl (wo rfl) rfl rfl (p_assign rfl rfl) (nf rfl) ?_
  refine W.pure rfl (wo rfl) rfl rfl (p_assign rfl rfl) (nf rfl) ?_
  refine W.doneQ (y := sub [1, 1, 1] B11) rfl ?_
  exact C.ret (R := fun e w' => ∃ b m, e = .returned (.tuple #[ptr b 0, .int .i64 0]) ∧ Cls w0 I (dkH b m (.slice none 0 0) #[] (newK n) ++ H) w') (rs := [.tmp 2, .tmp 3]) (vs := [ptr b 0, .int .i64 0]) rfl Try.func11 rfl rfl rfl (res_cons (ResV.tmp rfl) (res_cons (ResV.tmp rfl) res_nil)) fun w1 hc1 => ⟨b, m, rfl, (hc1.nothing (.cells #[] 64 (0, 0))).perm (List.perm_append_comm_assoc [(none, Obj.cells #[] 64 (0, 0))] [dk1 b m (.slice none 0 0) (newK n), (some m, dmap [])] H)⟩

noncomputable def B36 : Code := bodyOf Try.f36
theorem en36 (args : Array Value) (w : World) : (callFunc 36 args).run Try.prog w = .ok (.enter 36 args) w := by kernel_rfl
theorem eq58 (b : Nat) (w : World) : (binOp .eql 58 (.map (some b)) (.map none)).run Try.prog w = .ok (.bool false) w := by kernel_rfl
theorem eg58e (x y : Operand) (b : Nat) (w : World) : (eqGuard .eql 58 x y (.map (some b)) (.map none)).run Try.prog w = .ok () w := by kernel_rfl
theorem p_eqV {P : Program} {o : Oper} {S : Slots} {T U : TypeId} {x y : Operand} {v z : Value} {b : Bool} (hr : ∀ w, (binOp .eql T v z).run P w = .ok (.bool b) w) (hg : ∀ w, (eqGuard .eql T x y v z).run P w = .ok () w) (ho : o.op = .binOp .eql T x y U) (hx : ev S x = some v) (hy : ev S y = some z) : FPure P o S (.bool b) := fun ρ hρ w => by
  simp only [execOp, ho, hρ _ _ hx, hρ _ _ hy]
  refine val_run ?_
  exact (run_of_bind (hg w)).trans (hr w)
theorem p_iface {P : Program} {o : Oper} {S : Slots} {T : TypeId} {x : Operand} {v u : Value} (hr : ∀ w, (Instr.makeInterface T v).run P w = .ok u w) (ho : o.op = .makeInterface T x) (hx : ev S x = some v) : FPure P o S u := fun ρ hρ w => by
  simp only [execOp, ho, hρ _ _ hx]
  exact val_run (hr w)
theorem p_assert {P : Program} {o : Oper} {S : Slots} {T U : TypeId} {x : Operand} {v u : Value} (hr : ∀ w, (Instr.typeAssert v T U false).run P w = .ok u w) (ho : o.op = .typeAssert x T U false) (hx : ev S x = some v) : FPure P o S u := fun ρ hρ w => by
  simp only [execOp, ho, hρ _ _ hx]
  exact val_run (hr w)
theorem mi58 (m : Nat) (w : World) : (Instr.makeInterface 58 (.map (some m))).run Try.prog w = .ok (.iface 58 (.map (some m))) w := by kernel_rfl
theorem as58 (m : Nat) (w : World) : (Instr.typeAssert (.iface 58 (.map (some m))) 20 58 false).run Try.prog w = .ok (.map (some m)) w := by kernel_rfl
theorem run_clone {w : World} {t : TypeId} {r : Nat} {es : Array MapEntry} {c : Nat} (h : w.heap[r]? = some (.map es c)) : (Extern.MapsClone.clone #[.iface t (.map (some r))]).run Try.prog w = .ok (.iface t (.map (some w.heap.size))) (w.alloc (.map es c)) := by
  have e : Extern.MapsClone.clone #[.iface t (.map (some r))] = (getObj r >>= fun o => match o with
    | .map entries clock => (newObj (.map entries clock) >>= fun n => Pure.pure (.iface t (.map (some n))))
    | _ => stuck "maps.clone: a map expected") := rfl
  rw [e]
  exact (run_of_bind (run_getObj h)).trans rfl
theorem run46 {w : World} {r : Nat} {l : List Wr} (h : w.heap[r]? = some (dmap l)) : (callFunc 46 #[.iface 58 (.map (some r))]).run Try.prog w = .ok (.value (.iface 58 (.map (some w.heap.size)))) (w.alloc (dmap l)) := by
  rw [run_callFunc_extern Try.func46 (by kernel_rfl) (by kernel_rfl) (by kernel_rfl) (e := Extern.MapsClone.clone) (by kernel_rfl), run_clone h]; rfl
theorem f_clone {o : Oper} {S : Slots} {w0 : World} {I : Mem} {H : Heap} {cl : Call} {m j : Nat} {l : List Wr} (hH : H[j]? = some (some m, dmap l)) (ho : o.op = .call cl) (hcal : cl.callee = .value (.func 46)) (hargs : ∀ ρ, Val S ρ → cl.args.map ρ = #[.iface 58 (.map (some m))]) :
    FAct Try.prog o w0 I S H Nat (fun b => .iface 58 (.map (some b))) (fun b => (some b, dmap l) :: H) := fun ρ hρ w hc => .inl ⟨w.heap.size, w.alloc (dmap l), by
  simp only [execOp, ho, resolve, hcal, hargs ρ hρ]
  have h1 : ρ (.func 46) = .func (.func 46) #[] #[] := hρ _ _ rfl
  rw [h1]
  show (callFunc 46 (#[] ++ #[.iface 58 (.map (some m))] ++ #[])).run Try.prog w = _
  have h2 := run46 (hc.own m _ (List.mem_of_getElem? hH))
  simpa using h2, hc.alloc _⟩

theorem clonem_ok {w0 w : World} {I : Mem} {H : Heap} (hc : Cls w0 I H w) {m j : Nat} {l : List Wr} (hH : H[j]? = some (some m, dmap l)) : Calls Try.prog 36 #[.map (some m)] w (fun e w' => ∃ m2, e = .returned (.map (some m2)) ∧ Cls w0 I ((some m2, dmap l) :: H) w') := by
  refine calls_of_CW (N := 9) Try.func36 (show _ = some B36 by kernel_rfl) (by kernel_rfl) rfl (S := [(0, .map (some m))]) (by simp) hc ?_
  show CW _ _ _ (sub [] B36) _ _ _
  refine C.seq (x := sub [0] B36) (y := sub [1] B36) ?_
  refine C.region (id := 0) (m := 1) (ops := opsOf (sub [0] B36)) rfl ?_
  refine W.pure rfl (wo rfl) rfl rfl (p_assign rfl rfl) (nf rfl) ?_
  refine W.doneQ (y := sub [1] B36) rfl ?_
  refine C.seq (x := sub [1, 0] B36) (y := sub [1, 1] B36) ?_
  refine C.seq (x := sub [1, 0, 0] B36) (y := sub [1, 0, 1] B36) ?_
  refine C.region (id := 1) (m := 2) (ops := opsOf (sub [1, 0, 0] B36)) rfl ?_
  refine W.pure rfl (wo rfl) rfl rfl (p_move rfl rfl) (nf rfl) ?_
  refine W.pure rfl (wo rfl) rfl rfl (p_eqV (eq58 m) (eg58e _ _ m) rfl rfl rfl) (nf rfl) ?_
  refine W.doneQ (y := sub [1, 0, 1] B36) rfl ?_
  refine C.cond_false (x := sub [1, 0, 1, 0] B36) (y := sub [1, 0, 1, 1] B36) rfl rfl ?_
  refine C.skipQ (y := sub [1, 1] B36) rfl ?_
  refine C.seq (x := sub [1, 1, 0] B36) (y := sub [1, 1, 1] B36) ?_
  refine C.region (id := 3) (m := 5) (ops := opsOf (sub [1, 1, 0] B36)) rfl ?_
  refine W.pure rfl (wo rfl) rfl rfl (p_move rfl rfl) (nf rfl) ?_
  refine W.pure rfl (wo rfl) rfl rfl (p_iface (mi58 m) rfl rfl) (nf rfl) ?_
  refine W.act rfl (wo rfl) rfl rfl (f_clone hH rfl rfl (args_val (vs := [.iface 58 (.map (some m))]) rfl)) (nf rfl) ?_
  intro m2
  refine W.pure rfl (wo rfl) rfl rfl (p_assert (as58 m2) rfl rfl) (nf rfl) ?_
  refine W.pure rfl (wo rfl) rfl rfl (p_assign rfl rfl) (nf rfl) ?_
  refine W.doneQ (y := sub [1, 1, 1] B36) rfl ?_
  exact C.ret (R := fun e w' => ∃ m2, e = .returned (.map (some m2)) ∧ Cls w0 I ((some m2, dmap l) :: H) w') (rs := [.tmp 2]) (vs := [.map (some m2)]) rfl Try.func36 rfl rfl rfl (res_cons (ResV.tmp rfl) res_nil) fun w1 hc1 => ⟨m2, rfl, hc1⟩

noncomputable def B37 : Code := bodyOf Try.f37
theorem en37 (args : Array Value) (w : World) : (callFunc 37 args).run Try.prog w = .ok (.enter 37 args) w := by kernel_rfl

theorem us59 : Try.prog.underlying 59 = some (.slice 64) := by kernel_rfl

theorem clones_1 {w0 w : World} {I : Mem} {H : Heap} (hc : Cls w0 I H w) {v : Value} {cur : Array Value} {xs : List Wr} {j : Nat} (ho : OwnS ShWr (fun _ => none) v cur xs) (hH : H[j]? = some (v.ownBlock, .cells cur 64 (0, 0))) {a : Option Addr} {cp : Nat} (hv : v = .slice a xs.length cp) (han : a.isNone = true) (hxs : xs = []) : Calls Try.prog 37 #[v] w (fun e w' => ∃ v2 cur2, e = .returned v2 ∧ OwnS ShWr (fun _ => none) v2 cur2 xs ∧ Cls w0 I ((v2.ownBlock, .cells cur2 64 (0, 0)) :: H) w') := by
  subst hxs
  refine calls_of_CW (N := 8) Try.func37 (show _ = some B37 by kernel_rfl) (by kernel_rfl) rfl (S := [(0, v)]) (by simp) hc ?_
  show CW _ _ _ (sub [] B37) _ _ _
  refine C.seq (x := sub [0] B37) (y := sub [1] B37) ?_
  refine C.region (id := 0) (m := 1) (ops := opsOf (sub [0] B37)) rfl ?_
  refine W.pure rfl (wo rfl) rfl rfl (p_assign rfl rfl) (nf rfl) ?_
  refine W.doneQ (y := sub [1] B37) rfl ?_
  refine C.seq (x := sub [1, 0] B37) (y := sub [1, 1] B37) ?_
  refine C.seq (x := sub [1, 0, 0] B37) (y := sub [1, 0, 1] B37) ?_
  refine C.region (id := 1) (m := 2) (ops := opsOf (sub [1, 0, 0] B37)) rfl ?_
  refine W.pure rfl (wo rfl) rfl rfl (p_move rfl rfl) (nf rfl) ?_
  refine W.pure rfl (wo rfl) rfl rfl (pT han (p_sliceNil us59 hv rfl rfl rfl)) (nf rfl) ?_
  refine W.doneQ (y := sub [1, 0, 1] B37) rfl ?_
  refine C.cond_true (x := sub [1, 0, 1, 0] B37) (y := sub [1, 0, 1, 1] B37) rfl rfl ?_
  refine C.seq (x := sub [1, 0, 1, 0, 0] B37) (y := sub [1, 0, 1, 0, 1] B37) ?_
  refine C.region (id := 2) (m := 1) (ops := opsOf (sub [1, 0, 1, 0, 0] B37)) rfl ?_
  refine W.pure rfl (wo rfl) rfl rfl (p_assign rfl rfl) (nf rfl) ?_
  refine W.doneQ (y := sub [1, 0, 1, 0, 1] B37) rfl ?_
  exact C.ret (R := fun e w' => ∃ v2 cur2, e = .returned v2 ∧ OwnS ShWr (fun _ => none) v2 cur2 [] ∧ Cls w0 I ((v2.ownBlock, .cells cur2 64 (0, 0)) :: H) w') (rs := [.tmp 2]) (vs := [.slice none 0 0]) rfl Try.func37 rfl rfl rfl (res_cons (ResV.tmp rfl) res_nil) fun w1 hc1 => ⟨.slice none 0 0, #[], rfl, OwnS.nil ShWr _, hc1.nothing _⟩

theorem clones_2 {w0 w : World} {I : Mem} {H : Heap} (hc : Cls w0 I H w) {v : Value} {cur : Array Value} {xs : List Wr} {j : Nat} (ho : OwnS ShWr (fun _ => none) v cur xs) (hH : H[j]? = some (v.ownBlock, .cells cur 64 (0, 0))) {a : Option Addr} {cp : Nat} (hv : v = .slice a xs.length cp) (han : a.isNone = false) (hl : xs.length ≤ 137438953472) : Calls Try.prog 37 #[v] w (fun e w' => ∃ v2 cur2, e = .returned v2 ∧ OwnS ShWr (fun _ => none) v2 cur2 xs ∧ Cls w0 I ((v2.ownBlock, .cells cur2 64 (0, 0)) :: H) w') := by
  obtain ⟨cs, hcs, hch⟩ := id ho
  refine calls_of_CW (N := 8) Try.func37 (show _ = some B37 by kernel_rfl) (by kernel_rfl) rfl (S := [(0, v)]) (by simp) hc ?_
  show CW _ _ _ (sub [] B37) _ _ _
  refine C.seq (x := sub [0] B37) (y := sub [1] B37) ?_
  refine C.region (id := 0) (m := 1) (ops := opsOf (sub [0] B37)) rfl ?_
  refine W.pure rfl (wo rfl) rfl rfl (p_assign rfl rfl) (nf rfl) ?_
  refine W.doneQ (y := sub [1] B37) rfl ?_
  refine C.seq (x := sub [1, 0] B37) (y := sub [1, 1] B37) ?_
  refine C.seq (x := sub [1, 0, 0] B37) (y := sub [1, 0, 1] B37) ?_
  refine C.region (id := 1) (m := 2) (ops := opsOf (sub [1, 0, 0] B37)) rfl ?_
  refine W.pure rfl (wo rfl) rfl rfl (p_move rfl rfl) (nf rfl) ?_
  refine W.pure rfl (wo rfl) rfl rfl (pF han (p_sliceNil us59 hv rfl rfl rfl)) (nf rfl) ?_
  refine W.doneQ (y := sub [1, 0, 1] B37) rfl ?_
  refine C.cond_false (x := sub [1, 0, 1, 0] B37) (y := sub [1, 0, 1, 1] B37) rfl rfl ?_
  refine C.skipQ (y := sub [1, 1] B37) rfl ?_
  refine C.seq (x := sub [1, 1, 0] B37) (y := sub [1, 1, 1] B37) ?_
  refine C.region (id := 3) (m := 4) (ops := opsOf (sub [1, 1, 0] B37)) rfl ?_
  refine W.new rfl (wo rfl) rfl rfl (f_build0 elem59 rfl (args_val2 rfl)) (nf rfl) ?_
  intro bn hbn
  refine W.pure rfl (wo rfl) rfl rfl (p_move rfl rfl) (nf rfl) ?_
  refine W.act rfl (wo rfl) rfl rfl (f_appendL (j := 0) (n := 0) (m := xs.length) (cs := []) elem59 rfl (OwnV.fresh (Nat.le_refl _) (Nat.zero_le _) (by simp) (by simp) (by simp)) (by omega) (by decide) (fun w hc => OwnV.src hcs hc (List.mem_cons_of_mem _ (List.mem_of_getElem? hH)) (chunks_one hcs.1 hch)) rfl rfl rfl) (nf rfl) ?_
  rintro ⟨⟨v2, cur2⟩, hown2⟩
  refine W.pure rfl (wo rfl) rfl rfl (p_assign rfl rfl) (nf rfl) ?_
  refine W.doneQ (y := sub [1, 1, 1] B37) rfl ?_
  exact C.ret (R := fun e w' => ∃ v2 cur2, e = .returned v2 ∧ OwnS ShWr (fun _ => none) v2 cur2 xs ∧ Cls w0 I ((v2.ownBlock, .cells cur2 64 (0, 0)) :: H) w') (rs := [.tmp 2]) (vs := [v2]) rfl Try.func37 rfl rfl rfl (res_cons (ResV.tmp rfl) res_nil) fun w1 hc1 => ⟨v2, cur2, rfl, ⟨cs, by have h := hown2; simp at h; exact h, hch⟩, hc1⟩

theorem clones_ok {w0 w : World} {I : Mem} {H : Heap} (hc : Cls w0 I H w) {v : Value} {cur : Array Value} {xs : List Wr} {j : Nat} (ho : OwnS ShWr (fun _ => none) v cur xs) (hH : H[j]? = some (v.ownBlock, .cells cur 64 (0, 0))) (hl : xs.length ≤ 137438953472) : Calls Try.prog 37 #[v] w (fun e w' => ∃ v2 cur2, e = .returned v2 ∧ OwnS ShWr (fun _ => none) v2 cur2 xs ∧ Cls w0 I ((v2.ownBlock, .cells cur2 64 (0, 0)) :: H) w') := by
  obtain ⟨a, cp, hv⟩ := ho.sl
  cases han : a.isNone with
  | true =>
    refine clones_1 hc ho hH hv han ?_
    rcases ho.choose_spec.1.2 with ⟨_, h0⟩ | ⟨g, cap, h1, _⟩
    · exact List.eq_nil_of_length_eq_zero h0
    · rw [hv] at h1; cases h1; cases han
  | false => exact clones_2 hc ho hH hv han hl

end Go.Proofs.Ytjomnicfcdkfdaa
