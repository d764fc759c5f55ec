import Derived.Test.YtjomnicfcdkfdaaDkCalc
namespace Go.Proofs.Ytjomnicfcdkfdaa
open Go Go.HW Go.RowKit
set_option linter.unusedVariables false
set_option linter.unusedSimpArgs false

def dk1 (b m : Nat) (v : Value) (s : Dk) : Option Nat × Obj := (some b, .cells #[.int .i64 s.n, .map (some m), v, .int .i64 s.fuse, .bool s.armed, .bool s.dead] 61 (0, 0))
def dkH (b m : Nat) (v : Value) (cur : Array Value) (s : Dk) : Heap := [dk1 b m v s, (some m, dmap s.set), (v.ownBlock, .cells cur 64 (0, 0))]
structure DkO (v : Value) (cur : Array Value) (s : Dk) : Prop where
  hr : OwnS ShWr (fun _ => none) v cur s.late
  hs : Full s.set
theorem OwnS.anyM {M M' : Mem} {v : Value} {cur : Array Value} {xs : List Wr} (h : OwnS ShWr M v cur xs) : OwnS ShWr M' v cur xs := h
theorem RowS.anyM {M M' : Mem} {v : Value} {xs : List Wr} (h : OwnS ShWr M v #[] xs) : OwnS ShWr M' v #[] xs := h
theorem DkO.M {v : Value} {cur : Array Value} {s : Dk} (h : DkO v cur s) {w0 w : World} {I : Mem} {H : Heap} {b m : Nat} (hc : Cls w0 I H w) (hs : ∀ p ∈ dkH b m v cur s, p ∈ H) : DkM (heapOf w) b m v s := by
  refine ⟨hc.own _ _ (hs _ List.mem_cons_self), hc.own _ _ (hs _ (List.mem_cons_of_mem _ List.mem_cons_self)), ?_, h.hs⟩
  obtain ⟨cs, h1, h2⟩ := h.hr
  exact ⟨cs, h1.row hc (hs _ (List.mem_cons_of_mem _ (List.mem_cons_of_mem _ List.mem_cons_self))), h2⟩

theorem p_neNil {P : Program} {o : Oper} {S : Slots} {T U : TypeId} {x y : Operand} {v z : Value} {b : Bool} (hr : ∀ w, (binOp .neq T v z).run P w = .ok (.bool b) w) (hg : ∀ w, (eqGuard .neq T x y v z).run P w = .ok () w) (ho : o.op = .binOp .neq T x y U) (hx : ev S x = some v) (hy : ev S y = some z) : FPure P o S (.bool b) := fun ρ hρ w => by
  simp only [execOp, ho, hρ _ _ hx, hρ _ _ hy]
  refine val_run ?_
  exact (run_of_bind (hg w)).trans (hr w)
theorem ne24 (b : Nat) (w : World) : (binOp .neq 24 (ptr b 0) (.pointer none)).run Try.prog w = .ok (.bool true) w := by kernel_rfl
theorem ne58 (b : Nat) (w : World) : (binOp .neq 58 (.map (some b)) (.map none)).run Try.prog w = .ok (.bool true) w := by kernel_rfl
theorem eg24 (x y : Operand) (b : Nat) (w : World) : (eqGuard .neq 24 x y (ptr b 0) (.pointer none)).run Try.prog w = .ok () w := by kernel_rfl
theorem eg58 (x y : Operand) (b : Nat) (w : World) : (eqGuard .neq 58 x y (.map (some b)) (.map none)).run Try.prog w = .ok () w := by kernel_rfl
theorem ta4 (w : World) : (isAgg 4).run Try.prog w = .ok false w := by kernel_rfl
theorem en32 (args : Array Value) (w : World) : (callFunc 32 args).run Try.prog w = .ok (.enter 32 args) w := by kernel_rfl
theorem en34 (args : Array Value) (w : World) : (callFunc 34 args).run Try.prog w = .ok (.enter 34 args) w := by kernel_rfl
noncomputable def B32 : Code := bodyOf Try.f32
noncomputable def B34 : Code := bodyOf Try.f34
theorem clsStart (w : World) : Cls w (heapOf w) [] w := ⟨rfl, rfl, rfl, Nat.le_refl _, fun b o e => e, fun b o e => (by cases e), fun b o e => (by cases e), List.nodup_nil⟩

theorem there_ok {w : World} {M : Mem} (hM : Imm M w) {b m : Nat} {v : Value} {s : Dk} (hd : DkM M b m v s) : Calls Try.prog 32 #[ptr b 0] w fun e w' => e = .returned (.bool true) ∧ Below w.heap.size w w' := by
  have hd := hd.mono (show Ext M (heapOf w) from hM)
  refine calls_of_CW (N := 12) Try.func32 (show _ = some B32 by kernel_rfl) (by kernel_rfl) rfl (S := [(0, ptr b 0)]) (by simp) (clsStart w) ?_
  show CW _ _ _ (sub [] B32) _ _ _
  refine C.seq (x := sub [0] B32) (y := sub [1] B32) ?_
  refine C.region (id := 0) (m := 1) (ops := opsOf (sub [0] B32)) rfl ?_
  refine W.pure rfl (wo rfl) rfl rfl (p_assign (v := .bool false) rfl rfl) (nf rfl) ?_
  refine W.done (y := sub [1] B32) ?_
  refine C.seq (x := sub [1, 0] B32) (y := sub [1, 1] B32) ?_
  refine C.region (id := 1) (m := 10) (ops := opsOf (sub [1, 0] B32)) rfl ?_
  refine W.pure rfl (wo rfl) rfl rfl (p_move rfl rfl) (nf rfl) ?_
  refine W.pure rfl (wo rfl) rfl rfl (p_neNil (ne24 b) (eg24 _ _ b) rfl rfl rfl) (nf rfl) ?_
  refine W.pure rfl (wo rfl) rfl rfl (p_move rfl rfl) (nf rfl) ?_
  refine W.pure rfl (wo rfl) rfl rfl (p_move rfl rfl) (nf rfl) ?_
  refine W.pure rfl (wo rfl) rfl rfl (p_nilCheck rfl rfl) (nf rfl) ?_
  refine W.pure rfl (wo rfl) rfl rfl (p_fieldAddr tf61_1 rfl rfl) (nf rfl) ?_
  refine W.imm rfl (wo rfl) rfl rfl (i_loadBoxO (off := 1) hd.hb rfl ta58 rfl rfl) (nf rfl) ?_
  refine W.pure rfl (wo rfl) rfl rfl (p_neNil (ne58 m) (eg58 _ _ m) rfl rfl rfl) (nf rfl) ?_
  refine W.pure rfl (wo rfl) rfl rfl (p_pick_true rfl rfl rfl) (nf rfl) ?_
  refine W.pure rfl (wo rfl) rfl rfl (p_assign rfl rfl) (nf rfl) ?_
  refine W.done (y := sub [1, 1] B32) ?_
  exact C.ret (rs := [.tmp 2]) (vs := [.bool true]) rfl Try.func32 rfl rfl rfl (res_cons (ResV.tmp rfl) res_nil) fun w' hc => ⟨rfl, hc.toBelow⟩
end Go.Proofs.Ytjomnicfcdkfdaa
