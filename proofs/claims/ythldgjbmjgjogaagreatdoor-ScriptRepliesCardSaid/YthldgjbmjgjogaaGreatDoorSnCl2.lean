import Derived.Test.YthldgjbmjgjogaaGreatDoorSnCl
namespace Go.Proofs.YthldgjbmjgjogaaGreatDoor
open Go Go.HW Go.RowKit
set_option linter.unusedVariables false
set_option linter.unusedSimpArgs false
set_option maxRecDepth 20000

/-! ### put: appends a text to the captured list -/
noncomputable def B93 : Code := bodyOf Tryz.f93
theorem put93 {M : Mem} {b : Nat} {v : Value} {cur : Array Value} {s : List UInt8} {xs : List (List UInt8)} (ho : OwnS Sh.str M v cur xs) (hl : xs.length + [s].length ≤ 1099511627776) : TurnM Tryz.prog M 93 #[str s, ptr b 0] [(some b, .cells #[v] 46 (0, 0)), (v.ownBlock, .cells cur 9 (0, 0))] (X := {p : Value × Array Value // OwnS Sh.str M p.1 p.2 (xs ++ [s])}) (fun _ => .tuple #[]) (fun p => [(some b, .cells #[p.1.1] 46 (0, 0)), (p.1.1.ownBlock, .cells p.1.2 9 (0, 0))]) := fun I' hM w0 w hcl => by
  refine calls_of_TTG (N := 7) (S := [(0, str s), (1, ptr b 0)]) (b := B93) hcl Tryz.func93 rfl rfl rfl (by simp) ?_
  show TT _ _ _ _ _ _ [.code (sub [] B93)] _ _
  refine TT.region (id := 0) (n := 5) (ops := opsOf (sub [] B93)) [(.quiet, none), (.pure, none), (.alloc, none), (.actx, none), (.store, none)] rfl ?_
  show DL _ _ _ _ _ _ _ _ _ _ [0, 1, 2, 3, 4] _ _
  refine DL.qu 3 (v) rfl (f_load (j := 0) (fun w => by kernel_rfl) rfl rfl rfl rfl) ?_
  refine DL.pu 4 (str s) rfl (p_move rfl rfl) ?_
  refine DL.newS (M := M) (s := Sh.str) (zs := ([s] : List (List UInt8))) (cells := [str s]) (n := 1) rfl (by decide) rfl (fun i x hx => by match i, hx with | 0, hx => cases hx; exact rfl | k + 1, hx => simp at hx) (i := 2) rfl (Wn.none rfl) rfl rfl rfl (f_buildS (n := 1) (vs := [(0, str s)]) elem46 rfl rfl (by kernel_rfl) rfl (args_val2 rfl)) ?_
  intro s1_v s1_c ho_s1
  refine DL.appendS (M := M) (s := Sh.str) (fun s2_v s2_c => [(Value.ownBlock s1_v, .cells s1_c 9 (0, 0)), (some b, .cells #[v] 46 (0, 0)), (Value.ownBlock s2_v, .cells s2_c 9 (0, 0))]) elem46 (j := 2) rfl ho hl (by decide) (OwnS.src (i := 0) ho_s1 rfl) (i := 3) rfl (Wn.none rfl) rfl rfl rfl rfl rfl rfl (fun _ _ => rfl) ?_
  intro s2_v s2_c ho_s2
  show DL _ _ _ _ _ _ _ _ _ _ _ _ [(Value.ownBlock s1_v, .cells s1_c 9 (0, 0)), (some b, .cells #[v] 46 (0, 0)), (Value.ownBlock s2_v, .cells s2_c 9 (0, 0))]
  refine DL.put (H' := [(Value.ownBlock s1_v, .cells s1_c 9 (0, 0)), (some b, .cells #[s2_v] 46 (0, 0)), (Value.ownBlock s2_v, .cells s2_c 9 (0, 0))]) (i := 4) rfl (Wn.none rfl) rfl rfl (f_store (c := #[v]) (off := 0) (j := 1) (fun w => by kernel_rfl) rfl (sl_cells (OwnS.sl ho_s2)) (of_decide_eq_true rfl) (sl_one (OwnS.sl ho_s2)) rfl rfl rfl) (keep_none rfl) ?_
  refine DL.nil ?_
  exact endR (rs := []) (vs := []) Tryz.func93 rfl rfl rfl res_nil fun w hc => ⟨⟨(s2_v, s2_c), ho_s2⟩, rfl, hc.fewer (List.sublist_cons_self _ _)⟩

/-! ### check: a captured yes or no -/
noncomputable def B94 : Code := bodyOf Tryz.f94
theorem check94 {M : Mem} {b : Nat} {p q : Bool} : TurnM Tryz.prog M 94 #[.bool p, ptr b 0] [(some b, .cells #[.bool q] 4 (0, 0))] (fun _ : Unit => .tuple #[]) (fun _ => [(some b, .cells #[.bool (q && p)] 4 (0, 0))]) := fun I' hM w0 w hcl => by
  refine calls_of_TTG (N := 7) (S := [(0, .bool p), (1, ptr b 0)]) (b := B94) hcl Tryz.func94 rfl rfl rfl (by simp) ?_
  show TT _ _ _ _ _ _ [.code (sub [] B94)] _ _
  refine TT.region (id := 0) (n := 5) (ops := opsOf (sub [] B94)) [(.quiet, none), (.pure, none), (.pure, none), (.pure, none), (.store, none)] rfl ?_
  show DL _ _ _ _ _ _ _ _ _ _ [0, 1, 2, 3, 4] _ _
  refine DL.qu 3 (.bool q) rfl (f_load (j := 0) (fun w => by kernel_rfl) rfl rfl rfl rfl) ?_
  refine DL.pu 4 (.bool q) rfl (p_move rfl rfl) ?_
  cases q with
  | true =>
    refine DL.pure (v := .bool p) rfl (Wn.some rfl rfl rfl rfl) rfl rfl rfl (p_move rfl rfl) ?_
    refine DL.pu 6 (.bool p) rfl (p_pick_true rfl rfl rfl) ?_
    refine DL.put (H' := [(some b, .cells #[.bool p] 4 (0, 0))]) (i := 4) rfl (Wn.none rfl) rfl rfl (f_store (c := #[.bool true]) (off := 0) (j := 0) (fun w => by kernel_rfl) rfl rfl (of_decide_eq_true rfl) trivial rfl rfl rfl) (keep_none rfl) ?_
    refine DL.nil ?_
    exact endR (rs := []) (vs := []) Tryz.func94 rfl rfl rfl res_nil fun w hc => ⟨(), rfl, by cases p <;> exact hc⟩
  | false =>
    refine DL.not (i := 2) rfl (Wn.some rfl rfl rfl rfl) rfl rfl ?_
    refine DL.pu 6 (.bool false) rfl (p_pick_false rfl rfl rfl) ?_
    refine DL.put (H' := [(some b, .cells #[.bool false] 4 (0, 0))]) (i := 4) rfl (Wn.none rfl) rfl rfl (f_store (c := #[.bool false]) (off := 0) (j := 0) (fun w => by kernel_rfl) rfl rfl (of_decide_eq_true rfl) trivial rfl rfl rfl) (keep_none rfl) ?_
    refine DL.nil ?_
    exact endR (rs := []) (vs := []) Tryz.func94 rfl rfl rfl res_nil fun w hc => ⟨(), rfl, hc⟩
end Go.Proofs.YthldgjbmjgjogaaGreatDoor
