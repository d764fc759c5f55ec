import Derived.Test.YtjomnicfcdkfdaaDkV
section
namespace Go.Proofs.Ytjomnicfcdkfdaa
open Go Go.HW Go.RowKit
set_option linter.unusedVariables false
set_option linter.unusedSimpArgs false

/-! ### the document's disk: rows of bytes, each its own -/
structure Rk where
  B : List (List Int)
  L : List Wr
  fuse : Int
  dead : Bool
abbrev Rw := Value × Array Value × List Int
def rwE (r : Rw) : Option Nat × Obj := (r.1.ownBlock, .cells r.2.1 5 (0, 0))
structure Rg where
  vB : Value
  cB : Array Value
  vL : Value
  cL : Array Value
  Bs : List Rw
  Ls : List (Int × Rw)
def rwOk (r : Rw) : Prop := IntOwn .u8 r.1 r.2.1 r.2.2 ∧ r.2.2.length = 512
def lcells (l : List (Int × Rw)) : List Value := l.flatMap fun p => [.int .i64 p.1, p.2.1]
def rk0 (b : Nat) (g : Rg) (s : Rk) : Option Nat × Obj := (some b, .cells #[g.vB, g.vL, .int .i64 s.fuse, .bool s.dead] 73 (0, 0))
def rkT (g : Rg) : Heap := g.Bs.map rwE ++ g.Ls.map fun p => rwE p.2
def rkH (b : Nat) (g : Rg) (s : Rk) : Heap := rk0 b g s :: (g.vB.ownBlock, .cells g.cB 32 (0, 0)) :: (g.vL.ownBlock, .cells g.cL 80 (0, 0)) :: rkT g
structure RkO (g : Rg) (s : Rk) : Prop where
  hB : OwnV g.vB g.cB 1 g.Bs.length (g.Bs.map (·.1))
  hL : OwnV g.vL g.cL 2 g.Ls.length (lcells g.Ls)
  rB : ∀ r ∈ g.Bs, rwOk r
  rL : ∀ p ∈ g.Ls, rwOk p.2
  sB : s.B = g.Bs.map (·.2.2)
  sL : s.L = g.Ls.map fun p => (p.1, p.2.2.2)
  ok : ∀ p ∈ g.Ls, 0 ≤ p.1 ∧ p.1 < (g.Bs.length : Int)
abbrev Rx (s : Rk) := {g : Rg // RkO g s}
abbrev rX (b : Nat) {s : Rk} (x : Rx s) : Heap := rkH b x.1 s
theorem rk_B {b n : Nat} {g : Rg} {s : Rk} {r : Rw} (h : g.Bs[n]? = some r) : (rkH b g s)[n + 3]? = some (rwE r) := by
  show (rkT g)[n]? = _
  unfold rkT
  rw [List.getElem?_append_left (by rw [List.length_map]; exact (List.getElem?_eq_some_iff.1 h).1), List.getElem?_map, h]; rfl
theorem rk_L {b i : Nat} {g : Rg} {s : Rk} {p : Int × Rw} (h : g.Ls[i]? = some p) : (rkH b g s)[g.Bs.length + i + 3]? = some (rwE p.2) := by
  show (rkT g)[g.Bs.length + i]? = _
  unfold rkT
  rw [List.getElem?_append_right (by simp), List.length_map, Nat.add_sub_cancel_left, List.getElem?_map, h]; rfl
theorem mem_B {b : Nat} {g : Rg} {s : Rk} {r : Rw} (h : r ∈ g.Bs) : rwE r ∈ rkH b g s :=
  List.mem_cons_of_mem _ (List.mem_cons_of_mem _ (List.mem_cons_of_mem _ (List.mem_append_left _ (List.mem_map_of_mem h))))
theorem mem_L {b : Nat} {g : Rg} {s : Rk} {p : Int × Rw} (h : p ∈ g.Ls) : rwE p.2 ∈ rkH b g s :=
  List.mem_cons_of_mem _ (List.mem_cons_of_mem _ (List.mem_cons_of_mem _ (List.mem_append_right _ (List.mem_map.2 ⟨p, h, rfl⟩))))
theorem lcells_cons (p : Int × Rw) (l : List (Int × Rw)) : lcells (p :: l) = .int .i64 p.1 :: p.2.1 :: lcells l := rfl
theorem lcells_0 : ∀ {l : List (Int × Rw)} {i : Nat} {p : Int × Rw}, l[i]? = some p → (lcells l)[i * 2]? = some (.int .i64 p.1) ∧ (lcells l)[i * 2 + 1]? = some p.2.1
  | q :: l, 0, p, h => by simp at h; subst h; exact ⟨rfl, rfl⟩
  | q :: l, i + 1, p, h => by
    have := lcells_0 (l := l) (i := i) (by simpa using h)
    rw [lcells_cons, show (i + 1) * 2 = i * 2 + 1 + 1 by omega]
    simpa using this
  | [], i, p, h => by simp at h
theorem lcells_app (l : List (Int × Rw)) (p : Int × Rw) : lcells (l ++ [p]) = lcells l ++ [.int .i64 p.1, p.2.1] := by simp [lcells]
theorem lcells_set {l : List (Int × Rw)} {i : Nat} {p : Int × Rw} {r : Rw} (h : l[i]? = some p) (hv : r.1 = p.2.1) : lcells (l.set i (p.1, r)) = lcells l := by
  have e : l.set i (p.1, (p.2.1, r.2)) = l.set i (p.1, r) := by obtain ⟨v, c, xs⟩ := r; simp only at hv; subst hv; rfl
  induction l generalizing i with
  | nil => rfl
  | cons q l ih =>
    cases i with
    | zero =>
      simp at h; subst h
      rw [List.set_cons_zero, lcells_cons, lcells_cons, hv]
    | succ i =>
      rw [List.set_cons_succ, lcells_cons, lcells_cons, ih (by simpa using h)]
      rw [List.set_cons_succ, List.set_cons_succ] at e
      exact List.tail_eq_of_cons_eq e
/-- a row is put in another's place -/
theorem set_rows {b n : Nat} {g : Rg} {s : Rk} {r r' : Rw} (h : g.Bs[n]? = some r) (cB : Array Value) (s' : Rk) (hs : s'.fuse = s.fuse ∧ s'.dead = s.dead) :
    (rwE r' :: (rkH b g s).set 1 (g.vB.ownBlock, .cells cB 32 (0, 0))).Perm (rwE r :: rkH b { g with cB := cB, Bs := g.Bs.set n r' } s') := by
  have e0 : rk0 b { g with cB := cB, Bs := g.Bs.set n r' } s' = rk0 b g s := by unfold rk0; rw [hs.1, hs.2]
  have hn := (List.getElem?_eq_some_iff.1 h).1
  have key : (rwE r' :: g.Bs.map rwE).Perm (rwE r :: (g.Bs.set n r').map rwE) := by
    have e1 : g.Bs = g.Bs.take n ++ r :: g.Bs.drop (n + 1) := by
      have e2 := (List.getElem?_eq_some_iff.1 h).2
      rw [← e2, ← List.drop_eq_getElem_cons hn, List.take_append_drop]
    have e3 : g.Bs.set n r' = g.Bs.take n ++ r' :: g.Bs.drop (n + 1) := List.set_eq_take_append_cons_drop.trans (if_pos hn)
    rw [e3]
    conv => lhs; rw [e1]
    simp only [List.map_append, List.map_cons]
    refine ((List.perm_middle (l₁ := g.Bs.take n |>.map rwE)).cons _).trans ?_
    refine (List.Perm.swap _ _ _).trans ?_
    exact ((List.perm_middle (l₁ := g.Bs.take n |>.map rwE)).symm).cons _
  show (rwE r' :: rk0 b g s :: _ :: _ :: rkT g).Perm (rwE r :: rk0 b { g with cB := cB, Bs := g.Bs.set n r' } s' :: _)
  rw [e0]
  have k2 : (rwE r' :: rkT g).Perm (rwE r :: rkT { g with cB := cB, Bs := g.Bs.set n r' }) := by
    unfold rkT
    exact List.Perm.append_right _ key
  have mv : ∀ (x a b c : Option Nat × Obj) (t : Heap), (x :: a :: b :: c :: t).Perm (a :: b :: c :: x :: t) := fun x a b c t => by
    refine (List.Perm.swap _ _ _).trans (List.Perm.cons _ ?_)
    refine (List.Perm.swap _ _ _).trans (List.Perm.cons _ ?_)
    exact List.Perm.swap _ _ _
  exact (mv _ _ _ _ _).trans (((((k2.cons _).cons _).cons _)).trans (mv _ _ _ _ _).symm)
end Go.Proofs.Ytjomnicfcdkfdaa
end

section
namespace Go.Proofs.Ytjomnicfcdkfdaa
open Go Go.HW Go.RowKit
set_option linter.unusedVariables false
set_option linter.unusedSimpArgs false
theorem ta70 (w : World) : (isAgg 70).run Try.prog w = .ok false w := by kernel_rfl
theorem ta71 (w : World) : (isAgg 71).run Try.prog w = .ok false w := by kernel_rfl
theorem ta32 (w : World) : (isAgg 32).run Try.prog w = .ok false w := by kernel_rfl
theorem ta80 (w : World) : (isAgg 80).run Try.prog w = .ok true w := by kernel_rfl
theorem ts70 (w : World) : (sizeOf 70).run Try.prog w = .ok 1 w := by kernel_rfl
theorem ts71 (w : World) : (sizeOf 71).run Try.prog w = .ok 1 w := by kernel_rfl
theorem ts32 (w : World) : (sizeOf 32).run Try.prog w = .ok 1 w := by kernel_rfl
theorem ts80 (w : World) : (sizeOf 80).run Try.prog w = .ok 2 w := by kernel_rfl
theorem tu70 (w : World) : (underlying 70).run Try.prog w = .ok (.slice 32) w := by kernel_rfl
theorem tu71 (w : World) : (underlying 71).run Try.prog w = .ok (.slice 80) w := by kernel_rfl
theorem tf73_0 (a : Addr) (w : World) : (Instr.fieldAt 73 (.pointer (some a)) 0).run Try.prog w = .ok (.pointer (some (a.add 0))) w := by kernel_rfl
theorem tf73_1 (a : Addr) (w : World) : (Instr.fieldAt 73 (.pointer (some a)) 1).run Try.prog w = .ok (.pointer (some (a.add 1))) w := by kernel_rfl
theorem tf73_2 (a : Addr) (w : World) : (Instr.fieldAt 73 (.pointer (some a)) 2).run Try.prog w = .ok (.pointer (some (a.add 2))) w := by kernel_rfl
theorem tf73_3 (a : Addr) (w : World) : (Instr.fieldAt 73 (.pointer (some a)) 3).run Try.prog w = .ok (.pointer (some (a.add 3))) w := by kernel_rfl
theorem tf80_0 (a : Addr) (w : World) : (Instr.fieldAt 80 (.pointer (some a)) 0).run Try.prog w = .ok (.pointer (some (a.add 0))) w := by kernel_rfl
theorem tf80_1 (a : Addr) (w : World) : (Instr.fieldAt 80 (.pointer (some a)) 1).run Try.prog w = .ok (.pointer (some (a.add 1))) w := by kernel_rfl
theorem elem70 : Elem Try.prog 70 32 1 24 (.slice none 0 0) := Elem.of (by kernel_rfl) (by kernel_rfl) rfl (by decide)
theorem elem71 : Elem Try.prog 71 80 2 32 (.agg #[.int .i64 0, .slice none 0 0]) := Elem.of (by kernel_rfl) (by kernel_rfl) rfl (by decide)
section
variable {N : Nat} {S : Slots} {w0 w1 : World} {I : Mem} {H : Heap} {Q : Exit → Act → World → Prop} {Qn : Act → Heap → Prop} {ops : Array Oper} {lab : Lab} {ids : Nat → Option Nat} {l : List Nat} {i d : Nat} {o : Oper} {v : Value}
theorem p_ixV {cur : Array Value} {sz n : Nat} {cs : List Value} (h : OwnV v cur sz n cs) {j : Nat} (hj : j < n) {T e : Nat} {x z : Operand} {kk : IntKind} (hu : ∀ w, (underlying T).run Try.prog w = .ok (.slice e) w) (hs : ∀ w, (sizeOf e).run Try.prog w = .ok sz w) (ho : o.op = .indexAddr T x z) (hx : ev S x = some v) (hy : ev S z = some (.int kk (j : Int))) : FPure Try.prog o S (elp v (j * sz)) := by
  have := p_slIx (P := Try.prog) hu hs (OwnV.some h (i := (j : Int)) (by omega) (by omega)) (by omega) (by omega) ho hx hy
  simpa using this
theorem p_ixVI {cur : Array Value} {sz n : Nat} {cs : List Value} (h : OwnV v cur sz n cs) {j : Int} (h0 : 0 ≤ j) (hj : j < (n : Int)) {T e : Nat} {x z : Operand} {kk : IntKind} (hu : ∀ w, (underlying T).run Try.prog w = .ok (.slice e) w) (hs : ∀ w, (sizeOf e).run Try.prog w = .ok sz w) (ho : o.op = .indexAddr T x z) (hx : ev S x = some v) (hy : ev S z = some (.int kk j)) : FPure Try.prog o S (elp v (j.toNat * sz)) :=
  p_slIx (P := Try.prog) hu hs (OwnV.some h h0 hj) h0 hj ho hx hy
theorem own_plain {cur : Array Value} {sz n : Nat} {cs : List Value} (h : OwnV v cur sz n cs) {j : Nat} (hj : j < n) : ∃ b off m c, v = .slice (some ⟨b, off, none⟩) m c := by
  rcases h.2 with ⟨_, h2⟩ | ⟨g, cap, h2, _⟩
  · omega
  · exact ⟨g, 0, _, cap, h2⟩
theorem own_len {cur : Array Value} {sz n : Nat} {cs : List Value} (h : OwnV v cur sz n cs) : ∃ a c, v = .slice a n c := h.slice
/-- a new copy of a row: an append to nothing -/
theorem f_app0 {x y : Operand} {u : Value} {xs : List Int} (hb : xs.length ≤ 1099511627776) (hu : ∀ w, Cls w0 I H w → HW.Src w u xs.length 1 (encl .u8 xs)) (ho : o.op = .call { callee := .builtin .append, args := #[x, y], argTypes := #[32, 32] }) (hx : ev S x = some (.slice none 0 0)) (hy : ev S y = some u) :
    FAct Try.prog o w0 I S H {z : Value × Array Value // IntOwn .u8 z.1 z.2 xs} (fun z => z.1.1) (fun z => (z.1.1.ownBlock, .cells z.1.2 5 (0, 0)) :: H) := fun ρ hρ w hc => by
  have := f_appendInt (P := Try.prog) (w0 := w0) (I := I) (S := S) (H := (none, .cells #[] 5 (0, 0)) :: H) (j := 0) (v := .slice none 0 0) (cur := #[]) (xs := []) (ys := xs) (u := u) elem32 rfl (IntOwn.nil .u8) (by simpa using hb) (by decide) (fun w hc => hu w hc.tail) ho hx hy
  exact this ρ hρ w (cls_addNil hc)
theorem rw_src {r : Rw} (h : rwOk r) (hm : rwE r ∈ H) {w : World} (hc : Cls w0 I H w) : HW.Src w r.1 r.2.2.length 1 (encl .u8 r.2.2) := OwnV.src h.1 hc hm (encl_one .u8 r.2.2)
/-- a store into the disk itself -/
theorem f_st0 {b k : Nat} {c : Array Value} {T : Heap} {t : TypeId} {x y : Operand} {u : Value} (hs : ∀ w, (sizeOf t).run Try.prog w = .ok 1 w) (hn : u.cells = #[u]) (h1 : OneCell u) (hk : k < c.size) (ho : o.op = .store t x y) (hx : ev S x = some (ptr b k)) (hy : ev S y = some u) : FPut Try.prog o w0 I S ((some b, .cells c 73 (0, 0)) :: T) ((some b, .cells (c.setIfInBounds k u) 73 (0, 0)) :: T) :=
  f_store (j := 0) hs rfl hn hk h1 ho hx hy
end
/-! #### what it computes -/
def hasL (n : Nat) (i : Int) : Bool := decide (0 ≤ i ∧ i < (n : Int))
def rstepK (s : Rk) : Int × Rk := if s.dead = true then (14, s) else if s.fuse = 0 then (17, { s with dead := true }) else if 0 < s.fuse then (0, { s with fuse := IntKind.i64.wrap (s.fuse - 1) }) else (0, s)
def rwriteK (s : Rk) (n : Int) (xs : List Int) : Int × Rk := if hasL s.B.length n = false then (2, s) else if ¬ xs.length = 512 then (2, s) else if (rstepK s).1 = 14 then rstepK s else ((rstepK s).1, { (rstepK s).2 with L := (rstepK s).2.L ++ [(n, xs)] })
def rsetB (s : Rk) (k : Nat) : List (List Int) := (s.L.take k).foldl (fun B w => B.set w.1.toNat w.2) s.B
def rsyncK (s : Rk) : Int × Rk := if (rstepK s).1 = 0 then (0, { (rstepK s).2 with B := rsetB (rstepK s).2 (rstepK s).2.L.length, L := [] }) else rstepK s
def rfuseK (s : Rk) (n : Int) : Int × Rk := if n < 0 then (2, s) else (0, { s with fuse := n })
def rrd (s : Rk) (n : Int) : List Int := (lfind s.L.reverse n).getD (s.B.getD n.toNat [])
def divQ (n b : Int) : Int := if n < 0 ∧ ¬ n.tmod b = 0 then IntKind.i64.wrap (IntKind.i64.wrap (n.tdiv b) - 1) else IntKind.i64.wrap (n.tdiv b)
def divR (n b : Int) : Int := if n.tmod b < 0 then IntKind.i64.wrap (n.tmod b + b) else n.tmod b
def rtear (p : Int) (last : Bool) : Int := if divR p 3 = 2 ∧ last = true then divR (divQ p 3) 513 else 512
def rcrB (s : Rk) (picks : List Int) : Nat → List (List Int)
  | 0 => s.B
  | k + 1 => match s.L[k]? with
    | none => rcrB s picks k
    | some w => if divR (picks.getD k 0) 3 = 0 then rcrB s picks k else (rcrB s picks k).set w.1.toNat (w.2.take (rtear (picks.getD k 0) (decide (k + 1 = s.L.length))).toNat ++ ((rcrB s picks k).getD w.1.toNat []).drop (rtear (picks.getD k 0) (decide (k + 1 = s.L.length))).toNat)
def rcrashK (s : Rk) (picks : List Int) : Rk := ⟨rcrB s picks s.L.length, [], -1, false⟩
def reditK (s : Rk) (n at_ x : Int) : Int × Rk := if hasL s.B.length n = false then (2, s) else if at_ < 0 then (2, s) else if 512 ≤ at_ then (2, s) else (0, { s with B := s.B.set n.toNat (xorAt (s.B.getD n.toNat []) at_ x), L := s.L.map (edW n at_ x) })
def rnewK (n : Nat) : Rk := ⟨List.replicate n zeros, [], -1, false⟩
end Go.Proofs.Ytjomnicfcdkfdaa
end

section
namespace Go.Proofs.Ytjomnicfcdkfdaa
open Go Go.HW Go.RowKit
set_option linter.unusedVariables false
set_option linter.unusedSimpArgs false

noncomputable def B48 : Code := bodyOf Try.f48
theorem en48 (args : Array Value) (w : World) : (callFunc 48 args).run Try.prog w = .ok (.enter 48 args) w := by kernel_rfl
theorem rhas_ok {w : World} {M : Mem} (hM : Imm M w) {b nB : Nat} {vB vL f d : Value} (hb : M b = some (.cells #[vB, vL, f, d] 73 (0, 0))) (hsl : ∃ a c, vB = .slice a nB c) (n : Int) : Calls Try.prog 48 #[ptr b 0, .int .i64 n] w (fun e w' => e = .returned (.bool (hasL nB n)) ∧ Below w.heap.size w w') := by
  refine calls_of_CW (N := 16) Try.func48 (show _ = some B48 by kernel_rfl) (by kernel_rfl) rfl (S := [(0, ptr b 0), (1, .int .i64 n)]) (by simp) (clsStart w) ?_
  show CW _ _ _ (sub [] B48) _ _ _
  refine C.seq (x := sub [0] B48) (y := sub [1] B48) ?_
  refine C.region (id := 0) (m := 1) (ops := opsOf (sub [0] B48)) rfl ?_
  refine W.pure rfl (wo rfl) rfl rfl (p_assign rfl rfl) (nf rfl) ?_
  refine W.doneQ (y := sub [1] B48) rfl ?_
  refine C.seq (x := sub [1, 0] B48) (y := sub [1, 1] B48) ?_
  refine C.region (id := 1) (m := 12) (ops := opsOf (sub [1, 0] B48)) rfl ?_
  refine W.pure rfl (wo rfl) rfl rfl (p_move rfl rfl) (nf rfl) ?_
  by_cases h : 0 ≤ n
  · refine W.pure rfl (wo rfl) rfl rfl (pT (decide_eq_true h) (p_geq rfl rfl rfl)) (nf rfl) ?_
    refine W.pure rfl (wo rfl) rfl rfl (p_move rfl rfl) (nf rfl) ?_
    refine W.pure rfl (wo rfl) rfl rfl (p_move rfl rfl) (nf rfl) ?_
    refine W.pure rfl (wo rfl) rfl rfl (p_move rfl rfl) (nf rfl) ?_
    refine W.pure rfl (wo rfl) rfl rfl (p_nilCheck rfl rfl) (nf rfl) ?_
    refine W.pure rfl (wo rfl) rfl rfl (p_fieldAddr tf73_0 rfl rfl) (nf rfl) ?_
    refine W.imm rfl (wo rfl) rfl rfl (i_loadBoxO (off := 0) (hM _ _ hb) rfl ta70 rfl rfl) (nf rfl) ?_
    refine W.pure rfl (wo rfl) rfl rfl (p_slLen tu70 hsl rfl rfl) (nf rfl) ?_
    by_cases h2 : n < (nB : Int)
    · refine W.pure rfl (wo rfl) rfl rfl (pT (decide_eq_true h2) (p_lss rfl rfl rfl)) (nf rfl) ?_
      refine W.pure rfl (wo rfl) rfl rfl (p_pick_true rfl rfl rfl) (nf rfl) ?_
      refine W.pure rfl (wo rfl) rfl rfl (p_assign rfl rfl) (nf rfl) ?_
      refine W.doneQ (y := sub [1, 1] B48) rfl ?_
      exact C.ret (R := fun e w' => e = .returned (.bool (hasL nB n)) ∧ Below w.heap.size w w') (rs := [.tmp 4]) (vs := [.bool true]) rfl Try.func48 rfl rfl rfl (res_cons (ResV.tmp rfl) res_nil) fun w1 hc1 => ⟨by rw [show hasL nB n = true from decide_eq_true ⟨h, h2⟩]; rfl, hc1.toBelow⟩
    · refine W.pure rfl (wo rfl) rfl rfl (pF (decide_eq_false h2) (p_lss rfl rfl rfl)) (nf rfl) ?_
      refine W.pure rfl (wo rfl) rfl rfl (p_pick_true rfl rfl rfl) (nf rfl) ?_
      refine W.pure rfl (wo rfl) rfl rfl (p_assign rfl rfl) (nf rfl) ?_
      refine W.doneQ (y := sub [1, 1] B48) rfl ?_
      exact C.ret (R := fun e w' => e = .returned (.bool (hasL nB n)) ∧ Below w.heap.size w w') (rs := [.tmp 4]) (vs := [.bool false]) rfl Try.func48 rfl rfl rfl (res_cons (ResV.tmp rfl) res_nil) fun w1 hc1 => ⟨by rw [show hasL nB n = false from decide_eq_false fun z => h2 z.2]; rfl, hc1.toBelow⟩
  · refine W.pure rfl (wo rfl) rfl rfl (pF (decide_eq_false h) (p_geq rfl rfl rfl)) (nf rfl) ?_
    refine W.pure rfl (wo rfl) rfl rfl (p_move rfl rfl) (nf rfl) ?_
    refine W.not rfl (wo rfl) rfl rfl ?_
    refine W.not rfl (wo rfl) rfl rfl ?_
    refine W.not rfl (wo rfl) rfl rfl ?_
    refine W.not rfl (wo rfl) rfl rfl ?_
    refine W.not rfl (wo rfl) rfl rfl ?_
    refine W.not rfl (wo rfl) rfl rfl ?_
    refine W.not rfl (wo rfl) rfl rfl ?_
    refine W.pure rfl (wo rfl) rfl rfl (p_pick_false rfl rfl rfl) (nf rfl) ?_
    refine W.pure rfl (wo rfl) rfl rfl (p_assign rfl rfl) (nf rfl) ?_
    refine W.doneQ (y := sub [1, 1] B48) rfl ?_
    exact C.ret (R := fun e w' => e = .returned (.bool (hasL nB n)) ∧ Below w.heap.size w w') (rs := [.tmp 4]) (vs := [.bool false]) rfl Try.func48 rfl rfl rfl (res_cons (ResV.tmp rfl) res_nil) fun w1 hc1 => ⟨by rw [show hasL nB n = false from decide_eq_false fun z => h z.1]; rfl, hc1.toBelow⟩

theorem rhas_x {w0 w : World} {I : Mem} {H : Heap} {b : Nat} {s : Rk} (x : Rx s) {g : Rg} {s2 : Rk} (hm : rk0 b x.1 s ∈ H) (hc : Cls w0 I H w) (n : Int) : Calls Try.prog 48 #[ptr b 0, .int .i64 n] w fun e w' => e = .returned (.bool (hasL s.B.length n)) ∧ Below w.heap.size w w' := by
  have hl : s.B.length = x.1.Bs.length := by rw [x.2.sB, List.length_map]
  rw [hl]
  exact rhas_ok (M := heapOf w) (fun _ _ e => e) (hc.own b _ hm) (own_len x.2.hB) n
theorem rk_same {g : Rg} {s s' : Rk} (h : RkO g s) (hB : s'.B = s.B) (hL : s'.L = s.L) : RkO g s' := ⟨h.hB, h.hL, h.rB, h.rL, by rw [hB]; exact h.sB, by rw [hL]; exact h.sL, h.ok⟩

noncomputable def B49 : Code := bodyOf Try.f49
theorem en49 (args : Array Value) (w : World) : (callFunc 49 args).run Try.prog w = .ok (.enter 49 args) w := by kernel_rfl
theorem rStep {I : Mem} {b : Nat} {s s2 : Rk} {e : Int} (x : Rx s) (hK : rstepK s = (e, s2)) : Turn I 49 #[ptr b 0] (rX b x) (fun _ : Rx s2 => .int .i64 e) (fun x' => rX b x') := fun I' he w0 w hc => by
  refine calls_of_CW (N := 27) Try.func49 (show _ = some B49 by kernel_rfl) (by kernel_rfl) rfl (S := [(0, ptr b 0)]) (by simp) hc ?_
  show CW _ _ _ (sub [] B49) _ _ _
  refine C.seq (x := sub [0] B49) (y := sub [1] B49) ?_
  refine C.region (id := 0) (m := 1) (ops := opsOf (sub [0] B49)) rfl ?_
  refine W.pure rfl (wo rfl) rfl rfl (p_assign rfl rfl) (nf rfl) ?_
  refine W.doneQ (y := sub [1] B49) rfl ?_
  refine C.seq (x := sub [1, 0] B49) (y := sub [1, 1] B49) ?_
  refine C.seq (x := sub [1, 0, 0] B49) (y := sub [1, 0, 1] B49) ?_
  refine C.region (id := 1) (m := 4) (ops := opsOf (sub [1, 0, 0] B49)) rfl ?_
  refine W.pure rfl (wo rfl) rfl rfl (p_move rfl rfl) (nf rfl) ?_
  refine W.pure rfl (wo rfl) rfl rfl (p_nilCheck rfl rfl) (nf rfl) ?_
  refine W.pure rfl (wo rfl) rfl rfl (p_fieldAddr tf73_3 rfl rfl) (nf rfl) ?_
  by_cases h1 : s.dead = true
  · refine W.quiet rfl (wo rfl) rfl rfl (qT (h1) (f_load (j := 0) ta4 rfl (off := 3) rfl rfl rfl)) (nf rfl) ?_
    refine W.doneQ (y := sub [1, 0, 1] B49) rfl ?_
    refine C.cond_true (x := sub [1, 0, 1, 0] B49) (y := sub [1, 0, 1, 1] B49) rfl rfl ?_
    refine C.seq (x := sub [1, 0, 1, 0, 0] B49) (y := sub [1, 0, 1, 0, 1] B49) ?_
    refine C.region (id := 2) (m := 1) (ops := opsOf (sub [1, 0, 1, 0, 0] B49)) rfl ?_
    refine W.pure rfl (wo rfl) rfl rfl (p_assign rfl rfl) (nf rfl) ?_
    refine W.doneQ (y := sub [1, 0, 1, 0, 1] B49) rfl ?_
    obtain ⟨rfl, rfl⟩ : 14 = e ∧ s = s2 := Prod.mk.inj (((show rstepK s = (14, s) from if_pos h1).symm.trans hK))
    exact C.ret (R := fun e w' => ∃ x' : Rx s, e = .returned (.int .i64 14) ∧ Cls w0 I' (rX b x') w') (rs := [.tmp 2]) (vs := [.int .i64 14]) rfl Try.func49 rfl rfl rfl (res_cons (ResV.tmp rfl) res_nil) fun w1 hc1 => ⟨⟨x.1, rk_same x.2 rfl rfl⟩, rfl, hc1⟩
  · refine W.quiet rfl (wo rfl) rfl rfl (qF (by simpa using h1) (f_load (j := 0) ta4 rfl (off := 3) rfl rfl rfl)) (nf rfl) ?_
    refine W.doneQ (y := sub [1, 0, 1] B49) rfl ?_
    refine C.cond_false (x := sub [1, 0, 1, 0] B49) (y := sub [1, 0, 1, 1] B49) rfl rfl ?_
    refine C.skipQ (y := sub [1, 1] B49) rfl ?_
    refine C.seq (x := sub [1, 1, 0] B49) (y := sub [1, 1, 1] B49) ?_
    refine C.seq (x := sub [1, 1, 0, 0] B49) (y := sub [1, 1, 0, 1] B49) ?_
    refine C.region (id := 3) (m := 5) (ops := opsOf (sub [1, 1, 0, 0] B49)) rfl ?_
    refine W.pure rfl (wo rfl) rfl rfl (p_move rfl rfl) (nf rfl) ?_
    refine W.pure rfl (wo rfl) rfl rfl (p_nilCheck rfl rfl) (nf rfl) ?_
    refine W.pure rfl (wo rfl) rfl rfl (p_fieldAddr tf73_2 rfl rfl) (nf rfl) ?_
    refine W.quiet rfl (wo rfl) rfl rfl (f_load (j := 0) ta3 rfl (off := 2) rfl rfl rfl) (nf rfl) ?_
    by_cases h2 : s.fuse = 0
    · refine W.pure rfl (wo rfl) rfl rfl (pT (by rw [h2]; rfl) (p_eql rfl rfl rfl)) (nf rfl) ?_
      refine W.doneQ (y := sub [1, 1, 0, 1] B49) rfl ?_
      refine C.cond_true (x := sub [1, 1, 0, 1, 0] B49) (y := sub [1, 1, 0, 1, 1] B49) rfl rfl ?_
      refine C.seq (x := sub [1, 1, 0, 1, 0, 0] B49) (y := sub [1, 1, 0, 1, 0, 1] B49) ?_
      refine C.region (id := 4) (m := 4) (ops := opsOf (sub [1, 1, 0, 1, 0, 0] B49)) rfl ?_
      refine W.pure rfl (wo rfl) rfl rfl (p_move rfl rfl) (nf rfl) ?_
      refine W.pure rfl (wo rfl) rfl rfl (p_nilCheck rfl rfl) (nf rfl) ?_
      refine W.pure rfl (wo rfl) rfl rfl (p_fieldAddr tf73_3 rfl rfl) (nf rfl) ?_
      refine W.put rfl (wo rfl) rfl (f_st0 (k := 3) (u := .bool true) ts4 rfl trivial (show 3 < 4 by decide) rfl rfl rfl) (nf rfl) ?_
      refine W.doneQ (y := sub [1, 1, 0, 1, 0, 1] B49) rfl ?_
      refine C.seq (x := sub [1, 1, 0, 1, 0, 1, 0] B49) (y := sub [1, 1, 0, 1, 0, 1, 1] B49) ?_
      refine C.region (id := 5) (m := 1) (ops := opsOf (sub [1, 1, 0, 1, 0, 1, 0] B49)) rfl ?_
      refine W.pure rfl (wo rfl) rfl rfl (p_assign rfl rfl) (nf rfl) ?_
      refine W.doneQ (y := sub [1, 1, 0, 1, 0, 1, 1] B49) rfl ?_
      obtain ⟨rfl, rfl⟩ : 17 = e ∧ { s with dead := true } = s2 := Prod.mk.inj (((show rstepK s = (17, { s with dead := true }) from (if_neg h1).trans (if_pos h2)).symm.trans hK))
      exact C.ret (R := fun e w' => ∃ x' : Rx ({ s with dead := true }), e = .returned (.int .i64 17) ∧ Cls w0 I' (rX b x') w') (rs := [.tmp 2]) (vs := [.int .i64 17]) rfl Try.func49 rfl rfl rfl (res_cons (ResV.tmp rfl) res_nil) fun w1 hc1 => ⟨⟨x.1, rk_same x.2 rfl rfl⟩, rfl, hc1⟩
    · refine W.pure rfl (wo rfl) rfl rfl (pF (by simpa using h2) (p_eql rfl rfl rfl)) (nf rfl) ?_
      refine W.doneQ (y := sub [1, 1, 0, 1] B49) rfl ?_
      refine C.cond_false (x := sub [1, 1, 0, 1, 0] B49) (y := sub [1, 1, 0, 1, 1] B49) rfl rfl ?_
      refine C.skipQ (y := sub [1, 1, 1] B49) rfl ?_
      refine C.seq (x := sub [1, 1, 1, 0] B49) (y := sub [1, 1, 1, 1] B49) ?_
      refine C.seq (x := sub [1, 1, 1, 0, 0] B49) (y := sub [1, 1, 1, 0, 1] B49) ?_
      refine C.region (id := 6) (m := 5) (ops := opsOf (sub [1, 1, 1, 0, 0] B49)) rfl ?_
      refine W.pure rfl (wo rfl) rfl rfl (p_move rfl rfl) (nf rfl) ?_
      refine W.pure rfl (wo rfl) rfl rfl (p_nilCheck rfl rfl) (nf rfl) ?_
      refine W.pure rfl (wo rfl) rfl rfl (p_fieldAddr tf73_2 rfl rfl) (nf rfl) ?_
      refine W.quiet rfl (wo rfl) rfl rfl (f_load (j := 0) ta3 rfl (off := 2) rfl rfl rfl) (nf rfl) ?_
      by_cases h3 : 0 < s.fuse
      · refine W.pure rfl (wo rfl) rfl rfl (pT (decide_eq_true h3) (p_gtr rfl rfl rfl)) (nf rfl) ?_
        refine W.doneQ (y := sub [1, 1, 1, 0, 1] B49) rfl ?_
        refine C.cond_true (x := sub [1, 1, 1, 0, 1, 0] B49) (y := sub [1, 1, 1, 0, 1, 1] B49) rfl rfl ?_
        refine C.region (id := 7) (m := 8) (ops := opsOf (sub [1, 1, 1, 0, 1, 0] B49)) rfl ?_
        refine W.pure rfl (wo rfl) rfl rfl (p_move rfl rfl) (nf rfl) ?_
        refine W.pure rfl (wo rfl) rfl rfl (p_nilCheck rfl rfl) (nf rfl) ?_
        refine W.pure rfl (wo rfl) rfl rfl (p_fieldAddr tf73_2 rfl rfl) (nf rfl) ?_
        refine W.quiet rfl (wo rfl) rfl rfl (f_load (j := 0) ta3 rfl (off := 2) rfl rfl rfl) (nf rfl) ?_
        refine W.pure rfl (wo rfl) rfl rfl (p_sub rfl rfl rfl) (nf rfl) ?_
        refine W.pure rfl (wo rfl) rfl rfl (p_nilCheck rfl rfl) (nf rfl) ?_
        refine W.pure rfl (wo rfl) rfl rfl (p_fieldAddr tf73_2 rfl rfl) (nf rfl) ?_
        refine W.put rfl (wo rfl) rfl (f_st0 (k := 2) (u := .int .i64 _) ts3 rfl trivial (show 2 < 4 by decide) rfl rfl rfl) (nf rfl) ?_
        refine W.doneQ (y := sub [1, 1, 1, 1] B49) rfl ?_
        refine C.seq (x := sub [1, 1, 1, 1, 0] B49) (y := sub [1, 1, 1, 1, 1] B49) ?_
        refine C.region (id := 8) (m := 1) (ops := opsOf (sub [1, 1, 1, 1, 0] B49)) rfl ?_
        refine W.pure rfl (wo rfl) rfl rfl (p_assign rfl rfl) (nf rfl) ?_
        refine W.doneQ (y := sub [1, 1, 1, 1, 1] B49) rfl ?_
        obtain ⟨rfl, rfl⟩ : 0 = e ∧ { s with fuse := IntKind.i64.wrap (s.fuse - 1) } = s2 := Prod.mk.inj (((show rstepK s = (0, { s with fuse := IntKind.i64.wrap (s.fuse - 1) }) from ((if_neg h1).trans (if_neg h2)).trans (if_pos h3)).symm.trans hK))
        exact C.ret (R := fun e w' => ∃ x' : Rx ({ s with fuse := IntKind.i64.wrap (s.fuse - 1) }), e = .returned (.int .i64 0) ∧ Cls w0 I' (rX b x') w') (rs := [.tmp 2]) (vs := [.int .i64 0]) rfl Try.func49 rfl rfl rfl (res_cons (ResV.tmp rfl) res_nil) fun w1 hc1 => ⟨⟨x.1, rk_same x.2 rfl rfl⟩, rfl, hc1⟩
      · refine W.pure rfl (wo rfl) rfl rfl (pF (decide_eq_false h3) (p_gtr rfl rfl rfl)) (nf rfl) ?_
        refine W.doneQ (y := sub [1, 1, 1, 0, 1] B49) rfl ?_
        refine C.cond_false (x := sub [1, 1, 1, 0, 1, 0] B49) (y := sub [1, 1, 1, 0, 1, 1] B49) rfl rfl ?_
        refine C.skipQ (y := sub [1, 1, 1, 1] B49) rfl ?_
        refine C.seq (x := sub [1, 1, 1, 1, 0] B49) (y := sub [1, 1, 1, 1, 1] B49) ?_
        refine C.region (id := 8) (m := 1) (ops := opsOf (sub [1, 1, 1, 1, 0] B49)) rfl ?_
        refine W.pure rfl (wo rfl) rfl rfl (p_assign rfl rfl) (nf rfl) ?_
        refine W.doneQ (y := sub [1, 1, 1, 1, 1] B49) rfl ?_
        obtain ⟨rfl, rfl⟩ : 0 = e ∧ s = s2 := Prod.mk.inj (((show rstepK s = (0, s) from ((if_neg h1).trans (if_neg h2)).trans (if_neg h3)).symm.trans hK))
        exact C.ret (R := fun e w' => ∃ x' : Rx s, e = .returned (.int .i64 0) ∧ Cls w0 I' (rX b x') w') (rs := [.tmp 2]) (vs := [.int .i64 0]) rfl Try.func49 rfl rfl rfl (res_cons (ResV.tmp rfl) res_nil) fun w1 hc1 => ⟨⟨x.1, rk_same x.2 rfl rfl⟩, rfl, hc1⟩

noncomputable def B42 : Code := bodyOf Try.f42
theorem en42 (args : Array Value) (w : World) : (callFunc 42 args).run Try.prog w = .ok (.enter 42 args) w := by kernel_rfl
theorem rFuse {I : Mem} {b : Nat} {s s2 : Rk} {e : Int} (x : Rx s) (n : Int) (hK : rfuseK s n = (e, s2)) : Turn I 42 #[ptr b 0, .int .i64 n] (rX b x) (fun _ : Rx s2 => .int .i64 e) (fun x' => rX b x') := fun I' he w0 w hc => by
  refine calls_of_CW (N := 11) Try.func42 (show _ = some B42 by kernel_rfl) (by kernel_rfl) rfl (S := [(0, ptr b 0), (1, .int .i64 n)]) (by simp) hc ?_
  show CW _ _ _ (sub [] B42) _ _ _
  refine C.seq (x := sub [0] B42) (y := sub [1] B42) ?_
  refine C.region (id := 0) (m := 1) (ops := opsOf (sub [0] B42)) rfl ?_
  refine W.pure rfl (wo rfl) rfl rfl (p_assign rfl rfl) (nf rfl) ?_
  refine W.doneQ (y := sub [1] B42) rfl ?_
  refine C.seq (x := sub [1, 0] B42) (y := sub [1, 1] B42) ?_
  refine C.seq (x := sub [1, 0, 0] B42) (y := sub [1, 0, 1] B42) ?_
  refine C.region (id := 1) (m := 2) (ops := opsOf (sub [1, 0, 0] B42)) rfl ?_
  refine W.pure rfl (wo rfl) rfl rfl (p_move rfl rfl) (nf rfl) ?_
  by_cases h1 : n < 0
  · refine W.pure rfl (wo rfl) rfl rfl (pT (decide_eq_true h1) (p_lss rfl rfl rfl)) (nf rfl) ?_
    refine W.doneQ (y := sub [1, 0, 1] B42) rfl ?_
    refine C.cond_true (x := sub [1, 0, 1, 0] B42) (y := sub [1, 0, 1, 1] B42) rfl rfl ?_
    refine C.seq (x := sub [1, 0, 1, 0, 0] B42) (y := sub [1, 0, 1, 0, 1] B42) ?_
    refine C.region (id := 2) (m := 1) (ops := opsOf (sub [1, 0, 1, 0, 0] B42)) rfl ?_
    refine W.pure rfl (wo rfl) rfl rfl (p_assign rfl rfl) (nf rfl) ?_
    refine W.doneQ (y := sub [1, 0, 1, 0, 1] B42) rfl ?_
    obtain ⟨rfl, rfl⟩ : 2 = e ∧ s = s2 := Prod.mk.inj (((show rfuseK s n = (2, s) from if_pos h1).symm.trans hK))
    exact C.ret (R := fun e w' => ∃ x' : Rx s, e = .returned (.int .i64 2) ∧ Cls w0 I' (rX b x') w') (rs := [.tmp 4]) (vs := [.int .i64 2]) rfl Try.func42 rfl rfl rfl (res_cons (ResV.tmp rfl) res_nil) fun w1 hc1 => ⟨⟨x.1, rk_same x.2 rfl rfl⟩, rfl, hc1⟩
  · refine W.pure rfl (wo rfl) rfl rfl (pF (decide_eq_false h1) (p_lss rfl rfl rfl)) (nf rfl) ?_
    refine W.doneQ (y := sub [1, 0, 1] B42) rfl ?_
    refine C.cond_false (x := sub [1, 0, 1, 0] B42) (y := sub [1, 0, 1, 1] B42) rfl rfl ?_
    refine C.skipQ (y := sub [1, 1] B42) rfl ?_
    refine C.seq (x := sub [1, 1, 0] B42) (y := sub [1, 1, 1] B42) ?_
    refine C.region (id := 3) (m := 5) (ops := opsOf (sub [1, 1, 0] B42)) rfl ?_
    refine W.pure rfl (wo rfl) rfl rfl (p_move rfl rfl) (nf rfl) ?_
    refine W.pure rfl (wo rfl) rfl rfl (p_move rfl rfl) (nf rfl) ?_
    refine W.pure rfl (wo rfl) rfl rfl (p_nilCheck rfl rfl) (nf rfl) ?_
    refine W.pure rfl (wo rfl) rfl rfl (p_fieldAddr tf73_2 rfl rfl) (nf rfl) ?_
    refine W.put rfl (wo rfl) rfl (f_st0 (k := 2) (u := .int .i64 _) ts3 rfl trivial (show 2 < 4 by decide) rfl rfl rfl) (nf rfl) ?_
    refine W.doneQ (y := sub [1, 1, 1] B42) rfl ?_
    refine C.seq (x := sub [1, 1, 1, 0] B42) (y := sub [1, 1, 1, 1] B42) ?_
    refine C.region (id := 4) (m := 1) (ops := opsOf (sub [1, 1, 1, 0] B42)) rfl ?_
    refine W.pure rfl (wo rfl) rfl rfl (p_assign rfl rfl) (nf rfl) ?_
    refine W.doneQ (y := sub [1, 1, 1, 1] B42) rfl ?_
    obtain ⟨rfl, rfl⟩ : 0 = e ∧ { s with fuse := n } = s2 := Prod.mk.inj (((show rfuseK s n = (0, { s with fuse := n }) from if_neg h1).symm.trans hK))
    exact C.ret (R := fun e w' => ∃ x' : Rx ({ s with fuse := n }), e = .returned (.int .i64 0) ∧ Cls w0 I' (rX b x') w') (rs := [.tmp 4]) (vs := [.int .i64 0]) rfl Try.func42 rfl rfl rfl (res_cons (ResV.tmp rfl) res_nil) fun w1 hc1 => ⟨⟨x.1, rk_same x.2 rfl rfl⟩, rfl, hc1⟩

noncomputable def B50 : Code := bodyOf Try.f50
theorem en50 (args : Array Value) (w : World) : (callFunc 50 args).run Try.prog w = .ok (.enter 50 args) w := by kernel_rfl
theorem rdiv_ok (w : World) (n k : Int) (hk : k ≠ 0) : Calls Try.prog 50 #[.int .i64 n, .int .i64 k] w (fun e w' => e = .returned (.tuple #[.int .i64 (divQ n k), .int .i64 (divR n k)]) ∧ Below w.heap.size w w') := by
  refine calls_of_CW (N := 31) Try.func50 (show _ = some B50 by kernel_rfl) (by kernel_rfl) rfl (S := [(0, .int .i64 n), (1, .int .i64 k)]) (by simp) (clsStart w) ?_
  show CW _ _ _ (sub [] B50) _ _ _
  refine C.seq (x := sub [0] B50) (y := sub [1] B50) ?_
  refine C.region (id := 0) (m := 2) (ops := opsOf (sub [0] B50)) rfl ?_
  refine W.pure rfl (wo rfl) rfl rfl (p_assign rfl rfl) (nf rfl) ?_
  refine W.pure rfl (wo rfl) rfl rfl (p_assign rfl rfl) (nf rfl) ?_
  refine W.doneQ (y := sub [1] B50) rfl ?_
  refine C.seq (x := sub [1, 0] B50) (y := sub [1, 1] B50) ?_
  refine C.region (id := 1) (m := 4) (ops := opsOf (sub [1, 0] B50)) rfl ?_
  refine W.pure rfl (wo rfl) rfl rfl (p_move rfl rfl) (nf rfl) ?_
  refine W.pure rfl (wo rfl) rfl rfl (p_move rfl rfl) (nf rfl) ?_
  refine W.pure rfl (wo rfl) rfl rfl (p_rem hk rfl rfl rfl) (nf rfl) ?_
  refine W.pure rfl (wo rfl) rfl rfl (p_assign rfl rfl) (nf rfl) ?_
  refine W.doneQ (y := sub [1, 1] B50) rfl ?_
  refine C.seq (x := sub [1, 1, 0] B50) (y := sub [1, 1, 1] B50) ?_
  refine C.seq (x := sub [1, 1, 0, 0] B50) (y := sub [1, 1, 0, 1] B50) ?_
  refine C.region (id := 2) (m := 2) (ops := opsOf (sub [1, 1, 0, 0] B50)) rfl ?_
  refine W.pure rfl (wo rfl) rfl rfl (p_move rfl rfl) (nf rfl) ?_
  by_cases h1 : n.tmod k < 0
  · refine W.pure rfl (wo rfl) rfl rfl (pT (decide_eq_true h1) (p_lss rfl rfl rfl)) (nf rfl) ?_
    refine W.doneQ (y := sub [1, 1, 0, 1] B50) rfl ?_
    refine C.cond_true (x := sub [1, 1, 0, 1, 0] B50) (y := sub [1, 1, 0, 1, 1] B50) rfl rfl ?_
    refine C.region (id := 3) (m := 4) (ops := opsOf (sub [1, 1, 0, 1, 0] B50)) rfl ?_
    refine W.pure rfl (wo rfl) rfl rfl (p_move rfl rfl) (nf rfl) ?_
    refine W.pure rfl (wo rfl) rfl rfl (p_move rfl rfl) (nf rfl) ?_
    refine W.pure rfl (wo rfl) rfl rfl (p_add rfl rfl rfl) (nf rfl) ?_
    refine W.pure rfl (wo rfl) rfl rfl (p_assign rfl rfl) (nf rfl) ?_
    refine W.doneQ (y := sub [1, 1, 1] B50) rfl ?_
    refine C.seq (x := sub [1, 1, 1, 0] B50) (y := sub [1, 1, 1, 1] B50) ?_
    refine C.region (id := 4) (m := 4) (ops := opsOf (sub [1, 1, 1, 0] B50)) rfl ?_
    refine W.pure rfl (wo rfl) rfl rfl (p_move rfl rfl) (nf rfl) ?_
    refine W.pure rfl (wo rfl) rfl rfl (p_move rfl rfl) (nf rfl) ?_
    refine W.pure rfl (wo rfl) rfl rfl (p_quo hk rfl rfl rfl) (nf rfl) ?_
    refine W.pure rfl (wo rfl) rfl rfl (p_assign rfl rfl) (nf rfl) ?_
    refine W.doneQ (y := sub [1, 1, 1, 1] B50) rfl ?_
    refine C.seq (x := sub [1, 1, 1, 1, 0] B50) (y := sub [1, 1, 1, 1, 1] B50) ?_
    refine C.seq (x := sub [1, 1, 1, 1, 0, 0] B50) (y := sub [1, 1, 1, 1, 0, 1] B50) ?_
    refine C.region (id := 5) (m := 8) (ops := opsOf (sub [1, 1, 1, 1, 0, 0] B50)) rfl ?_
    refine W.pure rfl (wo rfl) rfl rfl (p_move rfl rfl) (nf rfl) ?_
    by_cases h2 : n < 0
    · refine W.pure rfl (wo rfl) rfl rfl (pT (decide_eq_true h2) (p_lss rfl rfl rfl)) (nf rfl) ?_
      refine W.pure rfl (wo rfl) rfl rfl (p_move rfl rfl) (nf rfl) ?_
      refine W.pure rfl (wo rfl) rfl rfl (p_move rfl rfl) (nf rfl) ?_
      refine W.pure rfl (wo rfl) rfl rfl (p_move rfl rfl) (nf rfl) ?_
      refine W.pure rfl (wo rfl) rfl rfl (p_rem hk rfl rfl rfl) (nf rfl) ?_
      by_cases h3 : ¬ n.tmod k = 0
      · refine W.pure rfl (wo rfl) rfl rfl (pT (by simpa using h3) (p_neq rfl rfl rfl)) (nf rfl) ?_
        refine W.pure rfl (wo rfl) rfl rfl (p_pick_true rfl rfl rfl) (nf rfl) ?_
        refine W.doneQ (y := sub [1, 1, 1, 1, 0, 1] B50) rfl ?_
        refine C.cond_true (x := sub [1, 1, 1, 1, 0, 1, 0] B50) (y := sub [1, 1, 1, 1, 0, 1, 1] B50) rfl rfl ?_
        refine C.region (id := 6) (m := 3) (ops := opsOf (sub [1, 1, 1, 1, 0, 1, 0] B50)) rfl ?_
        refine W.pure rfl (wo rfl) rfl rfl (p_move rfl rfl) (nf rfl) ?_
        refine W.pure rfl (wo rfl) rfl rfl (p_sub rfl rfl rfl) (nf rfl) ?_
        refine W.pure rfl (wo rfl) rfl rfl (p_assign rfl rfl) (nf rfl) ?_
        refine W.doneQ (y := sub [1, 1, 1, 1, 1] B50) rfl ?_
        refine C.seq (x := sub [1, 1, 1, 1, 1, 0] B50) (y := sub [1, 1, 1, 1, 1, 1] B50) ?_
        refine C.region (id := 7) (m := 4) (ops := opsOf (sub [1, 1, 1, 1, 1, 0] B50)) rfl ?_
        refine W.pure rfl (wo rfl) rfl rfl (p_move rfl rfl) (nf rfl) ?_
        refine W.pure rfl (wo rfl) rfl rfl (p_move rfl rfl) (nf rfl) ?_
        refine W.pure rfl (wo rfl) rfl rfl (p_assign rfl rfl) (nf rfl) ?_
        refine W.pure rfl (wo rfl) rfl rfl (p_assign rfl rfl) (nf rfl) ?_
        refine W.doneQ (y := sub [1, 1, 1, 1, 1, 1] B50) rfl ?_
        exact C.ret (R := fun e w' => e = .returned (.tuple #[.int .i64 (divQ n k), .int .i64 (divR n k)]) ∧ Below w.heap.size w w') (rs := [.tmp 4, .tmp 5]) (vs := [.int .i64 (IntKind.i64.wrap (IntKind.i64.wrap (n.tdiv k) - 1)), .int .i64 (IntKind.i64.wrap (n.tmod k + k))]) rfl Try.func50 rfl rfl rfl (res_cons (ResV.tmp rfl) (res_cons (ResV.tmp rfl) res_nil)) fun w1 hc1 => ⟨by rw [show divQ n k = IntKind.i64.wrap (IntKind.i64.wrap (n.tdiv k) - 1) from if_pos ⟨h2, h3⟩, show divR n k = IntKind.i64.wrap (n.tmod k + k) from if_pos h1]; rfl, hc1.toBelow⟩
      · refine W.pure rfl (wo rfl) rfl rfl (pF (by simpa using h3) (p_neq rfl rfl rfl)) (nf rfl) ?_
        refine W.pure rfl (wo rfl) rfl rfl (p_pick_true rfl rfl rfl) (nf rfl) ?_
        refine W.doneQ (y := sub [1, 1, 1, 1, 0, 1] B50) rfl ?_
        refine C.cond_false (x := sub [1, 1, 1, 1, 0, 1, 0] B50) (y := sub [1, 1, 1, 1, 0, 1, 1] B50) rfl rfl ?_
        refine C.skipQ (y := sub [1, 1, 1, 1, 1] B50) rfl ?_
        refine C.seq (x := sub [1, 1, 1, 1, 1, 0] B50) (y := sub [1, 1, 1, 1, 1, 1] B50) ?_
        refine C.region (id := 7) (m := 4) (ops := opsOf (sub [1, 1, 1, 1, 1, 0] B50)) rfl ?_
        refine W.pure rfl (wo rfl) rfl rfl (p_move rfl rfl) (nf rfl) ?_
        refine W.pure rfl (wo rfl) rfl rfl (p_move rfl rfl) (nf rfl) ?_
        refine W.pure rfl (wo rfl) rfl rfl (p_assign rfl rfl) (nf rfl) ?_
        refine W.pure rfl (wo rfl) rfl rfl (p_assign rfl rfl) (nf rfl) ?_
        refine W.doneQ (y := sub [1, 1, 1, 1, 1, 1] B50) rfl ?_
        exact C.ret (R := fun e w' => e = .returned (.tuple #[.int .i64 (divQ n k), .int .i64 (divR n k)]) ∧ Below w.heap.size w w') (rs := [.tmp 4, .tmp 5]) (vs := [.int .i64 (IntKind.i64.wrap (n.tdiv k)), .int .i64 (IntKind.i64.wrap (n.tmod k + k))]) rfl Try.func50 rfl rfl rfl (res_cons (ResV.tmp rfl) (res_cons (ResV.tmp rfl) res_nil)) fun w1 hc1 => ⟨by rw [show divQ n k = IntKind.i64.wrap (n.tdiv k) from if_neg fun z => z.2 (by simpa using h3), show divR n k = IntKind.i64.wrap (n.tmod k + k) from if_pos h1]; rfl, hc1.toBelow⟩
    · refine W.pure rfl (wo rfl) rfl rfl (pF (decide_eq_false h2) (p_lss rfl rfl rfl)) (nf rfl) ?_
      refine W.pure rfl (wo rfl) rfl rfl (p_move rfl rfl) (nf rfl) ?_
      refine W.not rfl (wo rfl) rfl rfl ?_
      refine W.not rfl (wo rfl) rfl rfl ?_
      refine W.not rfl (wo rfl) rfl rfl ?_
      refine W.not rfl (wo rfl) rfl rfl ?_
      refine W.pure rfl (wo rfl) rfl rfl (p_pick_false rfl rfl rfl) (nf rfl) ?_
      refine W.doneQ (y := sub [1, 1, 1, 1, 0, 1] B50) rfl ?_
      refine C.cond_false (x := sub [1, 1, 1, 1, 0, 1, 0] B50) (y := sub [1, 1, 1, 1, 0, 1, 1] B50) rfl rfl ?_
      refine C.skipQ (y := sub [1, 1, 1, 1, 1] B50) rfl ?_
      refine C.seq (x := sub [1, 1, 1, 1, 1, 0] B50) (y := sub [1, 1, 1, 1, 1, 1] B50) ?_
      refine C.region (id := 7) (m := 4) (ops := opsOf (sub [1, 1, 1, 1, 1, 0] B50)) rfl ?_
      refine W.pure rfl (wo rfl) rfl rfl (p_move rfl rfl) (nf rfl) ?_
      refine W.pure rfl (wo rfl) rfl rfl (p_move rfl rfl) (nf rfl) ?_
      refine W.pure rfl (wo rfl) rfl rfl (p_assign rfl rfl) (nf rfl) ?_
      refine W.pure rfl (wo rfl) rfl rfl (p_assign rfl rfl) (nf rfl) ?_
      refine W.doneQ (y := sub [1, 1, 1, 1, 1, 1] B50) rfl ?_
      exact C.ret (R := fun e w' => e = .returned (.tuple #[.int .i64 (divQ n k), .int .i64 (divR n k)]) ∧ Below w.heap.size w w') (rs := [.tmp 4, .tmp 5]) (vs := [.int .i64 (IntKind.i64.wrap (n.tdiv k)), .int .i64 (IntKind.i64.wrap (n.tmod k + k))]) rfl Try.func50 rfl rfl rfl (res_cons (ResV.tmp rfl) (res_cons (ResV.tmp rfl) res_nil)) fun w1 hc1 => ⟨by rw [show divQ n k = IntKind.i64.wrap (n.tdiv k) from if_neg fun z => h2 z.1, show divR n k = IntKind.i64.wrap (n.tmod k + k) from if_pos h1]; rfl, hc1.toBelow⟩
  · refine W.pure rfl (wo rfl) rfl rfl (pF (decide_eq_false h1) (p_lss rfl rfl rfl)) (nf rfl) ?_
    refine W.doneQ (y := sub [1, 1, 0, 1] B50) rfl ?_
    refine C.cond_false (x := sub [1, 1, 0, 1, 0] B50) (y := sub [1, 1, 0, 1, 1] B50) rfl rfl ?_
    refine C.skipQ (y := sub [1, 1, 1] B50) rfl ?_
    refine C.seq (x := sub [1, 1, 1, 0] B50) (y := sub [1, 1, 1, 1] B50) ?_
    refine C.region (id := 4) (m := 4) (ops := opsOf (sub [1, 1, 1, 0] B50)) rfl ?_
    refine W.pure rfl (wo rfl) rfl rfl (p_move rfl rfl) (nf rfl) ?_
    refine W.pure rfl (wo rfl) rfl rfl (p_move rfl rfl) (nf rfl) ?_
    refine W.pure rfl (wo rfl) rfl rfl (p_quo hk rfl rfl rfl) (nf rfl) ?_
    refine W.pure rfl (wo rfl) rfl rfl (p_assign rfl rfl) (nf rfl) ?_
    refine W.doneQ (y := sub [1, 1, 1, 1] B50) rfl ?_
    refine C.seq (x := sub [1, 1, 1, 1, 0] B50) (y := sub [1, 1, 1, 1, 1] B50) ?_
    refine C.seq (x := sub [1, 1, 1, 1, 0, 0] B50) (y := sub [1, 1, 1, 1, 0, 1] B50) ?_
    refine C.region (id := 5) (m := 8) (ops := opsOf (sub [1, 1, 1, 1, 0, 0] B50)) rfl ?_
    refine W.pure rfl (wo rfl) rfl rfl (p_move rfl rfl) (nf rfl) ?_
    by_cases h2 : n < 0
    · refine W.pure rfl (wo rfl) rfl rfl (pT (decide_eq_true h2) (p_lss rfl rfl rfl)) (nf rfl) ?_
      refine W.pure rfl (wo rfl) rfl rfl (p_move rfl rfl) (nf rfl) ?_
      refine W.pure rfl (wo rfl) rfl rfl (p_move rfl rfl) (nf rfl) ?_
      refine W.pure rfl (wo rfl) rfl rfl (p_move rfl rfl) (nf rfl) ?_
      refine W.pure rfl (wo rfl) rfl rfl (p_rem hk rfl rfl rfl) (nf rfl) ?_
      by_cases h3 : ¬ n.tmod k = 0
      · refine W.pure rfl (wo rfl) rfl rfl (pT (by simpa using h3) (p_neq rfl rfl rfl)) (nf rfl) ?_
        refine W.pure rfl (wo rfl) rfl rfl (p_pick_true rfl rfl rfl) (nf rfl) ?_
        refine W.doneQ (y := sub [1, 1, 1, 1, 0, 1] B50) rfl ?_
        refine C.cond_true (x := sub [1, 1, 1, 1, 0, 1, 0] B50) (y := sub [1, 1, 1, 1, 0, 1, 1] B50) rfl rfl ?_
        refine C.region (id := 6) (m := 3) (ops := opsOf (sub [1, 1, 1, 1, 0, 1, 0] B50)) rfl ?_
        refine W.pure rfl (wo rfl) rfl rfl (p_move rfl rfl) (nf rfl) ?_
        refine W.pure rfl (wo rfl) rfl rfl (p_sub rfl rfl rfl) (nf rfl) ?_
        refine W.pure rfl (wo rfl) rfl rfl (p_assign rfl rfl) (nf rfl) ?_
        refine W.doneQ (y := sub [1, 1, 1, 1, 1] B50) rfl ?_
        refine C.seq (x := sub [1, 1, 1, 1, 1, 0] B50) (y := sub [1, 1, 1, 1, 1, 1] B50) ?_
        refine C.region (id := 7) (m := 4) (ops := opsOf (sub [1, 1, 1, 1, 1, 0] B50)) rfl ?_
        refine W.pure rfl (wo rfl) rfl rfl (p_move rfl rfl) (nf rfl) ?_
        refine W.pure rfl (wo rfl) rfl rfl (p_move rfl rfl) (nf rfl) ?_
        refine W.pure rfl (wo rfl) rfl rfl (p_assign rfl rfl) (nf rfl) ?_
        refine W.pure rfl (wo rfl) rfl rfl (p_assign rfl rfl) (nf rfl) ?_
        refine W.doneQ (y := sub [1, 1, 1, 1, 1, 1] B50) rfl ?_
        exact C.ret (R := fun e w' => e = .returned (.tuple #[.int .i64 (divQ n k), .int .i64 (divR n k)]) ∧ Below w.heap.size w w') (rs := [.tmp 4, .tmp 5]) (vs := [.int .i64 (IntKind.i64.wrap (IntKind.i64.wrap (n.tdiv k) - 1)), .int .i64 (n.tmod k)]) rfl Try.func50 rfl rfl rfl (res_cons (ResV.tmp rfl) (res_cons (ResV.tmp rfl) res_nil)) fun w1 hc1 => ⟨by rw [show divQ n k = IntKind.i64.wrap (IntKind.i64.wrap (n.tdiv k) - 1) from if_pos ⟨h2, h3⟩, show divR n k = n.tmod k from if_neg h1]; rfl, hc1.toBelow⟩
      · refine W.pure rfl (wo rfl) rfl rfl (pF (by simpa using h3) (p_neq rfl rfl rfl)) (nf rfl) ?_
        refine W.pure rfl (wo rfl) rfl rfl (p_pick_true rfl rfl rfl) (nf rfl) ?_
        refine W.doneQ (y := sub [1, 1, 1, 1, 0, 1] B50) rfl ?_
        refine C.cond_false (x := sub [1, 1, 1, 1, 0, 1, 0] B50) (y := sub [1, 1, 1, 1, 0, 1, 1] B50) rfl rfl ?_
        refine C.skipQ (y := sub [1, 1, 1, 1, 1] B50) rfl ?_
        refine C.seq (x := sub [1, 1, 1, 1, 1, 0] B50) (y := sub [1, 1, 1, 1, 1, 1] B50) ?_
        refine C.region (id := 7) (m := 4) (ops := opsOf (sub [1, 1, 1, 1, 1, 0] B50)) rfl ?_
        refine W.pure rfl (wo rfl) rfl rfl (p_move rfl rfl) (nf rfl) ?_
        refine W.pure rfl (wo rfl) rfl rfl (p_move rfl rfl) (nf rfl) ?_
        refine W.pure rfl (wo rfl) rfl rfl (p_assign rfl rfl) (nf rfl) ?_
        refine W.pure rfl (wo rfl) rfl rfl (p_assign rfl rfl) (nf rfl) ?_
        refine W.doneQ (y := sub [1, 1, 1, 1, 1, 1] B50) rfl ?_
        exact C.ret (R := fun e w' => e = .returned (.tuple #[.int .i64 (divQ n k), .int .i64 (divR n k)]) ∧ Below w.heap.size w w') (rs := [.tmp 4, .tmp 5]) (vs := [.int .i64 (IntKind.i64.wrap (n.tdiv k)), .int .i64 (n.tmod k)]) rfl Try.func50 rfl rfl rfl (res_cons (ResV.tmp rfl) (res_cons (ResV.tmp rfl) res_nil)) fun w1 hc1 => ⟨by rw [show divQ n k = IntKind.i64.wrap (n.tdiv k) from if_neg fun z => z.2 (by simpa using h3), show divR n k = n.tmod k from if_neg h1]; rfl, hc1.toBelow⟩
    · refine W.pure rfl (wo rfl) rfl rfl (pF (decide_eq_false h2) (p_lss rfl rfl rfl)) (nf rfl) ?_
      refine W.pure rfl (wo rfl) rfl rfl (p_move rfl rfl) (nf rfl) ?_
      refine W.not rfl (wo rfl) rfl rfl ?_
      refine W.not rfl (wo rfl) rfl rfl ?_
      refine W.not rfl (wo rfl) rfl rfl ?_
      refine W.not rfl (wo rfl) rfl rfl ?_
      refine W.pure rfl (wo rfl) rfl rfl (p_pick_false rfl rfl rfl) (nf rfl) ?_
      refine W.doneQ (y := sub [1, 1, 1, 1, 0, 1] B50) rfl ?_
      refine C.cond_false (x := sub [1, 1, 1, 1, 0, 1, 0] B50) (y := sub [1, 1, 1, 1, 0, 1, 1] B50) rfl rfl ?_
      refine C.skipQ (y := sub [1, 1, 1, 1, 1] B50) rfl ?_
      refine C.seq (x := sub [1, 1, 1, 1, 1, 0] B50) (y := sub [1, 1, 1, 1, 1, 1] B50) ?_
      refine C.region (id := 7) (m := 4) (ops := opsOf (sub [1, 1, 1, 1, 1, 0] B50)) rfl ?_
      refine W.pure rfl (wo rfl) rfl rfl (p_move rfl rfl) (nf rfl) ?_
      refine W.pure rfl (wo rfl) rfl rfl (p_move rfl rfl) (nf rfl) ?_
      refine W.pure rfl (wo rfl) rfl rfl (p_assign rfl rfl) (nf rfl) ?_
      refine W.pure rfl (wo rfl) rfl rfl (p_assign rfl rfl) (nf rfl) ?_
      refine W.doneQ (y := sub [1, 1, 1, 1, 1, 1] B50) rfl ?_
      exact C.ret (R := fun e w' => e = .returned (.tuple #[.int .i64 (divQ n k), .int .i64 (divR n k)]) ∧ Below w.heap.size w w') (rs := [.tmp 4, .tmp 5]) (vs := [.int .i64 (IntKind.i64.wrap (n.tdiv k)), .int .i64 (n.tmod k)]) rfl Try.func50 rfl rfl rfl (res_cons (ResV.tmp rfl) (res_cons (ResV.tmp rfl) res_nil)) fun w1 hc1 => ⟨by rw [show divQ n k = IntKind.i64.wrap (n.tdiv k) from if_neg fun z => h2 z.1, show divR n k = n.tmod k from if_neg h1]; rfl, hc1.toBelow⟩

end Go.Proofs.Ytjomnicfcdkfdaa
end

section
namespace Go.Proofs.Ytjomnicfcdkfdaa
open Go Go.HW Go.RowKit
set_option linter.unusedVariables false
set_option linter.unusedSimpArgs false

def lastR (g : Rg) (r0 : Rw) (n : Int) : Nat → Rw
  | 0 => r0
  | i + 1 => match g.Ls[i]? with
    | none => lastR g r0 n i
    | some p => if p.1 = n then p.2 else lastR g r0 n i
theorem lastR_hit {g : Rg} {r0 : Rw} {n : Int} {i : Nat} {p : Int × Rw} (h : g.Ls[i]? = some p) (he : p.1 = n) : lastR g r0 n (i + 1) = p.2 := by simp only [lastR, h]; rw [if_pos he]
theorem lastR_miss {g : Rg} {r0 : Rw} {n : Int} {i : Nat} {p : Int × Rw} (h : g.Ls[i]? = some p) (he : ¬ p.1 = n) : lastR g r0 n (i + 1) = lastR g r0 n i := by simp only [lastR, h]; rw [if_neg he]
theorem lastR_ok {b : Nat} {g : Rg} {s : Rk} (h : RkO g s) {r0 : Rw} (h0 : r0 ∈ g.Bs) (n : Int) : ∀ i, rwOk (lastR g r0 n i) ∧ rwE (lastR g r0 n i) ∈ rkH b g s
  | 0 => ⟨h.rB _ h0, mem_B h0⟩
  | i + 1 => by
    unfold lastR
    cases e : g.Ls[i]? with
    | none => exact lastR_ok h h0 n i
    | some p =>
      simp only
      by_cases c : p.1 = n
      · rw [if_pos c]; exact ⟨h.rL p (List.mem_of_getElem? e), mem_L (List.mem_of_getElem? e)⟩
      · rw [if_neg c]; exact lastR_ok h h0 n i
theorem lastR_eq {g : Rg} {s : Rk} (h : RkO g s) (r0 : Rw) (n : Int) : ∀ i, (lastR g r0 n i).2.2 = (lfind (s.L.take i).reverse n).getD r0.2.2
  | 0 => rfl
  | i + 1 => by
    have ih := lastR_eq h r0 n i
    rw [List.take_add_one, h.sL, List.getElem?_map]
    cases e : g.Ls[i]? with
    | none =>
      have : lastR g r0 n (i + 1) = lastR g r0 n i := by simp only [lastR, e]
      rw [this, ih, h.sL]; simp
    | some p =>
      rw [List.reverse_append]
      show _ = (if (p.1 == n) = true then some p.2.2.2 else lfind _ n).getD r0.2.2
      by_cases c : p.1 = n
      · rw [lastR_hit e c, if_pos (by simpa using c)]; rfl
      · rw [lastR_miss e c, if_neg (by simpa using c), ih, h.sL]; rfl
theorem lastR_rrd {g : Rg} {s : Rk} (h : RkO g s) {r0 : Rw} {n : Int} (h0 : g.Bs[n.toNat]? = some r0) : (lastR g r0 n g.Ls.length).2.2 = rrd s n := by
  rw [lastR_eq h]
  have e1 : s.L.take g.Ls.length = s.L := List.take_of_length_le (by rw [h.sL, List.length_map]; exact Nat.le_refl _)
  have e2 : s.B.getD n.toNat [] = r0.2.2 := by rw [h.sB, List.getD_eq_getElem?_getD, List.getElem?_map, h0]; rfl
  rw [e1]; unfold rrd; rw [e2]
theorem hasL_iff {n : Nat} {i : Int} (h : hasL n i = true) : 0 ≤ i ∧ i < (n : Int) := of_decide_eq_true h
theorem B_len {g : Rg} {s : Rk} (h : RkO g s) : s.B.length = g.Bs.length := by rw [h.sB, List.length_map]
theorem L_len {g : Rg} {s : Rk} (h : RkO g s) : s.L.length = g.Ls.length := by rw [h.sL, List.length_map]
theorem has_row {g : Rg} {s : Rk} (h : RkO g s) {n : Int} (hn : hasL s.B.length n = true) : ∃ r, g.Bs[n.toNat]? = some r ∧ r ∈ g.Bs := by
  obtain ⟨h0, h1⟩ := hasL_iff hn
  rw [B_len h] at h1
  have : n.toNat < g.Bs.length := by omega
  exact ⟨_, List.getElem?_eq_getElem this, List.getElem_mem this⟩
theorem rk_setB {g : Rg} {s : Rk} (h : RkO g s) {r' : Rw} (hr : rwOk r') {n : Nat} (hn : n < g.Bs.length) : RkO { g with cB := g.cB.setIfInBounds n r'.1, Bs := g.Bs.set n r' } { s with B := s.B.set n r'.2.2 } := by
  refine ⟨?_, h.hL, fun r hm => ?_, h.rL, ?_, h.sL, ?_⟩
  · have := h.hB.set (j := n) (q := r'.1) (by omega)
    show OwnV g.vB _ 1 (g.Bs.set n r').length ((g.Bs.set n r').map (·.1))
    rw [List.length_set, List.map_set]; exact this
  · rcases List.mem_or_eq_of_mem_set hm with hm | rfl
    · exact h.rB r hm
    · exact hr
  · show s.B.set n r'.2.2 = (g.Bs.set n r').map (·.2.2)
    rw [List.map_set, h.sB]
  · intro p hp
    show 0 ≤ p.1 ∧ p.1 < ((g.Bs.set n r').length : Int)
    rw [List.length_set]; exact h.ok p hp
theorem rk_pushL {g : Rg} {s : Rk} (h : RkO g s) {r' : Rw} (hr : rwOk r') {n : Int} (hn : 0 ≤ n ∧ n < (g.Bs.length : Int)) {v : Value} {c : Array Value} (hz : OwnV v c 2 (g.Ls.length + 1) (lcells g.Ls ++ [.int .i64 n, r'.1])) :
    RkO { g with vL := v, cL := c, Ls := g.Ls ++ [(n, r')] } { s with L := s.L ++ [(n, r'.2.2)] } := by
  refine ⟨h.hB, ?_, h.rB, fun p hp => ?_, h.sB, ?_, fun p hp => ?_⟩
  · show OwnV v c 2 (g.Ls ++ [(n, r')]).length (lcells (g.Ls ++ [(n, r')]))
    rw [List.length_append, lcells_app]; exact hz
  · rcases List.mem_append.1 hp with hp | hp
    · exact h.rL p hp
    · rw [List.mem_singleton.1 hp]; exact hr
  · show s.L ++ [(n, r'.2.2)] = (g.Ls ++ [(n, r')]).map _
    rw [List.map_append, h.sL]; rfl
  · rcases List.mem_append.1 hp with hp | hp
    · exact h.ok p hp
    · rw [List.mem_singleton.1 hp]; exact hn
theorem rk_nilL {g : Rg} {s : Rk} (h : RkO g s) : RkO { g with vL := .slice none 0 0, cL := #[], Ls := [] } { s with L := [] } := ⟨h.hB, OwnV.nil 2, h.rB, fun p hp => (by cases hp), h.sB, rfl, fun p hp => (by cases hp)⟩
section
variable {w0 : World} {I : Mem} {R : Heap} {w : World}
theorem cls_nilL {b : Nat} {g : Rg} {s s' : Rk} (h : Cls w0 I (rk0 b { g with vL := .slice none 0 0, cL := #[], Ls := [] } s' :: (g.vB.ownBlock, .cells g.cB 32 (0, 0)) :: (g.vL.ownBlock, .cells g.cL 80 (0, 0)) :: (rkT g ++ R)) w) : Cls w0 I (rkH b { g with vL := .slice none 0 0, cL := #[], Ls := [] } s' ++ R) w := by
  have h1 : Cls w0 I (rk0 b { g with vL := .slice none 0 0, cL := #[], Ls := [] } s' :: (g.vB.ownBlock, .cells g.cB 32 (0, 0)) :: (g.Bs.map rwE ++ R)) w := by
    refine h.fewer (List.Sublist.cons_cons _ (List.Sublist.cons_cons _ (List.Sublist.cons _ ?_)))
    unfold rkT
    rw [List.append_assoc]
    exact List.Sublist.append (List.Sublist.refl _) (List.sublist_append_right _ _)
  have h2 := cls_addNil (o := .cells #[] 80 (0, 0)) h1
  refine h2.perm ?_
  show ((none, Obj.cells #[] 80 (0, 0)) :: _ :: _ :: (g.Bs.map rwE ++ R)).Perm (_ :: _ :: (none, Obj.cells #[] 80 (0, 0)) :: (rkT _ ++ R))
  have e : rkT { g with vL := .slice none 0 0, cL := #[], Ls := [] } = g.Bs.map rwE := by unfold rkT; simp
  rw [e]
  refine (List.Perm.swap _ _ _).trans (List.Perm.cons _ ?_)
  exact List.Perm.swap _ _ _
/-- a write's row comes behind the others -/
theorem cls_pushL {b : Nat} {g : Rg} {s' : Rk} {x : Option Nat × Obj} {r' : Rw} {n : Int} {v : Value} {c : Array Value} (h : Cls w0 I (x :: rwE r' :: rk0 b { g with vL := v, cL := c, Ls := g.Ls ++ [(n, r')] } s' :: (g.vB.ownBlock, .cells g.cB 32 (0, 0)) :: (v.ownBlock, .cells c 80 (0, 0)) :: (rkT g ++ R)) w) : Cls w0 I (rkH b { g with vL := v, cL := c, Ls := g.Ls ++ [(n, r')] } s' ++ R) w := by
  refine (h.tail).perm ?_
  show (rwE r' :: _ :: _ :: _ :: (rkT g ++ R)).Perm (_ :: _ :: _ :: (rkT _ ++ R))
  have e : rkT { g with vL := v, cL := c, Ls := g.Ls ++ [(n, r')] } = rkT g ++ [rwE r'] := by unfold rkT; simp
  rw [e]
  refine (List.Perm.swap _ _ _).trans (List.Perm.cons _ ?_)
  refine (List.Perm.swap _ _ _).trans (List.Perm.cons _ ?_)
  refine (List.Perm.swap _ _ _).trans (List.Perm.cons _ ?_)
  rw [List.append_assoc]
  exact (List.perm_middle (l₁ := rkT g) (a := rwE r') (l₂ := R)).symm
/-- a new row in an old one's place -/
theorem cls_setB {b n : Nat} {g : Rg} {s s' : Rk} {r r' : Rw} (hr : g.Bs[n]? = some r) (hs : s'.fuse = s.fuse ∧ s'.dead = s.dead) {cB : Array Value} (h : Cls w0 I (rwE r' :: rk0 b g s :: (g.vB.ownBlock, .cells cB 32 (0, 0)) :: (g.vL.ownBlock, .cells g.cL 80 (0, 0)) :: (rkT g ++ R)) w) : Cls w0 I (rkH b { g with cB := cB, Bs := g.Bs.set n r' } s' ++ R) w := by
  have p := set_rows (b := b) (r' := r') hr cB s' hs
  have h2 : Cls w0 I ((rwE r' :: (rkH b g s).set 1 (g.vB.ownBlock, .cells cB 32 (0, 0))) ++ R) w := h
  exact (h2.perm (p.append_right R)).tail
end
theorem rkH_setB {b n : Nat} {g : Rg} {s : Rk} {r' : Rw} (hn : n < g.Bs.length) : (rkH b g s).set (n + 3) (rwE r') = rkH b { g with Bs := g.Bs.set n r' } s := by
  show _ :: _ :: _ :: (rkT g).set n (rwE r') = _ :: _ :: _ :: rkT _
  unfold rkT
  rw [List.set_append, if_pos (by rw [List.length_map]; exact hn), List.map_set]; rfl
theorem rkH_setL {b i : Nat} {g : Rg} {s : Rk} {p : Int × Rw} {r' : Rw} (hp : g.Ls[i]? = some p) : (rkH b g s).set (g.Bs.length + i + 3) (rwE r') = rkH b { g with Ls := g.Ls.set i (p.1, r') } s := by
  show _ :: _ :: _ :: (rkT g).set (g.Bs.length + i) (rwE r') = _ :: _ :: _ :: rkT _
  unfold rkT
  rw [List.set_append, if_neg (by rw [List.length_map]; omega), List.length_map, Nat.add_sub_cancel_left]
  have e : (g.Ls.map fun p => rwE p.2).set i (rwE r') = (g.Ls.set i (p.1, r')).map fun p => rwE p.2 := by rw [List.map_set]
  rw [e]; rfl
theorem rk_edB {g : Rg} {s : Rk} (h : RkO g s) {r : Rw} {n : Nat} (hn : g.Bs[n]? = some r) {j : Nat} (hj : j < 512) (z : Int) : RkO { g with Bs := g.Bs.set n (r.1, r.2.1.setIfInBounds j (.int .u8 z), r.2.2.set j z) } { s with B := s.B.set n (r.2.2.set j z) } := by
  have hl := (List.getElem?_eq_some_iff.1 hn).1
  have hr := h.rB r (List.mem_of_getElem? hn)
  refine ⟨?_, h.hL, fun q hm => ?_, h.rL, ?_, h.sL, ?_⟩
  · show OwnV g.vB g.cB 1 (g.Bs.set n _).length ((g.Bs.set n _).map (·.1))
    rw [List.length_set, List.map_set]
    have e : (g.Bs.map (·.1)).set n r.1 = g.Bs.map (·.1) := by
      apply List.ext_getElem?
      intro i
      rw [List.getElem?_set]
      by_cases c : n = i
      · subst c; rw [if_pos rfl, if_pos (by rw [List.length_map]; exact hl), List.getElem?_map, hn]; rfl
      · rw [if_neg c]
    show OwnV g.vB g.cB 1 g.Bs.length ((g.Bs.map (·.1)).set n r.1)
    rw [e]; exact h.hB
  · rcases List.mem_or_eq_of_mem_set hm with hm | rfl
    · exact h.rB q hm
    · exact ⟨hr.1.set (by rw [hr.2]; exact hj) z, by simp [hr.2]⟩
  · show s.B.set n (r.2.2.set j z) = (g.Bs.set n _).map (·.2.2)
    rw [List.map_set, h.sB]
  · intro p hp
    show 0 ≤ p.1 ∧ p.1 < ((g.Bs.set n _).length : Int)
    rw [List.length_set]; exact h.ok p hp
theorem rk_edL {g : Rg} {s : Rk} (h : RkO g s) {p : Int × Rw} {i : Nat} (hp : g.Ls[i]? = some p) {j : Nat} (hj : j < 512) (z : Int) : RkO { g with Ls := g.Ls.set i (p.1, (p.2.1, p.2.2.1.setIfInBounds j (.int .u8 z), p.2.2.2.set j z)) } { s with L := s.L.set i (p.1, p.2.2.2.set j z) } := by
  have hr := h.rL p (List.mem_of_getElem? hp)
  refine ⟨h.hB, ?_, h.rB, fun q hm => ?_, h.sB, ?_, fun q hm => ?_⟩
  · show OwnV g.vL g.cL 2 (g.Ls.set i _).length (lcells (g.Ls.set i _))
    rw [List.length_set, lcells_set (r := (p.2.1, p.2.2.1.setIfInBounds j (.int .u8 z), p.2.2.2.set j z)) hp rfl]; exact h.hL
  · rcases List.mem_or_eq_of_mem_set hm with hm | rfl
    · exact h.rL q hm
    · exact ⟨hr.1.set (by rw [hr.2]; exact hj) z, by simp [hr.2]⟩
  · show s.L.set i _ = (g.Ls.set i _).map _
    rw [List.map_set, h.sL]
  · rcases List.mem_or_eq_of_mem_set hm with hm | rfl
    · exact h.ok q hm
    · exact h.ok p (List.mem_of_getElem? hp)
end Go.Proofs.Ytjomnicfcdkfdaa
end
