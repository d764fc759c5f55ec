import Derived.Test.YtjomnicfcdkfdaaDkRd
namespace Go.Proofs.Ytjomnicfcdkfdaa
open Go Go.HW Go.RowKit
set_option linter.unusedVariables false
set_option linter.unusedSimpArgs false

/-- A disk, as it stands in memory. -/
structure DkM (M : Mem) (b m : Nat) (v : Value) (s : Dk) : Prop where
  hb : M b = some (.cells #[.int .i64 s.n, .map (some m), v, .int .i64 s.fuse, .bool s.armed, .bool s.dead] 61 (0, 0))
  hm : M m = some (dmap s.set)
  hr : RowS ShWr M v s.late
  hs : Full s.set
theorem DkM.mono {M M' : Mem} {b m : Nat} {v : Value} {s : Dk} (h : DkM M b m v s) (he : Ext M M') : DkM M' b m v s := ⟨he _ _ h.hb, he _ _ h.hm, h.hr.mono he, h.hs⟩
def lfind : List Wr → Int → Option (List Int)
  | [], _ => none
  | (a, b) :: r, k => if a == k then some b else lfind r k
/-- A block as it was written last. -/
def rd (s : Dk) (n : Int) : List Int := (lfind s.late.reverse n).getD (mget s.set n)

theorem seqStops {F : Fence} {n : Nat} (hF : Wide F) (hro : F.round = none) (Bs : Nat) (v : Value) (zs : List W5) (hz : zs.length ≤ 1099511627776) (w : World) (M : Mem) (hM : ∀ b o, M b = some o → b < w.heap.size) (hW : Imm M w) (hBs : M Bs = some (.cells #[v] 59 (0, 0))) (hr : RowS ShWr M v (zs.map (·.1))) :
    SeqStopsK F n Try.prog 51 #[ptr Bs 0] (fun x : Int × W5 => #[.int .i64 x.1, .agg (wrc x.2.1)]) (Below w.heap.size) (fun xs => xs = upto (bk zs) zs.length) (fun pre => ∃ k, k ≤ zs.length ∧ pre = upto (bk zs) k) zs.length w := by
  intro l J Jx W hb _ _ hY h0
  have himm : Imm M W := fun b o e => by rw [hb.block b (hM b o e)]; exact hW b o e
  refine (back1 hF hro l Bs w.heap.size v zs hz J Jx hY W M hM himm hBs hr h0).mono ?_
  rintro e W' ⟨he, hj | ⟨k, hk, hj⟩⟩
  · exact ⟨he, .inl ⟨_, rfl, hj⟩⟩
  · exact ⟨he, .inr ⟨_, ⟨k, hk, rfl⟩, hj⟩⟩
theorem cls_grown {w0 W W' : World} {I : Mem} {H : Heap} {row : Option Nat} {B : Nat} (h : Cls w0 I H W) (hI : ∀ b o, I b = some o → b < B) (hH : ∀ b o, (some b, o) ∈ H → b < B) (hg : W.grownBy W' row) (hr : ∀ r, row = some r → B ≤ r) : Cls w0 I H W' := by
  have hne : ∀ b, b < B → some b ≠ row := fun b hb e => by have := hr b e.symm; omega
  exact ⟨hg.os.trans h.os, hg.tape.trans h.tape, hg.output.trans h.output, Nat.le_trans h.size hg.size, fun b o e => by rw [hg.block b (lt_of_get (h.imm b o e)) (hne b (hI b o e))]; exact h.imm b o e,
    fun b o e => by rw [hg.block b (lt_of_get (h.own b o e)) (hne b (hH b o e))]; exact h.own b o e, h.disj, h.nodup⟩

theorem tz62 (w : World) : (zeroValue 62).run Try.prog w = .ok (Blk zeros) w := by kernel_rfl
theorem tz64 (w : World) : (zeroValue 64).run Try.prog w = .ok (.agg (wrc (0, zeros))) w := by kernel_rfl
theorem ta62 (w : World) : (isAgg 62).run Try.prog w = .ok true w := by kernel_rfl
theorem ts62 (w : World) : (sizeOf 62).run Try.prog w = .ok 512 w := by kernel_rfl
theorem ta3 (w : World) : (isAgg 3).run Try.prog w = .ok false w := by kernel_rfl
theorem ta58 (w : World) : (isAgg 58).run Try.prog w = .ok false w := by kernel_rfl
theorem tu58 (w : World) : (underlying 58).run Try.prog w = .ok (.map 3 62) w := by kernel_rfl
theorem tu3 (w : World) : (underlying 3).run Try.prog w = .ok (.int .i64) w := by kernel_rfl
theorem tf61_0 (a : Addr) (w : World) : (Instr.fieldAt 61 (.pointer (some a)) 0).run Try.prog w = .ok (.pointer (some (a.add 0))) w := by kernel_rfl
theorem tf61_1 (a : Addr) (w : World) : (Instr.fieldAt 61 (.pointer (some a)) 1).run Try.prog w = .ok (.pointer (some (a.add 1))) w := by kernel_rfl
theorem tf61_2 (a : Addr) (w : World) : (Instr.fieldAt 61 (.pointer (some a)) 2).run Try.prog w = .ok (.pointer (some (a.add 2))) w := by kernel_rfl
theorem tf61_3 (a : Addr) (w : World) : (Instr.fieldAt 61 (.pointer (some a)) 3).run Try.prog w = .ok (.pointer (some (a.add 3))) w := by kernel_rfl
theorem tf61_4 (a : Addr) (w : World) : (Instr.fieldAt 61 (.pointer (some a)) 4).run Try.prog w = .ok (.pointer (some (a.add 4))) w := by kernel_rfl
theorem tf61_5 (a : Addr) (w : World) : (Instr.fieldAt 61 (.pointer (some a)) 5).run Try.prog w = .ok (.pointer (some (a.add 5))) w := by kernel_rfl
theorem tf64_0 (a : Addr) (w : World) : (Instr.fieldAt 64 (.pointer (some a)) 0).run Try.prog w = .ok (.pointer (some (a.add 0))) w := by kernel_rfl
theorem tf64_1 (a : Addr) (w : World) : (Instr.fieldAt 64 (.pointer (some a)) 1).run Try.prog w = .ok (.pointer (some (a.add 1))) w := by kernel_rfl
theorem mixedT : Try.prog.follows .mixedOrders = true := by kernel_rfl
theorem wrc_size {x : Wr} (h : x.2.length = 512) : (wrc x).size = 513 := by simp [wrc, enc_size, h]
theorem wrc_drop {x : Wr} (h : x.2.length = 512) : ((wrc x).toList.drop 1).take 512 = encl .u8 x.2 := by
  simp only [wrc, Array.toList_append, List.cons_append, List.nil_append, List.drop_succ_cons, List.drop_zero]
  rw [List.take_of_length_le (by simp [enc, h])]
  simp [enc, encl]
theorem wrc_one {x : Wr} : ∀ u ∈ (wrc x).toList, OneCell u := fun u hu => by
  simp only [wrc, Array.toList_append, List.mem_append] at hu
  rcases hu with hu | hu
  · simp at hu; subst hu; trivial
  · exact enc_oneCell _ _ u hu
/-! #### a region that draws its order, with calls that are deferred -/
section
variable {D : List Deferred} {N : Nat} {S : Slots} {P : Program} {w0 : World} {I : Mem} {H : Heap} {ops : Array Oper} {lab : Lab} {ids : Nat → Option Nat} {l : List Nat} {i d : Nat} {o : Oper} {v : Value} {Q : Act → Heap → Prop}
def DE (P : Program) (D : List Deferred) (N : Nat) (w0 : World) (I : Mem) (ops : Array Oper) (lab : Lab) (ids : Nat → Option Nat) (Q : Act → Heap → Prop) (l : List Nat) (S : Slots) (H : Heap) : Prop := ∀ a, AgreeD D N S a → listD P ops w0 I lab ids Q l a H
theorem DE.imm (hi : ops[i]? = some o) (hg : o.guard = none) (hd : o.dst = some d) (hN : Nat.blt d N = true) (hk : (lab i).1 = .pure) (hp : FImm P o I S v) (h : DE P D N w0 I ops lab ids Q l ((d, v) :: S) H) : DE P D N w0 I ops lab ids Q (i :: l) S H := fun a ha => by
  show stepD P ops w0 I lab ids i _ a H
  unfold stepD
  rw [hi]
  intro _
  exact ⟨.val v, .inl ⟨by simp [Region.wanted, hg], .inl ⟨hk, hp _ ha.val⟩⟩, by show listD _ _ _ _ _ _ _ _ _ _; rw [hd]; exact h _ (ha.put (by simpa [Nat.blt_eq] using hN) v)⟩
theorem DE.put {H' : Heap} (hi : ops[i]? = some o) (hg : o.guard = none) (hd : o.dst = none) (hk : (lab i).1 = .store) (hn : (lab i).2 = none) (hp : FPut P o w0 I S H H') (h : DE P D N w0 I ops lab ids Q l S H') : DE P D N w0 I ops lab ids Q (i :: l) S H := fun a ha => by
  show stepD P ops w0 I lab ids i _ a H
  unfold stepD
  rw [hi]
  intro _
  exact ⟨.put H', .inl ⟨by simp [Region.wanted, hg], hk, fun w hc => hp _ ha.val w hc, keep_none hn⟩, by show listD _ _ _ _ _ _ _ _ _ _; rw [hd]; exact h _ (show AgreeD D N S (a.put none undef) from ha)⟩
end

/-! #### what came, and what is found -/
theorem bk_upto (zs : List W5) : ∀ k, k ≤ zs.length → (upto (bk zs) k).map (fun p => p.2.1) = (zs.reverse.take k).map (·.1)
  | 0, _ => rfl
  | k + 1, h => by
    rw [upto_succ, List.map_append, bk_upto zs k (by omega), List.take_add_one, List.map_append]
    congr 1
    have hlt : k < zs.reverse.length := by simp; omega
    rw [List.getElem?_eq_getElem hlt]
    simp only [List.map_cons, List.map_nil, Option.toList_some, List.cons.injEq, and_true]
    rw [List.getElem_reverse]
    have h2 : zs.length - 1 - k < zs.length := by omega
    simp [bk, List.getElem?_eq_getElem h2]
theorem lfind_none : ∀ {l : List Wr} {n : Int}, (∀ p ∈ l, p.1 ≠ n) → lfind l n = none
  | [], _, _ => rfl
  | (a, b) :: r, n, h => by
    have h1 : ¬ a = n := h (a, b) (by simp)
    unfold lfind
    rw [if_neg (by simpa using h1)]
    exact lfind_none fun p hp => h p (by simp [hp])
theorem lfind_some : ∀ {l1 l2 : List Wr} {n : Int} {b : List Int}, (∀ p ∈ l1, p.1 ≠ n) → lfind (l1 ++ (n, b) :: l2) n = some b
  | [], l2, n, b, _ => by simp [lfind]
  | (a, c) :: r, l2, n, b, h => by
    have h1 : ¬ a = n := h (a, c) (by simp)
    simp only [List.cons_append, lfind]
    rw [if_neg (by simpa using h1)]
    exact lfind_some fun p hp => h p (by simp [hp])

end Go.Proofs.Ytjomnicfcdkfdaa
