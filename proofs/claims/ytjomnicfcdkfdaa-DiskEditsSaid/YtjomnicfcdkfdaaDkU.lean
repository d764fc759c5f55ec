import Derived.Test.YtjomnicfcdkfdaaDkP
namespace Go.Proofs.Ytjomnicfcdkfdaa
open Go Go.HW Go.RowKit
set_option linter.unusedVariables false
set_option linter.unusedSimpArgs false

/-! ### bytes stay bytes; a change and its undoing -/
def Byt (b : List Int) : Prop := ∀ x ∈ b, 0 ≤ x ∧ x ≤ 255
def BytL (l : List Wr) : Prop := ∀ p ∈ l, Byt p.2
structure BD (s : Dk) : Prop where
  set : BytL s.set
  late : BytL s.late
theorem u8_rng (n : Int) : 0 ≤ IntKind.u8.wrap n ∧ IntKind.u8.wrap n ≤ 255 := by rw [IntKind.wrap_u8]; omega
theorem byt_zeros : Byt zeros := fun x hx => by
  have := List.eq_of_mem_replicate hx; omega
theorem byt_block (f : Int) (n : Nat) : Byt (blockL f n) := fun x hx => by
  obtain ⟨i, _, rfl⟩ := List.mem_map.1 hx; exact u8_rng _
theorem byt_set {b : List Int} (h : Byt b) (i : Nat) {x : Int} (hx : 0 ≤ x ∧ x ≤ 255) : Byt (b.set i x) := fun y hy => by
  rcases List.mem_or_eq_of_mem_set hy with hy | rfl
  · exact h y hy
  · exact hx
theorem byt_xorAt {b : List Int} (h : Byt b) (a x : Int) : Byt (xorAt b a x) := byt_set h _ (u8_rng _)
theorem mput_byt {l : List Wr} (h : BytL l) {k : Int} {b : List Int} (hb : Byt b) : BytL (mput l k b) := by
  induction l with
  | nil => intro p hp; simp [mput] at hp; subst hp; exact hb
  | cons q r ih =>
    obtain ⟨a, c⟩ := q
    have hr : BytL r := fun p hp => h p (by simp [hp])
    unfold mput
    split
    · intro p hp
      rcases List.mem_cons.1 hp with rfl | hp
      · exact hb
      · exact hr p hp
    · intro p hp
      rcases List.mem_cons.1 hp with rfl | hp
      · exact h _ (by simp)
      · exact ih hr p hp
theorem mget_byt {l : List Wr} (h : BytL l) (k : Int) : Byt (mget l k) := by
  induction l with
  | nil => exact byt_zeros
  | cons p r ih =>
    obtain ⟨a, b⟩ := p
    unfold mget
    split
    · exact h (a, b) (by simp)
    · exact ih fun p hp => h p (by simp [hp])
theorem fold_byt : ∀ {l : List Wr} {m : List Wr}, BytL l → BytL m → BytL (l.foldl (fun l w => mput l w.1 w.2) m)
  | [], _, _, hm => hm
  | p :: l, m, hl, hm => fold_byt (l := l) (fun q hq => hl q (by simp [hq])) (mput_byt hm (hl p (by simp)))
theorem stepK_BD {s : Dk} (h : BD s) : BD (stepK s).2 := ⟨by rw [stepK_set']; exact h.set, by rw [stepK_late']; exact h.late⟩
theorem writeK_BD {s : Dk} (h : BD s) (n : Int) {xs : List Int} (hx : Byt xs) : BD (writeK s n xs).2 := by
  unfold writeK
  by_cases c1 : hasD s n = false
  · rw [if_pos c1]; exact h
  rw [if_neg c1]
  by_cases c2 : ¬ xs.length = 512
  · rw [if_pos c2]; exact h
  rw [if_neg c2]
  by_cases c3 : (stepK s).1 = 14
  · rw [if_pos c3]; exact stepK_BD h
  rw [if_neg c3]
  exact ⟨(stepK_BD h).set, fun p hp => by
    rcases List.mem_append.1 hp with hp | hp
    · exact (stepK_BD h).late p hp
    · rw [List.mem_singleton.1 hp]; exact hx⟩
theorem syncK_BD {s : Dk} (h : BD s) : BD (syncK s).2 := by
  unfold syncK
  by_cases c : (stepK s).1 = 0
  · rw [if_pos c]
    exact ⟨fold_byt (fun p hp => (stepK_BD h).late p (List.mem_of_mem_take hp)) (stepK_BD h).set, fun p hp => by cases hp⟩
  · rw [if_neg c]; exact stepK_BD h
theorem setFuseK_BD {s : Dk} (h : BD s) (n : Int) : BD (setFuseK s n).2 := by
  unfold setFuseK
  by_cases c : n < 0
  · rw [if_pos c]; exact h
  · rw [if_neg c]; exact ⟨h.set, h.late⟩
theorem byt_take {b : List Int} (h : Byt b) (n : Nat) : Byt (b.take n) := fun x hx => h x (List.mem_of_mem_take hx)
theorem byt_drop {b : List Int} (h : Byt b) (n : Nat) : Byt (b.drop n) := fun x hx => h x (List.mem_of_mem_drop hx)
theorem byt_app {a b : List Int} (h : Byt a) (h2 : Byt b) : Byt (a ++ b) := fun x hx => by
  rcases List.mem_append.1 hx with hx | hx
  · exact h x hx
  · exact h2 x hx
theorem crK_byt {s : Dk} (h : BD s) (picks : List Int) : ∀ k, BytL (crK s picks k)
  | 0 => h.set
  | k + 1 => by
    unfold crK
    cases e : s.late[k]? with
    | none => exact crK_byt h picks k
    | some w =>
      simp only
      by_cases c : howK (picks.getD k 0) = 0
      · rw [if_pos c]; exact crK_byt h picks k
      · rw [if_neg c]
        exact mput_byt (crK_byt h picks k) (byt_app (byt_take (h.late w (List.mem_of_getElem? e)) _) (byt_drop (mget_byt (crK_byt h picks k) _) _))
theorem crashK_BD {s : Dk} (h : BD s) (picks : List Int) : BD (crashK s picks) := ⟨crK_byt h picks _, fun p hp => by cases hp⟩
theorem editK_BD {s : Dk} (h : BD s) (n a x : Int) : BD (editK s n a x).2 := by
  unfold editK
  by_cases c1 : hasD s n = false
  · rw [if_pos c1]; exact h
  rw [if_neg c1]
  by_cases c2 : a < 0
  · rw [if_pos c2]; exact h
  rw [if_neg c2]
  by_cases c3 : 512 ≤ a
  · rw [if_pos c3]; exact h
  rw [if_neg c3]
  refine ⟨mput_byt h.set (byt_xorAt (mget_byt h.set n) a x), fun p hp => ?_⟩
  obtain ⟨q, hq, rfl⟩ := List.mem_map.1 hp
  unfold edW
  split
  · exact byt_xorAt (h.late q hq) a x
  · exact h.late q hq
theorem doK_BD {s : Dk} (h : BD s) (z : Stp) : BD (doK s z).2 := by
  unfold doK
  by_cases h1 : z.kind = 1
  · rw [if_pos h1]; exact writeK_BD h _ (byt_block _ _)
  rw [if_neg h1]
  by_cases h2 : z.kind = 2
  · rw [if_pos h2]; exact syncK_BD h
  rw [if_neg h2]
  by_cases h3 : z.kind = 3
  · rw [if_pos h3]; exact setFuseK_BD h _
  rw [if_neg h3]
  by_cases h4 : z.kind = 4
  · rw [if_pos h4]; exact crashK_BD h _
  rw [if_neg h4]
  by_cases h5 : z.kind = 5
  · rw [if_pos h5]; exact editK_BD h _ _ _
  rw [if_neg h5]
  by_cases h6 : z.kind = 6
  · rw [if_pos h6]; exact writeK_BD h _ (byt_block _ _)
  rw [if_neg h6]; exact h
theorem newK_BD (n : Int) : BD (newK n) := ⟨fun p hp => (by cases hp), fun p hp => (by cases hp)⟩
theorem lfind_byt {l : List Wr} (h : BytL l) {n : Int} {b : List Int} (hb : lfind l n = some b) : Byt b := by
  induction l with
  | nil => cases hb
  | cons p r ih =>
    obtain ⟨a, c⟩ := p
    unfold lfind at hb
    by_cases e : (a == n) = true
    · rw [if_pos e] at hb; cases hb; exact h (a, b) (by simp)
    · rw [if_neg e] at hb; exact ih (fun p hp => h p (by simp [hp])) hb
theorem rd_byt {s : Dk} (h : BD s) (n : Int) : Byt (rd s n) := by
  unfold rd
  cases e : lfind s.late.reverse n with
  | none => exact mget_byt h.set n
  | some b => exact lfind_byt (fun p hp => h.late p (List.mem_reverse.1 hp)) e
theorem lfind_edit (l : List Wr) (n a x i : Int) : lfind (l.map (edW n a x)) i = (lfind l i).map fun b => if i = n then xorAt b a x else b := by
  induction l with
  | nil => rfl
  | cons p r ih =>
    obtain ⟨q, b⟩ := p
    rw [List.map_cons]
    have e1 : (edW n a x (q, b)).1 = q := by unfold edW; split <;> rfl
    by_cases c : q = i
    · subst c
      have e2 : lfind ((q, b) :: r) q = some b := by simp [lfind]
      rw [e2]
      by_cases c2 : q = n
      · subst c2
        have : edW q a x (q, b) = (q, xorAt b a x) := by unfold edW; rw [if_pos (by simp)]
        rw [this]
        simp [lfind]
      · have : edW n a x (q, b) = (q, b) := by unfold edW; rw [if_neg (by simpa using c2)]
        rw [this]
        simp [lfind, c2]
    · have e2 : lfind ((q, b) :: r) i = lfind r i := by simp [lfind, c]
      rw [e2, ← ih]
      generalize hh : edW n a x (q, b) = p at e1
      obtain ⟨q', b'⟩ := p
      simp only at e1
      subst e1
      simp [lfind, c]
def edS (s : Dk) (n a x : Int) : Dk := { s with set := mput s.set n (xorAt (mget s.set n) a x), late := s.late.map (edW n a x) }
theorem editK_ok {s : Dk} {n a x : Int} (h : hasD s n = true) (h0 : 0 ≤ a) (h1 : a < 512) : editK s n a x = (0, edS s n a x) := by
  unfold editK
  rw [if_neg (by rw [h]; simp), if_neg (by omega), if_neg (by omega)]; rfl
theorem rd_edS (s : Dk) (n a x i : Int) : rd (edS s n a x) i = if i = n then xorAt (rd s n) a x else rd s i := by
  unfold rd
  show ((lfind (s.late.map (edW n a x)).reverse i).getD (mget (mput s.set n (xorAt (mget s.set n) a x)) i)) = _
  rw [← List.map_reverse, lfind_edit, mget_mput]
  by_cases c : i = n
  · subst c
    simp only [if_true]
    cases lfind s.late.reverse i <;> rfl
  · simp only [if_neg c]
    cases lfind s.late.reverse i <;> rfl
theorem ixor_ixor {b x : Int} (h : 0 ≤ b ∧ b ≤ 255) : ixor .u8 (ixor .u8 b x) x = b := by
  unfold ixor
  rw [IntKind.wrap_u8, IntKind.wrap_u8]
  show ((BitVec.ofInt 8 (((BitVec.ofInt 8 b ^^^ BitVec.ofInt 8 x).toNat : Int) % 256) ^^^ BitVec.ofInt 8 x).toNat : Int) % 256 = b
  have e : ((BitVec.ofInt 8 b ^^^ BitVec.ofInt 8 x).toNat : Int) % 256 = ((BitVec.ofInt 8 b ^^^ BitVec.ofInt 8 x).toNat : Int) := by
    have := (BitVec.ofInt 8 b ^^^ BitVec.ofInt 8 x).isLt
    omega
  rw [e, BitVec.ofInt_natCast, BitVec.ofNat_toNat, BitVec.setWidth_eq, BitVec.xor_assoc, BitVec.xor_self, BitVec.xor_zero, BitVec.toNat_ofInt]
  omega
theorem xorAt_two {b : List Int} (h : Byt b) (a x : Int) (ha : a.toNat < b.length) : xorAt (xorAt b a x) a x = b := by
  unfold xorAt
  have e : (b.set a.toNat (ixor .u8 (b.getD a.toNat 0) x)).getD a.toNat 0 = ixor .u8 (b.getD a.toNat 0) x := by
    rw [List.getD_eq_getElem?_getD, List.getElem?_set_self ha]; rfl
  rw [e, List.set_set, ixor_ixor (h _ (by rw [List.getD_eq_getElem?_getD, List.getElem?_eq_getElem ha]; exact List.getElem_mem ha))]
  apply List.ext_getElem?
  intro i
  rw [List.getElem?_set]
  by_cases c : a.toNat = i
  · subst c; rw [if_pos rfl, if_pos ha, List.getD_eq_getElem?_getD, List.getElem?_eq_getElem ha]; rfl
  · rw [if_neg c]
theorem rd_twice {s : Dk} (x0 : Dx s) (h : BD s) (n a x i : Int) (h0 : 0 ≤ a) (h1 : a < 512) : rd (edS (edS s n a x) n a x) i = rd s i := by
  rw [rd_edS]
  by_cases c : i = n
  · subst c
    rw [if_pos rfl, rd_edS, if_pos rfl]
    exact xorAt_two (rd_byt h i) a x (by rw [rdX x0 i]; omega)
  · rw [if_neg c, rd_edS, if_neg c]
theorem sameK_of {s o : Dk} (hn : s.n = o.n) (h : ∀ i, rd s i = rd o i) : sameK s o = true := by
  unfold sameK sameP
  rw [hn]
  simp [h]
end Go.Proofs.Ytjomnicfcdkfdaa
