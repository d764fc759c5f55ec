import Derived.Test.YtjomnicfcdkfdaaHw19
import Derived.Test.YtjomnicfcdkfdaaProg
namespace Go.Proofs.Ytjomnicfcdkfdaa
open Go Go.HW Go.RowKit
set_option linter.unusedVariables false
set_option linter.unusedSimpArgs false

/-! ### disks -/
abbrev Wr := Int × List Int
structure Dk where
  n : Int
  set : List Wr
  late : List Wr
  fuse : Int
  armed : Bool
  dead : Bool
def wrc (x : Wr) : Array Value := #[.int .i64 x.1] ++ enc .u8 x.2
def Blk (b : List Int) : Value := .agg (enc .u8 b)
def zeros : List Int := List.replicate 512 0
def ShWr : Shape Wr where
  n := 513
  pos := by decide
  rep := fun _ l x => l = (wrc x).toList ∧ x.2.length = 512
  len := fun ⟨h, h2⟩ => by subst h; simp [wrc, enc_size, h2]
  one := fun ⟨h, _⟩ v hv => by
    subst h
    simp only [wrc, Array.toList_append, List.mem_append] at hv
    rcases hv with hv | hv
    · simp at hv; subst hv; rfl
    · exact encl_one _ _ v (by simpa [enc, encl] using hv)
  mono := fun _ h => h
def dmap (l : List Wr) : Obj := mobj .i64 (l.map fun p => (p.1, Blk p.2))
def mget : List Wr → Int → List Int
  | [], _ => zeros
  | (a, b) :: r, k => if k == a then b else mget r k
def mput : List Wr → Int → List Int → List Wr
  | [], k, b => [(k, b)]
  | (a, c) :: r, k, b => if k == a then (a, b) :: r else (a, c) :: mput r k b
def Full (l : List Wr) : Prop := ∀ p ∈ l, p.2.length = 512
theorem mget_len {l : List Wr} (h : Full l) (k : Int) : (mget l k).length = 512 := by
  induction l with
  | nil => exact List.length_replicate
  | cons p r ih =>
    obtain ⟨a, b⟩ := p
    unfold mget
    split
    · exact h (a, b) (by simp)
    · exact ih fun p hp => h p (by simp [hp])
theorem mput_full {l : List Wr} (h : Full l) {k : Int} {b : List Int} (hb : b.length = 512) : Full (mput l k b) := by
  induction l with
  | nil => intro p hp; simp [mput] at hp; subst hp; exact hb
  | cons q r ih =>
    obtain ⟨a, c⟩ := q
    have hr : Full r := fun p hp => h p (by simp [hp])
    unfold mput
    split
    · intro p hp
      rcases List.mem_cons.1 hp with rfl | hp
      · exact hb
      · exact hr p hp
    · intro p hp
      rcases List.mem_cons.1 hp with rfl | hp
      · exact h _ (by simp)
      · exact ih hr p hp
theorem mget_mput (l : List Wr) (k j : Int) (b : List Int) : mget (mput l k b) j = if j = k then b else mget l j := by
  induction l with
  | nil => by_cases h : j = k <;> simp [mput, mget, h]
  | cons q r ih =>
    obtain ⟨a, c⟩ := q
    unfold mput
    by_cases h : k = a
    · subst h
      rw [if_pos (by simp)]
      by_cases h2 : j = k <;> simp [mget, h2]
    · rw [if_neg (by simpa using h)]
      unfold mget
      by_cases h2 : j = a
      · subst h2
        rw [if_pos (by simp), if_neg (Ne.symm h)]
        simp
      · rw [if_neg (by simpa using h2), ih]
        simp [h2]
theorem mfind_blk (l : List Wr) (k : Int) : (mfind k (l.map fun p => (p.1, Blk p.2))).getD (Blk zeros) = Blk (mget l k) := by
  induction l with
  | nil => rfl
  | cons p r ih =>
    obtain ⟨a, b⟩ := p
    simp only [List.map_cons, mfind, mget]
    split
    · rfl
    · exact ih

section
variable {P : Program} {o : Oper} {S : Slots} {w0 : World} {I M : Mem} {H : Heap}
theorem f_mget {t kt e : TypeId} {x y : Operand} {b j : Nat} {a : Int} {l : List Wr} (hm : ∀ w, (underlying t).run P w = .ok (.map kt e) w) (hk : ∀ w, (underlying kt).run P w = .ok (.int .i64) w) (hz : ∀ w, (zeroValue e).run P w = .ok (Blk zeros) w)
    (hH : H[j]? = some (some b, dmap l)) (ho : o.op = .lookup t x y false) (hx : ev S x = some (.map (some b))) (hy : ev S y = some (.int .i64 a)) : FQuiet P o w0 I S H (Blk (mget l a)) :=
  f_lookupV (mfind_blk l a) (f_lookup hm hk hz hH ho hx hy)
/-- .. of a map that stays -/
theorem i_mget {t kt e : TypeId} {x y : Operand} {b : Nat} {a : Int} {l : List Wr} (hm : ∀ w, (underlying t).run P w = .ok (.map kt e) w) (hk : ∀ w, (underlying kt).run P w = .ok (.int .i64) w) (hz : ∀ w, (zeroValue e).run P w = .ok (Blk zeros) w)
    (hb : I b = some (dmap l)) (ho : o.op = .lookup t x y false) (hx : ev S x = some (.map (some b))) (hy : ev S y = some (.int .i64 a)) : FImm P o I S (Blk (mget l a)) := fun ρ hρ w hi => by
  simp only [execOp, ho, hρ _ _ hx, hρ _ _ hy]
  refine val_run ?_
  have hb := hi b _ hb
  obtain ⟨r, h1, h2⟩ := run_findKey_int (P := P) hk a (l.map fun p => (p.1, Blk p.2)) w
  unfold Instr.lookup
  refine (run_of_bind (hm w)).trans ?_
  refine (run_of_bind (run_getObj hb)).trans ?_
  refine (run_of_bind (x := Pure.pure (ments .i64 0 (l.map fun p => (p.1, Blk p.2))).toArray) (a := (ments .i64 0 (l.map fun p => (p.1, Blk p.2))).toArray) (w' := w) rfl).trans ?_
  refine (run_of_bind (run_checkKey_int hk a _ w)).trans ?_
  refine (run_of_bind h1).trans ?_
  rw [← mfind_blk, ← h2]
  cases r with
  | none => exact (run_of_bind (hz w)).trans rfl
  | some p => rfl
theorem ments_mput (l : List Wr) (k : Int) (b : List Int) (n : Nat) (i0 : Nat) :
    ∃ r, Instr.findNow (.int .i64) (.int .i64 k) (ments .i64 n (l.map fun p => (p.1, Blk p.2))) i0 = some r ∧
      ((∃ i q, r = some (i0 + i, q) ∧ (∃ v c, (ments .i64 n (l.map fun p => (p.1, Blk p.2)))[i]? = some { key := .int .i64 k, val := v, born := c }) ∧ (ments .i64 n (l.map fun p => (p.1, Blk p.2))).modify i (fun e => { e with key := .int .i64 k, val := Blk b }) = ments .i64 n ((mput l k b).map fun p => (p.1, Blk p.2)) ∧ (mput l k b).length = l.length) ∨
        (r = none ∧ mput l k b = l ++ [(k, b)])) := by
  induction l generalizing n i0 with
  | nil => exact ⟨none, rfl, .inr ⟨rfl, rfl⟩⟩
  | cons p l ih =>
    obtain ⟨a, c⟩ := p
    simp only [List.map_cons, ments, Instr.findNow, Instr.sameNow]
    cases h : (k == a) with
    | true =>
      have hk : k = a := by simpa using h
      subst hk
      refine ⟨some (i0, Blk c), by simp, .inl ⟨0, Blk c, by simp, ⟨_, _, rfl⟩, by simp [mput, ments], by simp [mput]⟩⟩
    | false =>
      obtain ⟨r, h1, h2⟩ := ih (n + 1) (i0 + 1)
      refine ⟨r, by simpa [h] using h1, ?_⟩
      rcases h2 with ⟨i, q, rfl, ⟨v, c', hv⟩, h3, h4⟩ | ⟨rfl, h3⟩
      · refine .inl ⟨i + 1, q, by congr 2; omega, ⟨v, c', by simpa using hv⟩, ?_, ?_⟩
        · simp only [mput, h, Bool.false_eq_true, if_false, List.map_cons, ments, List.modify_succ_cons]
          rw [h3]
        · simp [mput, h, h4]
      · exact .inr ⟨rfl, by simp [mput, h, h3]⟩
theorem f_mput {t kt e : TypeId} {x y z : Operand} {b j : Nat} {a : Int} {c : List Int} {l : List Wr} (hm : ∀ w, (underlying t).run P w = .ok (.map kt e) w) (hk : ∀ w, (underlying kt).run P w = .ok (.int .i64) w)
    (hH : H[j]? = some (some b, dmap l)) (ho : o.op = .mapUpdate t x y z) (hx : ev S x = some (.map (some b))) (hy : ev S y = some (.int .i64 a)) (hz : ev S z = some (Blk c)) : FPut P o w0 I S H (H.set j (some b, dmap (mput l a c))) := fun ρ hρ w hc => by
  simp only [execOp, ho, hρ _ _ hx, hρ _ _ hy, hρ _ _ hz]
  have hb := hc.own b _ (List.mem_of_getElem? hH)
  obtain ⟨r, h1, h2⟩ := ments_mput l a c 0 0
  have hf : (Instr.findKey kt (.int .i64 a) (ments .i64 0 (l.map fun p => (p.1, Blk p.2)))).run P w = .ok r w := by
    unfold Instr.findKey
    refine (run_of_bind (hk w)).trans ?_
    rw [h1]; rfl
  rcases h2 with ⟨i, q, rfl, ⟨v, cc, hv⟩, h3, h4⟩ | ⟨rfl, h3⟩
  · obtain ⟨w', g1, g2, g3, g4, g5, g6, g7⟩ := run_setObj (P := P) (es' := (ments .i64 0 ((mput l a c).map fun p => (p.1, Blk p.2))).toArray) (c' := ((mput l a c).map fun p => (p.1, Blk p.2)).length) hb
    refine ⟨w', ?_, hc.setObj hH g2 g3 g4 g5 g6 g7⟩
    refine (run_of_bind (a := ()) (w' := w') ?_).trans rfl
    unfold Instr.mapUpdate
    refine (run_of_bind (hm w)).trans ?_
    refine (run_of_bind (run_getObj hb)).trans ?_
    refine (run_of_bind (run_checkKey_int hk a _ w)).trans ?_
    refine (run_of_bind hf).trans ?_
    simp only [Nat.zero_add]
    refine (run_of_bind (a := .int .i64 a) (w' := w) ?_).trans ?_
    · rw [List.getElem?_toArray, hv]
      simp [Instr.keyThatStays, Instr.sameBits]
    · rw [show ((ments .i64 0 (l.map fun p => (p.1, Blk p.2))).toArray.modify i fun e => { e with key := .int .i64 a, val := Blk c }) = (ments .i64 0 ((mput l a c).map fun p => (p.1, Blk p.2))).toArray by rw [← h3]; simp,
        show (l.map fun p => (p.1, Blk p.2)).length = ((mput l a c).map fun p => (p.1, Blk p.2)).length by simp [h4]]
      exact g1
  · obtain ⟨w', g1, g2, g3, g4, g5, g6, g7⟩ := run_setObj (P := P) (es' := (ments .i64 0 (l.map fun p => (p.1, Blk p.2))).toArray.push { key := .int .i64 a, val := Blk c, born := (l.map fun p => (p.1, Blk p.2)).length }) (c' := (l.map fun p => (p.1, Blk p.2)).length + 1) hb
    refine ⟨w', ?_, hc.setObj hH g2 g3 g4 g5 ?_ g7⟩
    · refine (run_of_bind (a := ()) (w' := w') ?_).trans rfl
      unfold Instr.mapUpdate
      refine (run_of_bind (hm w)).trans ?_
      refine (run_of_bind (run_getObj hb)).trans ?_
      refine (run_of_bind (run_checkKey_int hk a _ w)).trans ?_
      exact (run_of_bind hf).trans g1
    · rw [g6, h3]
      simp [dmap, mobj, ments_append]
end
end Go.Proofs.Ytjomnicfcdkfdaa
