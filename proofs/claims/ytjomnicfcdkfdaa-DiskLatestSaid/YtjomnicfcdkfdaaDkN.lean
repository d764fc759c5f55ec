import Derived.Test.YtjomnicfcdkfdaaDkK
namespace Go.Proofs.Ytjomnicfcdkfdaa
open Go Go.HW Go.RowKit
set_option linter.unusedVariables false
set_option linter.unusedSimpArgs false
section
variable {N : Nat} {S : Slots} {w0 : World} {I : Mem} {H : Heap} {Q : Exit → Act → World → Prop} {ops : Array Oper} {l : List Nat} {i d : Nat} {o : Oper} {v : Value}
theorem p_eqNilP {T U : TypeId} {x y : Operand} {b : Nat} (hr : ∀ b w, (binOp .eql T (ptr b 0) (.pointer none)).run Try.prog w = .ok (.bool false) w) (hg : ∀ b w, (eqGuard .eql T x y (ptr b 0) (.pointer none)).run Try.prog w = .ok () w) (ho : o.op = .binOp .eql T x y U) (hx : ev S x = some (ptr b 0)) (hy : ev S y = some (.pointer none)) : FPure Try.prog o S (.bool false) := fun ρ hρ w => by
  simp only [execOp, ho, hρ _ _ hx, hρ _ _ hy]
  refine val_run ?_
  exact (run_of_bind (hg b w)).trans (hr b w)
theorem us9 : Try.prog.underlying 9 = some .string := by kernel_rfl
theorem us5 : Try.prog.underlying 5 = some (.int .u8) := by kernel_rfl
/-- an own slice's text -/
theorem q_ownStr {xs : List Int} (y : Ox .u8 xs) {R : Heap} {x : Operand} (hH : H = oX y ++ R) (ho : o.op = .convert 32 9 x) (hx : ev S x = some y.1.1) : FQuiet Try.prog o w0 I S H (str (bytesL xs)) :=
  q_bytesStr us32 us5 us9 (fun w hc => by
    subst hH
    exact OwnV.row y.2 hc (List.mem_append_left _ (List.mem_singleton.2 rfl))) ho hx
theorem own_newK {k : IntKind} {xs : List Int} {b n : Nat} (h : xs.length = n) (hn : n ≤ maxLen) : IntOwn k (.slice (some ⟨b, 0, none⟩) n n) (enc k xs) xs := by
  unfold IntOwn
  rw [h]
  exact OwnV.fresh (Nat.le_refl _) hn (by rw [enc_size, h, Nat.mul_one]) (by rw [List.take_of_length_le]; rfl; simp [enc, h]) (by simp [encl, h])
/-- a new slice of numbers -/
theorem W.newO {k : IntKind} {e n : Nat} {zs : List Int} (hi : ops[i]? = some o) (hw : Wn ops S o true) (hd : o.dst = some d) (hN : Nat.blt d N = true) (hp : FNew Try.prog o S (.cells (enc k zs) e) (fun b => .slice (some ⟨b, 0, none⟩) n n)) (hn : zs.length = n) (hm : n ≤ maxLen) (hnd : ∀ c, o.op ≠ .defer c)
    (h : ∀ y : Ox k zs, WW N w0 I ops l Q ((d, y.1.1) :: S) (oX y ++ H)) : WW N w0 I ops (i :: l) Q S H :=
  W.new hi hw hd hN hp hnd fun b hb => h ⟨(.slice (some ⟨b, 0, none⟩) n n, enc k zs, e), own_newK hn hm⟩
@[reducible] def Ox.put {k : IntKind} {xs : List Int} (y : Ox k xs) (j : Nat) (hj : j < xs.length) (z : Int) : Ox k (xs.set j z) := ⟨(y.1.1, y.1.2.1.setIfInBounds j (.int k z), y.1.2.2), y.2.set hj z⟩
/-- a store into an own slice -/
theorem f_stO {k : IntKind} {xs : List Int} (y : Ox k xs) {j : Nat} (hj : j < xs.length) {R : Heap} {t : TypeId} {x z : Operand} {q : Int} (hs : ∀ w, (sizeOf t).run Try.prog w = .ok 1 w) (hH : H = oX y ++ R) (ho : o.op = .store t x z) (hx : ev S x = some (elp y.1.1 j)) (hy : ev S z = some (.int k q)) : FPut Try.prog o w0 I S H (oX (y.put j hj q) ++ R) := by
  subst hH
  have h2 : IntOwn k y.1.1 y.1.2.1 xs := y.2
  have := f_storeEl (P := Try.prog) (w0 := w0) (I := I) (i := 0) (H := oX y ++ R) (q := .int k q) hs rfl h2 (j := j) (by omega) rfl trivial ho hx hy
  exact this
theorem p_ixO2 {k : IntKind} {xs : List Int} (y : Ox k xs) {j : Nat} (hj : j < xs.length) {T e : Nat} {x z : Operand} {kk : IntKind} (hu : ∀ w, (underlying T).run Try.prog w = .ok (.slice e) w) (hs : ∀ w, (sizeOf e).run Try.prog w = .ok 1 w) (ho : o.op = .indexAddr T x z) (hx : ev S x = some y.1.1) (hy : ev S z = some (.int kk (j : Int))) : FPure Try.prog o S (elp y.1.1 j) := by
  have := p_slIx1 (P := Try.prog) hu hs (OwnV.some y.2 (i := (j : Int)) (by omega) (by omega)) (by omega) (by omega) ho hx hy
  simpa using this
theorem elem22 : Elem Try.prog 22 3 1 8 (.int .i64 0) := Elem.of (by kernel_rfl) (by kernel_rfl) rfl (by decide)
end
theorem row_sl {M : Mem} {k : IntKind} {v : Value} {xs : List Int} (h : IntRow M k v xs) : ∃ a c, v = .slice a xs.length c := by
  obtain ⟨_, a, c, h1, _⟩ := h; exact ⟨a, c, h1⟩
section
variable {N : Nat} {S : Slots} {w0 : World} {I : Mem} {o : Oper} {v : Value}
theorem p_ixR {k : IntKind} {xs : List Int} (h : IntRow I k v xs) {j : Nat} (hj : j < xs.length) {T e : Nat} {x z : Operand} {kk : IntKind} (hu : ∀ w, (underlying T).run Try.prog w = .ok (.slice e) w) (hs : ∀ w, (sizeOf e).run Try.prog w = .ok 1 w) (ho : o.op = .indexAddr T x z) (hx : ev S x = some v) (hy : ev S z = some (.int kk (j : Int))) : FPure Try.prog o S (elp v j) := by
  have := p_slIx1 (P := Try.prog) hu hs (RowV.some h (i := (j : Int)) (by omega) (by omega)) (by omega) (by omega) ho hx hy
  simpa using this
theorem i_ldR {k : IntKind} {xs : List Int} (h : IntRow I k v xs) {j : Nat} {q : Int} (hj : xs[j]? = some q) {t : TypeId} {x : Operand} (ha : ∀ w, (isAgg t).run Try.prog w = .ok false w) (ho : o.op = .load t x) (hx : ev S x = some (elp v j)) : FImm Try.prog o I S (.int k q) :=
  i_loadEl h (by simp [encl, hj]) ha ho hx
end
end Go.Proofs.Ytjomnicfcdkfdaa
