import Derived.Test.YtjomnicfcdkfdaaDkM9
namespace Go.Proofs.Ytjomnicfcdkfdaa
open Go Go.HW Go.RowKit
set_option linter.unusedVariables false
set_option linter.unusedSimpArgs false

theorem wrc_S {x : Wr} {a : Nat} (h : a < x.2.length) : (wrc x)[1 + a]? = some (.int .u8 (x.2.getD a 0)) := by
  unfold wrc
  rw [Array.getElem?_append_right (by simp)]
  have e : 1 + a - (#[Value.int .i64 x.1] : Array Value).size = a := by simp
  rw [e]; exact enc_get .u8 h
theorem p_slP {P : Program} {o : Oper} {S : Slots} {T e sz n g cap k : Nat} {x y : Operand} {kk : IntKind} (hu : ∀ w, (underlying T).run P w = .ok (.slice e) w) (hs : ∀ w, (sizeOf e).run P w = .ok sz w) (hk : k < n) (ho : o.op = .indexAddr T x y) (hx : ev S x = some (.slice (some ⟨g, 0, none⟩) n cap)) (hy : ev S y = some (.int kk (k : Int))) : FPure P o S (ptr g (k * sz)) := by
  have h := p_slIx (P := P) (o := o) (S := S) (i := (k : Int)) hu hs ⟨_, _, rfl⟩ (Int.natCast_nonneg k) (by omega) ho hx hy
  have e : elp (.slice (some ⟨g, 0, none⟩) n cap) ((k : Int).toNat * sz) = ptr g (k * sz) := by
    simp only [elp, Int.toNat_natCast, HW.add_none, Nat.zero_add, ptr]
  rwa [e] at h
end Go.Proofs.Ytjomnicfcdkfdaa
