import Derived.Test.YtbnmoonelaolcaaHw16
import Derived.Test.YtbnmoonelaolcaaShelf
namespace Go.Proofs.Ytbnmoonelaolcaa
open Go Go.HW Go.RowKit
set_option linter.unusedVariables false

def joinL (xs : List (List UInt8)) (sep : List UInt8) : List UInt8 := Lib.join xs sep
theorem join_ok {M : Mem} {w0 : World} {I : Nat → Option Obj} {H : Heap} {v : Value} {cur : Array Value} {e i : Nat} {xs : List (List UInt8)} (sep : List UInt8) (h : OwnS Sh.str M v cur xs) {w : World} (hc : Cls w0 I H w) (hH : H[i]? = some (v.ownBlock, .cells cur e (0, 0)))
    (hn : xs.length ≤ 140737488355328) (hl : (joinL xs sep).length ≤ 140737488355328) : Calls Try.prog 37 #[v, str sep] w fun e w' => e = .returned (str (joinL xs sep)) ∧ Below w.heap.size w w' := by
  obtain ⟨cs, ⟨h0, h1⟩, h2⟩ := h
  rcases h1 with ⟨rfl, hz⟩ | ⟨g, cap, rfl, k1, k2, k3, k4⟩
  · have hx : xs = [] := List.eq_nil_of_length_eq_zero hz
    subst hx
    exact (Try.strings_Join_none none 0 ⟨sep.toArray⟩ w).mono fun e w' ⟨he, hw⟩ => ⟨he, by rw [hw]; exact Below.refl _ _⟩
  · have hb := hc.own g _ (List.mem_of_getElem? hH)
    have e1 : (xs.map fun x => (⟨x.toArray⟩ : ByteArray)).length = xs.length := by simp
    have e2 : ((xs.map fun x => (⟨x.toArray⟩ : ByteArray)).map (·.data.toList)) = xs := by
      rw [List.map_map]
      exact List.map_id'' (fun x => rfl) xs
    have hcells : ∀ (j : Nat) x, (xs.map fun x => (⟨x.toArray⟩ : ByteArray))[j]? = some x → w.cell? ⟨g, 0 + j, none⟩ = some (.string x) := fun j x hx => by
      rw [List.getElem?_map] at hx
      obtain ⟨y, hy, rfl⟩ := Option.map_eq_some_iff.1 hx
      have hr : chunk cs 1 j = [str y] := h2 j y hy
      have hq : (chunk cs 1 j)[0]? = some (str y) := by rw [hr]; rfl
      have hcs := chunk_get hq
      rw [Nat.mul_one, Nat.add_zero] at hcs
      rw [cell_of hb, Nat.zero_add]
      rw [← k4] at hcs
      have hjn : j < xs.length * Sh.str.n := by
        rcases Nat.lt_or_ge j (xs.length * Sh.str.n) with h | h
        · exact h
        · rw [List.getElem?_eq_none (by rw [List.length_take]; omega)] at hcs; cases hcs
      rw [List.getElem?_take_of_lt hjn] at hcs
      rw [Array.getElem?_toList] at hcs; exact hcs
    have key := Try.strings_Join g 0 cap (xs.map fun x => (⟨x.toArray⟩ : ByteArray)) ⟨sep.toArray⟩ w hcells (lt_of_get hb) (by rw [e1]; exact hn) (by rw [e1]; exact k1) (by rw [e2]; exact hl)
    rw [e1, e2] at key
    exact key
end Go.Proofs.Ytbnmoonelaolcaa
