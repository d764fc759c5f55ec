import Derived.Test.YtjhknfpociahoaaDoorDerL17
namespace Go.Proofs.YtjhknfpociahoaaDoor
open Go Go.HW Go.RowKit
set_option linter.unusedVariables false
set_option linter.unusedSimpArgs false

def octD (n : Nat) : Der := Der.mk 4 false 0 (List.replicate n 0) [] [] []
theorem oct_ok (n : Nat) : DOk (octD n) := mk_ok (by omega) ⟨by decide, by decide⟩ (fun x hx => by have := List.eq_of_mem_replicate hx; omega) (fun x hx => by cases hx) (fun t ht => by cases ht)
theorem oct_tot (n : Nat) : tot (octD n) = n + 1 := by
  rw [tot_eq]
  show 1 + (List.replicate n (0 : Int)).length + 0 + 0 + tots [] = _
  rw [List.length_replicate, tots]; omega
theorem oct_may (n d : Nat) : mayB (d + 1) (octD n) = true := by
  rw [mayB]
  have h : ownB (octD n) = true := by
    unfold ownB
    simp [octD, Der.mk, Der.kind, Der.arcs, Der.num, Der.flag, Der.bytes, Tree.val, Tree.kids, textB, Der.text]
  rw [h]; rfl
theorem oct_pk {n : Nat} (h : 256 ≤ n) : (pk (octD n)).length = n + 4 := by
  rw [pk_eq, List.length_append]
  have e : cont (octD n) (pkL (Tree.kids (octD n))) = List.replicate n 0 := rfl
  rw [e, List.length_replicate]
  unfold hdr
  rw [if_neg (by omega), if_neg (by omega)]
  show 4 + n = _
  omega
theorem oct_eq {n : Nat} (h : n ≤ 1048575) : der_Octets.f (List.replicate n 0) = some (octD n) := by
  unfold der_Octets.f slices_Clone_41.f
  rw [rq (by rw [List.length_replicate]; simp; omega)]; rfl
theorem oct_bytes {n : Nat} (h : 256 ≤ n) (h2 : n ≤ 1048575) : der_Bytes.f (octD n) = some (if n + 4 ≤ 65000 then (pk (octD n), 0) else ([], 3)) := by
  rw [dBytes_eq _ (by rw [oct_tot]; omega) (oct_ok n)]
  unfold bytesR
  rw [if_pos (oct_may n 11), oct_pk h]
def deepD : Nat → Der
  | 0 => Der.mk 7 false 0 [] [] [] []
  | k + 1 => Der.mk 7 false 0 [] [] [] [deepD k]
def threeD (v : Der) : Der := Der.mk 7 false 0 [] [] [] [v, v, v]
theorem seq_eq (l : List Der) (h : l.length ≤ 1000) : der_Seq.f l = some (Der.mk 7 false 0 [] [] [] l) := by
  unfold der_Seq.f slices_Clone_40.f
  rw [rq (by simp; omega)]; rfl
theorem deep_loop : law13_DerBounds.L0 12 1 (deepD 0) = some (deepD 11) := by kernel_rfl
theorem num_of {v : Der} {n : Int} (h : (der_Bytes.f v).map Prod.snd = some n) : ∃ b, der_Bytes.f v = some (b, n) := by
  obtain ⟨⟨b, m⟩, e, h2⟩ := Option.map_eq_some_iff.1 h
  cases h2
  exact ⟨b, e⟩
def oidD (a : List Int) : Der := Der.mk 5 false 0 [] [] a []
theorem deep_bytes : ∃ b, der_Bytes.f (deepD 11) = some (b, 0) := num_of (by kernel_rfl)
theorem deep_bytes2 : ∃ b, der_Bytes.f (deepD 12) = some (b, 2) := num_of (by kernel_rfl)
theorem oid1 : ∃ t b, der_Oid.f [1, 39, 2147483647] = some t ∧ der_Bytes.f t = some (b, 0) := ⟨oidD [1, 39, 2147483647], (num_of (by kernel_rfl)).imp fun b h => ⟨by kernel_rfl, h⟩⟩
theorem oid2 : ∃ t b, der_Oid.f [1, 40] = some t ∧ der_Bytes.f t = some (b, 2) := ⟨oidD [1, 40], (num_of (by kernel_rfl)).imp fun b h => ⟨by kernel_rfl, h⟩⟩
theorem oid3 : ∃ t b, der_Oid.f [2, 2147483647] = some t ∧ der_Bytes.f t = some (b, 0) := ⟨oidD [2, 2147483647], (num_of (by kernel_rfl)).imp fun b h => ⟨by kernel_rfl, h⟩⟩
theorem oid4 : ∃ t b, der_Oid.f [3, 1] = some t ∧ der_Bytes.f t = some (b, 2) := ⟨oidD [3, 1], (num_of (by kernel_rfl)).imp fun b h => ⟨by kernel_rfl, h⟩⟩
theorem oid5 : ∃ t b, der_Oid.f [2, 2147483648] = some t ∧ der_Bytes.f t = some (b, 2) := ⟨oidD [2, 2147483648], (num_of (by kernel_rfl)).imp fun b h => ⟨by kernel_rfl, h⟩⟩
theorem three_may {v : Der} (h : mayB 11 v = true) : mayB 12 (threeD v) = true := by
  rw [mayB]
  have h2 : ownB (threeD v) = true := by
    unfold ownB
    simp [threeD, Der.mk, Der.kind, Der.arcs, Der.num, Der.flag, Der.bytes, Tree.val, Tree.kids, textB, Der.text]
  rw [h2]
  show (true && [v, v, v].all (mayB 11)) = true
  simp only [List.all_cons, List.all_nil, h]; rfl
theorem three_bytes {v : Der} (hv : DOk v) (ht : tot v ≤ 60001) (hm : mayB 11 v = true) (hp : (pk v).length = 60004) : der_Bytes.f (threeD v) = some ([], 3) := by
  have hk : ∀ t ∈ [v, v, v], DOk t := fun t ht => by
    have : t = v := by simpa using ht
    subst this; exact hv
  have ho : DOk (threeD v) := mk_ok (by omega) ⟨by decide, by decide⟩ U8L.nil (fun x hx => by cases hx) hk
  have ht : tot (threeD v) ≤ 1048576 := by
    rw [tot_eq]
    show 1 + 0 + 0 + 0 + tots [v, v, v] ≤ _
    simp only [tots]; omega
  rw [dBytes_eq _ ht ho]
  unfold bytesR
  have hl : 65000 < (pk (threeD v)).length := by
    rw [pk_eq, List.length_append]
    have e : cont (threeD v) (pkL (Tree.kids (threeD v))) = pkL [v, v, v] := rfl
    rw [e]
    simp only [pkL, List.length_append, hp]
    omega
  rw [if_pos (three_may hm), if_neg (by omega)]
theorem abs_step {α β : Type} {x : Option α} {a : α} {f : α → Option β} {z : Option β} (h : x = some a) (h2 : f a = z) : x.bind f = z := by rw [h, Option.bind_some, h2]
theorem DerBounds_law : law13_DerBounds.f = some true := by
  obtain ⟨b1, e1⟩ := deep_bytes
  obtain ⟨b2, e2⟩ := deep_bytes2
  obtain ⟨o1, p1, g1, k1⟩ := oid1
  obtain ⟨o2, p2, g2, k2⟩ := oid2
  obtain ⟨o3, p3, g3, k3⟩ := oid3
  obtain ⟨o4, p4, g4, k4⟩ := oid4
  obtain ⟨o5, p5, g5, k5⟩ := oid5
  have c1 := oct_bytes (n := 64996) (by decide) (by decide)
  rw [if_pos (by decide)] at c1
  have c2 := oct_bytes (n := 64997) (by decide) (by decide)
  rw [if_neg (by decide)] at c2
  have hp : (pk (octD 64996)).length = 65000 := oct_pk (by decide)
  have hof := (of_yes (b := pk (octD 64996)) (v := octD 64996) (pk_u8 _ 12 _ (Nat.le_refl _) (oct_may _ 11) (oct_ok _)) (oct_ok _) (oct_may _ 11) rfl (by rw [hp]; decide)).1
  have hp' : ((pk (octD 64996)).length : Int) = 65000 := by rw [hp]; rfl
  have q0 : der_Seq.f ([] : List Der) = some (deepD 0) := seq_eq [] (by decide)
  have q1 : der_Seq.f [deepD 11] = some (deepD 12) := seq_eq _ (by simp)
  have q2 := oct_eq (n := 64996) (by decide)
  have q3 := oct_eq (n := 64997) (by decide)
  have q4 := oct_eq (n := 60000) (by decide)
  have q5 : der_Seq.f [octD 60000, octD 60000, octD 60000] = some (threeD (octD 60000)) := seq_eq [octD 60000, octD 60000, octD 60000] (Nat.le_of_ble_eq_true rfl)
  have q6 := three_bytes (oct_ok 60000) (Nat.le_of_eq (oct_tot 60000)) (oct_may 60000 10) (oct_pk (by decide))
  unfold law13_DerBounds.f
  refine abs_step q0 (abs_step deep_loop (abs_step e1 (abs_step q1 (abs_step e2 (abs_step q2 (abs_step c1 (abs_step q3 (abs_step c2 (abs_step hof (abs_step g1 (abs_step k1 (abs_step g2 (abs_step k2 (abs_step g3 (abs_step k3 (abs_step g4 (abs_step k4 (abs_step g5 (abs_step k5 (abs_step q4 (abs_step q5 (abs_step q6 ?_))))))))))))))))))))))
  generalize ((pk (octD 64996)).length : Int) = z at hp' ⊢
  subst hp'
  simp [law13_num.f, known_eq]
end Go.Proofs.YtjhknfpociahoaaDoor
