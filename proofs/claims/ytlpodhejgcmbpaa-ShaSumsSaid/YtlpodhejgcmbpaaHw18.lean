import Derived.Test.YtlpodhejgcmbpaaHw17
import Derived.Deep.AppendSrc
import Derived.Laws.CopyRow
namespace Go.HW
open Go Go.RowKit
set_option linter.unusedVariables false
set_option linter.unusedSimpArgs false

/-! ### append(x, make([]T, m)...) -/
theorem zeroCells_one (z : Value) (m : Nat) : Builtin.zeroCells #[z] m = (List.replicate m z).toArray := by
  apply Array.ext
  · simp [Builtin.zeroCells]
  · intro i h1 h2
    have h0 : i % 1 = 0 := Nat.mod_one i
    simp [Builtin.zeroCells, Nat.mod_one]
theorem fill_one (f : Nat → Value) (v : Value) : ((Array.range 1).map f).setIfInBounds 0 v = #[v] := by
  apply Array.ext
  · simp
  · intro i h1 h2
    have h0 : i = 0 := by simp at h2; omega
    subst h0; simp
section
variable {P : Program} (w : World)
theorem run_append_room_zero (t tx ty e : TypeId) (kx kk : IntKind) (i : TypeInfo) (z : Value) (ht : P.underlying t = some (.slice e)) (hx : P.underlying tx = some (.int kx)) (hi : P.info? e = some i) (hz : i.zero = some z) (hzc : z.cells = #[z]) (h1 : z.oneCell' = true)
    (hs1 : i.size = 1) (g sLen sCap m : Nat) (cur : Array Value) (hg : w.heap[g]? = some (.cells cur e (0, 0))) (hm : 0 < m) (hw : IntKind.i64.wrap (m : Int) = m) (hmb : m * i.bytes ≤ 281474976710656) (hroom : sLen + m ≤ sCap) (hfit : sLen + m ≤ cur.size) :
    (Builtin.append_ #[t, tx] ty #[.slice (some ⟨g, 0, none⟩) sLen sCap, .int kk m]).run P w = .ok (.slice (some ⟨g, 0, none⟩) (sLen + m) sCap) (w.setRow g (cur.toList.take sLen ++ List.replicate m z ++ cur.toList.drop (sLen + m)).toArray) := by
  have hst := run_storeCells_at P g sLen e (List.replicate m z) 0 cur w hg (by simpa using hfit) (fun u hu => by rw [List.eq_of_mem_replicate hu]; exact h1)
  simp only [Nat.add_zero, List.length_replicate] at hst
  have hneg : ¬ ((m : Int) < 0) := by omega
  have hbig : ¬ ((281474976710656 : Int) < (m : Int) * (i.bytes : Int)) := fun h => by rw [← Int.natCast_mul] at h; omega
  have hm0 : ¬ m = 0 := by omega
  simp [Builtin.append_, run_underlying ht, run_underlying hx, sizeOf, typeInfo, zeroValue, hi, hz, hs1, hw, hneg, hbig, hroom, asInt, asIntOf, hm0, hzc, zeroCells_one, Addr.add_lit, hst]
theorem run_append_grow_zero (t tx ty e : TypeId) (kx kk : IntKind) (i : TypeInfo) (z : Value) (ht : P.underlying t = some (.slice e)) (hx : P.underlying tx = some (.int kx)) (hi : P.info? e = some i) (hz : i.zero = some z) (hzc : z.cells = #[z])
    (hs1 : i.size = 1) (base : Option Addr) (sLen sCap m : Nat) (olds : List Value) (hm : 0 < m) (hw : IntKind.i64.wrap (m : Int) = m) (hmb : m * i.bytes ≤ 281474976710656)
    (hold : (Builtin.firstCells i.size sLen (.slice base sLen sCap)).run P w.drew = .ok olds.toArray w.drew)
    (hg : sCap < sLen + m) (h63 : ((sLen + m : Nat) : Int) ≤ 9223372036854775807) (hfit : Builtin.nextslicecap (sLen + m) sCap * i.bytes ≤ 281474976710656) :
    (Builtin.append_ #[t, tx] ty #[.slice base sLen sCap, .int kk m]).run P w =
      .ok (.slice (some ⟨w.heap.size, 0, none⟩) (sLen + m) (grownCap w (sLen + m) sCap e))
        (w.drew.alloc (.cells ((olds ++ List.replicate m z).toArray ++ Builtin.zeroCells z.cells (grownCap w (sLen + m) sCap e - (sLen + m))) e)) := by
  have hn : ¬ (sLen + m ≤ sCap) := by omega
  have h63' : ¬ (9223372036854775807 < ((sLen : Int) + (m : Int))) := by omega
  have h48' : ¬ (281474976710656 < Builtin.nextslicecap (sLen + m) sCap * i.bytes) := by omega
  have hneg : ¬ ((m : Int) < 0) := by omega
  have hbig : ¬ ((281474976710656 : Int) < (m : Int) * (i.bytes : Int)) := fun h => by rw [← Int.natCast_mul] at h; omega
  have hm0 : ¬ m = 0 := by omega
  rw [hs1] at hold
  simp [Builtin.append_, run_underlying ht, run_underlying hx, sizeOf, typeInfo, zeroValue, hi, hz, hs1, hw, hneg, hbig, asInt, asIntOf, hm0, hzc, zeroCells_one, hn, h63', h48', Question.forced, hold, newRow, grownCap]
  congr 2
  apply Array.ext'
  simp [List.append_assoc, List.replicate_append_replicate]
end
section
variable {P : Program} {o : Oper} {S : Slots} {w0 : World} {I : Nat → Option Obj} {H : Heap}
theorem run_append_own_zero (w : World) (t tx ty e : TypeId) (kx kk : IntKind) (i : TypeInfo) (z : Value) (bytes : Nat) (ht : P.underlying t = some (.slice e)) (hx : P.underlying tx = some (.int kx)) (hi : P.info? e = some i) (hz : i.zero = some z)
    (hsize : i.size = 1) (hby : i.bytes = bytes) (hzc : z.cells = #[z]) (h1 : z.oneCell' = true)
    (v : Value) (n : Nat) (xs : List Value) (hown : w.ownsRow 0 e 1 v n xs) (m : Nat) (hm : 0 < m) (hw : IntKind.i64.wrap (m : Int) = m)
    (h63 : n + m ≤ maxLen) (hbytes : (n + m) * bytes ≤ 140737488355328) :
    ∃ v' w', (Builtin.append_ #[t, tx] ty #[v, .int kk m]).run P w = .ok v' w' ∧ w'.ownsRow 0 e 1 v' (n + m) (xs ++ List.replicate m z) ∧ w.grownBy w' v.ownBlock ∧ (v'.ownBlock = v.ownBlock ∨ v'.ownBlock = some w.heap.size) := by
  subst hby
  have hsmall : n + m ≤ 9223372036854775807 := by simp only [maxLen] at h63; omega
  have hl : (List.replicate m z).length = m := List.length_replicate
  have hxl : xs.length = n := by have := hown.1; omega
  have hlen : (xs ++ List.replicate m z).length = (n + m) * 1 := by rw [List.length_append, hxl, hl]; omega
  have hmb : m * i.bytes ≤ 281474976710656 := by
    have : m * i.bytes ≤ (n + m) * i.bytes := Nat.mul_le_mul_right _ (by omega)
    omega
  have grown : ∀ (old : Nat), old < n + m → ∀ (row : Option Nat),
      (w.drew.alloc (.cells ((xs ++ List.replicate m z).toArray ++ Builtin.zeroCells z.cells (grownCap w (n + m) old e - (n + m))) e)).ownsRow 0 e 1
        (.slice (some ⟨w.heap.size, 0, none⟩) (n + m) (grownCap w (n + m) old e)) (n + m) (xs ++ List.replicate m z) ∧
      w.grownBy (w.drew.alloc (.cells ((xs ++ List.replicate m z).toArray ++ Builtin.zeroCells z.cells (grownCap w (n + m) old e - (n + m))) e)) row := by
    intro old ho row
    have hge := grownCap_ge w (n + m) old e
    have hcm : grownCap w (n + m) old e ≤ maxLen := grownCap_le_maxLen w (n + m) old e h63
    refine ⟨⟨hlen, .inr ⟨w.heap.size, _, _, rfl, Nat.zero_le _, heap_alloc_new w.drew _, hge, hcm, ?_, ?_⟩⟩, ⟨rfl, rfl, rfl, by simp, fun k hk _ => Go.heap_alloc_old w.drew _ hk⟩⟩
    · rw [Array.size_append, List.size_toArray, hlen, size_zeroCells, hzc]
      simp
      omega
    · rw [Array.toList_append, ← hlen]
      exact List.take_left
  rcases hown.2 with ⟨rfl, rfl⟩ | ⟨g, cap, cur, rfl, hbg, hg, hnc, hcm, hcs, htake⟩
  · have hxs : xs = [] := List.eq_nil_of_length_eq_zero hxl
    subst hxs
    have hr := run_append_grow_zero (P := P) w t tx ty e kx kk i z ht hx hi hz hzc hsize none 0 0 m [] hm hw hmb (run_firstCells_none w.drew i.size 0 0 0) (by omega) (by omega) (growslice_fits (by omega) hbytes)
    have hgr := grown 0 (by omega) (Value.ownBlock (.slice none 0 0))
    exact ⟨_, _, hr, hgr.1, hgr.2, Or.inr rfl⟩
  · by_cases hroom : n + m ≤ cap
    · have hr := run_append_room_zero (P := P) w t tx ty e kx kk i z ht hx hi hz hzc h1 hsize g n cap m cur hg hm hw hmb hroom (by omega)
      refine ⟨_, _, hr, ⟨hlen, .inr ⟨g, cap, _, rfl, hbg, setRow_heap w g cur _ e _ hg, hroom, hcm, ?_, ?_⟩⟩, ⟨rfl, rfl, rfl, by simp, fun k _ hk => setRow_other w g k _ (fun e => hk (by simp [Value.ownBlock, e]))⟩, Or.inl rfl⟩
      · simp only [List.size_toArray, List.length_append, List.length_take, List.length_drop, Array.length_toList, List.length_replicate]
        omega
      · rw [Nat.mul_one] at htake
        rw [htake, ← hlen]
        exact List.take_left
    · have holds : ∀ j u, xs[j]? = some u → w.cell? ((⟨g, 0, none⟩ : Addr).add j) = some u := hown.cells (g := g) rfl
      have hr := run_append_grow_zero (P := P) w t tx ty e kx kk i z ht hx hi hz hzc hsize (some ⟨g, 0, none⟩) n cap m xs hm hw hmb (run_firstCells_some w.drew i.size n ⟨g, 0, none⟩ n cap xs (by rw [hsize]; omega) (by simpa using holds)) (by omega) (by omega) (growslice_fits (by omega) hbytes)
      have hgr := grown cap (by omega) (Value.ownBlock (.slice (some ⟨g, 0, none⟩) n cap))
      exact ⟨_, _, hr, hgr.1, hgr.2, Or.inr rfl⟩
/-- append(x, make([]T, m)...) to an own slice of numbers. -/
theorem f_appendZ {t tx e bytes n j : Nat} {k kk kx : IntKind} {m : Nat} {x y : Operand} {v : Value} {cur : Array Value} {xs : List Int} (E : Elem P t e 1 bytes (.int k 0)) (htx : P.underlying tx = some (.int kx)) (hH : H[j]? = some (v.ownBlock, .cells cur e (0, 0))) (hown : IntOwn k v cur xs)
    (hm : 0 < m) (hb : xs.length + m ≤ 1099511627776) (hby : bytes ≤ 128) (ho : o.op = .call { callee := .builtin .append, args := #[x, y], argTypes := #[t, tx] }) (hx : ev S x = some v) (hy : ev S y = some (.int kk m)) :
    FAct P o w0 I S H {x : Value × Array Value // IntOwn k x.1 x.2 (xs ++ List.replicate m 0)} (fun x => x.1.1) (fun x => H.set j (x.1.1.ownBlock, .cells x.1.2 e (0, 0))) := fun ρ hρ w hc => by
  obtain ⟨cc, hrun⟩ := run_builtin (P := P) (ρ := ρ) (vs := #[v, .int kk m]) ho (by simp [hρ _ _ hx, hρ _ _ hy]) w
  have hmem := List.mem_of_getElem? hH
  obtain ⟨i, hi, hz, hs, hbb⟩ := E.hi
  have hr := OwnV.owns hown hc hmem
  obtain ⟨v', w', hr1, hr2, hr3, hr5⟩ := run_append_own_zero (P := P) w t tx o.type e kx kk i (.int k 0) bytes E.ht htx hi hz hs hbb rfl rfl v xs.length (encl k xs) hr m hm (IntWalk.i64_in _ ⟨by omega, by omega⟩) (by simp [maxLen]; omega)
    (by
      have : (xs.length + m) * bytes ≤ 1099511627776 * 128 := Nat.mul_le_mul hb hby
      omega)
  have hv' : ∃ cur', OwnV v' cur' 1 (xs.length + m) (encl k xs ++ List.replicate m (.int k 0)) ∧ ∀ b, v'.ownBlock = some b → w'.heap[b]? = some (.cells cur' e (0, 0)) := by
    refine Exists.elim (show ∃ cur', _ from ?_) fun cur' h => ⟨cur', h⟩
    rcases hr2.2 with ⟨rfl, hz0⟩ | ⟨g, cap, cur', rfl, -, k2, k3, k4, k5, k6⟩
    · exact ⟨#[], ⟨hr2.1, .inl ⟨rfl, hz0⟩⟩, fun b hb => by cases hb⟩
    · exact ⟨cur', ⟨hr2.1, .inr ⟨g, cap, rfl, k3, k4, k5, k6⟩⟩, fun b hb => by cases hb; exact k2⟩
  obtain ⟨cur', ho1, ho2⟩ := hv'
  have e1 : encl k xs ++ List.replicate m (.int k 0) = encl k (xs ++ List.replicate m 0) := by simp [encl]
  rw [e1, show xs.length + m = (xs ++ List.replicate m (0 : Int)).length by simp] at ho1
  exact .inl ⟨⟨(v', cur'), ho1⟩, w', by rw [hrun]; exact val_run hr1, hc.grown hH hr3 hr5 ho2⟩
variable {R : Ending → World → Prop} {N : Nat} {f : FuncId} {K : List Item} {ops : Array Oper} {lab : Lab} {ids : Nat → Option Nat} {l : List Nat} {i d : Nat}
theorem DL.appendZ {t tx e bytes j : Nat} {k kk kx : IntKind} {m : Nat} {x y : Operand} {v : Value} {cur : Array Value} {xs : List Int} (H' : Value → Array Value → Heap) (E : Elem P t e 1 bytes (.int k 0)) (htx : P.underlying tx = some (.int kx)) (hH : H[j]? = some (v.ownBlock, .cells cur e (0, 0))) (hown : IntOwn k v cur xs)
    (hm : 0 < m) (hb : xs.length + m ≤ 1099511627776) (hby : bytes ≤ 128) (hi : ops[i]? = some o) (hw : Wn ops S o true) (hd : o.dst = some d) (hN : Nat.blt d N = true) (hk : (lab i).1 = .actx)
    (ho : o.op = .call { callee := .builtin .append, args := #[x, y], argTypes := #[t, tx] }) (hx : ev S x = some v) (hy : ev S y = some (.int kk m)) (hH' : ∀ v cur, H.set j (v.ownBlock, .cells cur e (0, 0)) = H' v cur)
    (h : ∀ v cur, IntOwn k v cur (xs ++ List.replicate m 0) → DL P f R N w0 I K ops lab ids l ((d, v) :: S) (H' v cur)) : DL P f R N w0 I K ops lab ids (i :: l) S H :=
  DL.actx hi hw hd hN hk (f_appendZ (w0 := w0) (I := I) (n := 0) E htx hH hown hm hb hby ho hx hy) fun q => by
    rw [hH']
    exact h q.1.1 q.1.2 q.2
/-- A cell of what stays, in a memory of now. -/
theorem q_loadBoxO {M : Mem} {t t' : TypeId} {x : Operand} {b off : Nat} {c : Array Value} {v : Value} {z : Nat × Nat} (hM : ∀ w, Cls w0 I H w → Imm M w) (hb : M b = some (.cells c t' z)) (hv : c[off]? = some v) (ha : ∀ w, (isAgg t).run P w = .ok false w) (ho : o.op = .load t x) (hx : ev S x = some (ptr b off)) : FQuiet P o w0 I S H v := fun ρ hρ w hc => .inl (i_loadBoxO (I := M) hb hv ha ho hx ρ hρ w (hM w hc))
theorem q_loadSub {M : Mem} {t t' : TypeId} {x : Operand} {b off n : Nat} {k : IntKind} {xs : List Int} {z : Nat × Nat} (hM : ∀ w, Cls w0 I H w → Imm M w) (hb : M b = some (.cells (enc k xs) t' z)) (hn : off + n ≤ xs.length) (ha : ∀ w, (isAgg t).run P w = .ok true w) (hs : ∀ w, (sizeOf t).run P w = .ok n w) (ho : o.op = .load t x) (hx : ev S x = some (ptr b off)) : FQuiet P o w0 I S H (.agg (enc k ((xs.drop off).take n))) := fun ρ hρ w hc => .inl (i_loadSub (I := M) hb hn ha hs ho hx ρ hρ w (hM w hc))
theorem sl3 {v : Value} {n : Nat} (h : ∃ a c, v = .slice a n c) : ∃ a n c, v = .slice a n c := by obtain ⟨a, c, e⟩ := h; exact ⟨a, n, c, e⟩
/-- copy(arr[:], src), of just as many. -/
theorem f_copyArr {M : Mem} {t t' e n j b : Nat} {k : IntKind} {x y : Operand} {v : Value} {xs ys : List Int} (hu : P.underlying t = some (.slice e)) (hs : (P.info? e).map (·.size) = some 1) (hM : ∀ w, Cls w0 I H w → Imm M w) (hr : IntRow M k v ys) (hH : H[j]? = some (some b, .cells (enc k xs) t' (0, 0)))
    (hx0 : xs.length = n) (hy0 : ys.length = n) (hn : 0 < n) (ho : o.op = .call { callee := .builtin .copy, args := #[x, y], argTypes := #[t, t] }) (hx : ev S x = some (.slice (some ⟨b, 0, none⟩) n n)) (hy : ev S y = some v) :
    FAct P o w0 I S H Unit (fun _ => .int .i64 (n : Int)) (fun _ => H.set j (some b, .cells (enc k ys) t' (0, 0))) := fun ρ hρ w hc => by
  obtain ⟨h0, a, c, rfl, hcl, h3⟩ := RowV.world hr (hM w hc)
  rcases h3 with h3 | ⟨b2, off, arr, t2, z, rfl, e2, e3⟩
  · omega
  · obtain ⟨cc, hrun⟩ := run_builtin (P := P) (ρ := ρ) (vs := #[.slice (some ⟨b, 0, none⟩) n n, .slice (some ⟨b2, off, none⟩) ys.length c]) ho (by simp [hρ _ _ hx, hρ _ _ hy]) w
    have hb := hc.own b _ (List.mem_of_getElem? hH)
    have hl : (encl k ys).length = n := by rw [encl_len]; exact hy0
    have hcopy := run_copy_row (P := P) w t t o.type e b 0 n n ⟨b2, off, none⟩ ys.length c (enc k xs) t' (encl k ys) hu hs hb (by rw [hl, hy0]; exact (Nat.min_self n).symm) (fun q u hq => by rw [add_none, cell_of (show w.heap[b2]? = _ from e2)]; exact e3 q u hq) (by rw [hl, enc_size, hx0]; omega) (encl_one k ys)
    have earr : ((enc k xs).toList.take 0 ++ encl k ys ++ (enc k xs).toList.drop (0 + (encl k ys).length)).toArray = enc k ys := by
      rw [hl, List.drop_of_length_le (by rw [Array.length_toList, enc_size, hx0]; omega)]
      simp [encl, enc]
    rw [earr, hl] at hcopy
    refine .inl ⟨(), w.setRow b (enc k ys), ?_, ?_⟩
    · rw [hrun]
      exact val_run hcopy
    · exact hc.setObj hH rfl rfl rfl (by simp) (setRow_heap w b (enc k xs) _ t' _ hb) (fun d hd => setRow_other w b d _ hd)
theorem DL.copyArr {M : Mem} {t t' e n j b : Nat} {k : IntKind} {x y : Operand} {v : Value} {xs ys : List Int} (H' : Heap) (hu : P.underlying t = some (.slice e)) (hs : (P.info? e).map (·.size) = some 1) (hM : ∀ w, Cls w0 I H w → Imm M w) (hr : IntRow M k v ys) (hH : H[j]? = some (some b, .cells (enc k xs) t' (0, 0)))
    (hx0 : xs.length = n) (hy0 : ys.length = n) (hn : 0 < n) (hi : ops[i]? = some o) (hw : Wn ops S o true) (hd : o.dst = some d) (hN : Nat.blt d N = true) (hk : (lab i).1 = .actx)
    (ho : o.op = .call { callee := .builtin .copy, args := #[x, y], argTypes := #[t, t] }) (hx : ev S x = some (.slice (some ⟨b, 0, none⟩) n n)) (hy : ev S y = some v) (hH' : H.set j (some b, .cells (enc k ys) t' (0, 0)) = H')
    (h : DL P f R N w0 I K ops lab ids l ((d, .int .i64 (n : Int)) :: S) H') : DL P f R N w0 I K ops lab ids (i :: l) S H :=
  DL.actx hi hw hd hN hk (f_copyArr (w0 := w0) (I := I) hu hs hM hr hH hx0 hy0 hn ho hx hy) fun _ => by rw [hH']; exact h
/-- a constant's bytes: the row bears a mark behind its end -/
theorem run_convB {w : World} {t e e0 b n c : Nat} {cur : Array Value} (ht : P.underlying t = some (.slice e)) (he : P.underlying e = some (.int .u8)) (hb : w.heap[b]? = some (.cells cur e0 (0, 0))) :
    ∃ w', (convert t t (.slice (some ⟨b, 0, none⟩) n c)).run P w = .ok (.slice (some ⟨b, 0, none⟩) n c) w' ∧ w'.os = w.os ∧ w'.tape = w.tape ∧ w'.output = w.output ∧ w'.heap.size = w.heap.size ∧ w'.heap[b]? = some (.cells cur e0 (cur.size, cur.size + 1)) ∧ ∀ d, d ≠ b → w'.heap[d]? = w.heap[d]? := by
  have hsh : w.shape? b = some (e0, cur.size) := by unfold World.shape?; rw [hb]
  refine ⟨w.freeze ⟨b, cur.size, none⟩ 1, ?_, ?_, ?_, ?_, ?_, ?_, fun d hd => ?_⟩
  · simp [convert, run_underlying ht, run_underlying he, markStringish, hsh]
  all_goals (unfold World.freeze; rw [if_neg (by decide)])
  · simp
  · simp only [Array.getElem?_modify, if_true, hb]; rfl
  · simp only [Array.getElem?_modify]
    rw [if_neg (fun h => hd h.symm)]
theorem DL.convB {t e e0 j : Nat} {k : IntKind} {x : Operand} {v : Value} {cur : Array Value} {xs : List Int} (H' : Heap) (ht : P.underlying t = some (.slice e)) (he : P.underlying e = some (.int .u8)) (hH : H[j]? = some (v.ownBlock, .cells cur e0 (0, 0))) (hown : IntOwn k v cur xs) (hn : 0 < xs.length)
    (hi : ops[i]? = some o) (hw : Wn ops S o true) (hd : o.dst = some d) (hN : Nat.blt d N = true) (hk : (lab i).1 = .actx) (ho : o.op = .convert t t x) (hx : ev S x = some v) (hH' : H.set j (v.ownBlock, .cells cur e0 (cur.size, cur.size + 1)) = H')
    (h : DL P f R N w0 I K ops lab ids l ((d, v) :: S) H') : DL P f R N w0 I K ops lab ids (i :: l) S H :=
  DL.actx (X := Unit) (u := fun _ => v) (H' := fun _ => H.set j (v.ownBlock, .cells cur e0 (cur.size, cur.size + 1))) hi hw hd hN hk (fun ρ hρ w hc => by
    rcases hown.2 with ⟨rfl, h0⟩ | ⟨g, cap, rfl, k1, k2, k3, k4⟩
    · omega
    · have hb := hc.own g _ (List.mem_of_getElem? hH)
      obtain ⟨w', h1, h2, h3, h4, h5, h6, h7⟩ := run_convB (P := P) (n := xs.length) (c := cap) ht he hb
      refine .inl ⟨(), w', ?_, hc.setObj hH h2 h3 h4 h5 h6 h7⟩
      simp only [execOp, ho, hρ _ _ hx]
      exact val_run h1) fun _ => by rw [hH']; exact h
theorem OwnV.rowZ {v : Value} {cur : Array Value} {e size n : Nat} {cs : List Value} {z : Nat × Nat} (h : OwnV v cur size n cs) {w : World} (hc : Cls w0 I H w) (hm : (v.ownBlock, .cells cur e z) ∈ H) : RowV (heapOf w) v size n cs := by
  refine ⟨h.1, ?_⟩
  rcases h.2 with ⟨rfl, rfl⟩ | ⟨g, cap, rfl, k1, k2, k3, k4⟩
  · exact ⟨none, 0, rfl, Nat.le_refl _, .inl rfl⟩
  · refine ⟨_, cap, rfl, k1, .inr ⟨g, 0, cur, e, z, rfl, hc.own g _ hm, fun i q hq => ?_⟩⟩
    rw [Nat.zero_add]
    rw [← k4] at hq
    have hk : i < n * size := by
      rcases Nat.lt_or_ge i (n * size) with hh | hh
      · exact hh
      · rw [List.getElem?_eq_none (by simp; omega)] at hq; cases hq
    rw [List.getElem?_take_of_lt hk] at hq
    simpa using hq
/-- A row of one own slice of numbers. -/
theorem row_one {k : IntKind} {v u : Value} {cur cur2 : Array Value} {e e2 j j2 : Nat} {z : Nat × Nat} {xs : List Int} (h : OwnV v cur 1 1 [u]) (h2 : IntOwn k u cur2 xs) {w : World} (hc : Cls w0 I H w) (hH : H[j]? = some (v.ownBlock, .cells cur e (0, 0))) (hH2 : H[j2]? = some (u.ownBlock, .cells cur2 e2 z)) : RowS (Sh.ints k) (heapOf w) v [xs] :=
  ⟨[u], OwnV.rowZ h hc (List.mem_of_getElem? hH), fun i x hx => by
    match i, hx with
    | 0, hx =>
      have e1 : xs = x := by simpa using hx
      subst e1
      exact ⟨u, rfl, OwnV.rowZ h2 hc (List.mem_of_getElem? hH2)⟩
    | i + 1, hx => simp at hx⟩
theorem DL.newO {cells : List Value} {e n : Nat} (hn : cells.length = n) (hm : n ≤ maxLen) (hi : ops[i]? = some o) (hw : Wn ops S o true) (hd : o.dst = some d) (hN : Nat.blt d N = true) (hk : (lab i).1 = .alloc)
    (hp : FNew P o S (.cells cells.toArray e) (fun b => .slice (some ⟨b, 0, none⟩) n n)) (h : ∀ v cur, OwnV v cur 1 n cells → DL P f R N w0 I K ops lab ids l ((d, v) :: S) ((v.ownBlock, .cells cur e (0, 0)) :: H)) : DL P f R N w0 I K ops lab ids (i :: l) S H :=
  DL.new hi hw hd hN hk hp fun b hb => h (.slice (some ⟨b, 0, none⟩) n n) cells.toArray (OwnV.fresh (Nat.le_refl _) hm (by simp [hn]) (by rw [List.take_of_length_le]; simp [hn]) (by omega))
end
end Go.HW
