import Derived.Test.YtjhknfpociahoaaDoorDe5
namespace Go.Proofs.YtjhknfpociahoaaDoor
open Go Go.HW Go.RowKit
set_option linter.unusedVariables false
set_option linter.unusedSimpArgs false

/-! ### escutcheon/der.value: function 38 -/
noncomputable def B38 : Code:=bodyOf Tryd.f38
def der_value.L0B (t2_0 : Int) (e43 : Int × Int) (y_32_0 : Int) : Option (Int):=(if (e43.2 == t2_0) = true then (some e43.1) else (some y_32_0)).bind fun j_b26_0_45 => some j_b26_0_45
def der_value.L0 (t2_0 : Int) : List (Int × Int) → Int → Option (Int)
 | [],y_32_0 => some y_32_0
 | e :: rem,y_32_0 => (der_value.L0B t2_0 e y_32_0).bind fun v => der_value.L0 t2_0 rem v
set_option maxRecDepth 20000 in
theorem der_value.L0_ok (a1 : Int) (b1 : Nat) (t2_0 : Int) (t2_1 : Int) (t2_2 : Int) (t2_3 : Bool) (v16 : Value) (b26 : Nat) (b30 : Nat) (b31 : Nat) {R : Ending → World → Prop} {w0 : World} {M0 M I : Mem} {K : List Item} (hE : Env w0 M0 M I) :
  ∀ (nn : Nat) (seen : Array Nat) (y_32_0 : Int) (r0_ : Int) (hn : (remOf [(1,1),(2,2),(3,3),(4,4),(5,6),(6,12),(10,24),(7,48),(9,49),(8,160)] seen).length = nn) (h : ∀ rem,rem.Perm (remOf [(1,1),(2,2),(3,3),(4,4),(5,6),(6,12),(10,24),(7,48),(9,49),(8,160)] seen) → der_value.L0 t2_0 rem y_32_0 = some r0_) (hk : TT Tryd.prog 38 R 141 w0 I K [(1,.int .i64 a1),(4,ptr b1 0),(7,.int .u8 t2_0),(8,.int .i64 t2_1),(9,.int .i64 t2_2),(10,.bool t2_3),(11,v16),(12,ptr b26 0)] [(some b30,mobj .i64 [(1,.int .u8 1),(2,.int .u8 2),(3,.int .u8 3),(4,.int .u8 4),(5,.int .u8 6),(6,.int .u8 12),(10,.int .u8 24),(7,.int .u8 48),(9,.int .u8 49),(8,.int .u8 160)]),(some b26,.cells (#[.int .i64 r0_,.bool false,.int .i64 0,(.slice none 0 0),str ([] : List UInt8),(.slice none 0 0),(.slice none 0 0)]) 27 (0,0)),(some b1,.cells (#[.int .i64 0,.bool false,.int .i64 0,(.slice none 0 0),str ([] : List UInt8),(.slice none 0 0),(.slice none 0 0)]) 27 (0,0))]),
   TT Tryd.prog 38 R 141 w0 I (.code (sub [1,1,1,1,1,0,1,0,0] B38) :: .inLoop (sub [1,1,1,1,1,0,1,0,0] B38) :: .inBlock 0 :: K) [(1,.int .i64 a1),(4,ptr b1 0),(7,.int .u8 t2_0),(8,.int .i64 t2_1),(9,.int .i64 t2_2),(10,.bool t2_3),(11,v16),(12,ptr b26 0),(39,ptr b31 0)] [(some b31,iobj b30 10 seen),(some b30,mobj .i64 [(1,.int .u8 1),(2,.int .u8 2),(3,.int .u8 3),(4,.int .u8 4),(5,.int .u8 6),(6,.int .u8 12),(10,.int .u8 24),(7,.int .u8 48),(9,.int .u8 49),(8,.int .u8 160)]),(some b26,.cells (#[.int .i64 y_32_0,.bool false,.int .i64 0,(.slice none 0 0),str ([] : List UInt8),(.slice none 0 0),(.slice none 0 0)]) 27 (0,0)),(some b1,.cells (#[.int .i64 0,.bool false,.int .i64 0,(.slice none 0 0),str ([] : List UInt8),(.slice none 0 0),(.slice none 0 0)]) 27 (0,0))]:=by
 intro nn
 induction nn using Nat.strongRecOn with
 | ind nn ih =>
  intro seen y_32_0 r0_ hn h hk
  refine TT.seq (x:=sub [1,1,1,1,1,0,1,0,0,0] B38) (y:=sub [1,1,1,1,1,0,1,0,0,1] B38) ?_
  refine TT.rg [0,1] [kx,kp] rfl rfl ?_
  refine DL.actx (X:=NextX [(1,1),(2,2),(3,3),(4,4),(5,6),(6,12),(10,24),(7,48),(9,49),(8,160)] seen) (u:=nextV .i64 .u8) (H':=nextH b31 b30 0 [(some b31,iobj b30 10 seen),(some b30,mobj .i64 [(1,.int .u8 1),(2,.int .u8 2),(3,.int .u8 3),(4,.int .u8 4),(5,.int .u8 6),(6,.int .u8 12),(10,.int .u8 24),(7,.int .u8 48),(9,.int .u8 49),(8,.int .u8 160)]),(some b26,.cells (#[.int .i64 y_32_0,.bool false,.int .i64 0,(.slice none 0 0),str ([] : List UInt8),(.slice none 0 0),(.slice none 0 0)]) 27 (0,0)),(some b1,.cells (#[.int .i64 0,.bool false,.int .i64 0,(.slice none 0 0),str ([] : List UInt8),(.slice none 0 0),(.slice none 0 0)]) 27 (0,0))]) (i:=0) rfl (Wn.none rfl) rfl rfl rfl (f_next (j:=0) (j2:=1) rfl rfl rfl rfl) ?_
  rintro ⟨x43,hx43⟩
  rcases x43 with _ | ⟨i43,e43⟩
  ·
   have hx43 : remOf [(1,1),(2,2),(3,3),(4,4),(5,6),(6,12),(10,24),(7,48),(9,49),(8,160)] seen = []:=hx43
   have h043:=h [] (by rw [hx43])
   unfold der_value.L0 at h043
   show DL _ _ _ _ _ _ _ _ _ _ _ ((40,.tuple #[.bool false]) :: _) [(some b31,iobj b30 10 seen),(some b30,mobj .i64 [(1,.int .u8 1),(2,.int .u8 2),(3,.int .u8 3),(4,.int .u8 4),(5,.int .u8 6),(6,.int .u8 12),(10,.int .u8 24),(7,.int .u8 48),(9,.int .u8 49),(8,.int .u8 160)]),(some b26,.cells (#[.int .i64 y_32_0,.bool false,.int .i64 0,(.slice none 0 0),str ([] : List UInt8),(.slice none 0 0),(.slice none 0 0)]) 27 (0,0)),(some b1,.cells (#[.int .i64 0,.bool false,.int .i64 0,(.slice none 0 0),str ([] : List UInt8),(.slice none 0 0),(.slice none 0 0)]) 27 (0,0))]
   refine DL.pu 41 (.bool false) rfl (p_extract rfl rfl rfl) ?_
   refine DL.nil ?_
   refine TT.seq (x:=sub [1,1,1,1,1,0,1,0,0,1,0] B38) (y:=sub [1,1,1,1,1,0,1,0,0,1,1] B38) ?_
   refine TT.cond_false (x:=sub [1,1,1,1,1,0,1,0,0,1,0,0] B38) (y:=sub [1,1,1,1,1,0,1,0,0,1,0,1] B38) rfl rfl ?_
   refine TT.exit rfl ?_
   obtain rfl:=Option.some.inj h043
   exact TT.pick [1,2,3] (by decide) (TT.weak (hk) (Sub.cons rfl (Sub.cons rfl (Sub.cons rfl (Sub.cons rfl (Sub.cons rfl (Sub.cons rfl (Sub.cons rfl (Sub.cons rfl (Sub.nil _))))))))))
  ·
   have hx43 : ([(1,1),(2,2),(3,3),(4,4),(5,6),(6,12),(10,24),(7,48),(9,49),(8,160)])[i43]? = some e43 ∧ ¬ i43 ∈ seen:=hx43
   have hp43:=remOf_push hx43.1 hx43.2
   obtain ⟨v43_0,hB43,hL43⟩ : ∃ v,der_value.L0B t2_0 e43 y_32_0 = some v ∧ ∀ rem,rem.Perm (remOf [(1,1),(2,2),(3,3),(4,4),(5,6),(6,12),(10,24),(7,48),(9,49),(8,160)] (seen.push i43)) → der_value.L0 t2_0 rem v = some r0_:=by
    have h1:=h (e43 :: remOf [(1,1),(2,2),(3,3),(4,4),(5,6),(6,12),(10,24),(7,48),(9,49),(8,160)] (seen.push i43)) hp43
    unfold der_value.L0 at h1
    obtain ⟨v,hB,_⟩:=bind_some h1
    refine ⟨v,hB,fun rem hp => ?_⟩
    have h2:=h (e43 :: rem) ((List.Perm.cons _ hp).trans hp43)
    unfold der_value.L0 at h2
    rw [hB] at h2
    exact h2
   unfold der_value.L0B at hB43
   show DL _ _ _ _ _ _ _ _ _ _ _ ((40,.tuple #[.bool true,.int .i64 e43.1,.int .u8 e43.2]) :: _) [(some b31,iobj b30 10 (seen.push i43)),(some b30,mobj .i64 [(1,.int .u8 1),(2,.int .u8 2),(3,.int .u8 3),(4,.int .u8 4),(5,.int .u8 6),(6,.int .u8 12),(10,.int .u8 24),(7,.int .u8 48),(9,.int .u8 49),(8,.int .u8 160)]),(some b26,.cells (#[.int .i64 y_32_0,.bool false,.int .i64 0,(.slice none 0 0),str ([] : List UInt8),(.slice none 0 0),(.slice none 0 0)]) 27 (0,0)),(some b1,.cells (#[.int .i64 0,.bool false,.int .i64 0,(.slice none 0 0),str ([] : List UInt8),(.slice none 0 0),(.slice none 0 0)]) 27 (0,0))]
   refine DL.pu 41 (.bool true) rfl (p_extract rfl rfl rfl) ?_
   refine DL.nil ?_
   refine TT.seq (x:=sub [1,1,1,1,1,0,1,0,0,1,0] B38) (y:=sub [1,1,1,1,1,0,1,0,0,1,1] B38) ?_
   refine TT.cond_true (x:=sub [1,1,1,1,1,0,1,0,0,1,0,0] B38) (y:=sub [1,1,1,1,1,0,1,0,0,1,0,1] B38) rfl rfl ?_
   refine TT.skip ?_
   refine TT.block (c:=sub [1,1,1,1,1,0,1,0,0,1,1,0] B38) ?_
   refine TT.seq (x:=sub [1,1,1,1,1,0,1,0,0,1,1,0,0] B38) (y:=sub [1,1,1,1,1,0,1,0,0,1,1,0,1] B38) ?_
   refine TT.rg [0,1,2,3,4] [kq,kp,kp,kp,kp] rfl rfl ?_
   refine DL.qu 42 (.tuple #[.int .i64 e43.1,.int .u8 e43.2]) rfl (f_entry (j:=0) (j2:=1) (m:=[(1,1),(2,2),(3,3),(4,4),(5,6),(6,12),(10,24),(7,48),(9,49),(8,160)]) rfl rfl hx43.1 rfl rfl) ?_
   refine DL.pu 43 (.int .i64 e43.1) rfl (p_extract rfl rfl rfl) ?_
   refine DL.pu 44 (.int .u8 e43.2) rfl (p_extract rfl rfl rfl) ?_
   refine DL.pu 13 (.int .i64 e43.1) rfl (p_assign rfl rfl) ?_
   refine DL.pu 14 (.int .u8 e43.2) rfl (p_assign rfl rfl) ?_
   refine DL.nil ?_
   refine TT.seq (x:=sub [1,1,1,1,1,0,1,0,0,1,1,0,1,0] B38) (y:=sub [1,1,1,1,1,0,1,0,0,1,1,0,1,1] B38) ?_
   refine TT.rg [0,1,2] [kp,kp,kp] rfl rfl ?_
   refine DL.mv 45 (.int .u8 e43.2) rfl rfl rfl ?_
   refine DL.mv 46 (.int .u8 t2_0) rfl rfl rfl ?_
   refine DL.pu 47 (.bool (e43.2 == t2_0)) rfl (p_eql rfl rfl rfl) ?_
   refine DL.nil ?_
   obtain ⟨j_b26_0_45,h46,h47⟩:=bind_some hB43
   have J48 : TT Tryd.prog 38 R 141 w0 I (.inBlock 1 :: .inLoop (sub [1,1,1,1,1,0,1,0,0] B38) :: .inBlock 0 :: K) [(1,.int .i64 a1),(4,ptr b1 0),(7,.int .u8 t2_0),(8,.int .i64 t2_1),(9,.int .i64 t2_2),(10,.bool t2_3),(11,v16),(12,ptr b26 0),(39,ptr b31 0)] [(some b31,iobj b30 10 (seen.push i43)),(some b30,mobj .i64 [(1,.int .u8 1),(2,.int .u8 2),(3,.int .u8 3),(4,.int .u8 4),(5,.int .u8 6),(6,.int .u8 12),(10,.int .u8 24),(7,.int .u8 48),(9,.int .u8 49),(8,.int .u8 160)]),(some b26,.cells (#[.int .i64 j_b26_0_45,.bool false,.int .i64 0,(.slice none 0 0),str ([] : List UInt8),(.slice none 0 0),(.slice none 0 0)]) 27 (0,0)),(some b1,.cells (#[.int .i64 0,.bool false,.int .i64 0,(.slice none 0 0),str ([] : List UInt8),(.slice none 0 0),(.slice none 0 0)]) 27 (0,0))]:=by
    refine TT.inBlock ?_
    obtain rfl:=Option.some.inj h47
    refine TT.inLoop ?_
    have hl43 : (remOf [(1,1),(2,2),(3,3),(4,4),(5,6),(6,12),(10,24),(7,48),(9,49),(8,160)] (seen.push i43)).length < nn:=by rw [← hn,← hp43.length_eq]; simp
    exact TT.weak (ih _ hl43 (seen.push i43) j_b26_0_45 r0_ rfl hL43 hk) (Sub.cons rfl (Sub.cons rfl (Sub.cons rfl (Sub.cons rfl (Sub.cons rfl (Sub.cons rfl (Sub.cons rfl (Sub.cons rfl (Sub.cons rfl (Sub.nil _))))))))))
   by_cases c44 : (e43.2 == t2_0) = true
   ·
    have h50:=ite_true c44 h46
    refine TT.cond_true (x:=sub [1,1,1,1,1,0,1,0,0,1,1,0,1,1,0] B38) (y:=sub [1,1,1,1,1,0,1,0,0,1,1,0,1,1,1] B38) rfl c44 ?_
    refine TT.rg [0,1,2] [kp,kp,(.store,none)] rfl rfl ?_
    refine DL.mv 48 (.int .i64 e43.1) rfl rfl rfl ?_
    refine DL.pu 49 (ptr b26 0) rfl (p_fieldAddr ty_f27_0 rfl rfl) ?_
    refine DL.put (H':=[(some b31,iobj b30 10 (seen.push i43)),(some b30,mobj .i64 [(1,.int .u8 1),(2,.int .u8 2),(3,.int .u8 3),(4,.int .u8 4),(5,.int .u8 6),(6,.int .u8 12),(10,.int .u8 24),(7,.int .u8 48),(9,.int .u8 49),(8,.int .u8 160)]),(some b26,.cells (#[.int .i64 e43.1,.bool false,.int .i64 0,(.slice none 0 0),str ([] : List UInt8),(.slice none 0 0),(.slice none 0 0)]) 27 (0,0)),(some b1,.cells (#[.int .i64 0,.bool false,.int .i64 0,(.slice none 0 0),str ([] : List UInt8),(.slice none 0 0),(.slice none 0 0)]) 27 (0,0))]) (i:=2) rfl (Wn.none rfl) rfl rfl (f_store (c:=#[.int .i64 y_32_0,.bool false,.int .i64 0,(.slice none 0 0),str ([] : List UInt8),(.slice none 0 0),(.slice none 0 0)]) (v:=.int .i64 e43.1) (off:=0) (j:=2) ty_s22 rfl rfl (of_decide_eq_true rfl) trivial rfl rfl rfl) (keep_none rfl) ?_
    refine DL.nil ?_
    obtain rfl:=Option.some.inj h50
    exact TT.weak (J48 ) (Sub.cons rfl (Sub.cons rfl (Sub.cons rfl (Sub.cons rfl (Sub.cons rfl (Sub.cons rfl (Sub.cons rfl (Sub.cons rfl (Sub.cons rfl (Sub.nil _))))))))))
   ·
    replace c44:=Bool.eq_false_iff.mpr c44
    have h51:=ite_false c44 h46
    refine TT.cond_false (x:=sub [1,1,1,1,1,0,1,0,0,1,1,0,1,1,0] B38) (y:=sub [1,1,1,1,1,0,1,0,0,1,1,0,1,1,1] B38) rfl c44 ?_
    refine TT.skip ?_
    obtain rfl:=Option.some.inj h51
    exact TT.weak (J48 ) (Sub.cons rfl (Sub.cons rfl (Sub.cons rfl (Sub.cons rfl (Sub.cons rfl (Sub.cons rfl (Sub.cons rfl (Sub.cons rfl (Sub.cons rfl (Sub.nil _))))))))))

def der_value.L1 (t2_2 : Int) (t23 : List Int) : Nat → Int → Int → Option (Int)
 | 0,_,_ => none
 | k + 1,x81_115,y_116_2 => nm (decide (x81_115 < ((t23.take (if 8 < t2_2 then 8 else t2_2).toNat).length : Int))) fun t192 => if t192 = true then (req (0 ≤ x81_115) (req (x81_115 < ((t23.take (if 8 < t2_2 then 8 else t2_2).toNat).length : Int)) ((if (x81_115 == 0) = true then (nm (IntKind.i8.wrap ((t23.take (if 8 < t2_2 then 8 else t2_2).toNat).getD x81_115.toNat 0)) fun t208 => some (IntKind.i64.wrap t208)) else (nm (IntKind.i64.wrap ((t23.take (if 8 < t2_2 then 8 else t2_2).toNat).getD x81_115.toNat 0)) fun t212 => some (ior .i64 (ishl .i64 y_116_2 8) t212))).bind fun j_b26_2_202 => der_value.L1 t2_2 t23 k (IntKind.i64.wrap (x81_115 + 1)) j_b26_2_202))) else (some y_116_2)
set_option maxRecDepth 20000 in
theorem der_value.L1_ok (b1 : Nat) (t2_1 : Int) (t2_2 : Int) (t2_3 : Bool) (t23 : List Int) (b26 : Nat) (b30 : Nat) (j_b26_0_63 : Int) (v110 : Value) {R : Ending → World → Prop} {w0 : World} {M0 M I : Mem} {K : List Item} (hE : Env w0 M0 M I) (hr_v110 : IntRow M .u8 v110 (t23.take (if 8 < t2_2 then 8 else t2_2).toNat)) :
  ∀ (k : Nat) (x81_115 : Int) (y_116_2 : Int) (r0_ : Int) (h : der_value.L1 t2_2 t23 k x81_115 y_116_2 = some r0_) (hk : TT Tryd.prog 38 R 141 w0 I K [(4,ptr b1 0),(8,.int .i64 t2_1),(9,.int .i64 t2_2),(10,.bool t2_3),(12,ptr b26 0)] [(some b30,mobj .i64 [(1,.int .u8 1),(2,.int .u8 2),(3,.int .u8 3),(4,.int .u8 4),(5,.int .u8 6),(6,.int .u8 12),(10,.int .u8 24),(7,.int .u8 48),(9,.int .u8 49),(8,.int .u8 160)]),(some b26,.cells (#[.int .i64 j_b26_0_63,.bool false,.int .i64 r0_,(.slice none 0 0),str ([] : List UInt8),(.slice none 0 0),(.slice none 0 0)]) 27 (0,0)),(some b1,.cells (#[.int .i64 0,.bool false,.int .i64 0,(.slice none 0 0),str ([] : List UInt8),(.slice none 0 0),(.slice none 0 0)]) 27 (0,0))]),
   TT Tryd.prog 38 R 141 w0 I (.code (sub [1,1,1,1,1,1,1,0,1,0,1,1,1,0,1,0,0] B38) :: .inLoop (sub [1,1,1,1,1,1,1,0,1,0,1,1,1,0,1,0,0] B38) :: .inBlock 3 :: K) [(4,ptr b1 0),(8,.int .i64 t2_1),(9,.int .i64 t2_2),(10,.bool t2_3),(12,ptr b26 0),(79,v110),(80,.int .i64 ((t23.take (if 8 < t2_2 then 8 else t2_2).toNat).length : Int)),(81,.int .i64 x81_115)] [(some b30,mobj .i64 [(1,.int .u8 1),(2,.int .u8 2),(3,.int .u8 3),(4,.int .u8 4),(5,.int .u8 6),(6,.int .u8 12),(10,.int .u8 24),(7,.int .u8 48),(9,.int .u8 49),(8,.int .u8 160)]),(some b26,.cells (#[.int .i64 j_b26_0_63,.bool false,.int .i64 y_116_2,(.slice none 0 0),str ([] : List UInt8),(.slice none 0 0),(.slice none 0 0)]) 27 (0,0)),(some b1,.cells (#[.int .i64 0,.bool false,.int .i64 0,(.slice none 0 0),str ([] : List UInt8),(.slice none 0 0),(.slice none 0 0)]) 27 (0,0))]:=by
 intro k
 induction k with
 | zero => intro x81_115 y_116_2 r0_ h; simp [der_value.L1] at h
 | succ k ih =>
  intro x81_115 y_116_2 r0_ h hk
  unfold der_value.L1 at h
  refine TT.seq (x:=sub [1,1,1,1,1,1,1,0,1,0,1,1,1,0,1,0,0,0] B38) (y:=sub [1,1,1,1,1,1,1,0,1,0,1,1,1,0,1,0,0,1] B38) ?_
  refine TT.rg [0] [kp] rfl rfl ?_
  obtain ⟨t192,e193,h194⟩:=nm_some h
  refine DL.pu 82 (.bool t192) rfl (by rw [e193]; exact p_lss rfl rfl rfl) ?_
  refine DL.nil ?_
  refine TT.seq (x:=sub [1,1,1,1,1,1,1,0,1,0,1,1,1,0,1,0,0,1,0] B38) (y:=sub [1,1,1,1,1,1,1,0,1,0,1,1,1,0,1,0,0,1,1] B38) ?_
  by_cases c195 : t192 = true
  ·
   have h196:=ite_true c195 h194
   refine TT.cond_true (x:=sub [1,1,1,1,1,1,1,0,1,0,1,1,1,0,1,0,0,1,0,0] B38) (y:=sub [1,1,1,1,1,1,1,0,1,0,1,1,1,0,1,0,0,1,0,1] B38) rfl c195 ?_
   refine TT.skip ?_
   refine TT.seq (x:=sub [1,1,1,1,1,1,1,0,1,0,1,1,1,0,1,0,0,1,1,0] B38) (y:=sub [1,1,1,1,1,1,1,0,1,0,1,1,1,0,1,0,0,1,1,1] B38) ?_
   refine TT.block (c:=sub [1,1,1,1,1,1,1,0,1,0,1,1,1,0,1,0,0,1,1,0,0] B38) ?_
   refine TT.seq (x:=sub [1,1,1,1,1,1,1,0,1,0,1,1,1,0,1,0,0,1,1,0,0,0] B38) (y:=sub [1,1,1,1,1,1,1,0,1,0,1,1,1,0,1,0,0,1,1,0,0,1] B38) ?_
   refine TT.rg [0,1,2,3,4] [kp,kp,kp,kp,kp] rfl rfl ?_
   refine DL.mv 83 (.int .i64 x81_115) rfl rfl rfl ?_
   obtain ⟨g197,h198⟩:=req_some h196
   obtain ⟨g199,h200⟩:=req_some h198
   refine DL.pu 84 (elp v110 x81_115.toNat) rfl (p_slIx1 ty_u23 ty_s5 (RowV.some hr_v110 g197 g199) g197 g199 rfl rfl rfl) ?_
   refine DL.imm (v:=.int .u8 ((t23.take (if 8 < t2_2 then 8 else t2_2).toNat).getD x81_115.toNat 0)) rfl (Wn.none rfl) rfl rfl rfl (i_loadEl (RowV.mono hr_v110 hE.mi) (encl_get .u8 (lt_len g197 g199)) ty_a5 rfl rfl) ?_
   refine DL.pu 15 (.int .i64 x81_115) rfl (p_assign rfl rfl) ?_
   refine DL.pu 16 (.int .u8 ((t23.take (if 8 < t2_2 then 8 else t2_2).toNat).getD x81_115.toNat 0)) rfl (p_assign rfl rfl) ?_
   refine DL.nil ?_
   refine TT.seq (x:=sub [1,1,1,1,1,1,1,0,1,0,1,1,1,0,1,0,0,1,1,0,0,1,0] B38) (y:=sub [1,1,1,1,1,1,1,0,1,0,1,1,1,0,1,0,0,1,1,0,0,1,1] B38) ?_
   refine TT.rg [0,1] [kp,kp] rfl rfl ?_
   refine DL.mv 86 (.int .i64 x81_115) rfl rfl rfl ?_
   refine DL.pu 87 (.bool (x81_115 == 0)) rfl (p_eql rfl rfl rfl) ?_
   refine DL.nil ?_
   obtain ⟨j_b26_2_202,h203,h204⟩:=bind_some h200
   have J205 : TT Tryd.prog 38 R 141 w0 I (.inBlock 4 :: .code (sub [1,1,1,1,1,1,1,0,1,0,1,1,1,0,1,0,0,1,1,1] B38) :: .inLoop (sub [1,1,1,1,1,1,1,0,1,0,1,1,1,0,1,0,0] B38) :: .inBlock 3 :: K) [(4,ptr b1 0),(8,.int .i64 t2_1),(9,.int .i64 t2_2),(10,.bool t2_3),(12,ptr b26 0),(79,v110),(80,.int .i64 ((t23.take (if 8 < t2_2 then 8 else t2_2).toNat).length : Int)),(81,.int .i64 x81_115)] [(some b30,mobj .i64 [(1,.int .u8 1),(2,.int .u8 2),(3,.int .u8 3),(4,.int .u8 4),(5,.int .u8 6),(6,.int .u8 12),(10,.int .u8 24),(7,.int .u8 48),(9,.int .u8 49),(8,.int .u8 160)]),(some b26,.cells (#[.int .i64 j_b26_0_63,.bool false,.int .i64 j_b26_2_202,(.slice none 0 0),str ([] : List UInt8),(.slice none 0 0),(.slice none 0 0)]) 27 (0,0)),(some b1,.cells (#[.int .i64 0,.bool false,.int .i64 0,(.slice none 0 0),str ([] : List UInt8),(.slice none 0 0),(.slice none 0 0)]) 27 (0,0))]:=by
    refine TT.inBlock ?_
    refine TT.rg [0,1] [kp,kp] rfl rfl ?_
    refine DL.pu 99 (.int .i64 (IntKind.i64.wrap (x81_115 + 1))) rfl (p_add rfl rfl rfl) ?_
    refine DL.mv 81 (.int .i64 (IntKind.i64.wrap (x81_115 + 1))) rfl rfl rfl ?_
    refine DL.nil ?_
    refine TT.inLoop ?_
    exact TT.weak (ih (IntKind.i64.wrap (x81_115 + 1)) j_b26_2_202 r0_ h204 hk) (Sub.cons rfl (Sub.cons rfl (Sub.cons rfl (Sub.cons rfl (Sub.cons rfl (Sub.cons rfl (Sub.cons rfl (Sub.cons rfl (Sub.nil _)))))))))
   by_cases c201 : (x81_115 == 0) = true
   ·
    have h207:=ite_true c201 h203
    refine TT.cond_true (x:=sub [1,1,1,1,1,1,1,0,1,0,1,1,1,0,1,0,0,1,1,0,0,1,1,0] B38) (y:=sub [1,1,1,1,1,1,1,0,1,0,1,1,1,0,1,0,0,1,1,0,0,1,1,1] B38) rfl c201 ?_
    refine TT.rg [0,1,2,3,4] [kp,kp,kp,kp,(.store,none)] rfl rfl ?_
    refine DL.mv 88 (.int .u8 ((t23.take (if 8 < t2_2 then 8 else t2_2).toNat).getD x81_115.toNat 0)) rfl rfl rfl ?_
    obtain ⟨t208,e209,h210⟩:=nm_some h207
    refine DL.pu 89 (.int .i8 t208) rfl (by rw [e209]; exact p_conv ty_u5 ty_u77 ⟨_,rfl⟩ rfl rfl) ?_
    refine DL.pu 90 (.int .i64 (IntKind.i64.wrap t208)) rfl (p_conv ty_u77 ty_u2 ⟨_,rfl⟩ rfl rfl) ?_
    refine DL.pu 91 (ptr b26 2) rfl (p_fieldAddr ty_f27_2 rfl rfl) ?_
    refine DL.put (H':=[(some b30,mobj .i64 [(1,.int .u8 1),(2,.int .u8 2),(3,.int .u8 3),(4,.int .u8 4),(5,.int .u8 6),(6,.int .u8 12),(10,.int .u8 24),(7,.int .u8 48),(9,.int .u8 49),(8,.int .u8 160)]),(some b26,.cells (#[.int .i64 j_b26_0_63,.bool false,.int .i64 (IntKind.i64.wrap t208),(.slice none 0 0),str ([] : List UInt8),(.slice none 0 0),(.slice none 0 0)]) 27 (0,0)),(some b1,.cells (#[.int .i64 0,.bool false,.int .i64 0,(.slice none 0 0),str ([] : List UInt8),(.slice none 0 0),(.slice none 0 0)]) 27 (0,0))]) (i:=4) rfl (Wn.none rfl) rfl rfl (f_store (c:=#[.int .i64 j_b26_0_63,.bool false,.int .i64 y_116_2,(.slice none 0 0),str ([] : List UInt8),(.slice none 0 0),(.slice none 0 0)]) (v:=.int .i64 (IntKind.i64.wrap t208)) (off:=2) (j:=1) ty_s2 rfl rfl (of_decide_eq_true rfl) trivial rfl rfl rfl) (keep_none rfl) ?_
    refine DL.nil ?_
    obtain rfl:=Option.some.inj h210
    exact TT.weak (J205 ) (Sub.cons rfl (Sub.cons rfl (Sub.cons rfl (Sub.cons rfl (Sub.cons rfl (Sub.cons rfl (Sub.cons rfl (Sub.cons rfl (Sub.nil _)))))))))
   ·
    replace c201:=Bool.eq_false_iff.mpr c201
    have h211:=ite_false c201 h203
    refine TT.cond_false (x:=sub [1,1,1,1,1,1,1,0,1,0,1,1,1,0,1,0,0,1,1,0,0,1,1,0] B38) (y:=sub [1,1,1,1,1,1,1,0,1,0,1,1,1,0,1,0,0,1,1,0,0,1,1,1] B38) rfl c201 ?_
    refine TT.rg [0,1,2,3,4,5,6,7] [kp,kq,kp,kp,kp,kp,kp,(.store,none)] rfl rfl ?_
    refine DL.pu 92 (ptr b26 2) rfl (p_fieldAddr ty_f27_2 rfl rfl) ?_
    refine DL.qu 93 (.int .i64 y_116_2) rfl (f_load (j:=1) ty_a2 rfl rfl rfl rfl) ?_
    refine DL.pu 94 (.int .i64 (ishl .i64 y_116_2 8)) rfl (p_shl (by decide) rfl rfl rfl) ?_
    refine DL.mv 95 (.int .u8 ((t23.take (if 8 < t2_2 then 8 else t2_2).toNat).getD x81_115.toNat 0)) rfl rfl rfl ?_
    obtain ⟨t212,e213,h214⟩:=nm_some h211
    refine DL.pu 96 (.int .i64 t212) rfl (by rw [e213]; exact p_conv ty_u5 ty_u2 ⟨_,rfl⟩ rfl rfl) ?_
    refine DL.pu 97 (.int .i64 (ior .i64 (ishl .i64 y_116_2 8) t212)) rfl (p_or rfl rfl rfl) ?_
    refine DL.pu 98 (ptr b26 2) rfl (p_fieldAddr ty_f27_2 rfl rfl) ?_
    refine DL.put (H':=[(some b30,mobj .i64 [(1,.int .u8 1),(2,.int .u8 2),(3,.int .u8 3),(4,.int .u8 4),(5,.int .u8 6),(6,.int .u8 12),(10,.int .u8 24),(7,.int .u8 48),(9,.int .u8 49),(8,.int .u8 160)]),(some b26,.cells (#[.int .i64 j_b26_0_63,.bool false,.int .i64 (ior .i64 (ishl .i64 y_116_2 8) t212),(.slice none 0 0),str ([] : List UInt8),(.slice none 0 0),(.slice none 0 0)]) 27 (0,0)),(some b1,.cells (#[.int .i64 0,.bool false,.int .i64 0,(.slice none 0 0),str ([] : List UInt8),(.slice none 0 0),(.slice none 0 0)]) 27 (0,0))]) (i:=7) rfl (Wn.none rfl) rfl rfl (f_store (c:=#[.int .i64 j_b26_0_63,.bool false,.int .i64 y_116_2,(.slice none 0 0),str ([] : List UInt8),(.slice none 0 0),(.slice none 0 0)]) (v:=.int .i64 (ior .i64 (ishl .i64 y_116_2 8) t212)) (off:=2) (j:=1) ty_s2 rfl rfl (of_decide_eq_true rfl) trivial rfl rfl rfl) (keep_none rfl) ?_
    refine DL.nil ?_
    obtain rfl:=Option.some.inj h214
    exact TT.weak (J205 ) (Sub.cons rfl (Sub.cons rfl (Sub.cons rfl (Sub.cons rfl (Sub.cons rfl (Sub.cons rfl (Sub.cons rfl (Sub.cons rfl (Sub.nil _)))))))))
  ·
   replace c195:=Bool.eq_false_iff.mpr c195
   have h215:=ite_false c195 h194
   refine TT.cond_false (x:=sub [1,1,1,1,1,1,1,0,1,0,1,1,1,0,1,0,0,1,0,0] B38) (y:=sub [1,1,1,1,1,1,1,0,1,0,1,1,1,0,1,0,0,1,0,1] B38) rfl c195 ?_
   refine TT.exit rfl ?_
   obtain rfl:=Option.some.inj h215
   exact TT.weak (hk) (Sub.cons rfl (Sub.cons rfl (Sub.cons rfl (Sub.cons rfl (Sub.cons rfl (Sub.nil _))))))

theorem der_value.L0_any (t2_0 : Int) (y_32_0 : Int) {z : Int} (h : der_value.L0 t2_0 [(1,1),(2,2),(3,3),(4,4),(5,6),(6,12),(10,24),(7,48),(9,49),(8,160)] y_32_0 = some z) : ∀ rem,rem.Perm (remOf [(1,1),(2,2),(3,3),(4,4),(5,6),(6,12),(10,24),(7,48),(9,49),(8,160)] #[]) → der_value.L0 t2_0 rem y_32_0 = some z:=by
 have A : ∀ (rem : List (Int × Int)) (y : Int),(∀ e ∈ rem,¬ e.2 = t2_0) → der_value.L0 t2_0 rem y = some y:=by
  intro rem
  induction rem with
  | nil => intro y _; rfl
  | cons e r ih =>
   intro y hn
   have h1 : ¬ e.2 = t2_0:=hn e (by simp)
   unfold der_value.L0 der_value.L0B
   simp only [beq_eq_false_iff_ne.2 h1,Bool.false_eq_true,if_false,Option.bind_some]
   exact ih y fun x hx => hn x (by simp [hx])
 have B : ∀ (rem : List (Int × Int)) (y : Int) (e : Int × Int),e ∈ rem → e.2 = t2_0 → (rem.map fun x => x.2).Nodup → der_value.L0 t2_0 rem y = some e.1:=by
  intro rem
  induction rem with
  | nil => intro y e he; cases he
  | cons a r ih =>
   intro y e he ht hn
   rw [List.map_cons,List.nodup_cons] at hn
   unfold der_value.L0 der_value.L0B
   rcases List.mem_cons.1 he with rfl | he
   ·
    simp only [ht,BEq.rfl,if_true,Option.bind_some]
    exact A r _ fun x hx hxt => hn.1 (by rw [ht,← hxt]; exact List.mem_map.2 ⟨x,hx,rfl⟩)
   ·
    have h1 : ¬ a.2 = t2_0:=fun h1 => hn.1 (by rw [h1,← ht]; exact List.mem_map.2 ⟨e,he,rfl⟩)
    simp only [beq_eq_false_iff_ne.2 h1,Bool.false_eq_true,if_false,Option.bind_some]
    exact ih y e he ht hn.2
 intro rem hp
 rw [remOf_nil] at hp
 by_cases hx : ∃ e ∈ ([(1,1),(2,2),(3,3),(4,4),(5,6),(6,12),(10,24),(7,48),(9,49),(8,160)] : List (Int × Int)),e.2 = t2_0
 ·
  obtain ⟨e,he,ht⟩:=hx
  rw [B _ _ e he ht (by decide)] at h
  rw [B rem _ e (hp.mem_iff.2 he) ht ((hp.map _).nodup_iff.2 (by decide))]; exact h
 ·
  rw [A _ _ (fun e he ht => hx ⟨e,he,ht⟩)] at h
  rw [A rem _ (fun e he ht => hx ⟨e,hp.mem_iff.1 he,ht⟩)]; exact h

def der_value.F (r_der_value : (List Int) → Int → Option (Der × Int × Bool)) (a0 : List Int) (a1 : Int) : Option (Der × Int × Bool):=(der_header.f a0).bind fun (t2_0,t2_1,t2_2,t2_3) => (if (!t2_3) = true then (some true) else (some (decide (a1 < 1)))).bind fun q6 => if q6 = true then (some (Der.mk 0 false 0 ([] : List Int) ([] : List UInt8) ([] : List Int) ([] : List Der),0,false)) else (req (0 ≤ t2_1) (req (t2_1 ≤ (IntKind.i64.wrap (t2_1 + t2_2))) (req ((IntKind.i64.wrap (t2_1 + t2_2)) ≤ (a0.length : Int)) (nm ((a0.drop t2_1.toNat).take ((IntKind.i64.wrap (t2_1 + t2_2)).toNat - t2_1.toNat)) fun t23 => (der_tags.f).bind fun _ => (der_value.L0 t2_0 [(1,1),(2,2),(3,3),(4,4),(5,6),(6,12),(10,24),(7,48),(9,49),(8,160)] 0).bind fun z_b26_0_42 => (if (decide (160 ≤ t2_0)) = true then (some (decide (t2_0 ≤ 190))) else (some false)).bind fun q55 => (if q55 = true then (nm (IntKind.i64.wrap (IntKind.u8.wrap (t2_0 - 160))) fun t70 => some (8,t70)) else (some (z_b26_0_42,0))).bind fun (j_b26_0_63,j_b26_2_64) => (if (j_b26_0_63 == 1) = true then ((if (decide (0 < t2_2)) = true then (req ((0 : Int) < (t23.length : Int)) (some ((t23.getD ((0 : Int).toNat) 0) == 255))) else (some false)).bind fun q88 => some (t2_3,q88,j_b26_2_64,([] : List Int),([] : List UInt8),([] : List Int),([] : List Der))) else ((if (j_b26_0_63 == 2) = true then (req (0 ≤ (if 8 < t2_2 then 8 else t2_2)) (req ((if 8 < t2_2 then 8 else t2_2) ≤ (t23.length : Int)) ((der_value.L1 t2_2 t23 (((t23.take (if 8 < t2_2 then 8 else t2_2).toNat).length : Int).toNat + 1) 0 j_b26_2_64).bind fun z_b26_2_191 => some (t2_3,z_b26_2_191,([] : List Int),([] : List UInt8),([] : List Int),([] : List Der))))) else ((if (j_b26_0_63 == 3) = true then (req (0 ≤ (if 1 < t2_2 then 1 else t2_2)) (req ((if 1 < t2_2 then 1 else t2_2) ≤ (t23.length : Int)) ((slices_Clone_41.f (t23.drop (if 1 < t2_2 then 1 else t2_2).toNat)).bind fun t236 => some (t2_3,t236,([] : List UInt8),([] : List Int),([] : List Der))))) else ((if (j_b26_0_63 == 4) = true then ((slices_Clone_41.f t23).bind fun t253 => some (t2_3,t253,([] : List UInt8),([] : List Int),([] : List Der))) else ((if (j_b26_0_63 == 5) = true then ((der_arcs.f t23).bind fun t269 => req (t269.length ≤ 1099511627776) (some (t2_3,([] : List UInt8),t269,([] : List Der)))) else ((if (j_b26_0_63 == 6) = true then (some (j_b26_0_63 == 6)) else (some (j_b26_0_63 == 10))).bind fun j118_278 => (if j118_278 = true then (some (t2_3,bytesL t23,([] : List Der))) else ((if (j_b26_0_63 == 7) = true then (some (j_b26_0_63 == 7)) else ((if (j_b26_0_63 == 9) = true then (some (j_b26_0_63 == 9)) else (some (j_b26_0_63 == 8))).bind fun j124_304 => some j124_304)).bind fun j124_296 => (if j124_296 = true then ((der_kids.f r_der_value t23 (IntKind.i64.wrap (a1 - 1))).bind fun (t319_0,t319_1) => some (t319_1,t319_0)) else (some (false,([] : List Der)))).bind fun (j10_312,j_b26_6_313) => some (j10_312,([] : List UInt8),j_b26_6_313))).bind fun (j10_286,j_b26_4_287,j_b26_6_288) => some (j10_286,j_b26_4_287,([] : List Int),j_b26_6_288))).bind fun (j10_260,j_b26_4_261,j_b26_5_262,j_b26_6_263) => some (j10_260,([] : List Int),j_b26_4_261,j_b26_5_262,j_b26_6_263))).bind fun (j10_243,j_b26_3_244,j_b26_4_245,j_b26_5_246,j_b26_6_247) => some (j10_243,j_b26_3_244,j_b26_4_245,j_b26_5_246,j_b26_6_247))).bind fun (j10_221,j_b26_3_222,j_b26_4_223,j_b26_5_224,j_b26_6_225) => some (j10_221,j_b26_2_64,j_b26_3_222,j_b26_4_223,j_b26_5_224,j_b26_6_225))).bind fun (j10_99,j_b26_2_100,j_b26_3_101,j_b26_4_102,j_b26_5_103,j_b26_6_104) => some (j10_99,false,j_b26_2_100,j_b26_3_101,j_b26_4_102,j_b26_5_103,j_b26_6_104))).bind fun (j10_75,j_b26_1_76,j_b26_2_77,j_b26_3_78,j_b26_4_79,j_b26_5_80,j_b26_6_81) => some (Der.mk j_b26_0_63 j_b26_1_76 j_b26_2_77 j_b26_3_78 j_b26_4_79 j_b26_5_80 j_b26_6_81,IntKind.i64.wrap (t2_1 + t2_2),j10_75)))))
set_option maxRecDepth 20000 in
theorem der_value.okF {r_der_value : (List Int) → Int → Option (Der × Int × Bool)} (hr_der_value : der_value.Rec r_der_value) {a0 : List Int} {a1 : Int} {a0_v : Value} {r_0 : Der} {r_1 : Int} {r_2 : Bool} (h : der_value.F r_der_value a0 a1 = some (r_0,r_1,r_2)) {M : Mem} (w : World) (hM : Ext M (heapOf w)) (hr_a0 : IntRow M .u8 a0_v a0) : Calls Tryd.prog 38 #[a0_v,.int .i64 a1] w (PostF (G:=Value × Value × Value) (fun g => .tuple #[.agg (Der.ce r_0 (g.1) (g.2.1) (g.2.2)),.int .i64 r_1,.bool r_2]) (fun g M_ => (IntRow M_ .u8 (g.1) (Der.bytes r_0)) ∧ (IntRow M_ .u64 (g.2.1) (Der.arcs r_0)) ∧ (RowS ShDer M_ (g.2.2) (Tree.kids r_0))) M w):=by
 unfold der_value.F at h
 have hE:=Env.start hM
 refine calls_of_TT (N:=141) (S:=[(0,a0_v),(1,.int .i64 a1)]) (c:=B38) Tryd.func38 rfl rfl rfl (by simp) ?_
 show TT _ _ _ _ _ _ [.code (sub [] B38)] _ _
 refine TT.seq (x:=sub [0] B38) (y:=sub [1] B38) ?_
 refine TT.rg [0,1,2] [(.alloc,none),kp,kp] rfl rfl ?_
 refine DL.new (ob:=.cells (#[.int .i64 0,.bool false,.int .i64 0,(.slice none 0 0),str ([] : List UInt8),(.slice none 0 0),(.slice none 0 0)]) 27) (mk:=fun b => ptr b 0) (i:=0) rfl (Wn.none rfl) rfl rfl rfl (f_alloc ty_z27 rfl) ?_
 intro b1 hb1
 refine DL.pu 5 (.int .i64 0) rfl (p_assign rfl rfl) ?_
 refine DL.pu 6 (.bool false) rfl (p_assign rfl rfl) ?_
 refine DL.nil ?_
 refine TT.seq (x:=sub [1,0] B38) (y:=sub [1,1] B38) ?_
 refine TT.rg [0,1,2,3,4,5,6,7,8,9,10] [kp,kq,kp,kp,kp,kp,kp,kp,kp,kp,kp] rfl rfl ?_
 refine DL.mv 18 (a0_v) rfl rfl rfl ?_
 obtain ⟨⟨t2_0,t2_1,t2_2,t2_3⟩,h3,h4⟩:=bind_some h
 refine DL.qu 19 (.tuple #[.int .u8 t2_0,.int .i64 t2_1,.int .i64 t2_2,.bool t2_3]) rfl (f_callR rfl rfl (args_val (vs:=[a0_v]) rfl) (fun w => enter53 _ w) (fun w hc => der_header.val h3 (M:=M) w (hE.ext hc) hr_a0)) ?_
 refine DL.mv 17 (.tuple #[.int .u8 t2_0,.int .i64 t2_1,.int .i64 t2_2,.bool t2_3]) rfl rfl rfl ?_
 refine DL.pu 20 (.int .u8 t2_0) rfl (p_extract rfl rfl rfl) ?_
 refine DL.pu 21 (.int .i64 t2_1) rfl (p_extract rfl rfl rfl) ?_
 refine DL.pu 22 (.int .i64 t2_2) rfl (p_extract rfl rfl rfl) ?_
 refine DL.pu 23 (.bool t2_3) rfl (p_extract rfl rfl rfl) ?_
 refine DL.pu 7 (.int .u8 t2_0) rfl (p_assign rfl rfl) ?_
 refine DL.pu 8 (.int .i64 t2_1) rfl (p_assign rfl rfl) ?_
 refine DL.pu 9 (.int .i64 t2_2) rfl (p_assign rfl rfl) ?_
 refine DL.pu 10 (.bool t2_3) rfl (p_assign rfl rfl) ?_
 refine DL.nil ?_
 refine TT.seq (x:=sub [1,1,0] B38) (y:=sub [1,1,1] B38) ?_
 refine TT.seq (x:=sub [1,1,0,0] B38) (y:=sub [1,1,0,1] B38) ?_
 refine TT.rg [0,1,2,3,4,5] [kp,kp,kp,kp,kp,kp] rfl rfl ?_
 refine DL.mv 24 (.bool t2_3) rfl rfl rfl ?_
 refine DL.pu 25 (.bool (!t2_3)) rfl (p_not rfl rfl) ?_
 refine DL.mv 26 (.bool (!t2_3)) rfl rfl rfl ?_
 obtain ⟨q6,h7,h8⟩:=bind_some h4
 refine DL.cut [(0,a0_v),(1,.int .i64 a1),(4,ptr b1 0),(7,.int .u8 t2_0),(8,.int .i64 t2_1),(9,.int .i64 t2_2),(10,.bool t2_3),(29,.bool q6)] [] ?_ (fun J9 => ?_)
 ·
  refine DL.nil ?_
  by_cases c13 : q6 = true
  ·
   have h14:=ite_true c13 h8
   refine TT.cond_true (x:=sub [1,1,0,1,0] B38) (y:=sub [1,1,0,1,1] B38) rfl c13 ?_
   refine TT.seq (x:=sub [1,1,0,1,0,0] B38) (y:=sub [1,1,0,1,0,1] B38) ?_
   refine TT.rg [0,1,2,3] [kp,(.store,none),kp,kp] rfl rfl ?_
   refine DL.pu 30 (.agg #[.int .i64 0,.bool false,.int .i64 0,(.slice none 0 0),str ([] : List UInt8),(.slice none 0 0),(.slice none 0 0)]) rfl (p_build (vs:=[]) (fun w => by kernel_rfl) rfl rfl) ?_
   refine DL.put (H':=[(some b1,.cells (#[.int .i64 0,.bool false,.int .i64 0,(.slice none 0 0),str ([] : List UInt8),(.slice none 0 0),(.slice none 0 0)]) 27 (0,0))]) (i:=1) rfl (Wn.none rfl) rfl rfl (f_storeA (j:=0) ty_s27 rfl rfl rfl (one_cons trivial (one_cons trivial (one_cons trivial (one_cons (sl_one (RowV.sl (IntRow.nil .u8 M))) (one_cons trivial (one_cons (sl_one (RowV.sl (IntRow.nil .u64 M))) (one_cons (sl_one (RowS.sl (RowS.nil ShDer M))) one_nil))))))) rfl rfl rfl) (keep_none rfl) ?_
   refine DL.pu 5 (.int .i64 0) rfl (p_assign rfl rfl) ?_
   refine DL.pu 6 (.bool false) rfl (p_assign rfl rfl) ?_
   refine DL.nil ?_
   simp only [Option.some.injEq,Prod.mk.injEq] at h14
   obtain ⟨rfl,rfl,rfl⟩:=h14
   exact retF (rs:=[.cell 4 27,.tmp 5,.tmp 6]) (vs:=[.agg #[.int .i64 0,.bool false,.int .i64 0,(.slice none 0 0),str ([] : List UInt8),(.slice none 0 0),(.slice none 0 0)],.int .i64 0,.bool false]) ((.slice none 0 0),(.slice none 0 0),(.slice none 0 0)) hE Tryd.func38 rfl rfl rfl (res_cons (ResV.cell (j:=0) ty_a27 ty_s27 rfl rfl rfl) (res_cons (ResV.tmp rfl) (res_cons (ResV.tmp rfl) res_nil))) ⟨(IntRow.nil .u8 M),(IntRow.nil .u64 M),(RowS.nil ShDer M)⟩
  ·
   replace c13:=Bool.eq_false_iff.mpr c13
   have h15:=ite_false c13 h8
   refine TT.cond_false (x:=sub [1,1,0,1,0] B38) (y:=sub [1,1,0,1,1] B38) rfl c13 ?_
   refine TT.skip ?_
   refine TT.seq (x:=sub [1,1,1,0] B38) (y:=sub [1,1,1,1] B38) ?_
   refine TT.rg [0,1,2,3,4,5,6] [kp,kp,kp,kp,kp,kp,kp] rfl rfl ?_
   refine DL.mv 31 (a0_v) rfl rfl rfl ?_
   refine DL.mv 32 (.int .i64 t2_1) rfl rfl rfl ?_
   refine DL.mv 33 (.int .i64 t2_1) rfl rfl rfl ?_
   refine DL.mv 34 (.int .i64 t2_2) rfl rfl rfl ?_
   refine DL.pu 35 (.int .i64 (IntKind.i64.wrap (t2_1 + t2_2))) rfl (p_add rfl rfl rfl) ?_
   obtain ⟨g17,h18⟩:=req_some h15
   obtain ⟨g19,h20⟩:=req_some h18
   obtain ⟨g21,h22⟩:=req_some h20
   obtain ⟨t23,e24,h25⟩:=nm_some h22
   obtain ⟨v16,v16_e⟩ : ∃ u,u = subsl a0_v 1 t2_1.toNat (IntKind.i64.wrap (t2_1 + t2_2)).toNat:=⟨_,rfl⟩
   have hr_v16 : IntRow M .u8 v16 t23:=by rw [v16_e]; exact (by rw [e24]; exact IntRow.sub hr_a0 (toNat_le g21) (toNat_le2 g19))
   refine DL.pu 36 (v16) rfl (by rw [v16_e]; exact p_subLH ty_u23 ty_s5 hr_a0 g17 g19 g21 rfl rfl rfl rfl) ?_
   refine DL.pu 11 (v16) rfl (p_assign rfl rfl) ?_
   refine DL.nil ?_
   refine TT.seq (x:=sub [1,1,1,1,0] B38) (y:=sub [1,1,1,1,1] B38) ?_
   refine TT.rg [0,1,2] [kp,(.alloc,none),(.store,none)] rfl rfl ?_
   refine DL.pu 37 (.agg #[.int .i64 0,.bool false,.int .i64 0,(.slice none 0 0),str ([] : List UInt8),(.slice none 0 0),(.slice none 0 0)]) rfl (p_build (vs:=[]) (fun w => by kernel_rfl) rfl rfl) ?_
   refine DL.new (ob:=.cells (#[.int .i64 0,.bool false,.int .i64 0,(.slice none 0 0),str ([] : List UInt8),(.slice none 0 0),(.slice none 0 0)]) 27) (mk:=fun b => ptr b 0) (i:=1) rfl (Wn.none rfl) rfl rfl rfl (f_alloc ty_z27 rfl) ?_
   intro b26 hb26
   refine DL.put (H':=[(some b26,.cells (#[.int .i64 0,.bool false,.int .i64 0,(.slice none 0 0),str ([] : List UInt8),(.slice none 0 0),(.slice none 0 0)]) 27 (0,0)),(some b1,.cells (#[.int .i64 0,.bool false,.int .i64 0,(.slice none 0 0),str ([] : List UInt8),(.slice none 0 0),(.slice none 0 0)]) 27 (0,0))]) (i:=2) rfl (Wn.none rfl) rfl rfl (f_storeA (j:=0) ty_s27 rfl rfl rfl (one_cons trivial (one_cons trivial (one_cons trivial (one_cons (sl_one (RowV.sl (IntRow.nil .u8 M))) (one_cons trivial (one_cons (sl_one (RowV.sl (IntRow.nil .u64 M))) (one_cons (sl_one (RowS.sl (RowS.nil ShDer M))) one_nil))))))) rfl rfl rfl) (keep_none rfl) ?_
   refine DL.nil ?_
   refine TT.seq (x:=sub [1,1,1,1,1,0] B38) (y:=sub [1,1,1,1,1,1] B38) ?_
   refine TT.seq (x:=sub [1,1,1,1,1,0,0] B38) (y:=sub [1,1,1,1,1,0,1] B38) ?_
   refine TT.rg [0,1] [kk,kk] rfl rfl ?_
   obtain ⟨_,h27,h28⟩:=bind_some h25
   refine DL.handK (v:=fun g => .map (some g)) (E:=fun g => [(some g,mobj .i64 [(1,.int .u8 1),(2,.int .u8 2),(3,.int .u8 3),(4,.int .u8 4),(5,.int .u8 6),(6,.int .u8 12),(10,.int .u8 24),(7,.int .u8 48),(9,.int .u8 49),(8,.int .u8 160)])]) (p:=fun _ => True) (i:=0) rfl (Wn.none rfl) rfl rfl rfl (f_callH (by simp) rfl rfl rfl (args_val (vs:=[]) rfl) (fun w => enter43 _ w) (fun w hc => der_tags.ok h27 (M:=heapOf w) w (Ext.refl _))) ?_
   intro b30 _; dsimp only [List.cons_append,List.nil_append]
   refine DL.range (j:=0) (m:=[(1,.int .u8 1),(2,.int .u8 2),(3,.int .u8 3),(4,.int .u8 4),(5,.int .u8 6),(6,.int .u8 12),(10,.int .u8 24),(7,.int .u8 48),(9,.int .u8 49),(8,.int .u8 160)]) ty_u68 rfl (i:=1) rfl (Wn.none rfl) rfl rfl rfl rfl rfl ?_
   intro b31
   show DL _ _ _ _ _ _ _ _ _ _ _ _ [(some b31,iobj b30 10 #[]),(some b30,mobj .i64 [(1,.int .u8 1),(2,.int .u8 2),(3,.int .u8 3),(4,.int .u8 4),(5,.int .u8 6),(6,.int .u8 12),(10,.int .u8 24),(7,.int .u8 48),(9,.int .u8 49),(8,.int .u8 160)]),(some b26,.cells (#[.int .i64 0,.bool false,.int .i64 0,(.slice none 0 0),str ([] : List UInt8),(.slice none 0 0),(.slice none 0 0)]) 27 (0,0)),(some b1,.cells (#[.int .i64 0,.bool false,.int .i64 0,(.slice none 0 0),str ([] : List UInt8),(.slice none 0 0),(.slice none 0 0)]) 27 (0,0))]
   refine DL.nil ?_
   refine TT.block (c:=sub [1,1,1,1,1,0,1,0] B38) ?_
   refine TT.loop (c:=sub [1,1,1,1,1,0,1,0,0] B38) ?_
   obtain ⟨z_b26_0_42,h52,h53⟩:=bind_some h28
   refine TT.weak (der_value.L0_ok a1 b1 t2_0 t2_1 t2_2 t2_3 v16 b26 b30 b31 hE _ #[] 0 z_b26_0_42 rfl (der_value.L0_any t2_0 0 h52) ( ?_)) (Sub.cons rfl (Sub.cons rfl (Sub.cons rfl (Sub.cons rfl (Sub.cons rfl (Sub.cons rfl (Sub.cons rfl (Sub.cons rfl (Sub.cons rfl (Sub.nil _))))))))))
   refine TT.seq (x:=sub [1,1,1,1,1,1,0] B38) (y:=sub [1,1,1,1,1,1,1] B38) ?_
   refine TT.seq (x:=sub [1,1,1,1,1,1,0,0] B38) (y:=sub [1,1,1,1,1,1,0,1] B38) ?_
   refine TT.rg [0,1,2,3,4,5] [kp,kp,kp,kp,kp,kp] rfl rfl ?_
   refine DL.mv 50 (.int .u8 t2_0) rfl rfl rfl ?_
   refine DL.pu 51 (.bool (decide (160 ≤ t2_0))) rfl (p_geq rfl rfl rfl) ?_
   refine DL.mv 52 (.bool (decide (160 ≤ t2_0))) rfl rfl rfl ?_
   obtain ⟨q55,h56,h57⟩:=bind_some h53
   refine DL.cut [(1,.int .i64 a1),(4,ptr b1 0),(7,.int .u8 t2_0),(8,.int .i64 t2_1),(9,.int .i64 t2_2),(10,.bool t2_3),(11,v16),(12,ptr b26 0),(55,.bool q55)] [] ?_ (fun J58 => ?_)
   ·
    refine DL.nil ?_
    obtain ⟨⟨j_b26_0_63,j_b26_2_64⟩,h65,h66⟩:=bind_some h57
    have J67 : TT Tryd.prog 38 (PostF (G:=Value × Value × Value) (fun g => .tuple #[.agg (Der.ce r_0 (g.1) (g.2.1) (g.2.2)),.int .i64 r_1,.bool r_2]) (fun g M_ => (IntRow M_ .u8 (g.1) (Der.bytes r_0)) ∧ (IntRow M_ .u64 (g.2.1) (Der.arcs r_0)) ∧ (RowS ShDer M_ (g.2.2) (Tree.kids r_0))) M w) 141 w (heapOf w) (.code (sub [1,1,1,1,1,1,1] B38) :: []) [(1,.int .i64 a1),(4,ptr b1 0),(8,.int .i64 t2_1),(9,.int .i64 t2_2),(10,.bool t2_3),(11,v16),(12,ptr b26 0)] [(some b30,mobj .i64 [(1,.int .u8 1),(2,.int .u8 2),(3,.int .u8 3),(4,.int .u8 4),(5,.int .u8 6),(6,.int .u8 12),(10,.int .u8 24),(7,.int .u8 48),(9,.int .u8 49),(8,.int .u8 160)]),(some b26,.cells (#[.int .i64 j_b26_0_63,.bool false,.int .i64 j_b26_2_64,(.slice none 0 0),str ([] : List UInt8),(.slice none 0 0),(.slice none 0 0)]) 27 (0,0)),(some b1,.cells (#[.int .i64 0,.bool false,.int .i64 0,(.slice none 0 0),str ([] : List UInt8),(.slice none 0 0),(.slice none 0 0)]) 27 (0,0))]:=by
     refine TT.seq (x:=sub [1,1,1,1,1,1,1,0] B38) (y:=sub [1,1,1,1,1,1,1,1] B38) ?_
     refine TT.seq (x:=sub [1,1,1,1,1,1,1,0,0] B38) (y:=sub [1,1,1,1,1,1,1,0,1] B38) ?_
     refine TT.rg [0,1] [kp,kq] rfl rfl ?_
     refine DL.pu 61 (ptr b26 0) rfl (p_fieldAddr ty_f27_0 rfl rfl) ?_
     refine DL.qu 62 (.int .i64 j_b26_0_63) rfl (f_load (j:=1) ty_a22 rfl rfl rfl rfl) ?_
     refine DL.nil ?_
     refine TT.block (c:=sub [1,1,1,1,1,1,1,0,1,0] B38) ?_
     refine TT.seq (x:=sub [1,1,1,1,1,1,1,0,1,0,0] B38) (y:=sub [1,1,1,1,1,1,1,0,1,0,1] B38) ?_
     refine TT.rg [0,1] [kp,kp] rfl rfl ?_
     refine DL.pu 64 (.bool (j_b26_0_63 == 1)) rfl (p_eql rfl rfl rfl) ?_
     refine DL.pu 63 (.bool (j_b26_0_63 == 1)) rfl (p_assign rfl rfl) ?_
     refine DL.nil ?_
     obtain ⟨⟨j10_75,j_b26_1_76,j_b26_2_77,j_b26_3_78,j_b26_4_79,j_b26_5_80,j_b26_6_81⟩,h82,h83⟩:=bind_some h66
     have J84 : ∀ (M85 I85 : Mem),Env w M M85 I85 → Ext M M85 → ∀ (j_b26_3_78_v : Value),∀ (j_b26_5_80_v : Value),∀ (j_b26_6_81_v : Value),IntRow M85 .u8 j_b26_3_78_v j_b26_3_78 → IntRow M85 .u64 j_b26_5_80_v j_b26_5_80 → RowS ShDer M85 j_b26_6_81_v j_b26_6_81 → TT Tryd.prog 38 (PostF (G:=Value × Value × Value) (fun g => .tuple #[.agg (Der.ce r_0 (g.1) (g.2.1) (g.2.2)),.int .i64 r_1,.bool r_2]) (fun g M_ => (IntRow M_ .u8 (g.1) (Der.bytes r_0)) ∧ (IntRow M_ .u64 (g.2.1) (Der.arcs r_0)) ∧ (RowS ShDer M_ (g.2.2) (Tree.kids r_0))) M w) 141 w I85 (.inBlock 2 :: .code (sub [1,1,1,1,1,1,1,1] B38) :: []) [(4,ptr b1 0),(8,.int .i64 t2_1),(9,.int .i64 t2_2),(10,.bool j10_75),(12,ptr b26 0)] [(some b30,mobj .i64 [(1,.int .u8 1),(2,.int .u8 2),(3,.int .u8 3),(4,.int .u8 4),(5,.int .u8 6),(6,.int .u8 12),(10,.int .u8 24),(7,.int .u8 48),(9,.int .u8 49),(8,.int .u8 160)]),(some b26,.cells (#[.int .i64 j_b26_0_63,.bool j_b26_1_76,.int .i64 j_b26_2_77,j_b26_3_78_v,str j_b26_4_79,j_b26_5_80_v,j_b26_6_81_v]) 27 (0,0)),(some b1,.cells (#[.int .i64 0,.bool false,.int .i64 0,(.slice none 0 0),str ([] : List UInt8),(.slice none 0 0),(.slice none 0 0)]) 27 (0,0))]:=by
      intro M85 I85 hE85 hx85 j_b26_3_78_v j_b26_5_80_v j_b26_6_81_v hr_j_b26_3_78 hr_j_b26_5_80 hr_j_b26_6_81
      refine TT.inBlock ?_
      refine TT.seq (x:=sub [1,1,1,1,1,1,1,1,0] B38) (y:=sub [1,1,1,1,1,1,1,1,1] B38) ?_
      refine TT.rg [0,1,2,3,4,5,6,7] [kq,kp,kp,kp,kp,(.store,none),kp,kp] rfl rfl ?_
      refine DL.qu 136 (.agg #[.int .i64 j_b26_0_63,.bool j_b26_1_76,.int .i64 j_b26_2_77,j_b26_3_78_v,str j_b26_4_79,j_b26_5_80_v,j_b26_6_81_v]) rfl (f_loadA (j:=1) ty_a27 ty_s27 rfl rfl rfl rfl) ?_
      refine DL.mv 137 (.int .i64 t2_1) rfl rfl rfl ?_
      refine DL.mv 138 (.int .i64 t2_2) rfl rfl rfl ?_
      refine DL.pu 139 (.int .i64 (IntKind.i64.wrap (t2_1 + t2_2))) rfl (p_add rfl rfl rfl) ?_
      refine DL.mv 140 (.bool j10_75) rfl rfl rfl ?_
      refine DL.put (H':=[(some b30,mobj .i64 [(1,.int .u8 1),(2,.int .u8 2),(3,.int .u8 3),(4,.int .u8 4),(5,.int .u8 6),(6,.int .u8 12),(10,.int .u8 24),(7,.int .u8 48),(9,.int .u8 49),(8,.int .u8 160)]),(some b26,.cells (#[.int .i64 j_b26_0_63,.bool j_b26_1_76,.int .i64 j_b26_2_77,j_b26_3_78_v,str j_b26_4_79,j_b26_5_80_v,j_b26_6_81_v]) 27 (0,0)),(some b1,.cells (#[.int .i64 j_b26_0_63,.bool j_b26_1_76,.int .i64 j_b26_2_77,j_b26_3_78_v,str j_b26_4_79,j_b26_5_80_v,j_b26_6_81_v]) 27 (0,0))]) (i:=5) rfl (Wn.none rfl) rfl rfl (f_storeA (j:=2) ty_s27 rfl rfl rfl (one_cons trivial (one_cons trivial (one_cons trivial (one_cons (sl_one (RowV.sl hr_j_b26_3_78)) (one_cons trivial (one_cons (sl_one (RowV.sl hr_j_b26_5_80)) (one_cons (sl_one (RowS.sl hr_j_b26_6_81)) one_nil))))))) rfl rfl rfl) (keep_none rfl) ?_
      refine DL.pu 5 (.int .i64 (IntKind.i64.wrap (t2_1 + t2_2))) rfl (p_assign rfl rfl) ?_
      refine DL.pu 6 (.bool j10_75) rfl (p_assign rfl rfl) ?_
      refine DL.nil ?_
      simp only [Option.some.injEq,Prod.mk.injEq] at h83
      obtain ⟨rfl,rfl,rfl⟩:=h83
      exact retF (rs:=[.cell 4 27,.tmp 5,.tmp 6]) (vs:=[.agg #[.int .i64 j_b26_0_63,.bool j_b26_1_76,.int .i64 j_b26_2_77,j_b26_3_78_v,str j_b26_4_79,j_b26_5_80_v,j_b26_6_81_v],.int .i64 (IntKind.i64.wrap (t2_1 + t2_2)),.bool j10_75]) (j_b26_3_78_v,j_b26_5_80_v,j_b26_6_81_v) hE85 Tryd.func38 rfl rfl rfl (res_cons (ResV.cell (j:=2) ty_a27 ty_s27 rfl rfl rfl) (res_cons (ResV.tmp rfl) (res_cons (ResV.tmp rfl) res_nil))) ⟨hr_j_b26_3_78,hr_j_b26_5_80,hr_j_b26_6_81⟩
     by_cases c74 : (j_b26_0_63 == 1) = true
     ·
      have h86:=ite_true c74 h82
      refine TT.cond_true (x:=sub [1,1,1,1,1,1,1,0,1,0,1,0] B38) (y:=sub [1,1,1,1,1,1,1,0,1,0,1,1] B38) rfl c74 ?_
      refine TT.rg [0,1,2,3,4,5,6,7,8,9] [kp,kp,kp,kp,kp,kp,kp,kp,kp,(.store,none)] rfl rfl ?_
      refine DL.mv 65 (.int .i64 t2_2) rfl rfl rfl ?_
      refine DL.pu 66 (.bool (decide (0 < t2_2))) rfl (p_gtr rfl rfl rfl) ?_
      refine DL.mv 67 (.bool (decide (0 < t2_2))) rfl rfl rfl ?_
      obtain ⟨q88,h89,h90⟩:=bind_some h86
      refine DL.cut [(4,ptr b1 0),(8,.int .i64 t2_1),(9,.int .i64 t2_2),(10,.bool t2_3),(12,ptr b26 0),(72,.bool q88)] [8,9] ?_ (fun J91 => ?_)
      ·
       refine DL.pu 73 (ptr b26 1) rfl (p_fieldAddr ty_f27_1 rfl rfl) ?_
       refine DL.put (H':=[(some b30,mobj .i64 [(1,.int .u8 1),(2,.int .u8 2),(3,.int .u8 3),(4,.int .u8 4),(5,.int .u8 6),(6,.int .u8 12),(10,.int .u8 24),(7,.int .u8 48),(9,.int .u8 49),(8,.int .u8 160)]),(some b26,.cells (#[.int .i64 j_b26_0_63,.bool q88,.int .i64 j_b26_2_64,(.slice none 0 0),str ([] : List UInt8),(.slice none 0 0),(.slice none 0 0)]) 27 (0,0)),(some b1,.cells (#[.int .i64 0,.bool false,.int .i64 0,(.slice none 0 0),str ([] : List UInt8),(.slice none 0 0),(.slice none 0 0)]) 27 (0,0))]) (i:=9) rfl (Wn.none rfl) rfl rfl (f_store (c:=#[.int .i64 j_b26_0_63,.bool false,.int .i64 j_b26_2_64,(.slice none 0 0),str ([] : List UInt8),(.slice none 0 0),(.slice none 0 0)]) (v:=.bool q88) (off:=1) (j:=1) ty_s4 rfl rfl (of_decide_eq_true rfl) trivial rfl rfl rfl) (keep_none rfl) ?_
       refine DL.nil ?_
       simp only [Option.some.injEq,Prod.mk.injEq] at h90
       obtain ⟨rfl,rfl,rfl,rfl,rfl,rfl,rfl⟩:=h90
       exact TT.weak (J84 M (heapOf w) hE (Ext.refl _) (.slice none 0 0) (.slice none 0 0) (.slice none 0 0) (IntRow.nil .u8 M) (IntRow.nil .u64 M) (RowS.nil ShDer M)) (Sub.cons rfl (Sub.cons rfl (Sub.cons rfl (Sub.cons rfl (Sub.cons rfl (Sub.nil _))))))
      ·
       by_cases c92 : (decide (0 < t2_2)) = true
       ·
        have h93:=ite_true c92 h89
        refine DL.pure (v:=v16) rfl (Wn.yes c92 rfl rfl rfl rfl) rfl rfl rfl (p_move rfl rfl) ?_
        obtain ⟨g94,h95⟩:=req_some h93
        refine DL.pure (v:=elp v16 ((0 : Int).toNat)) rfl (Wn.yes c92 rfl rfl rfl rfl) rfl rfl rfl (p_slIx1 ty_u23 ty_s5 (RowV.some hr_v16 (by decide) g94) (by decide) g94 rfl rfl rfl) ?_
        refine DL.imm (v:=.int .u8 (t23.getD ((0 : Int).toNat) 0)) rfl (Wn.yes c92 rfl rfl rfl rfl) rfl rfl rfl (i_loadEl (RowV.mono hr_v16 hE.mi) (encl_get .u8 (lt_len (by decide) g94)) ty_a5 rfl rfl) ?_
        refine DL.pure (v:=.bool ((t23.getD ((0 : Int).toNat) 0) == 255)) rfl (Wn.yes c92 rfl rfl rfl rfl) rfl rfl rfl (p_eql rfl rfl rfl) ?_
        refine DL.pu 72 (.bool ((t23.getD ((0 : Int).toNat) 0) == 255)) rfl (p_pick_t c92 rfl rfl rfl) ?_
        obtain rfl:=Option.some.inj h95
        exact DL.weak J91 (Sub.cons rfl (Sub.cons rfl (Sub.cons rfl (Sub.cons rfl (Sub.cons rfl (Sub.cons rfl (Sub.nil _)))))))
       ·
        replace c92:=Bool.eq_false_iff.mpr c92
        have h96:=ite_false c92 h89
        refine DL.not (i:=3) rfl (Wn.no c92 rfl rfl rfl rfl) rfl rfl ?_
        refine DL.not (i:=4) rfl (Wn.no c92 rfl rfl rfl rfl) rfl rfl ?_
        refine DL.not (i:=5) rfl (Wn.no c92 rfl rfl rfl rfl) rfl rfl ?_
        refine DL.not (i:=6) rfl (Wn.no c92 rfl rfl rfl rfl) rfl rfl ?_
        refine DL.pu 72 (.bool false) rfl (p_pick_f c92 rfl rfl rfl) ?_
        obtain rfl:=Option.some.inj h96
        exact DL.weak J91 (Sub.cons rfl (Sub.cons rfl (Sub.cons rfl (Sub.cons rfl (Sub.cons rfl (Sub.cons rfl (Sub.nil _)))))))
     ·
      replace c74:=Bool.eq_false_iff.mpr c74
      have h97:=ite_false c74 h82
      refine TT.cond_false (x:=sub [1,1,1,1,1,1,1,0,1,0,1,0] B38) (y:=sub [1,1,1,1,1,1,1,0,1,0,1,1] B38) rfl c74 ?_
      refine TT.seq (x:=sub [1,1,1,1,1,1,1,0,1,0,1,1,0] B38) (y:=sub [1,1,1,1,1,1,1,0,1,0,1,1,1] B38) ?_
      refine TT.rg [0,1] [kp,kp] rfl rfl ?_
      refine DL.pu 75 (.bool (j_b26_0_63 == 2)) rfl (p_eql rfl rfl rfl) ?_
      refine DL.pu 74 (.bool (j_b26_0_63 == 2)) rfl (p_assign rfl rfl) ?_
      refine DL.nil ?_
      obtain ⟨⟨j10_99,j_b26_2_100,j_b26_3_101,j_b26_4_102,j_b26_5_103,j_b26_6_104⟩,h105,h106⟩:=bind_some h97
      have J107 : ∀ (M108 I108 : Mem),Env w M M108 I108 → Ext M M108 → ∀ (j_b26_3_101_v : Value),∀ (j_b26_5_103_v : Value),∀ (j_b26_6_104_v : Value),IntRow M108 .u8 j_b26_3_101_v j_b26_3_101 → IntRow M108 .u64 j_b26_5_103_v j_b26_5_103 → RowS ShDer M108 j_b26_6_104_v j_b26_6_104 → TT Tryd.prog 38 (PostF (G:=Value × Value × Value) (fun g => .tuple #[.agg (Der.ce r_0 (g.1) (g.2.1) (g.2.2)),.int .i64 r_1,.bool r_2]) (fun g M_ => (IntRow M_ .u8 (g.1) (Der.bytes r_0)) ∧ (IntRow M_ .u64 (g.2.1) (Der.arcs r_0)) ∧ (RowS ShDer M_ (g.2.2) (Tree.kids r_0))) M w) 141 w I108 ((.inBlock 2 :: .code (sub [1,1,1,1,1,1,1,1] B38) :: [])) [(4,ptr b1 0),(8,.int .i64 t2_1),(9,.int .i64 t2_2),(10,.bool j10_99),(12,ptr b26 0)] [(some b30,mobj .i64 [(1,.int .u8 1),(2,.int .u8 2),(3,.int .u8 3),(4,.int .u8 4),(5,.int .u8 6),(6,.int .u8 12),(10,.int .u8 24),(7,.int .u8 48),(9,.int .u8 49),(8,.int .u8 160)]),(some b26,.cells (#[.int .i64 j_b26_0_63,.bool false,.int .i64 j_b26_2_100,j_b26_3_101_v,str j_b26_4_102,j_b26_5_103_v,j_b26_6_104_v]) 27 (0,0)),(some b1,.cells (#[.int .i64 0,.bool false,.int .i64 0,(.slice none 0 0),str ([] : List UInt8),(.slice none 0 0),(.slice none 0 0)]) 27 (0,0))]:=by
       intro M108 I108 hE108 hx108 j_b26_3_101_v j_b26_5_103_v j_b26_6_104_v hr_j_b26_3_101 hr_j_b26_5_103 hr_j_b26_6_104
       simp only [Option.some.injEq,Prod.mk.injEq] at h106
       obtain ⟨rfl,rfl,rfl,rfl,rfl,rfl,rfl⟩:=h106
       exact TT.weak (J84 M108 I108 hE108 hx108 j_b26_3_101_v j_b26_5_103_v j_b26_6_104_v hr_j_b26_3_101 hr_j_b26_5_103 hr_j_b26_6_104) (Sub.cons rfl (Sub.cons rfl (Sub.cons rfl (Sub.cons rfl (Sub.cons rfl (Sub.nil _))))))
      by_cases c98 : (j_b26_0_63 == 2) = true
      ·
       have h109:=ite_true c98 h105
       refine TT.cond_true (x:=sub [1,1,1,1,1,1,1,0,1,0,1,1,1,0] B38) (y:=sub [1,1,1,1,1,1,1,0,1,0,1,1,1,1] B38) rfl c98 ?_
       refine TT.seq (x:=sub [1,1,1,1,1,1,1,0,1,0,1,1,1,0,0] B38) (y:=sub [1,1,1,1,1,1,1,0,1,0,1,1,1,0,1] B38) ?_
       refine TT.rg [0,1,2,3,4,5] [kp,kp,kp,kp,kp,kp] rfl rfl ?_
       refine DL.mv 76 (v16) rfl rfl rfl ?_
       refine DL.mv 77 (.int .i64 t2_2) rfl rfl rfl ?_
       refine DL.pu 78 (.int .i64 (if 8 < t2_2 then 8 else t2_2)) rfl (p_min2 rfl rfl rfl) ?_
       obtain ⟨g111,h112⟩:=req_some h109
       obtain ⟨g113,h114⟩:=req_some h112
       obtain ⟨v110,v110_e⟩ : ∃ u,u = subsl v16 1 0 (if 8 < t2_2 then 8 else t2_2).toNat:=⟨_,rfl⟩
       have hr_v110 : IntRow M .u8 v110 (t23.take (if 8 < t2_2 then 8 else t2_2).toNat):=by rw [v110_e]; exact (IntRow.subH hr_v16 (toNat_le g113))
       refine DL.pu 79 (v110) rfl (by rw [v110_e]; exact p_subH ty_u23 ty_s5 hr_v16 g111 g113 rfl rfl rfl) ?_
       refine DL.pu 80 (.int .i64 ((t23.take (if 8 < t2_2 then 8 else t2_2).toNat).length : Int)) rfl (p_slLen ty_u23 (RowV.sl hr_v110) rfl rfl) ?_
       refine DL.mv 81 (.int .i64 0) rfl rfl rfl ?_
       refine DL.nil ?_
       refine TT.block (c:=sub [1,1,1,1,1,1,1,0,1,0,1,1,1,0,1,0] B38) ?_
       refine TT.loop (c:=sub [1,1,1,1,1,1,1,0,1,0,1,1,1,0,1,0,0] B38) ?_
       obtain ⟨z_b26_2_191,h216,h217⟩:=bind_some h114
       refine TT.weak (der_value.L1_ok b1 t2_1 t2_2 t2_3 t23 b26 b30 j_b26_0_63 v110 hE hr_v110 (((t23.take (if 8 < t2_2 then 8 else t2_2).toNat).length : Int).toNat + 1) 0 j_b26_2_64 z_b26_2_191 h216 ( ?_)) (Sub.cons rfl (Sub.cons rfl (Sub.cons rfl (Sub.cons rfl (Sub.cons rfl (Sub.cons rfl (Sub.cons rfl (Sub.cons rfl (Sub.nil _)))))))))
       simp only [Option.some.injEq,Prod.mk.injEq] at h217
       obtain ⟨rfl,rfl,rfl,rfl,rfl,rfl⟩:=h217
       exact TT.weak (J107 M (heapOf w) hE (Ext.refl _) (.slice none 0 0) (.slice none 0 0) (.slice none 0 0) (IntRow.nil .u8 M) (IntRow.nil .u64 M) (RowS.nil ShDer M)) (Sub.cons rfl (Sub.cons rfl (Sub.cons rfl (Sub.cons rfl (Sub.cons rfl (Sub.nil _))))))
      ·
       replace c98:=Bool.eq_false_iff.mpr c98
       have h219:=ite_false c98 h105
       refine TT.cond_false (x:=sub [1,1,1,1,1,1,1,0,1,0,1,1,1,0] B38) (y:=sub [1,1,1,1,1,1,1,0,1,0,1,1,1,1] B38) rfl c98 ?_
       refine TT.seq (x:=sub [1,1,1,1,1,1,1,0,1,0,1,1,1,1,0] B38) (y:=sub [1,1,1,1,1,1,1,0,1,0,1,1,1,1,1] B38) ?_
       refine TT.rg [0,1] [kp,kp] rfl rfl ?_
       refine DL.pu 101 (.bool (j_b26_0_63 == 3)) rfl (p_eql rfl rfl rfl) ?_
       refine DL.pu 100 (.bool (j_b26_0_63 == 3)) rfl (p_assign rfl rfl) ?_
       refine DL.nil ?_
       obtain ⟨⟨j10_221,j_b26_3_222,j_b26_4_223,j_b26_5_224,j_b26_6_225⟩,h226,h227⟩:=bind_some h219
       have J228 : ∀ (M229 I229 : Mem),Env w M M229 I229 → Ext M M229 → ∀ (j_b26_3_222_v : Value),∀ (j_b26_5_224_v : Value),∀ (j_b26_6_225_v : Value),IntRow M229 .u8 j_b26_3_222_v j_b26_3_222 → IntRow M229 .u64 j_b26_5_224_v j_b26_5_224 → RowS ShDer M229 j_b26_6_225_v j_b26_6_225 → TT Tryd.prog 38 (PostF (G:=Value × Value × Value) (fun g => .tuple #[.agg (Der.ce r_0 (g.1) (g.2.1) (g.2.2)),.int .i64 r_1,.bool r_2]) (fun g M_ => (IntRow M_ .u8 (g.1) (Der.bytes r_0)) ∧ (IntRow M_ .u64 (g.2.1) (Der.arcs r_0)) ∧ (RowS ShDer M_ (g.2.2) (Tree.kids r_0))) M w) 141 w I229 (((.inBlock 2 :: .code (sub [1,1,1,1,1,1,1,1] B38) :: []))) [(4,ptr b1 0),(8,.int .i64 t2_1),(9,.int .i64 t2_2),(10,.bool j10_221),(12,ptr b26 0)] [(some b30,mobj .i64 [(1,.int .u8 1),(2,.int .u8 2),(3,.int .u8 3),(4,.int .u8 4),(5,.int .u8 6),(6,.int .u8 12),(10,.int .u8 24),(7,.int .u8 48),(9,.int .u8 49),(8,.int .u8 160)]),(some b26,.cells (#[.int .i64 j_b26_0_63,.bool false,.int .i64 j_b26_2_64,j_b26_3_222_v,str j_b26_4_223,j_b26_5_224_v,j_b26_6_225_v]) 27 (0,0)),(some b1,.cells (#[.int .i64 0,.bool false,.int .i64 0,(.slice none 0 0),str ([] : List UInt8),(.slice none 0 0),(.slice none 0 0)]) 27 (0,0))]:=by
        intro M229 I229 hE229 hx229 j_b26_3_222_v j_b26_5_224_v j_b26_6_225_v hr_j_b26_3_222 hr_j_b26_5_224 hr_j_b26_6_225
        simp only [Option.some.injEq,Prod.mk.injEq] at h227
        obtain ⟨rfl,rfl,rfl,rfl,rfl,rfl⟩:=h227
        exact TT.weak (J107 M229 I229 hE229 hx229 j_b26_3_222_v j_b26_5_224_v j_b26_6_225_v hr_j_b26_3_222 hr_j_b26_5_224 hr_j_b26_6_225) (Sub.cons rfl (Sub.cons rfl (Sub.cons rfl (Sub.cons rfl (Sub.cons rfl (Sub.nil _))))))
       by_cases c220 : (j_b26_0_63 == 3) = true
       ·
        have h230:=ite_true c220 h226
        refine TT.cond_true (x:=sub [1,1,1,1,1,1,1,0,1,0,1,1,1,1,1,0] B38) (y:=sub [1,1,1,1,1,1,1,0,1,0,1,1,1,1,1,1] B38) rfl c220 ?_
        refine TT.rg [0,1,2,3,4,5,6] [kp,kp,kp,kp,kk,kp,(.store,none)] rfl rfl ?_
        refine DL.mv 102 (v16) rfl rfl rfl ?_
        refine DL.mv 103 (.int .i64 t2_2) rfl rfl rfl ?_
        refine DL.pu 104 (.int .i64 (if 1 < t2_2 then 1 else t2_2)) rfl (p_min2 rfl rfl rfl) ?_
        obtain ⟨g232,h233⟩:=req_some h230
        obtain ⟨g234,h235⟩:=req_some h233
        obtain ⟨v231,v231_e⟩ : ∃ u,u = subsl v16 1 (if 1 < t2_2 then 1 else t2_2).toNat t23.length:=⟨_,rfl⟩
        have hr_v231 : IntRow M .u8 v231 (t23.drop (if 1 < t2_2 then 1 else t2_2).toNat):=by rw [v231_e]; exact (IntRow.subL hr_v16 (toNat_le g234))
        refine DL.pu 105 (v231) rfl (by rw [v231_e]; exact p_subL ty_u23 ty_s5 hr_v16 g232 g234 rfl rfl rfl) ?_
        obtain ⟨t236,h237,h238⟩:=bind_some h235
        refine DL.callF (G:=Value) (u:=fun g => g) (Q:=fun g M_ => (IntRow M_ .u8 g t236)) (A:=[(some b30,mobj .i64 [(1,.int .u8 1),(2,.int .u8 2),(3,.int .u8 3),(4,.int .u8 4),(5,.int .u8 6),(6,.int .u8 12),(10,.int .u8 24),(7,.int .u8 48),(9,.int .u8 49),(8,.int .u8 160)]),(some b26,.cells (#[.int .i64 j_b26_0_63,.bool false,.int .i64 j_b26_2_64,(.slice none 0 0),str ([] : List UInt8),(.slice none 0 0),(.slice none 0 0)]) 27 (0,0)),(some b1,.cells (#[.int .i64 0,.bool false,.int .i64 0,(.slice none 0 0),str ([] : List UInt8),(.slice none 0 0),(.slice none 0 0)]) 27 (0,0))]) (J:=[]) (fun J239 => ((some b30,mobj .i64 [(1,.int .u8 1),(2,.int .u8 2),(3,.int .u8 3),(4,.int .u8 4),(5,.int .u8 6),(6,.int .u8 12),(10,.int .u8 24),(7,.int .u8 48),(9,.int .u8 49),(8,.int .u8 160)]) :: (some b26,.cells (#[.int .i64 j_b26_0_63,.bool false,.int .i64 j_b26_2_64,(.slice none 0 0),str ([] : List UInt8),(.slice none 0 0),(.slice none 0 0)]) 27 (0,0)) :: (some b1,.cells (#[.int .i64 0,.bool false,.int .i64 0,(.slice none 0 0),str ([] : List UInt8),(.slice none 0 0),(.slice none 0 0)]) 27 (0,0)) :: J239)) (Nat.le_refl _) hE.nil (List.append_nil _).symm (fun _ => rfl) (by simp) (i:=4) rfl (Wn.none rfl) rfl rfl rfl rfl rfl rfl (args_val (vs:=[v231]) rfl) (fun w => enter41 _ w) (fun w hc hI => slices_Clone_41.ok h237 (M:=M) w hI hr_v231) ?_
        rintro t236_v M239 J239 hE239 hx239 hr_t236
        show DL _ _ _ _ _ _ _ _ _ _ _ _ ((some b30,mobj .i64 [(1,.int .u8 1),(2,.int .u8 2),(3,.int .u8 3),(4,.int .u8 4),(5,.int .u8 6),(6,.int .u8 12),(10,.int .u8 24),(7,.int .u8 48),(9,.int .u8 49),(8,.int .u8 160)]) :: (some b26,.cells (#[.int .i64 j_b26_0_63,.bool false,.int .i64 j_b26_2_64,(.slice none 0 0),str ([] : List UInt8),(.slice none 0 0),(.slice none 0 0)]) 27 (0,0)) :: (some b1,.cells (#[.int .i64 0,.bool false,.int .i64 0,(.slice none 0 0),str ([] : List UInt8),(.slice none 0 0),(.slice none 0 0)]) 27 (0,0)) :: J239)
        refine DL.pu 107 (ptr b26 3) rfl (p_fieldAddr ty_f27_3 rfl rfl) ?_
        refine DL.put (H':=((some b30,mobj .i64 [(1,.int .u8 1),(2,.int .u8 2),(3,.int .u8 3),(4,.int .u8 4),(5,.int .u8 6),(6,.int .u8 12),(10,.int .u8 24),(7,.int .u8 48),(9,.int .u8 49),(8,.int .u8 160)]) :: (some b26,.cells (#[.int .i64 j_b26_0_63,.bool false,.int .i64 j_b26_2_64,t236_v,str ([] : List UInt8),(.slice none 0 0),(.slice none 0 0)]) 27 (0,0)) :: (some b1,.cells (#[.int .i64 0,.bool false,.int .i64 0,(.slice none 0 0),str ([] : List UInt8),(.slice none 0 0),(.slice none 0 0)]) 27 (0,0)) :: J239)) (i:=6) rfl (Wn.none rfl) rfl rfl (f_store (c:=#[.int .i64 j_b26_0_63,.bool false,.int .i64 j_b26_2_64,(.slice none 0 0),str ([] : List UInt8),(.slice none 0 0),(.slice none 0 0)]) (v:=t236_v) (off:=3) (j:=1) ty_s23 rfl (sl_cells (RowV.sl hr_t236)) (of_decide_eq_true rfl) (sl_one (RowV.sl hr_t236)) rfl rfl rfl) (keep_none rfl) ?_
        refine DL.nil ?_
        refine TT.settle (A:=[(some b30,mobj .i64 [(1,.int .u8 1),(2,.int .u8 2),(3,.int .u8 3),(4,.int .u8 4),(5,.int .u8 6),(6,.int .u8 12),(10,.int .u8 24),(7,.int .u8 48),(9,.int .u8 49),(8,.int .u8 160)]),(some b26,.cells (#[.int .i64 j_b26_0_63,.bool false,.int .i64 j_b26_2_64,t236_v,str ([] : List UInt8),(.slice none 0 0),(.slice none 0 0)]) 27 (0,0)),(some b1,.cells (#[.int .i64 0,.bool false,.int .i64 0,(.slice none 0 0),str ([] : List UInt8),(.slice none 0 0),(.slice none 0 0)]) 27 (0,0))]) (J:=J239) hE239 ?_
        intro I240 hE240 hxI240
        simp only [Option.some.injEq,Prod.mk.injEq] at h238
        obtain ⟨rfl,rfl,rfl,rfl,rfl⟩:=h238
        exact TT.weak (J228 M239 I240 hE240 hx239 t236_v (.slice none 0 0) (.slice none 0 0) hr_t236 (IntRow.nil .u64 M239) (RowS.nil ShDer M239)) (Sub.cons rfl (Sub.cons rfl (Sub.cons rfl (Sub.cons rfl (Sub.cons rfl (Sub.nil _))))))
       ·
        replace c220:=Bool.eq_false_iff.mpr c220
        have h241:=ite_false c220 h226
        refine TT.cond_false (x:=sub [1,1,1,1,1,1,1,0,1,0,1,1,1,1,1,0] B38) (y:=sub [1,1,1,1,1,1,1,0,1,0,1,1,1,1,1,1] B38) rfl c220 ?_
        refine TT.seq (x:=sub [1,1,1,1,1,1,1,0,1,0,1,1,1,1,1,1,0] B38) (y:=sub [1,1,1,1,1,1,1,0,1,0,1,1,1,1,1,1,1] B38) ?_
        refine TT.rg [0,1] [kp,kp] rfl rfl ?_
        refine DL.pu 109 (.bool (j_b26_0_63 == 4)) rfl (p_eql rfl rfl rfl) ?_
        refine DL.pu 108 (.bool (j_b26_0_63 == 4)) rfl (p_assign rfl rfl) ?_
        refine DL.nil ?_
        obtain ⟨⟨j10_243,j_b26_3_244,j_b26_4_245,j_b26_5_246,j_b26_6_247⟩,h248,h249⟩:=bind_some h241
        have J250 : ∀ (M251 I251 : Mem),Env w M M251 I251 → Ext M M251 → ∀ (j_b26_3_244_v : Value),∀ (j_b26_5_246_v : Value),∀ (j_b26_6_247_v : Value),IntRow M251 .u8 j_b26_3_244_v j_b26_3_244 → IntRow M251 .u64 j_b26_5_246_v j_b26_5_246 → RowS ShDer M251 j_b26_6_247_v j_b26_6_247 → TT Tryd.prog 38 (PostF (G:=Value × Value × Value) (fun g => .tuple #[.agg (Der.ce r_0 (g.1) (g.2.1) (g.2.2)),.int .i64 r_1,.bool r_2]) (fun g M_ => (IntRow M_ .u8 (g.1) (Der.bytes r_0)) ∧ (IntRow M_ .u64 (g.2.1) (Der.arcs r_0)) ∧ (RowS ShDer M_ (g.2.2) (Tree.kids r_0))) M w) 141 w I251 ((((.inBlock 2 :: .code (sub [1,1,1,1,1,1,1,1] B38) :: [])))) [(4,ptr b1 0),(8,.int .i64 t2_1),(9,.int .i64 t2_2),(10,.bool j10_243),(12,ptr b26 0)] [(some b30,mobj .i64 [(1,.int .u8 1),(2,.int .u8 2),(3,.int .u8 3),(4,.int .u8 4),(5,.int .u8 6),(6,.int .u8 12),(10,.int .u8 24),(7,.int .u8 48),(9,.int .u8 49),(8,.int .u8 160)]),(some b26,.cells (#[.int .i64 j_b26_0_63,.bool false,.int .i64 j_b26_2_64,j_b26_3_244_v,str j_b26_4_245,j_b26_5_246_v,j_b26_6_247_v]) 27 (0,0)),(some b1,.cells (#[.int .i64 0,.bool false,.int .i64 0,(.slice none 0 0),str ([] : List UInt8),(.slice none 0 0),(.slice none 0 0)]) 27 (0,0))]:=by
         intro M251 I251 hE251 hx251 j_b26_3_244_v j_b26_5_246_v j_b26_6_247_v hr_j_b26_3_244 hr_j_b26_5_246 hr_j_b26_6_247
         simp only [Option.some.injEq,Prod.mk.injEq] at h249
         obtain ⟨rfl,rfl,rfl,rfl,rfl⟩:=h249
         exact TT.weak (J228 M251 I251 hE251 hx251 j_b26_3_244_v j_b26_5_246_v j_b26_6_247_v hr_j_b26_3_244 hr_j_b26_5_246 hr_j_b26_6_247) (Sub.cons rfl (Sub.cons rfl (Sub.cons rfl (Sub.cons rfl (Sub.cons rfl (Sub.nil _))))))
        by_cases c242 : (j_b26_0_63 == 4) = true
        ·
         have h252:=ite_true c242 h248
         refine TT.cond_true (x:=sub [1,1,1,1,1,1,1,0,1,0,1,1,1,1,1,1,1,0] B38) (y:=sub [1,1,1,1,1,1,1,0,1,0,1,1,1,1,1,1,1,1] B38) rfl c242 ?_
         refine TT.rg [0,1,2,3] [kp,kk,kp,(.store,none)] rfl rfl ?_
         refine DL.mv 110 (v16) rfl rfl rfl ?_
         obtain ⟨t253,h254,h255⟩:=bind_some h252
         refine DL.callF (G:=Value) (u:=fun g => g) (Q:=fun g M_ => (IntRow M_ .u8 g t253)) (A:=[(some b30,mobj .i64 [(1,.int .u8 1),(2,.int .u8 2),(3,.int .u8 3),(4,.int .u8 4),(5,.int .u8 6),(6,.int .u8 12),(10,.int .u8 24),(7,.int .u8 48),(9,.int .u8 49),(8,.int .u8 160)]),(some b26,.cells (#[.int .i64 j_b26_0_63,.bool false,.int .i64 j_b26_2_64,(.slice none 0 0),str ([] : List UInt8),(.slice none 0 0),(.slice none 0 0)]) 27 (0,0)),(some b1,.cells (#[.int .i64 0,.bool false,.int .i64 0,(.slice none 0 0),str ([] : List UInt8),(.slice none 0 0),(.slice none 0 0)]) 27 (0,0))]) (J:=[]) (fun J256 => ((some b30,mobj .i64 [(1,.int .u8 1),(2,.int .u8 2),(3,.int .u8 3),(4,.int .u8 4),(5,.int .u8 6),(6,.int .u8 12),(10,.int .u8 24),(7,.int .u8 48),(9,.int .u8 49),(8,.int .u8 160)]) :: (some b26,.cells (#[.int .i64 j_b26_0_63,.bool false,.int .i64 j_b26_2_64,(.slice none 0 0),str ([] : List UInt8),(.slice none 0 0),(.slice none 0 0)]) 27 (0,0)) :: (some b1,.cells (#[.int .i64 0,.bool false,.int .i64 0,(.slice none 0 0),str ([] : List UInt8),(.slice none 0 0),(.slice none 0 0)]) 27 (0,0)) :: J256)) (Nat.le_refl _) hE.nil (List.append_nil _).symm (fun _ => rfl) (by simp) (i:=1) rfl (Wn.none rfl) rfl rfl rfl rfl rfl rfl (args_val (vs:=[v16]) rfl) (fun w => enter41 _ w) (fun w hc hI => slices_Clone_41.ok h254 (M:=M) w hI hr_v16) ?_
         rintro t253_v M256 J256 hE256 hx256 hr_t253
         show DL _ _ _ _ _ _ _ _ _ _ _ _ ((some b30,mobj .i64 [(1,.int .u8 1),(2,.int .u8 2),(3,.int .u8 3),(4,.int .u8 4),(5,.int .u8 6),(6,.int .u8 12),(10,.int .u8 24),(7,.int .u8 48),(9,.int .u8 49),(8,.int .u8 160)]) :: (some b26,.cells (#[.int .i64 j_b26_0_63,.bool false,.int .i64 j_b26_2_64,(.slice none 0 0),str ([] : List UInt8),(.slice none 0 0),(.slice none 0 0)]) 27 (0,0)) :: (some b1,.cells (#[.int .i64 0,.bool false,.int .i64 0,(.slice none 0 0),str ([] : List UInt8),(.slice none 0 0),(.slice none 0 0)]) 27 (0,0)) :: J256)
         refine DL.pu 112 (ptr b26 3) rfl (p_fieldAddr ty_f27_3 rfl rfl) ?_
         refine DL.put (H':=((some b30,mobj .i64 [(1,.int .u8 1),(2,.int .u8 2),(3,.int .u8 3),(4,.int .u8 4),(5,.int .u8 6),(6,.int .u8 12),(10,.int .u8 24),(7,.int .u8 48),(9,.int .u8 49),(8,.int .u8 160)]) :: (some b26,.cells (#[.int .i64 j_b26_0_63,.bool false,.int .i64 j_b26_2_64,t253_v,str ([] : List UInt8),(.slice none 0 0),(.slice none 0 0)]) 27 (0,0)) :: (some b1,.cells (#[.int .i64 0,.bool false,.int .i64 0,(.slice none 0 0),str ([] : List UInt8),(.slice none 0 0),(.slice none 0 0)]) 27 (0,0)) :: J256)) (i:=3) rfl (Wn.none rfl) rfl rfl (f_store (c:=#[.int .i64 j_b26_0_63,.bool false,.int .i64 j_b26_2_64,(.slice none 0 0),str ([] : List UInt8),(.slice none 0 0),(.slice none 0 0)]) (v:=t253_v) (off:=3) (j:=1) ty_s23 rfl (sl_cells (RowV.sl hr_t253)) (of_decide_eq_true rfl) (sl_one (RowV.sl hr_t253)) rfl rfl rfl) (keep_none rfl) ?_
         refine DL.nil ?_
         refine TT.settle (A:=[(some b30,mobj .i64 [(1,.int .u8 1),(2,.int .u8 2),(3,.int .u8 3),(4,.int .u8 4),(5,.int .u8 6),(6,.int .u8 12),(10,.int .u8 24),(7,.int .u8 48),(9,.int .u8 49),(8,.int .u8 160)]),(some b26,.cells (#[.int .i64 j_b26_0_63,.bool false,.int .i64 j_b26_2_64,t253_v,str ([] : List UInt8),(.slice none 0 0),(.slice none 0 0)]) 27 (0,0)),(some b1,.cells (#[.int .i64 0,.bool false,.int .i64 0,(.slice none 0 0),str ([] : List UInt8),(.slice none 0 0),(.slice none 0 0)]) 27 (0,0))]) (J:=J256) hE256 ?_
         intro I257 hE257 hxI257
         simp only [Option.some.injEq,Prod.mk.injEq] at h255
         obtain ⟨rfl,rfl,rfl,rfl,rfl⟩:=h255
         exact TT.weak (J250 M256 I257 hE257 hx256 t253_v (.slice none 0 0) (.slice none 0 0) hr_t253 (IntRow.nil .u64 M256) (RowS.nil ShDer M256)) (Sub.cons rfl (Sub.cons rfl (Sub.cons rfl (Sub.cons rfl (Sub.cons rfl (Sub.nil _))))))
        ·
         replace c242:=Bool.eq_false_iff.mpr c242
         have h258:=ite_false c242 h248
         refine TT.cond_false (x:=sub [1,1,1,1,1,1,1,0,1,0,1,1,1,1,1,1,1,0] B38) (y:=sub [1,1,1,1,1,1,1,0,1,0,1,1,1,1,1,1,1,1] B38) rfl c242 ?_
         refine TT.seq (x:=sub [1,1,1,1,1,1,1,0,1,0,1,1,1,1,1,1,1,1,0] B38) (y:=sub [1,1,1,1,1,1,1,0,1,0,1,1,1,1,1,1,1,1,1] B38) ?_
         refine TT.rg [0,1] [kp,kp] rfl rfl ?_
         refine DL.pu 114 (.bool (j_b26_0_63 == 5)) rfl (p_eql rfl rfl rfl) ?_
         refine DL.pu 113 (.bool (j_b26_0_63 == 5)) rfl (p_assign rfl rfl) ?_
         refine DL.nil ?_
         obtain ⟨⟨j10_260,j_b26_4_261,j_b26_5_262,j_b26_6_263⟩,h264,h265⟩:=bind_some h258
         have J266 : ∀ (M267 I267 : Mem),Env w M M267 I267 → Ext M M267 → ∀ (j_b26_5_262_v : Value),∀ (j_b26_6_263_v : Value),IntRow M267 .u64 j_b26_5_262_v j_b26_5_262 → RowS ShDer M267 j_b26_6_263_v j_b26_6_263 → TT Tryd.prog 38 (PostF (G:=Value × Value × Value) (fun g => .tuple #[.agg (Der.ce r_0 (g.1) (g.2.1) (g.2.2)),.int .i64 r_1,.bool r_2]) (fun g M_ => (IntRow M_ .u8 (g.1) (Der.bytes r_0)) ∧ (IntRow M_ .u64 (g.2.1) (Der.arcs r_0)) ∧ (RowS ShDer M_ (g.2.2) (Tree.kids r_0))) M w) 141 w I267 (((((.inBlock 2 :: .code (sub [1,1,1,1,1,1,1,1] B38) :: []))))) [(4,ptr b1 0),(8,.int .i64 t2_1),(9,.int .i64 t2_2),(10,.bool j10_260),(12,ptr b26 0)] [(some b30,mobj .i64 [(1,.int .u8 1),(2,.int .u8 2),(3,.int .u8 3),(4,.int .u8 4),(5,.int .u8 6),(6,.int .u8 12),(10,.int .u8 24),(7,.int .u8 48),(9,.int .u8 49),(8,.int .u8 160)]),(some b26,.cells (#[.int .i64 j_b26_0_63,.bool false,.int .i64 j_b26_2_64,(.slice none 0 0),str j_b26_4_261,j_b26_5_262_v,j_b26_6_263_v]) 27 (0,0)),(some b1,.cells (#[.int .i64 0,.bool false,.int .i64 0,(.slice none 0 0),str ([] : List UInt8),(.slice none 0 0),(.slice none 0 0)]) 27 (0,0))]:=by
          intro M267 I267 hE267 hx267 j_b26_5_262_v j_b26_6_263_v hr_j_b26_5_262 hr_j_b26_6_263
          simp only [Option.some.injEq,Prod.mk.injEq] at h265
          obtain ⟨rfl,rfl,rfl,rfl,rfl⟩:=h265
          exact TT.weak (J250 M267 I267 hE267 hx267 (.slice none 0 0) j_b26_5_262_v j_b26_6_263_v (IntRow.nil .u8 M267) hr_j_b26_5_262 hr_j_b26_6_263) (Sub.cons rfl (Sub.cons rfl (Sub.cons rfl (Sub.cons rfl (Sub.cons rfl (Sub.nil _))))))
         by_cases c259 : (j_b26_0_63 == 5) = true
         ·
          have h268:=ite_true c259 h264
          refine TT.cond_true (x:=sub [1,1,1,1,1,1,1,0,1,0,1,1,1,1,1,1,1,1,1,0] B38) (y:=sub [1,1,1,1,1,1,1,0,1,0,1,1,1,1,1,1,1,1,1,1] B38) rfl c259 ?_
          refine TT.rg [0,1,2,3] [kp,kx,kp,(.store,none)] rfl rfl ?_
          refine DL.mv 115 (v16) rfl rfl rfl ?_
          obtain ⟨t269,h270,h271⟩:=bind_some h268
          obtain ⟨g272,h273⟩:=req_some h271
          refine DL.ownx (zs:=t269) (H':=fun t269_v t269_c => [(Value.ownBlock t269_v,.cells t269_c 50 (0,0)),(some b30,mobj .i64 [(1,.int .u8 1),(2,.int .u8 2),(3,.int .u8 3),(4,.int .u8 4),(5,.int .u8 6),(6,.int .u8 12),(10,.int .u8 24),(7,.int .u8 48),(9,.int .u8 49),(8,.int .u8 160)]),(some b26,.cells (#[.int .i64 j_b26_0_63,.bool false,.int .i64 j_b26_2_64,(.slice none 0 0),str ([] : List UInt8),(.slice none 0 0),(.slice none 0 0)]) 27 (0,0)),(some b1,.cells (#[.int .i64 0,.bool false,.int .i64 0,(.slice none 0 0),str ([] : List UInt8),(.slice none 0 0),(.slice none 0 0)]) 27 (0,0))]) (i:=1) rfl (Wn.none rfl) rfl rfl rfl (f_callOwn rfl rfl (args_val (vs:=[v16]) rfl) (fun w => enter54 _ w) (fun w hc => der_arcs.ok h270 (M:=M) w (hE.ext hc) hr_v16)) (fun _ => rfl) ?_
          intro t269_v t269_c ho_t269
          show DL _ _ _ _ _ _ _ _ _ _ _ _ [(Value.ownBlock t269_v,.cells t269_c 50 (0,0)),(some b30,mobj .i64 [(1,.int .u8 1),(2,.int .u8 2),(3,.int .u8 3),(4,.int .u8 4),(5,.int .u8 6),(6,.int .u8 12),(10,.int .u8 24),(7,.int .u8 48),(9,.int .u8 49),(8,.int .u8 160)]),(some b26,.cells (#[.int .i64 j_b26_0_63,.bool false,.int .i64 j_b26_2_64,(.slice none 0 0),str ([] : List UInt8),(.slice none 0 0),(.slice none 0 0)]) 27 (0,0)),(some b1,.cells (#[.int .i64 0,.bool false,.int .i64 0,(.slice none 0 0),str ([] : List UInt8),(.slice none 0 0),(.slice none 0 0)]) 27 (0,0))]
          refine DL.pu 117 (ptr b26 5) rfl (p_fieldAddr ty_f27_5 rfl rfl) ?_
          refine DL.put (H':=[(Value.ownBlock t269_v,.cells t269_c 50 (0,0)),(some b30,mobj .i64 [(1,.int .u8 1),(2,.int .u8 2),(3,.int .u8 3),(4,.int .u8 4),(5,.int .u8 6),(6,.int .u8 12),(10,.int .u8 24),(7,.int .u8 48),(9,.int .u8 49),(8,.int .u8 160)]),(some b26,.cells (#[.int .i64 j_b26_0_63,.bool false,.int .i64 j_b26_2_64,(.slice none 0 0),str ([] : List UInt8),t269_v,(.slice none 0 0)]) 27 (0,0)),(some b1,.cells (#[.int .i64 0,.bool false,.int .i64 0,(.slice none 0 0),str ([] : List UInt8),(.slice none 0 0),(.slice none 0 0)]) 27 (0,0))]) (i:=3) rfl (Wn.none rfl) rfl rfl (f_store (c:=#[.int .i64 j_b26_0_63,.bool false,.int .i64 j_b26_2_64,(.slice none 0 0),str ([] : List UInt8),(.slice none 0 0),(.slice none 0 0)]) (v:=t269_v) (off:=5) (j:=2) ty_s24 rfl (sl_cells (OwnV.sl ho_t269)) (of_decide_eq_true rfl) (sl_one (OwnV.sl ho_t269)) rfl rfl rfl) (keep_none rfl) ?_
          refine DL.nil ?_
          refine TT.freezeAt (j:=0) hE rfl ?_
          intro M275 I275 hE275 hx275 hxI275 hb275
          have hr_275 : IntRow M275 .u64 t269_v t269:=IntOwn.stays ho_t269 hb275
          show TT _ _ _ _ _ _ _ _ [(some b30,mobj .i64 [(1,.int .u8 1),(2,.int .u8 2),(3,.int .u8 3),(4,.int .u8 4),(5,.int .u8 6),(6,.int .u8 12),(10,.int .u8 24),(7,.int .u8 48),(9,.int .u8 49),(8,.int .u8 160)]),(some b26,.cells (#[.int .i64 j_b26_0_63,.bool false,.int .i64 j_b26_2_64,(.slice none 0 0),str ([] : List UInt8),t269_v,(.slice none 0 0)]) 27 (0,0)),(some b1,.cells (#[.int .i64 0,.bool false,.int .i64 0,(.slice none 0 0),str ([] : List UInt8),(.slice none 0 0),(.slice none 0 0)]) 27 (0,0))]
          simp only [Option.some.injEq,Prod.mk.injEq] at h273
          obtain ⟨rfl,rfl,rfl,rfl⟩:=h273
          exact TT.weak (J266 M275 I275 hE275 hx275 t269_v (.slice none 0 0) hr_275 (RowS.nil ShDer M275)) (Sub.cons rfl (Sub.cons rfl (Sub.cons rfl (Sub.cons rfl (Sub.cons rfl (Sub.nil _))))))
         ·
          replace c259:=Bool.eq_false_iff.mpr c259
          have h276:=ite_false c259 h264
          refine TT.cond_false (x:=sub [1,1,1,1,1,1,1,0,1,0,1,1,1,1,1,1,1,1,1,0] B38) (y:=sub [1,1,1,1,1,1,1,0,1,0,1,1,1,1,1,1,1,1,1,1] B38) rfl c259 ?_
          refine TT.seq (x:=sub [1,1,1,1,1,1,1,0,1,0,1,1,1,1,1,1,1,1,1,1,0] B38) (y:=sub [1,1,1,1,1,1,1,0,1,0,1,1,1,1,1,1,1,1,1,1,1] B38) ?_
          refine TT.seq (x:=sub [1,1,1,1,1,1,1,0,1,0,1,1,1,1,1,1,1,1,1,1,0,0] B38) (y:=sub [1,1,1,1,1,1,1,0,1,0,1,1,1,1,1,1,1,1,1,1,0,1] B38) ?_
          refine TT.rg [0,1] [kp,kp] rfl rfl ?_
          refine DL.pu 119 (.bool (j_b26_0_63 == 6)) rfl (p_eql rfl rfl rfl) ?_
          refine DL.pu 118 (.bool (j_b26_0_63 == 6)) rfl (p_assign rfl rfl) ?_
          refine DL.nil ?_
          obtain ⟨j118_278,h279,h280⟩:=bind_some h276
          have J281 : TT Tryd.prog 38 (PostF (G:=Value × Value × Value) (fun g => .tuple #[.agg (Der.ce r_0 (g.1) (g.2.1) (g.2.2)),.int .i64 r_1,.bool r_2]) (fun g M_ => (IntRow M_ .u8 (g.1) (Der.bytes r_0)) ∧ (IntRow M_ .u64 (g.2.1) (Der.arcs r_0)) ∧ (RowS ShDer M_ (g.2.2) (Tree.kids r_0))) M w) 141 w (heapOf w) (.code (sub [1,1,1,1,1,1,1,0,1,0,1,1,1,1,1,1,1,1,1,1,1] B38) :: (((((.inBlock 2 :: .code (sub [1,1,1,1,1,1,1,1] B38) :: [])))))) [(1,.int .i64 a1),(4,ptr b1 0),(8,.int .i64 t2_1),(9,.int .i64 t2_2),(10,.bool t2_3),(11,v16),(12,ptr b26 0),(62,.int .i64 j_b26_0_63),(118,.bool j118_278)] [(some b30,mobj .i64 [(1,.int .u8 1),(2,.int .u8 2),(3,.int .u8 3),(4,.int .u8 4),(5,.int .u8 6),(6,.int .u8 12),(10,.int .u8 24),(7,.int .u8 48),(9,.int .u8 49),(8,.int .u8 160)]),(some b26,.cells (#[.int .i64 j_b26_0_63,.bool false,.int .i64 j_b26_2_64,(.slice none 0 0),str ([] : List UInt8),(.slice none 0 0),(.slice none 0 0)]) 27 (0,0)),(some b1,.cells (#[.int .i64 0,.bool false,.int .i64 0,(.slice none 0 0),str ([] : List UInt8),(.slice none 0 0),(.slice none 0 0)]) 27 (0,0))]:=by
           obtain ⟨⟨j10_286,j_b26_4_287,j_b26_6_288⟩,h289,h290⟩:=bind_some h280
           have J291 : ∀ (M292 I292 : Mem),Env w M M292 I292 → Ext M M292 → ∀ (j_b26_6_288_v : Value),RowS ShDer M292 j_b26_6_288_v j_b26_6_288 → TT Tryd.prog 38 (PostF (G:=Value × Value × Value) (fun g => .tuple #[.agg (Der.ce r_0 (g.1) (g.2.1) (g.2.2)),.int .i64 r_1,.bool r_2]) (fun g M_ => (IntRow M_ .u8 (g.1) (Der.bytes r_0)) ∧ (IntRow M_ .u64 (g.2.1) (Der.arcs r_0)) ∧ (RowS ShDer M_ (g.2.2) (Tree.kids r_0))) M w) 141 w I292 ((((((.inBlock 2 :: .code (sub [1,1,1,1,1,1,1,1] B38) :: [])))))) [(4,ptr b1 0),(8,.int .i64 t2_1),(9,.int .i64 t2_2),(10,.bool j10_286),(12,ptr b26 0)] [(some b30,mobj .i64 [(1,.int .u8 1),(2,.int .u8 2),(3,.int .u8 3),(4,.int .u8 4),(5,.int .u8 6),(6,.int .u8 12),(10,.int .u8 24),(7,.int .u8 48),(9,.int .u8 49),(8,.int .u8 160)]),(some b26,.cells (#[.int .i64 j_b26_0_63,.bool false,.int .i64 j_b26_2_64,(.slice none 0 0),str j_b26_4_287,(.slice none 0 0),j_b26_6_288_v]) 27 (0,0)),(some b1,.cells (#[.int .i64 0,.bool false,.int .i64 0,(.slice none 0 0),str ([] : List UInt8),(.slice none 0 0),(.slice none 0 0)]) 27 (0,0))]:=by
            intro M292 I292 hE292 hx292 j_b26_6_288_v hr_j_b26_6_288
            simp only [Option.some.injEq,Prod.mk.injEq] at h290
            obtain ⟨rfl,rfl,rfl,rfl⟩:=h290
            exact TT.weak (J266 M292 I292 hE292 hx292 (.slice none 0 0) j_b26_6_288_v (IntRow.nil .u64 M292) hr_j_b26_6_288) (Sub.cons rfl (Sub.cons rfl (Sub.cons rfl (Sub.cons rfl (Sub.cons rfl (Sub.nil _))))))
           by_cases c285 : j118_278 = true
           ·
            have h293:=ite_true c285 h289
            refine TT.cond_true (x:=sub [1,1,1,1,1,1,1,0,1,0,1,1,1,1,1,1,1,1,1,1,1,0] B38) (y:=sub [1,1,1,1,1,1,1,0,1,0,1,1,1,1,1,1,1,1,1,1,1,1] B38) rfl c285 ?_
            refine TT.rg [0,1,2,3] [kp,kp,kp,(.store,none)] rfl rfl ?_
            refine DL.mv 121 (v16) rfl rfl rfl ?_
            refine DL.imm (v:=str (bytesL t23)) rfl (Wn.none rfl) rfl rfl rfl (i_bytesStr ty_us23 ty_us5 ty_us9 (IntRow.mono hr_v16 hE.mi) rfl rfl) ?_
            refine DL.pu 123 (ptr b26 4) rfl (p_fieldAddr ty_f27_4 rfl rfl) ?_
            refine DL.put (H':=[(some b30,mobj .i64 [(1,.int .u8 1),(2,.int .u8 2),(3,.int .u8 3),(4,.int .u8 4),(5,.int .u8 6),(6,.int .u8 12),(10,.int .u8 24),(7,.int .u8 48),(9,.int .u8 49),(8,.int .u8 160)]),(some b26,.cells (#[.int .i64 j_b26_0_63,.bool false,.int .i64 j_b26_2_64,(.slice none 0 0),str (bytesL t23),(.slice none 0 0),(.slice none 0 0)]) 27 (0,0)),(some b1,.cells (#[.int .i64 0,.bool false,.int .i64 0,(.slice none 0 0),str ([] : List UInt8),(.slice none 0 0),(.slice none 0 0)]) 27 (0,0))]) (i:=3) rfl (Wn.none rfl) rfl rfl (f_store (c:=#[.int .i64 j_b26_0_63,.bool false,.int .i64 j_b26_2_64,(.slice none 0 0),str ([] : List UInt8),(.slice none 0 0),(.slice none 0 0)]) (v:=str (bytesL t23)) (off:=4) (j:=1) ty_s9 rfl rfl (of_decide_eq_true rfl) trivial rfl rfl rfl) (keep_none rfl) ?_
            refine DL.nil ?_
            simp only [Option.some.injEq,Prod.mk.injEq] at h293
            obtain ⟨rfl,rfl,rfl⟩:=h293
            exact TT.weak (J291 M (heapOf w) hE (Ext.refl _) (.slice none 0 0) (RowS.nil ShDer M)) (Sub.cons rfl (Sub.cons rfl (Sub.cons rfl (Sub.cons rfl (Sub.cons rfl (Sub.nil _))))))
           ·
            replace c285:=Bool.eq_false_iff.mpr c285
            have h294:=ite_false c285 h289
            refine TT.cond_false (x:=sub [1,1,1,1,1,1,1,0,1,0,1,1,1,1,1,1,1,1,1,1,1,0] B38) (y:=sub [1,1,1,1,1,1,1,0,1,0,1,1,1,1,1,1,1,1,1,1,1,1] B38) rfl c285 ?_
            refine TT.seq (x:=sub [1,1,1,1,1,1,1,0,1,0,1,1,1,1,1,1,1,1,1,1,1,1,0] B38) (y:=sub [1,1,1,1,1,1,1,0,1,0,1,1,1,1,1,1,1,1,1,1,1,1,1] B38) ?_
            refine TT.seq (x:=sub [1,1,1,1,1,1,1,0,1,0,1,1,1,1,1,1,1,1,1,1,1,1,0,0] B38) (y:=sub [1,1,1,1,1,1,1,0,1,0,1,1,1,1,1,1,1,1,1,1,1,1,0,1] B38) ?_
            refine TT.rg [0,1] [kp,kp] rfl rfl ?_
            refine DL.pu 125 (.bool (j_b26_0_63 == 7)) rfl (p_eql rfl rfl rfl) ?_
            refine DL.pu 124 (.bool (j_b26_0_63 == 7)) rfl (p_assign rfl rfl) ?_
            refine DL.nil ?_
            obtain ⟨j124_296,h297,h298⟩:=bind_some h294
            have J299 : TT Tryd.prog 38 (PostF (G:=Value × Value × Value) (fun g => .tuple #[.agg (Der.ce r_0 (g.1) (g.2.1) (g.2.2)),.int .i64 r_1,.bool r_2]) (fun g M_ => (IntRow M_ .u8 (g.1) (Der.bytes r_0)) ∧ (IntRow M_ .u64 (g.2.1) (Der.arcs r_0)) ∧ (RowS ShDer M_ (g.2.2) (Tree.kids r_0))) M w) 141 w (heapOf w) (.code (sub [1,1,1,1,1,1,1,0,1,0,1,1,1,1,1,1,1,1,1,1,1,1,1] B38) :: ((((((.inBlock 2 :: .code (sub [1,1,1,1,1,1,1,1] B38) :: []))))))) [(1,.int .i64 a1),(4,ptr b1 0),(8,.int .i64 t2_1),(9,.int .i64 t2_2),(11,v16),(12,ptr b26 0),(124,.bool j124_296)] [(some b30,mobj .i64 [(1,.int .u8 1),(2,.int .u8 2),(3,.int .u8 3),(4,.int .u8 4),(5,.int .u8 6),(6,.int .u8 12),(10,.int .u8 24),(7,.int .u8 48),(9,.int .u8 49),(8,.int .u8 160)]),(some b26,.cells (#[.int .i64 j_b26_0_63,.bool false,.int .i64 j_b26_2_64,(.slice none 0 0),str ([] : List UInt8),(.slice none 0 0),(.slice none 0 0)]) 27 (0,0)),(some b1,.cells (#[.int .i64 0,.bool false,.int .i64 0,(.slice none 0 0),str ([] : List UInt8),(.slice none 0 0),(.slice none 0 0)]) 27 (0,0))]:=by
             obtain ⟨⟨j10_312,j_b26_6_313⟩,h314,h315⟩:=bind_some h298
             have J316 : ∀ (M317 I317 : Mem),Env w M M317 I317 → Ext M M317 → ∀ (j_b26_6_313_v : Value),RowS ShDer M317 j_b26_6_313_v j_b26_6_313 → TT Tryd.prog 38 (PostF (G:=Value × Value × Value) (fun g => .tuple #[.agg (Der.ce r_0 (g.1) (g.2.1) (g.2.2)),.int .i64 r_1,.bool r_2]) (fun g M_ => (IntRow M_ .u8 (g.1) (Der.bytes r_0)) ∧ (IntRow M_ .u64 (g.2.1) (Der.arcs r_0)) ∧ (RowS ShDer M_ (g.2.2) (Tree.kids r_0))) M w) 141 w I317 (((((((.inBlock 2 :: .code (sub [1,1,1,1,1,1,1,1] B38) :: []))))))) [(4,ptr b1 0),(8,.int .i64 t2_1),(9,.int .i64 t2_2),(10,.bool j10_312),(12,ptr b26 0)] [(some b30,mobj .i64 [(1,.int .u8 1),(2,.int .u8 2),(3,.int .u8 3),(4,.int .u8 4),(5,.int .u8 6),(6,.int .u8 12),(10,.int .u8 24),(7,.int .u8 48),(9,.int .u8 49),(8,.int .u8 160)]),(some b26,.cells (#[.int .i64 j_b26_0_63,.bool false,.int .i64 j_b26_2_64,(.slice none 0 0),str ([] : List UInt8),(.slice none 0 0),j_b26_6_313_v]) 27 (0,0)),(some b1,.cells (#[.int .i64 0,.bool false,.int .i64 0,(.slice none 0 0),str ([] : List UInt8),(.slice none 0 0),(.slice none 0 0)]) 27 (0,0))]:=by
              intro M317 I317 hE317 hx317 j_b26_6_313_v hr_j_b26_6_313
              simp only [Option.some.injEq,Prod.mk.injEq] at h315
              obtain ⟨rfl,rfl,rfl⟩:=h315
              exact TT.weak (J291 M317 I317 hE317 hx317 j_b26_6_313_v hr_j_b26_6_313) (Sub.cons rfl (Sub.cons rfl (Sub.cons rfl (Sub.cons rfl (Sub.cons rfl (Sub.nil _))))))
             by_cases c311 : j124_296 = true
             ·
              have h318:=ite_true c311 h314
              refine TT.cond_true (x:=sub [1,1,1,1,1,1,1,0,1,0,1,1,1,1,1,1,1,1,1,1,1,1,1,0] B38) (y:=sub [1,1,1,1,1,1,1,0,1,0,1,1,1,1,1,1,1,1,1,1,1,1,1,1] B38) rfl c311 ?_
              refine TT.rg [0,1,2,3,4,5,6,7,8,9] [kp,kp,kp,kk,kp,kp,kp,kp,(.store,none),kp] rfl rfl ?_
              refine DL.mv 129 (v16) rfl rfl rfl ?_
              refine DL.mv 130 (.int .i64 a1) rfl rfl rfl ?_
              refine DL.pu 131 (.int .i64 (IntKind.i64.wrap (a1 - 1))) rfl (p_sub rfl rfl rfl) ?_
              obtain ⟨⟨t319_0,t319_1⟩,h320,h321⟩:=bind_some h318
              refine DL.callF (G:=Value) (u:=fun g => .tuple #[g,.bool t319_1]) (Q:=fun g M_ => (RowS ShDer M_ g t319_0)) (A:=[(some b30,mobj .i64 [(1,.int .u8 1),(2,.int .u8 2),(3,.int .u8 3),(4,.int .u8 4),(5,.int .u8 6),(6,.int .u8 12),(10,.int .u8 24),(7,.int .u8 48),(9,.int .u8 49),(8,.int .u8 160)]),(some b26,.cells (#[.int .i64 j_b26_0_63,.bool false,.int .i64 j_b26_2_64,(.slice none 0 0),str ([] : List UInt8),(.slice none 0 0),(.slice none 0 0)]) 27 (0,0)),(some b1,.cells (#[.int .i64 0,.bool false,.int .i64 0,(.slice none 0 0),str ([] : List UInt8),(.slice none 0 0),(.slice none 0 0)]) 27 (0,0))]) (J:=[]) (fun J322 => ((some b30,mobj .i64 [(1,.int .u8 1),(2,.int .u8 2),(3,.int .u8 3),(4,.int .u8 4),(5,.int .u8 6),(6,.int .u8 12),(10,.int .u8 24),(7,.int .u8 48),(9,.int .u8 49),(8,.int .u8 160)]) :: (some b26,.cells (#[.int .i64 j_b26_0_63,.bool false,.int .i64 j_b26_2_64,(.slice none 0 0),str ([] : List UInt8),(.slice none 0 0),(.slice none 0 0)]) 27 (0,0)) :: (some b1,.cells (#[.int .i64 0,.bool false,.int .i64 0,(.slice none 0 0),str ([] : List UInt8),(.slice none 0 0),(.slice none 0 0)]) 27 (0,0)) :: J322)) (Nat.le_refl _) hE.nil (List.append_nil _).symm (fun _ => rfl) (by simp) (i:=3) rfl (Wn.none rfl) rfl rfl rfl rfl rfl rfl (args_val (vs:=[v16,.int .i64 (IntKind.i64.wrap (a1 - 1))]) rfl) (fun w => enter55 _ w) (fun w hc hI => der_kids.ok hr_der_value h320 (M:=M) w hI hr_v16) ?_
              rintro t319_0_v M322 J322 hE322 hx322 hr_t319_0
              show DL _ _ _ _ _ _ _ _ _ _ _ _ ((some b30,mobj .i64 [(1,.int .u8 1),(2,.int .u8 2),(3,.int .u8 3),(4,.int .u8 4),(5,.int .u8 6),(6,.int .u8 12),(10,.int .u8 24),(7,.int .u8 48),(9,.int .u8 49),(8,.int .u8 160)]) :: (some b26,.cells (#[.int .i64 j_b26_0_63,.bool false,.int .i64 j_b26_2_64,(.slice none 0 0),str ([] : List UInt8),(.slice none 0 0),(.slice none 0 0)]) 27 (0,0)) :: (some b1,.cells (#[.int .i64 0,.bool false,.int .i64 0,(.slice none 0 0),str ([] : List UInt8),(.slice none 0 0),(.slice none 0 0)]) 27 (0,0)) :: J322)
              refine DL.mv 128 (.tuple #[t319_0_v,.bool t319_1]) rfl rfl rfl ?_
              refine DL.pu 133 (t319_0_v) rfl (p_extract rfl rfl rfl) ?_
              refine DL.pu 134 (.bool t319_1) rfl (p_extract rfl rfl rfl) ?_
              refine DL.pu 135 (ptr b26 6) rfl (p_fieldAddr ty_f27_6 rfl rfl) ?_
              refine DL.put (H':=((some b30,mobj .i64 [(1,.int .u8 1),(2,.int .u8 2),(3,.int .u8 3),(4,.int .u8 4),(5,.int .u8 6),(6,.int .u8 12),(10,.int .u8 24),(7,.int .u8 48),(9,.int .u8 49),(8,.int .u8 160)]) :: (some b26,.cells (#[.int .i64 j_b26_0_63,.bool false,.int .i64 j_b26_2_64,(.slice none 0 0),str ([] : List UInt8),(.slice none 0 0),t319_0_v]) 27 (0,0)) :: (some b1,.cells (#[.int .i64 0,.bool false,.int .i64 0,(.slice none 0 0),str ([] : List UInt8),(.slice none 0 0),(.slice none 0 0)]) 27 (0,0)) :: J322)) (i:=8) rfl (Wn.none rfl) rfl rfl (f_store (c:=#[.int .i64 j_b26_0_63,.bool false,.int .i64 j_b26_2_64,(.slice none 0 0),str ([] : List UInt8),(.slice none 0 0),(.slice none 0 0)]) (v:=t319_0_v) (off:=6) (j:=1) ty_s25 rfl (sl_cells (RowS.sl hr_t319_0)) (of_decide_eq_true rfl) (sl_one (RowS.sl hr_t319_0)) rfl rfl rfl) (keep_none rfl) ?_
              refine DL.pu 10 (.bool t319_1) rfl (p_assign rfl rfl) ?_
              refine DL.nil ?_
              refine TT.settle (A:=[(some b30,mobj .i64 [(1,.int .u8 1),(2,.int .u8 2),(3,.int .u8 3),(4,.int .u8 4),(5,.int .u8 6),(6,.int .u8 12),(10,.int .u8 24),(7,.int .u8 48),(9,.int .u8 49),(8,.int .u8 160)]),(some b26,.cells (#[.int .i64 j_b26_0_63,.bool false,.int .i64 j_b26_2_64,(.slice none 0 0),str ([] : List UInt8),(.slice none 0 0),t319_0_v]) 27 (0,0)),(some b1,.cells (#[.int .i64 0,.bool false,.int .i64 0,(.slice none 0 0),str ([] : List UInt8),(.slice none 0 0),(.slice none 0 0)]) 27 (0,0))]) (J:=J322) hE322 ?_
              intro I323 hE323 hxI323
              simp only [Option.some.injEq,Prod.mk.injEq] at h321
              obtain ⟨rfl,rfl⟩:=h321
              exact TT.weak (J316 M322 I323 hE323 hx322 t319_0_v hr_t319_0) (Sub.cons rfl (Sub.cons rfl (Sub.cons rfl (Sub.cons rfl (Sub.cons rfl (Sub.nil _))))))
             ·
              replace c311:=Bool.eq_false_iff.mpr c311
              have h324:=ite_false c311 h314
              refine TT.cond_false (x:=sub [1,1,1,1,1,1,1,0,1,0,1,1,1,1,1,1,1,1,1,1,1,1,1,0] B38) (y:=sub [1,1,1,1,1,1,1,0,1,0,1,1,1,1,1,1,1,1,1,1,1,1,1,1] B38) rfl c311 ?_
              refine TT.rg [0] [kp] rfl rfl ?_
              refine DL.pu 10 (.bool false) rfl (p_assign rfl rfl) ?_
              refine DL.nil ?_
              simp only [Option.some.injEq,Prod.mk.injEq] at h324
              obtain ⟨rfl,rfl⟩:=h324
              exact TT.weak (J316 M (heapOf w) hE (Ext.refl _) (.slice none 0 0) (RowS.nil ShDer M)) (Sub.cons rfl (Sub.cons rfl (Sub.cons rfl (Sub.cons rfl (Sub.cons rfl (Sub.nil _))))))
            by_cases c295 : (j_b26_0_63 == 7) = true
            ·
             have h301:=ite_true c295 h297
             refine TT.cond_true (x:=sub [1,1,1,1,1,1,1,0,1,0,1,1,1,1,1,1,1,1,1,1,1,1,0,1,0] B38) (y:=sub [1,1,1,1,1,1,1,0,1,0,1,1,1,1,1,1,1,1,1,1,1,1,0,1,1] B38) rfl c295 ?_
             refine TT.skip ?_
             obtain rfl:=Option.some.inj h301
             exact TT.weak (J299 ) (Sub.cons rfl (Sub.cons rfl (Sub.cons rfl (Sub.cons rfl (Sub.cons rfl (Sub.cons rfl (Sub.cons rfl (Sub.nil _))))))))
            ·
             replace c295:=Bool.eq_false_iff.mpr c295
             have h302:=ite_false c295 h297
             refine TT.cond_false (x:=sub [1,1,1,1,1,1,1,0,1,0,1,1,1,1,1,1,1,1,1,1,1,1,0,1,0] B38) (y:=sub [1,1,1,1,1,1,1,0,1,0,1,1,1,1,1,1,1,1,1,1,1,1,0,1,1] B38) rfl c295 ?_
             refine TT.seq (x:=sub [1,1,1,1,1,1,1,0,1,0,1,1,1,1,1,1,1,1,1,1,1,1,0,1,1,0] B38) (y:=sub [1,1,1,1,1,1,1,0,1,0,1,1,1,1,1,1,1,1,1,1,1,1,0,1,1,1] B38) ?_
             refine TT.rg [0,1] [kp,kp] rfl rfl ?_
             refine DL.pu 126 (.bool (j_b26_0_63 == 9)) rfl (p_eql rfl rfl rfl) ?_
             refine DL.pu 124 (.bool (j_b26_0_63 == 9)) rfl (p_assign rfl rfl) ?_
             refine DL.nil ?_
             obtain ⟨j124_304,h305,h306⟩:=bind_some h302
             have J307 : TT Tryd.prog 38 (PostF (G:=Value × Value × Value) (fun g => .tuple #[.agg (Der.ce r_0 (g.1) (g.2.1) (g.2.2)),.int .i64 r_1,.bool r_2]) (fun g M_ => (IntRow M_ .u8 (g.1) (Der.bytes r_0)) ∧ (IntRow M_ .u64 (g.2.1) (Der.arcs r_0)) ∧ (RowS ShDer M_ (g.2.2) (Tree.kids r_0))) M w) 141 w (heapOf w) ((.code (sub [1,1,1,1,1,1,1,0,1,0,1,1,1,1,1,1,1,1,1,1,1,1,1] B38) :: ((((((.inBlock 2 :: .code (sub [1,1,1,1,1,1,1,1] B38) :: [])))))))) [(1,.int .i64 a1),(4,ptr b1 0),(8,.int .i64 t2_1),(9,.int .i64 t2_2),(11,v16),(12,ptr b26 0),(124,.bool j124_304)] [(some b30,mobj .i64 [(1,.int .u8 1),(2,.int .u8 2),(3,.int .u8 3),(4,.int .u8 4),(5,.int .u8 6),(6,.int .u8 12),(10,.int .u8 24),(7,.int .u8 48),(9,.int .u8 49),(8,.int .u8 160)]),(some b26,.cells (#[.int .i64 j_b26_0_63,.bool false,.int .i64 j_b26_2_64,(.slice none 0 0),str ([] : List UInt8),(.slice none 0 0),(.slice none 0 0)]) 27 (0,0)),(some b1,.cells (#[.int .i64 0,.bool false,.int .i64 0,(.slice none 0 0),str ([] : List UInt8),(.slice none 0 0),(.slice none 0 0)]) 27 (0,0))]:=by
              obtain rfl:=Option.some.inj h306
              exact TT.weak (J299 ) (Sub.cons rfl (Sub.cons rfl (Sub.cons rfl (Sub.cons rfl (Sub.cons rfl (Sub.cons rfl (Sub.cons rfl (Sub.nil _))))))))
             by_cases c303 : (j_b26_0_63 == 9) = true
             ·
              have h309:=ite_true c303 h305
              refine TT.cond_true (x:=sub [1,1,1,1,1,1,1,0,1,0,1,1,1,1,1,1,1,1,1,1,1,1,0,1,1,1,0] B38) (y:=sub [1,1,1,1,1,1,1,0,1,0,1,1,1,1,1,1,1,1,1,1,1,1,0,1,1,1,1] B38) rfl c303 ?_
              refine TT.skip ?_
              obtain rfl:=Option.some.inj h309
              exact TT.weak (J307 ) (Sub.cons rfl (Sub.cons rfl (Sub.cons rfl (Sub.cons rfl (Sub.cons rfl (Sub.cons rfl (Sub.cons rfl (Sub.nil _))))))))
             ·
              replace c303:=Bool.eq_false_iff.mpr c303
              have h310:=ite_false c303 h305
              refine TT.cond_false (x:=sub [1,1,1,1,1,1,1,0,1,0,1,1,1,1,1,1,1,1,1,1,1,1,0,1,1,1,0] B38) (y:=sub [1,1,1,1,1,1,1,0,1,0,1,1,1,1,1,1,1,1,1,1,1,1,0,1,1,1,1] B38) rfl c303 ?_
              refine TT.rg [0,1] [kp,kp] rfl rfl ?_
              refine DL.pu 127 (.bool (j_b26_0_63 == 8)) rfl (p_eql rfl rfl rfl) ?_
              refine DL.pu 124 (.bool (j_b26_0_63 == 8)) rfl (p_assign rfl rfl) ?_
              refine DL.nil ?_
              obtain rfl:=Option.some.inj h310
              exact TT.weak (J307 ) (Sub.cons rfl (Sub.cons rfl (Sub.cons rfl (Sub.cons rfl (Sub.cons rfl (Sub.cons rfl (Sub.cons rfl (Sub.nil _))))))))
          by_cases c277 : (j_b26_0_63 == 6) = true
          ·
           have h283:=ite_true c277 h279
           refine TT.cond_true (x:=sub [1,1,1,1,1,1,1,0,1,0,1,1,1,1,1,1,1,1,1,1,0,1,0] B38) (y:=sub [1,1,1,1,1,1,1,0,1,0,1,1,1,1,1,1,1,1,1,1,0,1,1] B38) rfl c277 ?_
           refine TT.skip ?_
           obtain rfl:=Option.some.inj h283
           exact TT.weak (J281 ) (Sub.cons rfl (Sub.cons rfl (Sub.cons rfl (Sub.cons rfl (Sub.cons rfl (Sub.cons rfl (Sub.cons rfl (Sub.cons rfl (Sub.cons rfl (Sub.nil _))))))))))
          ·
           replace c277:=Bool.eq_false_iff.mpr c277
           have h284:=ite_false c277 h279
           refine TT.cond_false (x:=sub [1,1,1,1,1,1,1,0,1,0,1,1,1,1,1,1,1,1,1,1,0,1,0] B38) (y:=sub [1,1,1,1,1,1,1,0,1,0,1,1,1,1,1,1,1,1,1,1,0,1,1] B38) rfl c277 ?_
           refine TT.rg [0,1] [kp,kp] rfl rfl ?_
           refine DL.pu 120 (.bool (j_b26_0_63 == 10)) rfl (p_eql rfl rfl rfl) ?_
           refine DL.pu 118 (.bool (j_b26_0_63 == 10)) rfl (p_assign rfl rfl) ?_
           refine DL.nil ?_
           obtain rfl:=Option.some.inj h284
           exact TT.weak (J281 ) (Sub.cons rfl (Sub.cons rfl (Sub.cons rfl (Sub.cons rfl (Sub.cons rfl (Sub.cons rfl (Sub.cons rfl (Sub.cons rfl (Sub.cons rfl (Sub.nil _))))))))))
    by_cases c62 : q55 = true
    ·
     have h69:=ite_true c62 h65
     refine TT.cond_true (x:=sub [1,1,1,1,1,1,0,1,0] B38) (y:=sub [1,1,1,1,1,1,0,1,1] B38) rfl c62 ?_
     refine TT.rg [0,1,2,3,4,5,6] [kp,kp,kp,kp,(.store,none),kp,(.store,none)] rfl rfl ?_
     refine DL.mv 56 (.int .u8 t2_0) rfl rfl rfl ?_
     refine DL.pu 57 (.int .u8 (IntKind.u8.wrap (t2_0 - 160))) rfl (p_sub rfl rfl rfl) ?_
     obtain ⟨t70,e71,h72⟩:=nm_some h69
     refine DL.pu 58 (.int .i64 t70) rfl (by rw [e71]; exact p_conv ty_u5 ty_u2 ⟨_,rfl⟩ rfl rfl) ?_
     refine DL.pu 59 (ptr b26 0) rfl (p_fieldAddr ty_f27_0 rfl rfl) ?_
     refine DL.put (H':=[(some b30,mobj .i64 [(1,.int .u8 1),(2,.int .u8 2),(3,.int .u8 3),(4,.int .u8 4),(5,.int .u8 6),(6,.int .u8 12),(10,.int .u8 24),(7,.int .u8 48),(9,.int .u8 49),(8,.int .u8 160)]),(some b26,.cells (#[.int .i64 8,.bool false,.int .i64 0,(.slice none 0 0),str ([] : List UInt8),(.slice none 0 0),(.slice none 0 0)]) 27 (0,0)),(some b1,.cells (#[.int .i64 0,.bool false,.int .i64 0,(.slice none 0 0),str ([] : List UInt8),(.slice none 0 0),(.slice none 0 0)]) 27 (0,0))]) (i:=4) rfl (Wn.none rfl) rfl rfl (f_store (c:=#[.int .i64 z_b26_0_42,.bool false,.int .i64 0,(.slice none 0 0),str ([] : List UInt8),(.slice none 0 0),(.slice none 0 0)]) (v:=.int .i64 8) (off:=0) (j:=1) ty_s22 rfl rfl (of_decide_eq_true rfl) trivial rfl rfl rfl) (keep_none rfl) ?_
     refine DL.pu 60 (ptr b26 2) rfl (p_fieldAddr ty_f27_2 rfl rfl) ?_
     refine DL.put (H':=[(some b30,mobj .i64 [(1,.int .u8 1),(2,.int .u8 2),(3,.int .u8 3),(4,.int .u8 4),(5,.int .u8 6),(6,.int .u8 12),(10,.int .u8 24),(7,.int .u8 48),(9,.int .u8 49),(8,.int .u8 160)]),(some b26,.cells (#[.int .i64 8,.bool false,.int .i64 t70,(.slice none 0 0),str ([] : List UInt8),(.slice none 0 0),(.slice none 0 0)]) 27 (0,0)),(some b1,.cells (#[.int .i64 0,.bool false,.int .i64 0,(.slice none 0 0),str ([] : List UInt8),(.slice none 0 0),(.slice none 0 0)]) 27 (0,0))]) (i:=6) rfl (Wn.none rfl) rfl rfl (f_store (c:=#[.int .i64 8,.bool false,.int .i64 0,(.slice none 0 0),str ([] : List UInt8),(.slice none 0 0),(.slice none 0 0)]) (v:=.int .i64 t70) (off:=2) (j:=1) ty_s2 rfl rfl (of_decide_eq_true rfl) trivial rfl rfl rfl) (keep_none rfl) ?_
     refine DL.nil ?_
     simp only [Option.some.injEq,Prod.mk.injEq] at h72
     obtain ⟨rfl,rfl⟩:=h72
     exact TT.weak (J67 ) (Sub.cons rfl (Sub.cons rfl (Sub.cons rfl (Sub.cons rfl (Sub.cons rfl (Sub.cons rfl (Sub.cons rfl (Sub.nil _))))))))
    ·
     replace c62:=Bool.eq_false_iff.mpr c62
     have h73:=ite_false c62 h65
     refine TT.cond_false (x:=sub [1,1,1,1,1,1,0,1,0] B38) (y:=sub [1,1,1,1,1,1,0,1,1] B38) rfl c62 ?_
     refine TT.skip ?_
     simp only [Option.some.injEq,Prod.mk.injEq] at h73
     obtain ⟨rfl,rfl⟩:=h73
     exact TT.weak (J67 ) (Sub.cons rfl (Sub.cons rfl (Sub.cons rfl (Sub.cons rfl (Sub.cons rfl (Sub.cons rfl (Sub.cons rfl (Sub.nil _))))))))
   ·
    by_cases c59 : (decide (160 ≤ t2_0)) = true
    ·
     have h60:=ite_true c59 h56
     refine DL.pure (v:=.int .u8 t2_0) rfl (Wn.yes c59 rfl rfl rfl rfl) rfl rfl rfl (p_move rfl rfl) ?_
     refine DL.pure (v:=.bool (decide (t2_0 ≤ 190))) rfl (Wn.yes c59 rfl rfl rfl rfl) rfl rfl rfl (p_leq rfl rfl rfl) ?_
     refine DL.pu 55 (.bool (decide (t2_0 ≤ 190))) rfl (p_pick_t c59 rfl rfl rfl) ?_
     obtain rfl:=Option.some.inj h60
     exact DL.weak J58 (Sub.cons rfl (Sub.cons rfl (Sub.cons rfl (Sub.cons rfl (Sub.cons rfl (Sub.cons rfl (Sub.cons rfl (Sub.cons rfl (Sub.cons rfl (Sub.nil _))))))))))
    ·
     replace c59:=Bool.eq_false_iff.mpr c59
     have h61:=ite_false c59 h56
     refine DL.not (i:=3) rfl (Wn.no c59 rfl rfl rfl rfl) rfl rfl ?_
     refine DL.not (i:=4) rfl (Wn.no c59 rfl rfl rfl rfl) rfl rfl ?_
     refine DL.pu 55 (.bool false) rfl (p_pick_f c59 rfl rfl rfl) ?_
     obtain rfl:=Option.some.inj h61
     exact DL.weak J58 (Sub.cons rfl (Sub.cons rfl (Sub.cons rfl (Sub.cons rfl (Sub.cons rfl (Sub.cons rfl (Sub.cons rfl (Sub.cons rfl (Sub.cons rfl (Sub.nil _))))))))))
 ·
  by_cases c10 : (!t2_3) = true
  ·
   have h11:=ite_true c10 h7
   refine DL.not (i:=3) rfl (Wn.yes c10 rfl rfl rfl rfl) rfl rfl ?_
   refine DL.not (i:=4) rfl (Wn.yes c10 rfl rfl rfl rfl) rfl rfl ?_
   refine DL.pu 29 (.bool true) rfl (p_pick_t c10 rfl rfl rfl) ?_
   obtain rfl:=Option.some.inj h11
   exact DL.weak J9 (Sub.cons rfl (Sub.cons rfl (Sub.cons rfl (Sub.cons rfl (Sub.cons rfl (Sub.cons rfl (Sub.cons rfl (Sub.cons rfl (Sub.nil _)))))))))
  ·
   replace c10:=Bool.eq_false_iff.mpr c10
   have h12:=ite_false c10 h7
   refine DL.pure (v:=.int .i64 a1) rfl (Wn.no c10 rfl rfl rfl rfl) rfl rfl rfl (p_move rfl rfl) ?_
   refine DL.pure (v:=.bool (decide (a1 < 1))) rfl (Wn.no c10 rfl rfl rfl rfl) rfl rfl rfl (p_lss rfl rfl rfl) ?_
   refine DL.pu 29 (.bool (decide (a1 < 1))) rfl (p_pick_f c10 rfl rfl rfl) ?_
   obtain rfl:=Option.some.inj h12
   exact DL.weak J9 (Sub.cons rfl (Sub.cons rfl (Sub.cons rfl (Sub.cons rfl (Sub.cons rfl (Sub.cons rfl (Sub.cons rfl (Sub.cons rfl (Sub.nil _)))))))))
def der_value.f : Nat → (List Int) → Int → Option (Der × Int × Bool)
 | 0,_,_ => none
 | k + 1,a0,a1 => der_value.F (der_value.f k) a0 a1
theorem der_value.rec : ∀ k,der_value.Rec (der_value.f k):=by
 intro k
 induction k with
 | zero => intro _ _ _ _ _ _ h; simp [der_value.f] at h
 | succ k ih => intro a0 a1 a0_v r_0 r_1 r_2 h M w hM hr_a0; exact der_value.okF ih h w hM hr_a0
theorem der_value.ok {k : Nat} {a0 : List Int} {a1 : Int} {a0_v : Value} {r_0 : Der} {r_1 : Int} {r_2 : Bool} (h : der_value.f k a0 a1 = some (r_0,r_1,r_2)) {M : Mem} (w : World) (hM : Ext M (heapOf w)) (hr_a0 : IntRow M .u8 a0_v a0) : Calls Tryd.prog 38 #[a0_v,.int .i64 a1] w (PostF (G:=Value × Value × Value) (fun g => .tuple #[.agg (Der.ce r_0 (g.1) (g.2.1) (g.2.2)),.int .i64 r_1,.bool r_2]) (fun g M_ => (IntRow M_ .u8 (g.1) (Der.bytes r_0)) ∧ (IntRow M_ .u64 (g.2.1) (Der.arcs r_0)) ∧ (RowS ShDer M_ (g.2.2) (Tree.kids r_0))) M w) :=
 der_value.rec k h w hM hr_a0

/-! ### escutcheon/der.Of: function 19 -/
noncomputable def B19 : Code:=bodyOf Tryd.f19
def der_Of.f (a0 : List Int) : Option (Der × Int):=if (decide (65000 < (a0.length : Int))) = true then (some (Der.mk 0 false 0 ([] : List Int) ([] : List UInt8) ([] : List Int) ([] : List Der),4)) else ((der_value.f ((12 : Int).toNat + 1) a0 12).bind fun (t5_0,t5_1,t5_2) => (if (!t5_2) = true then (some true) else (some (t5_1 != (a0.length : Int)))).bind fun q12 => (if q12 = true then (some true) else ((der_May.f t5_0).bind fun t27 => some (!t27))).bind fun q20 => (if q20 = true then (some true) else ((der_pack.f (Der.fuel t5_0) t5_0).bind fun t38 => (slices_Equal_35.f t38 a0).bind fun t42 => some (!t42))).bind fun q31 => if q31 = true then (some (Der.mk 0 false 0 ([] : List Int) ([] : List UInt8) ([] : List Int) ([] : List Der),4)) else (some (t5_0,0)))
set_option maxRecDepth 20000 in
theorem der_Of.ok {a0 : List Int} {a0_v : Value} {r_0 : Der} {r_1 : Int} (h : der_Of.f a0 = some (r_0,r_1)) {M : Mem} (w : World) (hM : Ext M (heapOf w)) (hG : Glob M) (hr_a0 : IntRow M .u8 a0_v a0) : Calls Tryd.prog 19 #[a0_v] w (PostF (G:=Value × Value × Value) (fun g => .tuple #[.agg (Der.ce r_0 (g.1) (g.2.1) (g.2.2)),.int .i64 r_1]) (fun g M_ => (IntRow M_ .u8 (g.1) (Der.bytes r_0)) ∧ (IntRow M_ .u64 (g.2.1) (Der.arcs r_0)) ∧ (RowS ShDer M_ (g.2.2) (Tree.kids r_0))) M w):=by
 unfold der_Of.f at h
 have hE:=Env.start hM
 refine calls_of_TT (N:=39) (S:=[(0,a0_v)]) (c:=B19) Tryd.func19 rfl rfl rfl (by simp) ?_
 show TT _ _ _ _ _ _ [.code (sub [] B19)] _ _
 refine TT.seq (x:=sub [0] B19) (y:=sub [1] B19) ?_
 refine TT.rg [0,1] [(.alloc,none),kp] rfl rfl ?_
 refine DL.new (ob:=.cells (#[.int .i64 0,.bool false,.int .i64 0,(.slice none 0 0),str ([] : List UInt8),(.slice none 0 0),(.slice none 0 0)]) 27) (mk:=fun b => ptr b 0) (i:=0) rfl (Wn.none rfl) rfl rfl rfl (f_alloc ty_z27 rfl) ?_
 intro b1 hb1
 refine DL.pu 3 (.int .i64 0) rfl (p_assign rfl rfl) ?_
 refine DL.nil ?_
 refine TT.seq (x:=sub [1,0] B19) (y:=sub [1,1] B19) ?_
 refine TT.seq (x:=sub [1,0,0] B19) (y:=sub [1,0,1] B19) ?_
 refine TT.rg [0,1,2] [kp,kp,kp] rfl rfl ?_
 refine DL.mv 7 (a0_v) rfl rfl rfl ?_
 refine DL.pu 8 (.int .i64 (a0.length : Int)) rfl (p_slLen ty_u23 (RowV.sl hr_a0) rfl rfl) ?_
 refine DL.pu 9 (.bool (decide (65000 < (a0.length : Int)))) rfl (p_gtr rfl rfl rfl) ?_
 refine DL.nil ?_
 by_cases c2 : (decide (65000 < (a0.length : Int))) = true
 ·
  have h3:=ite_true c2 h
  refine TT.cond_true (x:=sub [1,0,1,0] B19) (y:=sub [1,0,1,1] B19) rfl c2 ?_
  refine TT.seq (x:=sub [1,0,1,0,0] B19) (y:=sub [1,0,1,0,1] B19) ?_
  refine TT.rg [0,1,2] [kp,(.store,none),kp] rfl rfl ?_
  refine DL.pu 10 (.agg #[.int .i64 0,.bool false,.int .i64 0,(.slice none 0 0),str ([] : List UInt8),(.slice none 0 0),(.slice none 0 0)]) rfl (p_build (vs:=[]) (fun w => by kernel_rfl) rfl rfl) ?_
  refine DL.put (H':=[(some b1,.cells (#[.int .i64 0,.bool false,.int .i64 0,(.slice none 0 0),str ([] : List UInt8),(.slice none 0 0),(.slice none 0 0)]) 27 (0,0))]) (i:=1) rfl (Wn.none rfl) rfl rfl (f_storeA (j:=0) ty_s27 rfl rfl rfl (one_cons trivial (one_cons trivial (one_cons trivial (one_cons (sl_one (RowV.sl (IntRow.nil .u8 M))) (one_cons trivial (one_cons (sl_one (RowV.sl (IntRow.nil .u64 M))) (one_cons (sl_one (RowS.sl (RowS.nil ShDer M))) one_nil))))))) rfl rfl rfl) (keep_none rfl) ?_
  refine DL.pu 3 (.int .i64 4) rfl (p_assign rfl rfl) ?_
  refine DL.nil ?_
  simp only [Option.some.injEq,Prod.mk.injEq] at h3
  obtain ⟨rfl,rfl⟩:=h3
  exact retF (rs:=[.cell 2 27,.tmp 3]) (vs:=[.agg #[.int .i64 0,.bool false,.int .i64 0,(.slice none 0 0),str ([] : List UInt8),(.slice none 0 0),(.slice none 0 0)],.int .i64 4]) ((.slice none 0 0),(.slice none 0 0),(.slice none 0 0)) hE Tryd.func19 rfl rfl rfl (res_cons (ResV.cell (j:=0) ty_a27 ty_s27 rfl rfl rfl) (res_cons (ResV.tmp rfl) res_nil)) ⟨(IntRow.nil .u8 M),(IntRow.nil .u64 M),(RowS.nil ShDer M)⟩
 ·
  replace c2:=Bool.eq_false_iff.mpr c2
  have h4:=ite_false c2 h
  refine TT.cond_false (x:=sub [1,0,1,0] B19) (y:=sub [1,0,1,1] B19) rfl c2 ?_
  refine TT.skip ?_
  refine TT.seq (x:=sub [1,1,0] B19) (y:=sub [1,1,1] B19) ?_
  refine TT.rg [0,1,2,3,4,5,6,7,8,9] [kp,kk,kp,kp,kp,kp,(.alloc,none),(.store,none),kp,kp] rfl rfl ?_
  refine DL.mv 12 (a0_v) rfl rfl rfl ?_
  obtain ⟨⟨t5_0,t5_1,t5_2⟩,h6,h7⟩:=bind_some h4
  refine DL.callF (G:=Value × Value × Value) (u:=fun g => .tuple #[.agg (Der.ce t5_0 (g.1) (g.2.1) (g.2.2)),.int .i64 t5_1,.bool t5_2]) (Q:=fun g M_ => (IntRow M_ .u8 (g.1) (Der.bytes t5_0)) ∧ (IntRow M_ .u64 (g.2.1) (Der.arcs t5_0)) ∧ (RowS ShDer M_ (g.2.2) (Tree.kids t5_0))) (A:=[(some b1,.cells (#[.int .i64 0,.bool false,.int .i64 0,(.slice none 0 0),str ([] : List UInt8),(.slice none 0 0),(.slice none 0 0)]) 27 (0,0))]) (J:=[]) (fun J8 => ((some b1,.cells (#[.int .i64 0,.bool false,.int .i64 0,(.slice none 0 0),str ([] : List UInt8),(.slice none 0 0),(.slice none 0 0)]) 27 (0,0)) :: J8)) (Nat.le_refl _) hE.nil (List.append_nil _).symm (fun _ => rfl) (by simp) (i:=1) rfl (Wn.none rfl) rfl rfl rfl rfl rfl rfl (args_val (vs:=[a0_v,.int .i64 12]) rfl) (fun w => enter38 _ w) (fun w hc hI => der_value.ok h6 (M:=M) w hI hr_a0) ?_
  rintro ⟨t5_0_3,t5_0_5,t5_0_6⟩ M8 J8 hE8 hx8 ⟨hr_t5_0_3,hr_t5_0_5,hr_t5_0_6⟩
  show DL _ _ _ _ _ _ _ _ _ _ _ _ ((some b1,.cells (#[.int .i64 0,.bool false,.int .i64 0,(.slice none 0 0),str ([] : List UInt8),(.slice none 0 0),(.slice none 0 0)]) 27 (0,0)) :: J8)
  refine DL.mv 11 (.tuple #[.agg (Der.ce t5_0 t5_0_3 t5_0_5 t5_0_6),.int .i64 t5_1,.bool t5_2]) rfl rfl rfl ?_
  refine DL.pu 14 (.agg (Der.ce t5_0 t5_0_3 t5_0_5 t5_0_6)) rfl (p_extract rfl rfl rfl) ?_
  refine DL.pu 15 (.int .i64 t5_1) rfl (p_extract rfl rfl rfl) ?_
  refine DL.pu 16 (.bool t5_2) rfl (p_extract rfl rfl rfl) ?_
  refine DL.new (ob:=.cells (#[.int .i64 0,.bool false,.int .i64 0,(.slice none 0 0),str ([] : List UInt8),(.slice none 0 0),(.slice none 0 0)]) 27) (mk:=fun b => ptr b 0) (i:=6) rfl (Wn.none rfl) rfl rfl rfl (f_alloc ty_z27 rfl) ?_
  intro b9 hb9
  refine DL.put (H':=((some b9,.cells ((Der.ce t5_0 t5_0_3 t5_0_5 t5_0_6)) 27 (0,0)) :: (some b1,.cells (#[.int .i64 0,.bool false,.int .i64 0,(.slice none 0 0),str ([] : List UInt8),(.slice none 0 0),(.slice none 0 0)]) 27 (0,0)) :: J8)) (i:=7) rfl (Wn.none rfl) rfl rfl (f_storeA (j:=0) ty_s27 rfl rfl rfl (one_cons trivial (one_cons trivial (one_cons trivial (one_cons (sl_one (RowV.sl hr_t5_0_3)) (one_cons trivial (one_cons (sl_one (RowV.sl hr_t5_0_5)) (one_cons (sl_one (RowS.sl hr_t5_0_6)) one_nil))))))) rfl rfl rfl) (keep_none rfl) ?_
  refine DL.pu 5 (.int .i64 t5_1) rfl (p_assign rfl rfl) ?_
  refine DL.pu 6 (.bool t5_2) rfl (p_assign rfl rfl) ?_
  refine DL.nil ?_
  refine TT.settle (A:=[(some b9,.cells ((Der.ce t5_0 t5_0_3 t5_0_5 t5_0_6)) 27 (0,0)),(some b1,.cells (#[.int .i64 0,.bool false,.int .i64 0,(.slice none 0 0),str ([] : List UInt8),(.slice none 0 0),(.slice none 0 0)]) 27 (0,0))]) (J:=J8) hE8 ?_
  intro I10 hE10 hxI10
  refine TT.seq (x:=sub [1,1,1,0] B19) (y:=sub [1,1,1,1] B19) ?_
  refine TT.seq (x:=sub [1,1,1,0,0] B19) (y:=sub [1,1,1,0,1] B19) ?_
  refine TT.rg [0,1,2,3,4,5,6,7,8,9,10,11,12,13,14,15,16,17,18,19] [kp,kp,kp,kp,kp,kp,kp,kp,kp,kq,kq,kp,kp,kp,kq,kk,kp,kq,kp,kp] rfl rfl ?_
  refine DL.mv 17 (.bool t5_2) rfl rfl rfl ?_
  refine DL.pu 18 (.bool (!t5_2)) rfl (p_not rfl rfl) ?_
  refine DL.mv 19 (.bool (!t5_2)) rfl rfl rfl ?_
  obtain ⟨q12,h13,h14⟩:=bind_some h7
  refine DL.cut [(0,a0_v),(2,ptr b1 0),(4,ptr b9 0),(24,.bool q12)] [8,9,10,11,12,13,14,15,16,17,18,19] ?_ (fun J15 => ?_)
  ·
   refine DL.mv 25 (.bool q12) rfl rfl rfl ?_
   obtain ⟨q20,h21,h22⟩:=bind_some h14
   refine DL.cut [(0,a0_v),(2,ptr b1 0),(4,ptr b9 0),(29,.bool q20)] [13,14,15,16,17,18,19] ?_ (fun J23 => ?_)
   ·
    refine DL.mv 30 (.bool q20) rfl rfl rfl ?_
    obtain ⟨q31,h32,h33⟩:=bind_some h22
    refine DL.cutJ [(some b9,.cells ((Der.ce t5_0 t5_0_3 t5_0_5 t5_0_6)) 27 (0,0)),(some b1,.cells (#[.int .i64 0,.bool false,.int .i64 0,(.slice none 0 0),str ([] : List UInt8),(.slice none 0 0),(.slice none 0 0)]) 27 (0,0))] M8 hE10 [(2,ptr b1 0),(4,ptr b9 0),(36,.bool q31)] [] ?_ (fun J34 => ?_)
    ·
     intro M35 J35 hE35 hx35
     show DL _ _ _ _ _ _ _ _ _ _ _ _ ((some b9,.cells ((Der.ce t5_0 t5_0_3 t5_0_5 t5_0_6)) 27 (0,0)) :: (some b1,.cells (#[.int .i64 0,.bool false,.int .i64 0,(.slice none 0 0),str ([] : List UInt8),(.slice none 0 0),(.slice none 0 0)]) 27 (0,0)) :: J35)
     refine DL.nil ?_
     refine TT.settle (A:=[(some b9,.cells ((Der.ce t5_0 t5_0_3 t5_0_5 t5_0_6)) 27 (0,0)),(some b1,.cells (#[.int .i64 0,.bool false,.int .i64 0,(.slice none 0 0),str ([] : List UInt8),(.slice none 0 0),(.slice none 0 0)]) 27 (0,0))]) (J:=J35) hE35 ?_
     intro I45 hE45 hxI45
     by_cases c46 : q31 = true
     ·
      have h47:=ite_true c46 h33
      refine TT.cond_true (x:=sub [1,1,1,0,1,0] B19) (y:=sub [1,1,1,0,1,1] B19) rfl c46 ?_
      refine TT.seq (x:=sub [1,1,1,0,1,0,0] B19) (y:=sub [1,1,1,0,1,0,1] B19) ?_
      refine TT.rg [0,1,2] [kp,(.store,none),kp] rfl rfl ?_
      refine DL.pu 37 (.agg #[.int .i64 0,.bool false,.int .i64 0,(.slice none 0 0),str ([] : List UInt8),(.slice none 0 0),(.slice none 0 0)]) rfl (p_build (vs:=[]) (fun w => by kernel_rfl) rfl rfl) ?_
      refine DL.put (H':=[(some b9,.cells ((Der.ce t5_0 t5_0_3 t5_0_5 t5_0_6)) 27 (0,0)),(some b1,.cells (#[.int .i64 0,.bool false,.int .i64 0,(.slice none 0 0),str ([] : List UInt8),(.slice none 0 0),(.slice none 0 0)]) 27 (0,0))]) (i:=1) rfl (Wn.none rfl) rfl rfl (f_storeA (j:=1) ty_s27 rfl rfl rfl (one_cons trivial (one_cons trivial (one_cons trivial (one_cons (sl_one (RowV.sl (IntRow.nil .u8 M35))) (one_cons trivial (one_cons (sl_one (RowV.sl (IntRow.nil .u64 M35))) (one_cons (sl_one (RowS.sl (RowS.nil ShDer M35))) one_nil))))))) rfl rfl rfl) (keep_none rfl) ?_
      refine DL.pu 3 (.int .i64 4) rfl (p_assign rfl rfl) ?_
      refine DL.nil ?_
      simp only [Option.some.injEq,Prod.mk.injEq] at h47
      obtain ⟨rfl,rfl⟩:=h47
      exact retF (rs:=[.cell 2 27,.tmp 3]) (vs:=[.agg #[.int .i64 0,.bool false,.int .i64 0,(.slice none 0 0),str ([] : List UInt8),(.slice none 0 0),(.slice none 0 0)],.int .i64 4]) ((.slice none 0 0),(.slice none 0 0),(.slice none 0 0)) hE45 Tryd.func19 rfl rfl rfl (res_cons (ResV.cell (j:=1) ty_a27 ty_s27 rfl rfl rfl) (res_cons (ResV.tmp rfl) res_nil)) ⟨(IntRow.nil .u8 M35),(IntRow.nil .u64 M35),(RowS.nil ShDer M35)⟩
     ·
      replace c46:=Bool.eq_false_iff.mpr c46
      have h48:=ite_false c46 h33
      refine TT.cond_false (x:=sub [1,1,1,0,1,0] B19) (y:=sub [1,1,1,0,1,1] B19) rfl c46 ?_
      refine TT.skip ?_
      refine TT.seq (x:=sub [1,1,1,1,0] B19) (y:=sub [1,1,1,1,1] B19) ?_
      refine TT.rg [0,1,2] [kq,(.store,none),kp] rfl rfl ?_
      refine DL.qu 38 (.agg (Der.ce t5_0 t5_0_3 t5_0_5 t5_0_6)) rfl (f_loadA (j:=0) ty_a27 ty_s27 rfl rfl rfl rfl) ?_
      refine DL.put (H':=[(some b9,.cells ((Der.ce t5_0 t5_0_3 t5_0_5 t5_0_6)) 27 (0,0)),(some b1,.cells ((Der.ce t5_0 t5_0_3 t5_0_5 t5_0_6)) 27 (0,0))]) (i:=1) rfl (Wn.none rfl) rfl rfl (f_storeA (j:=1) ty_s27 rfl rfl rfl (one_cons trivial (one_cons trivial (one_cons trivial (one_cons (sl_one (RowV.sl (IntRow.mono hr_t5_0_3 hx35))) (one_cons trivial (one_cons (sl_one (RowV.sl (IntRow.mono hr_t5_0_5 hx35))) (one_cons (sl_one (RowS.sl (RowS.mono hr_t5_0_6 hx35))) one_nil))))))) rfl rfl rfl) (keep_none rfl) ?_
      refine DL.pu 3 (.int .i64 0) rfl (p_assign rfl rfl) ?_
      refine DL.nil ?_
      simp only [Option.some.injEq,Prod.mk.injEq] at h48
      obtain ⟨rfl,rfl⟩:=h48
      exact retF (rs:=[.cell 2 27,.tmp 3]) (vs:=[.agg (Der.ce t5_0 t5_0_3 t5_0_5 t5_0_6),.int .i64 0]) (t5_0_3,t5_0_5,t5_0_6) hE45 Tryd.func19 rfl rfl rfl (res_cons (ResV.cell (j:=1) ty_a27 ty_s27 rfl rfl rfl) (res_cons (ResV.tmp rfl) res_nil)) ⟨(IntRow.mono hr_t5_0_3 hx35),(IntRow.mono hr_t5_0_5 hx35),(RowS.mono hr_t5_0_6 hx35)⟩
    ·
     by_cases c30 : q20 = true
     ·
      have h36:=ite_true c30 h32
      refine DL.not (i:=14) rfl (Wn.yes c30 rfl rfl rfl rfl) rfl rfl ?_
      refine DL.not (i:=15) rfl (Wn.yes c30 rfl rfl rfl rfl) rfl rfl ?_
      refine DL.not (i:=16) rfl (Wn.yes c30 rfl rfl rfl rfl) rfl rfl ?_
      refine DL.not (i:=17) rfl (Wn.yes c30 rfl rfl rfl rfl) rfl rfl ?_
      refine DL.not (i:=18) rfl (Wn.yes c30 rfl rfl rfl rfl) rfl rfl ?_
      refine DL.pu 36 (.bool true) rfl (p_pick_t c30 rfl rfl rfl) ?_
      obtain rfl:=Option.some.inj h36
      exact DL.weak (J34 _ _ hE10.nil (Ext.refl _)) (Sub.cons rfl (Sub.cons rfl (Sub.cons rfl (Sub.nil _))))
     ·
      replace c30:=Bool.eq_false_iff.mpr c30
      have h37:=ite_false c30 h32
      refine DL.quiet (v:=.agg (Der.ce t5_0 t5_0_3 t5_0_5 t5_0_6)) rfl (Wn.no c30 rfl rfl rfl rfl) rfl rfl rfl (f_loadA (j:=0) ty_a27 ty_s27 rfl rfl rfl rfl) ?_
      obtain ⟨t38,h39,h40⟩:=bind_some h37
      refine DL.callF (G:=Value) (u:=fun g => g) (Q:=fun g M_ => (IntRow M_ .u8 g t38)) (A:=[(some b9,.cells ((Der.ce t5_0 t5_0_3 t5_0_5 t5_0_6)) 27 (0,0)),(some b1,.cells (#[.int .i64 0,.bool false,.int .i64 0,(.slice none 0 0),str ([] : List UInt8),(.slice none 0 0),(.slice none 0 0)]) 27 (0,0))]) (J:=[]) (fun J41 => ((some b9,.cells ((Der.ce t5_0 t5_0_3 t5_0_5 t5_0_6)) 27 (0,0)) :: (some b1,.cells (#[.int .i64 0,.bool false,.int .i64 0,(.slice none 0 0),str ([] : List UInt8),(.slice none 0 0),(.slice none 0 0)]) 27 (0,0)) :: J41)) (Nat.le_refl _) hE10.nil (List.append_nil _).symm (fun _ => rfl) (by simp) (i:=15) rfl (Wn.no c30 rfl rfl rfl rfl) rfl rfl rfl rfl rfl rfl (args_val (vs:=[.agg (Der.ce t5_0 t5_0_3 t5_0_5 t5_0_6)]) rfl) (fun w => enter31 _ w) (fun w hc hI => der_pack.ok h39 (M:=M8) w hI hr_t5_0_3 hr_t5_0_5 hr_t5_0_6) ?_
      rintro t38_v M41 J41 hE41 hx41 hr_t38
      show DL _ _ _ _ _ _ _ _ _ _ _ _ ((some b9,.cells ((Der.ce t5_0 t5_0_3 t5_0_5 t5_0_6)) 27 (0,0)) :: (some b1,.cells (#[.int .i64 0,.bool false,.int .i64 0,(.slice none 0 0),str ([] : List UInt8),(.slice none 0 0),(.slice none 0 0)]) 27 (0,0)) :: J41)
      refine DL.pure (v:=a0_v) rfl (Wn.no c30 rfl rfl rfl rfl) rfl rfl rfl (p_move rfl rfl) ?_
      obtain ⟨t42,h43,h44⟩:=bind_some h40
      refine DL.quiet (v:=.bool t42) rfl (Wn.no c30 rfl rfl rfl rfl) rfl rfl rfl (f_callR rfl rfl (args_val (vs:=[t38_v,a0_v]) rfl) (fun w => enter35 _ w) (fun w hc => slices_Equal_35.val h43 (M:=M41) w (hE41.extJ (A:=[(some b9,.cells ((Der.ce t5_0 t5_0_3 t5_0_5 t5_0_6)) 27 (0,0)),(some b1,.cells (#[.int .i64 0,.bool false,.int .i64 0,(.slice none 0 0),str ([] : List UInt8),(.slice none 0 0),(.slice none 0 0)]) 27 (0,0))]) hc rfl) hr_t38 (IntRow.mono hr_a0 (hx8.trans hx41)))) ?_
      refine DL.pure (v:=.bool (!t42)) rfl (Wn.no c30 rfl rfl rfl rfl) rfl rfl rfl (p_not rfl rfl) ?_
      refine DL.pu 36 (.bool (!t42)) rfl (p_pick_f c30 rfl rfl rfl) ?_
      obtain rfl:=Option.some.inj h44
      exact DL.weak (J34 _ _ hE41 hx41) (Sub.cons rfl (Sub.cons rfl (Sub.cons rfl (Sub.nil _))))
   ·
    by_cases c24 : q12 = true
    ·
     have h25:=ite_true c24 h21
     refine DL.not (i:=9) rfl (Wn.yes c24 rfl rfl rfl rfl) rfl rfl ?_
     refine DL.not (i:=10) rfl (Wn.yes c24 rfl rfl rfl rfl) rfl rfl ?_
     refine DL.not (i:=11) rfl (Wn.yes c24 rfl rfl rfl rfl) rfl rfl ?_
     refine DL.pu 29 (.bool true) rfl (p_pick_t c24 rfl rfl rfl) ?_
     obtain rfl:=Option.some.inj h25
     exact DL.weak J23 (Sub.cons rfl (Sub.cons rfl (Sub.cons rfl (Sub.cons rfl (Sub.nil _)))))
    ·
     replace c24:=Bool.eq_false_iff.mpr c24
     have h26:=ite_false c24 h21
     refine DL.quiet (v:=.agg (Der.ce t5_0 t5_0_3 t5_0_5 t5_0_6)) rfl (Wn.no c24 rfl rfl rfl rfl) rfl rfl rfl (f_loadA (j:=0) ty_a27 ty_s27 rfl rfl rfl rfl) ?_
     obtain ⟨t27,h28,h29⟩:=bind_some h26
     refine DL.quiet (v:=.bool t27) rfl (Wn.no c24 rfl rfl rfl rfl) rfl rfl rfl (f_callR rfl rfl (args_val (vs:=[.agg (Der.ce t5_0 t5_0_3 t5_0_5 t5_0_6)]) rfl) (fun w => enter14 _ w) (fun w hc => der_May.val h28 (M:=M8) w (hE10.ext hc) (Glob.mono hG hx8) hr_t5_0_3 hr_t5_0_5 hr_t5_0_6)) ?_
     refine DL.pure (v:=.bool (!t27)) rfl (Wn.no c24 rfl rfl rfl rfl) rfl rfl rfl (p_not rfl rfl) ?_
     refine DL.pu 29 (.bool (!t27)) rfl (p_pick_f c24 rfl rfl rfl) ?_
     obtain rfl:=Option.some.inj h29
     exact DL.weak J23 (Sub.cons rfl (Sub.cons rfl (Sub.cons rfl (Sub.cons rfl (Sub.nil _)))))
  ·
   by_cases c16 : (!t5_2) = true
   ·
    have h17:=ite_true c16 h13
    refine DL.not (i:=3) rfl (Wn.yes c16 rfl rfl rfl rfl) rfl rfl ?_
    refine DL.not (i:=4) rfl (Wn.yes c16 rfl rfl rfl rfl) rfl rfl ?_
    refine DL.not (i:=5) rfl (Wn.yes c16 rfl rfl rfl rfl) rfl rfl ?_
    refine DL.not (i:=6) rfl (Wn.yes c16 rfl rfl rfl rfl) rfl rfl ?_
    refine DL.pu 24 (.bool true) rfl (p_pick_t c16 rfl rfl rfl) ?_
    obtain rfl:=Option.some.inj h17
    exact DL.weak J15 (Sub.cons rfl (Sub.cons rfl (Sub.cons rfl (Sub.cons rfl (Sub.nil _)))))
   ·
    replace c16:=Bool.eq_false_iff.mpr c16
    have h18:=ite_false c16 h13
    refine DL.pure (v:=.int .i64 t5_1) rfl (Wn.no c16 rfl rfl rfl rfl) rfl rfl rfl (p_move rfl rfl) ?_
    refine DL.pure (v:=a0_v) rfl (Wn.no c16 rfl rfl rfl rfl) rfl rfl rfl (p_move rfl rfl) ?_
    refine DL.pure (v:=.int .i64 (a0.length : Int)) rfl (Wn.no c16 rfl rfl rfl rfl) rfl rfl rfl (p_slLen ty_u23 (RowV.sl (IntRow.mono hr_a0 hx8)) rfl rfl) ?_
    refine DL.pure (v:=.bool (t5_1 != (a0.length : Int))) rfl (Wn.no c16 rfl rfl rfl rfl) rfl rfl rfl (p_neq rfl rfl rfl) ?_
    refine DL.pu 24 (.bool (t5_1 != (a0.length : Int))) rfl (p_pick_f c16 rfl rfl rfl) ?_
    obtain rfl:=Option.some.inj h18
    exact DL.weak J15 (Sub.cons rfl (Sub.cons rfl (Sub.cons rfl (Sub.cons rfl (Sub.nil _)))))

/-! ### escutcheon/escutcheonlaw13.known: function 11 -/
noncomputable def B11 : Code:=bodyOf Tryd.f11
def law13_known.f : Option (Bool):=(der_Int.f 128).bind fun t1 => (der_Bytes.f t1).bind fun (t5_0,t5_1) => (der_Int.f (-128)).bind fun t10 => (der_Bytes.f t10).bind fun (t14_0,t14_1) => (der_Oid.f [2,5,4,3]).bind fun t22 => (der_Bytes.f t22).bind fun (t26_0,t26_1) => (der_Of.f [2,2,0,127]).bind fun (t34_0,t34_1) => (der_Of.f [1,1,1]).bind fun (t43_0,t43_1) => (if ((bytesL t5_0) == [2,2,0,128]) = true then (some ((bytesL t14_0) == [2,1,128])) else (some false)).bind fun q50 => (if q50 = true then (some ((bytesL t26_0) == [6,3,85,4,3])) else (some false)).bind fun q58 => (if q58 = true then ((law13_num.f t5_1).bind fun t72 => (law13_num.f t14_1).bind fun t75 => (law13_num.f t26_1).bind fun t78 => nm (IntKind.i64.wrap ((IntKind.i64.wrap (t72 + t75)) + t78)) fun t81 => some (t81 == 0)) else (some false)).bind fun q66 => (if q66 = true then ((law13_num.f t34_1).bind fun t92 => some (t92 == 4)) else (some false)).bind fun q86 => (if q86 = true then ((law13_num.f t43_1).bind fun t103 => some (t103 == 4)) else (some false)).bind fun q97 => some q97
set_option maxHeartbeats 1000000 in
set_option maxRecDepth 20000 in
theorem law13_known.ok {r : Bool} (h : law13_known.f = some r) {M : Mem} (w : World) (hM : Ext M (heapOf w)) (hG : Glob M) : Calls Tryd.prog 11 #[] w (Post (fun u => u = .bool r) w):=by
 unfold law13_known.f at h
 have hE:=Env.start hM
 refine calls_of_TT (N:=71) (S:=[]) (c:=B11) Tryd.func11 rfl rfl rfl (by simp) ?_
 show TT _ _ _ _ _ _ [.code (sub [] B11)] _ _
 refine TT.seq (x:=sub [0] B11) (y:=sub [1] B11) ?_
 refine TT.rg [0] [kp] rfl rfl ?_
 refine DL.pu 0 (.bool false) rfl (p_assign rfl rfl) ?_
 refine DL.nil ?_
 refine TT.seq (x:=sub [1,0] B11) (y:=sub [1,1] B11) ?_
 refine TT.rg [0,1,2,3,4,5,6] [kk,kk,kp,kp,kp,kp,kp] rfl rfl ?_
 obtain ⟨t1,h2,h3⟩:=bind_some h
 refine DL.callF (G:=Value × Value × Value) (u:=fun g => .agg (Der.ce t1 (g.1) (g.2.1) (g.2.2))) (Q:=fun g M_ => (IntRow M_ .u8 (g.1) (Der.bytes t1)) ∧ (IntRow M_ .u64 (g.2.1) (Der.arcs t1)) ∧ (RowS ShDer M_ (g.2.2) (Tree.kids t1))) (A:=[]) (J:=[]) (fun J4 => (J4)) (Nat.le_refl _) hE.nil (List.append_nil _).symm (fun _ => rfl) (by simp) (i:=0) rfl (Wn.none rfl) rfl rfl rfl rfl rfl rfl (args_val (vs:=[.int .i64 128]) rfl) (fun w => enter21 _ w) (fun w hc hI => der_Int.ok h2 (M:=M) w hI ) ?_
 rintro ⟨t1_3,t1_5,t1_6⟩ M4 J4 hE4 hx4 ⟨hr_t1_3,hr_t1_5,hr_t1_6⟩
 show DL _ _ _ _ _ _ _ _ _ _ _ _ (J4)
 obtain ⟨⟨t5_0,t5_1⟩,h6,h7⟩:=bind_some h3
 refine DL.callF (G:=Value) (u:=fun g => .tuple #[g,.int .i64 t5_1]) (Q:=fun g M_ => (IntRow M_ .u8 g t5_0)) (A:=[]) (J:=J4) (fun J8 => (J8)) (Nat.le_refl _) hE4 rfl (fun _ => rfl) (by simp) (i:=1) rfl (Wn.none rfl) rfl rfl rfl rfl rfl rfl (args_val (vs:=[.agg (Der.ce t1 t1_3 t1_5 t1_6)]) rfl) (fun w => enter12 _ w) (fun w hc hI => der_Bytes.ok h6 (M:=M4) w hI (Glob.mono hG hx4) hr_t1_3 hr_t1_5 hr_t1_6) ?_
 rintro t5_0_v M8 J8 hE8 hx8 hr_t5_0
 show DL _ _ _ _ _ _ _ _ _ _ _ _ (J8)
 refine DL.mv 11 (.tuple #[t5_0_v,.int .i64 t5_1]) rfl rfl rfl ?_
 refine DL.pu 14 (t5_0_v) rfl (p_extract rfl rfl rfl) ?_
 refine DL.pu 15 (.int .i64 t5_1) rfl (p_extract rfl rfl rfl) ?_
 refine DL.pu 1 (t5_0_v) rfl (p_assign rfl rfl) ?_
 refine DL.pu 2 (.int .i64 t5_1) rfl (p_assign rfl rfl) ?_
 refine DL.nil ?_
 refine TT.settle (A:=[]) (J:=J8) hE8 ?_
 intro I9 hE9 hxI9
 refine TT.seq (x:=sub [1,1,0] B11) (y:=sub [1,1,1] B11) ?_
 refine TT.rg [0,1,2,3,4,5,6] [kk,kk,kp,kp,kp,kp,kp] rfl rfl ?_
 obtain ⟨t10,h11,h12⟩:=bind_some h7
 refine DL.callF (G:=Value × Value × Value) (u:=fun g => .agg (Der.ce t10 (g.1) (g.2.1) (g.2.2))) (Q:=fun g M_ => (IntRow M_ .u8 (g.1) (Der.bytes t10)) ∧ (IntRow M_ .u64 (g.2.1) (Der.arcs t10)) ∧ (RowS ShDer M_ (g.2.2) (Tree.kids t10))) (A:=[]) (J:=[]) (fun J13 => (J13)) (Nat.le_refl _) hE9.nil (List.append_nil _).symm (fun _ => rfl) (by simp) (i:=0) rfl (Wn.none rfl) rfl rfl rfl rfl rfl rfl (args_val (vs:=[.int .i64 (-128)]) rfl) (fun w => enter21 _ w) (fun w hc hI => der_Int.ok h11 (M:=M8) w hI ) ?_
 rintro ⟨t10_3,t10_5,t10_6⟩ M13 J13 hE13 hx13 ⟨hr_t10_3,hr_t10_5,hr_t10_6⟩
 show DL _ _ _ _ _ _ _ _ _ _ _ _ (J13)
 obtain ⟨⟨t14_0,t14_1⟩,h15,h16⟩:=bind_some h12
 refine DL.callF (G:=Value) (u:=fun g => .tuple #[g,.int .i64 t14_1]) (Q:=fun g M_ => (IntRow M_ .u8 g t14_0)) (A:=[]) (J:=J13) (fun J17 => (J17)) (Nat.le_refl _) hE13 rfl (fun _ => rfl) (by simp) (i:=1) rfl (Wn.none rfl) rfl rfl rfl rfl rfl rfl (args_val (vs:=[.agg (Der.ce t10 t10_3 t10_5 t10_6)]) rfl) (fun w => enter12 _ w) (fun w hc hI => der_Bytes.ok h15 (M:=M13) w hI (Glob.mono hG ((hx4.trans hx8).trans hx13)) hr_t10_3 hr_t10_5 hr_t10_6) ?_
 rintro t14_0_v M17 J17 hE17 hx17 hr_t14_0
 show DL _ _ _ _ _ _ _ _ _ _ _ _ (J17)
 refine DL.mv 16 (.tuple #[t14_0_v,.int .i64 t14_1]) rfl rfl rfl ?_
 refine DL.pu 19 (t14_0_v) rfl (p_extract rfl rfl rfl) ?_
 refine DL.pu 20 (.int .i64 t14_1) rfl (p_extract rfl rfl rfl) ?_
 refine DL.pu 3 (t14_0_v) rfl (p_assign rfl rfl) ?_
 refine DL.pu 4 (.int .i64 t14_1) rfl (p_assign rfl rfl) ?_
 refine DL.nil ?_
 refine TT.settle (A:=[]) (J:=J17) hE17 ?_
 intro I18 hE18 hxI18
 refine TT.seq (x:=sub [1,1,1,0] B11) (y:=sub [1,1,1,1] B11) ?_
 refine TT.rg [0,1,2,3,4,5,6,7] [kk,kk,kk,kp,kp,kp,kp,kp] rfl rfl ?_
 refine DL.newRowI (k:=.u64) (zs:=[2,5,4,3]) (n:=4) (A:=[]) (J:=[]) (fun J21 => (J21)) (Nat.le_refl _) hE18.nil (List.append_nil _).symm (fun _ => rfl) rfl (by decide) (i:=0) rfl (Wn.none rfl) rfl rfl rfl (f_buildSl (n:=4) (zs:=[2,5,4,3]) (vs:=[(0,.int .u64 2),(1,.int .u64 5),(2,.int .u64 4),(3,.int .u64 3)]) elem24 rfl rfl (by kernel_rfl) rfl (args_val2 rfl)) ?_
 intro v21 M21 J21 hE21 hx21 hr_v21
 show DL _ _ _ _ _ _ _ _ _ _ _ _ (J21)
 obtain ⟨t22,h23,h24⟩:=bind_some h16
 refine DL.callF (G:=Value × Value × Value) (u:=fun g => .agg (Der.ce t22 (g.1) (g.2.1) (g.2.2))) (Q:=fun g M_ => (IntRow M_ .u8 (g.1) (Der.bytes t22)) ∧ (IntRow M_ .u64 (g.2.1) (Der.arcs t22)) ∧ (RowS ShDer M_ (g.2.2) (Tree.kids t22))) (A:=[]) (J:=J21) (fun J25 => (J25)) (Nat.le_refl _) hE21 rfl (fun _ => rfl) (by simp) (i:=1) rfl (Wn.none rfl) rfl rfl rfl rfl rfl rfl (args_val (vs:=[v21]) rfl) (fun w => enter24 _ w) (fun w hc hI => der_Oid.ok h23 (M:=M21) w hI hr_v21) ?_
 rintro ⟨t22_3,t22_5,t22_6⟩ M25 J25 hE25 hx25 ⟨hr_t22_3,hr_t22_5,hr_t22_6⟩
 show DL _ _ _ _ _ _ _ _ _ _ _ _ (J25)
 obtain ⟨⟨t26_0,t26_1⟩,h27,h28⟩:=bind_some h24
 refine DL.callF (G:=Value) (u:=fun g => .tuple #[g,.int .i64 t26_1]) (Q:=fun g M_ => (IntRow M_ .u8 g t26_0)) (A:=[]) (J:=J25) (fun J29 => (J29)) (Nat.le_refl _) hE25 rfl (fun _ => rfl) (by simp) (i:=2) rfl (Wn.none rfl) rfl rfl rfl rfl rfl rfl (args_val (vs:=[.agg (Der.ce t22 t22_3 t22_5 t22_6)]) rfl) (fun w => enter12 _ w) (fun w hc hI => der_Bytes.ok h27 (M:=M25) w hI (Glob.mono hG (((((hx4.trans hx8).trans hx13).trans hx17).trans hx21).trans hx25)) hr_t22_3 hr_t22_5 hr_t22_6) ?_
 rintro t26_0_v M29 J29 hE29 hx29 hr_t26_0
 show DL _ _ _ _ _ _ _ _ _ _ _ _ (J29)
 refine DL.mv 21 (.tuple #[t26_0_v,.int .i64 t26_1]) rfl rfl rfl ?_
 refine DL.pu 25 (t26_0_v) rfl (p_extract rfl rfl rfl) ?_
 refine DL.pu 26 (.int .i64 t26_1) rfl (p_extract rfl rfl rfl) ?_
 refine DL.pu 5 (t26_0_v) rfl (p_assign rfl rfl) ?_
 refine DL.pu 6 (.int .i64 t26_1) rfl (p_assign rfl rfl) ?_
 refine DL.nil ?_
 refine TT.settle (A:=[]) (J:=J29) hE29 ?_
 intro I30 hE30 hxI30
 refine TT.seq (x:=sub [1,1,1,1,0] B11) (y:=sub [1,1,1,1,1] B11) ?_
 refine TT.rg [0,1,2,3,4,5,6,7] [kk,kk,kp,kp,kp,(.alloc,none),(.store,none),kp] rfl rfl ?_
 refine DL.newRowI (k:=.u8) (zs:=[2,2,0,127]) (n:=4) (A:=[]) (J:=[]) (fun J33 => (J33)) (Nat.le_refl _) hE30.nil (List.append_nil _).symm (fun _ => rfl) rfl (by decide) (i:=0) rfl (Wn.none rfl) rfl rfl rfl (f_buildSl (n:=4) (zs:=[2,2,0,127]) (vs:=[(0,.int .u8 2),(1,.int .u8 2),(2,.int .u8 0),(3,.int .u8 127)]) elem23 rfl rfl (by kernel_rfl) rfl (args_val2 rfl)) ?_
 intro v33 M33 J33 hE33 hx33 hr_v33
 show DL _ _ _ _ _ _ _ _ _ _ _ _ (J33)
 obtain ⟨⟨t34_0,t34_1⟩,h35,h36⟩:=bind_some h28
 refine DL.callF (G:=Value × Value × Value) (u:=fun g => .tuple #[.agg (Der.ce t34_0 (g.1) (g.2.1) (g.2.2)),.int .i64 t34_1]) (Q:=fun g M_ => (IntRow M_ .u8 (g.1) (Der.bytes t34_0)) ∧ (IntRow M_ .u64 (g.2.1) (Der.arcs t34_0)) ∧ (RowS ShDer M_ (g.2.2) (Tree.kids t34_0))) (A:=[]) (J:=J33) (fun J37 => (J37)) (Nat.le_refl _) hE33 rfl (fun _ => rfl) (by simp) (i:=1) rfl (Wn.none rfl) rfl rfl rfl rfl rfl rfl (args_val (vs:=[v33]) rfl) (fun w => enter19 _ w) (fun w hc hI => der_Of.ok h35 (M:=M33) w hI (Glob.mono hG (((((((hx4.trans hx8).trans hx13).trans hx17).trans hx21).trans hx25).trans hx29).trans hx33)) hr_v33) ?_
 rintro ⟨t34_0_3,t34_0_5,t34_0_6⟩ M37 J37 hE37 hx37 ⟨hr_t34_0_3,hr_t34_0_5,hr_t34_0_6⟩
 show DL _ _ _ _ _ _ _ _ _ _ _ _ (J37)
 refine DL.mv 27 (.tuple #[.agg (Der.ce t34_0 t34_0_3 t34_0_5 t34_0_6),.int .i64 t34_1]) rfl rfl rfl ?_
 refine DL.pu 30 (.agg (Der.ce t34_0 t34_0_3 t34_0_5 t34_0_6)) rfl (p_extract rfl rfl rfl) ?_
 refine DL.pu 31 (.int .i64 t34_1) rfl (p_extract rfl rfl rfl) ?_
 refine DL.new (ob:=.cells (#[.int .i64 0,.bool false,.int .i64 0,(.slice none 0 0),str ([] : List UInt8),(.slice none 0 0),(.slice none 0 0)]) 27) (mk:=fun b => ptr b 0) (i:=5) rfl (Wn.none rfl) rfl rfl rfl (f_alloc ty_z27 rfl) ?_
 intro b38 hb38
 refine DL.put (H':=((some b38,.cells ((Der.ce t34_0 t34_0_3 t34_0_5 t34_0_6)) 27 (0,0)) :: J37)) (i:=6) rfl (Wn.none rfl) rfl rfl (f_storeA (j:=0) ty_s27 rfl rfl rfl (one_cons trivial (one_cons trivial (one_cons trivial (one_cons (sl_one (RowV.sl hr_t34_0_3)) (one_cons trivial (one_cons (sl_one (RowV.sl hr_t34_0_5)) (one_cons (sl_one (RowS.sl hr_t34_0_6)) one_nil))))))) rfl rfl rfl) (keep_none rfl) ?_
 refine DL.pu 8 (.int .i64 t34_1) rfl (p_assign rfl rfl) ?_
 refine DL.nil ?_
 refine TT.settle (A:=[(some b38,.cells ((Der.ce t34_0 t34_0_3 t34_0_5 t34_0_6)) 27 (0,0))]) (J:=J37) hE37 ?_
 intro I39 hE39 hxI39
 refine TT.seq (x:=sub [1,1,1,1,1,0] B11) (y:=sub [1,1,1,1,1,1] B11) ?_
 refine TT.rg [0,1,2,3,4,5,6,7] [kk,kk,kp,kp,kp,(.alloc,none),(.store,none),kp] rfl rfl ?_
 refine DL.newRowI (k:=.u8) (zs:=[1,1,1]) (n:=3) (A:=[(some b38,.cells ((Der.ce t34_0 t34_0_3 t34_0_5 t34_0_6)) 27 (0,0))]) (J:=[]) (fun J42 => ((some b38,.cells ((Der.ce t34_0 t34_0_3 t34_0_5 t34_0_6)) 27 (0,0)) :: J42)) (Nat.le_refl _) hE39.nil (List.append_nil _).symm (fun _ => rfl) rfl (by decide) (i:=0) rfl (Wn.none rfl) rfl rfl rfl (f_buildSl (n:=3) (zs:=[1,1,1]) (vs:=[(0,.int .u8 1),(1,.int .u8 1),(2,.int .u8 1)]) elem23 rfl rfl (by kernel_rfl) rfl (args_val2 rfl)) ?_
 intro v42 M42 J42 hE42 hx42 hr_v42
 show DL _ _ _ _ _ _ _ _ _ _ _ _ ((some b38,.cells ((Der.ce t34_0 t34_0_3 t34_0_5 t34_0_6)) 27 (0,0)) :: J42)
 obtain ⟨⟨t43_0,t43_1⟩,h44,h45⟩:=bind_some h36
 refine DL.callF (G:=Value × Value × Value) (u:=fun g => .tuple #[.agg (Der.ce t43_0 (g.1) (g.2.1) (g.2.2)),.int .i64 t43_1]) (Q:=fun g M_ => (IntRow M_ .u8 (g.1) (Der.bytes t43_0)) ∧ (IntRow M_ .u64 (g.2.1) (Der.arcs t43_0)) ∧ (RowS ShDer M_ (g.2.2) (Tree.kids t43_0))) (A:=[(some b38,.cells ((Der.ce t34_0 t34_0_3 t34_0_5 t34_0_6)) 27 (0,0))]) (J:=J42) (fun J46 => ((some b38,.cells ((Der.ce t34_0 t34_0_3 t34_0_5 t34_0_6)) 27 (0,0)) :: J46)) (Nat.le_refl _) hE42 rfl (fun _ => rfl) (by simp) (i:=1) rfl (Wn.none rfl) rfl rfl rfl rfl rfl rfl (args_val (vs:=[v42]) rfl) (fun w => enter19 _ w) (fun w hc hI => der_Of.ok h44 (M:=M42) w hI (Glob.mono hG (((((((((hx4.trans hx8).trans hx13).trans hx17).trans hx21).trans hx25).trans hx29).trans hx33).trans hx37).trans hx42)) hr_v42) ?_
 rintro ⟨t43_0_3,t43_0_5,t43_0_6⟩ M46 J46 hE46 hx46 ⟨hr_t43_0_3,hr_t43_0_5,hr_t43_0_6⟩
 show DL _ _ _ _ _ _ _ _ _ _ _ _ ((some b38,.cells ((Der.ce t34_0 t34_0_3 t34_0_5 t34_0_6)) 27 (0,0)) :: J46)
 refine DL.mv 32 (.tuple #[.agg (Der.ce t43_0 t43_0_3 t43_0_5 t43_0_6),.int .i64 t43_1]) rfl rfl rfl ?_
 refine DL.pu 35 (.agg (Der.ce t43_0 t43_0_3 t43_0_5 t43_0_6)) rfl (p_extract rfl rfl rfl) ?_
 refine DL.pu 36 (.int .i64 t43_1) rfl (p_extract rfl rfl rfl) ?_
 refine DL.new (ob:=.cells (#[.int .i64 0,.bool false,.int .i64 0,(.slice none 0 0),str ([] : List UInt8),(.slice none 0 0),(.slice none 0 0)]) 27) (mk:=fun b => ptr b 0) (i:=5) rfl (Wn.none rfl) rfl rfl rfl (f_alloc ty_z27 rfl) ?_
 intro b47 hb47
 refine DL.put (H':=((some b47,.cells ((Der.ce t43_0 t43_0_3 t43_0_5 t43_0_6)) 27 (0,0)) :: (some b38,.cells ((Der.ce t34_0 t34_0_3 t34_0_5 t34_0_6)) 27 (0,0)) :: J46)) (i:=6) rfl (Wn.none rfl) rfl rfl (f_storeA (j:=0) ty_s27 rfl rfl rfl (one_cons trivial (one_cons trivial (one_cons trivial (one_cons (sl_one (RowV.sl hr_t43_0_3)) (one_cons trivial (one_cons (sl_one (RowV.sl hr_t43_0_5)) (one_cons (sl_one (RowS.sl hr_t43_0_6)) one_nil))))))) rfl rfl rfl) (keep_none rfl) ?_
 refine DL.pu 10 (.int .i64 t43_1) rfl (p_assign rfl rfl) ?_
 refine DL.nil ?_
 refine TT.settle (A:=[(some b47,.cells ((Der.ce t43_0 t43_0_3 t43_0_5 t43_0_6)) 27 (0,0)),(some b38,.cells ((Der.ce t34_0 t34_0_3 t34_0_5 t34_0_6)) 27 (0,0))]) (J:=J46) hE46 ?_
 intro I48 hE48 hxI48
 refine TT.seq (x:=sub [1,1,1,1,1,1,0] B11) (y:=sub [1,1,1,1,1,1,1] B11) ?_
 refine TT.rg [0,1,2,3,4,5,6,7,8,9,10,11,12,13,14,15,16,17,18,19,20,21,22,23,24,25,26,27,28,29,30,31,32,33,34] [kp,kp,kp,kp,kp,kp,kp,kp,kp,kp,kp,kp,kp,kp,kp,kq,kp,kq,kp,kp,kq,kp,kp,kp,kp,kp,kq,kp,kp,kp,kp,kq,kp,kp,kp] rfl rfl ?_
 refine DL.mv 37 (t5_0_v) rfl rfl rfl ?_
 refine DL.imm (v:=str (bytesL t5_0)) rfl (Wn.none rfl) rfl rfl rfl (i_bytesStr ty_us23 ty_us5 ty_us9 (IntRow.mono (IntRow.mono hr_t5_0 ((((((((hx13.trans hx17).trans hx21).trans hx25).trans hx29).trans hx33).trans hx37).trans hx42).trans hx46)) hE48.mi) rfl rfl) ?_
 refine DL.pu 39 (.bool ((bytesL t5_0) == [2,2,0,128])) rfl (p_strEq rfl rfl rfl) ?_
 refine DL.mv 40 (.bool ((bytesL t5_0) == [2,2,0,128])) rfl rfl rfl ?_
 obtain ⟨q50,h51,h52⟩:=bind_some h45
 refine DL.cut [(2,.int .i64 t5_1),(4,.int .i64 t14_1),(5,t26_0_v),(6,.int .i64 t26_1),(8,.int .i64 t34_1),(10,.int .i64 t43_1),(44,.bool q50)] [8,9,10,11,12,13,14,15,16,17,18,19,20,21,22,23,24,25,26,27,28,29,30,31,32,33,34] ?_ (fun J53 => ?_)
 ·
  refine DL.mv 45 (.bool q50) rfl rfl rfl ?_
  obtain ⟨q58,h59,h60⟩:=bind_some h52
  refine DL.cut [(2,.int .i64 t5_1),(4,.int .i64 t14_1),(6,.int .i64 t26_1),(8,.int .i64 t34_1),(10,.int .i64 t43_1),(49,.bool q58)] [13,14,15,16,17,18,19,20,21,22,23,24,25,26,27,28,29,30,31,32,33,34] ?_ (fun J61 => ?_)
  ·
   refine DL.mv 50 (.bool q58) rfl rfl rfl ?_
   obtain ⟨q66,h67,h68⟩:=bind_some h60
   refine DL.cut [(8,.int .i64 t34_1),(10,.int .i64 t43_1),(60,.bool q66)] [24,25,26,27,28,29,30,31,32,33,34] ?_ (fun J69 => ?_)
   ·
    refine DL.mv 61 (.bool q66) rfl rfl rfl ?_
    obtain ⟨q86,h87,h88⟩:=bind_some h68
    refine DL.cut [(10,.int .i64 t43_1),(65,.bool q86)] [29,30,31,32,33,34] ?_ (fun J89 => ?_)
    ·
     refine DL.mv 66 (.bool q86) rfl rfl rfl ?_
     obtain ⟨q97,h98,h99⟩:=bind_some h88
     refine DL.cut [(70,.bool q97)] [34] ?_ (fun J100 => ?_)
     ·
      refine DL.pu 0 (.bool q97) rfl (p_assign rfl rfl) ?_
      refine DL.nil ?_
      obtain rfl:=Option.some.inj h99
      exact retnE (rs:=[.tmp 0]) (vs:=[.bool q97]) hE48.base Tryd.func11 rfl rfl rfl (res_cons (ResV.tmp rfl) res_nil) rfl
     ·
      by_cases c101 : q86 = true
      ·
       have h102:=ite_true c101 h98
       refine DL.pure (v:=.int .i64 t43_1) rfl (Wn.yes c101 rfl rfl rfl rfl) rfl rfl rfl (p_move rfl rfl) ?_
       obtain ⟨t103,h104,h105⟩:=bind_some h102
       refine DL.quiet (v:=.int .i64 t103) rfl (Wn.yes c101 rfl rfl rfl rfl) rfl rfl rfl (f_callR rfl rfl (args_val (vs:=[.int .i64 t43_1]) rfl) (fun w => enter16 _ w) (fun w hc => law13_num.val h104 (M:=M46) w (hE48.ext hc) )) ?_
       refine DL.pure (v:=.bool (t103 == 4)) rfl (Wn.yes c101 rfl rfl rfl rfl) rfl rfl rfl (p_eql rfl rfl rfl) ?_
       refine DL.pu 70 (.bool (t103 == 4)) rfl (p_pick_t c101 rfl rfl rfl) ?_
       obtain rfl:=Option.some.inj h105
       exact DL.weak J100 (Sub.cons rfl (Sub.nil _))
      ·
       replace c101:=Bool.eq_false_iff.mpr c101
       have h106:=ite_false c101 h98
       refine DL.not (i:=30) rfl (Wn.no c101 rfl rfl rfl rfl) rfl rfl ?_
       refine DL.not (i:=31) rfl (Wn.no c101 rfl rfl rfl rfl) rfl rfl ?_
       refine DL.not (i:=32) rfl (Wn.no c101 rfl rfl rfl rfl) rfl rfl ?_
       refine DL.pu 70 (.bool false) rfl (p_pick_f c101 rfl rfl rfl) ?_
       obtain rfl:=Option.some.inj h106
       exact DL.weak J100 (Sub.cons rfl (Sub.nil _))
    ·
     by_cases c90 : q66 = true
     ·
      have h91:=ite_true c90 h87
      refine DL.pure (v:=.int .i64 t34_1) rfl (Wn.yes c90 rfl rfl rfl rfl) rfl rfl rfl (p_move rfl rfl) ?_
      obtain ⟨t92,h93,h94⟩:=bind_some h91
      refine DL.quiet (v:=.int .i64 t92) rfl (Wn.yes c90 rfl rfl rfl rfl) rfl rfl rfl (f_callR rfl rfl (args_val (vs:=[.int .i64 t34_1]) rfl) (fun w => enter16 _ w) (fun w hc => law13_num.val h93 (M:=M46) w (hE48.ext hc) )) ?_
      refine DL.pure (v:=.bool (t92 == 4)) rfl (Wn.yes c90 rfl rfl rfl rfl) rfl rfl rfl (p_eql rfl rfl rfl) ?_
      refine DL.pu 65 (.bool (t92 == 4)) rfl (p_pick_t c90 rfl rfl rfl) ?_
      obtain rfl:=Option.some.inj h94
      exact DL.weak J89 (Sub.cons rfl (Sub.cons rfl (Sub.nil _)))
     ·
      replace c90:=Bool.eq_false_iff.mpr c90
      have h95:=ite_false c90 h87
      refine DL.not (i:=25) rfl (Wn.no c90 rfl rfl rfl rfl) rfl rfl ?_
      refine DL.not (i:=26) rfl (Wn.no c90 rfl rfl rfl rfl) rfl rfl ?_
      refine DL.not (i:=27) rfl (Wn.no c90 rfl rfl rfl rfl) rfl rfl ?_
      refine DL.pu 65 (.bool false) rfl (p_pick_f c90 rfl rfl rfl) ?_
      obtain rfl:=Option.some.inj h95
      exact DL.weak J89 (Sub.cons rfl (Sub.cons rfl (Sub.nil _)))
   ·
    by_cases c70 : q58 = true
    ·
     have h71:=ite_true c70 h67
     refine DL.pure (v:=.int .i64 t5_1) rfl (Wn.yes c70 rfl rfl rfl rfl) rfl rfl rfl (p_move rfl rfl) ?_
     obtain ⟨t72,h73,h74⟩:=bind_some h71
     refine DL.quiet (v:=.int .i64 t72) rfl (Wn.yes c70 rfl rfl rfl rfl) rfl rfl rfl (f_callR rfl rfl (args_val (vs:=[.int .i64 t5_1]) rfl) (fun w => enter16 _ w) (fun w hc => law13_num.val h73 (M:=M46) w (hE48.ext hc) )) ?_
     refine DL.pure (v:=.int .i64 t14_1) rfl (Wn.yes c70 rfl rfl rfl rfl) rfl rfl rfl (p_move rfl rfl) ?_
     obtain ⟨t75,h76,h77⟩:=bind_some h74
     refine DL.quiet (v:=.int .i64 t75) rfl (Wn.yes c70 rfl rfl rfl rfl) rfl rfl rfl (f_callR rfl rfl (args_val (vs:=[.int .i64 t14_1]) rfl) (fun w => enter16 _ w) (fun w hc => law13_num.val h76 (M:=M46) w (hE48.ext hc) )) ?_
     refine DL.pure (v:=.int .i64 (IntKind.i64.wrap (t72 + t75))) rfl (Wn.yes c70 rfl rfl rfl rfl) rfl rfl rfl (p_add rfl rfl rfl) ?_
     refine DL.pure (v:=.int .i64 t26_1) rfl (Wn.yes c70 rfl rfl rfl rfl) rfl rfl rfl (p_move rfl rfl) ?_
     obtain ⟨t78,h79,h80⟩:=bind_some h77
     refine DL.quiet (v:=.int .i64 t78) rfl (Wn.yes c70 rfl rfl rfl rfl) rfl rfl rfl (f_callR rfl rfl (args_val (vs:=[.int .i64 t26_1]) rfl) (fun w => enter16 _ w) (fun w hc => law13_num.val h79 (M:=M46) w (hE48.ext hc) )) ?_
     obtain ⟨t81,e82,h83⟩:=nm_some h80
     refine DL.pure (v:=.int .i64 t81) rfl (Wn.yes c70 rfl rfl rfl rfl) rfl rfl rfl (by rw [e82]; exact p_add rfl rfl rfl) ?_
     refine DL.pure (v:=.bool (t81 == 0)) rfl (Wn.yes c70 rfl rfl rfl rfl) rfl rfl rfl (p_eql rfl rfl rfl) ?_
     refine DL.pu 60 (.bool (t81 == 0)) rfl (p_pick_t c70 rfl rfl rfl) ?_
     obtain rfl:=Option.some.inj h83
     exact DL.weak J69 (Sub.cons rfl (Sub.cons rfl (Sub.cons rfl (Sub.nil _))))
    ·
     replace c70:=Bool.eq_false_iff.mpr c70
     have h84:=ite_false c70 h67
     refine DL.not (i:=14) rfl (Wn.no c70 rfl rfl rfl rfl) rfl rfl ?_
     refine DL.not (i:=15) rfl (Wn.no c70 rfl rfl rfl rfl) rfl rfl ?_
     refine DL.not (i:=16) rfl (Wn.no c70 rfl rfl rfl rfl) rfl rfl ?_
     refine DL.not (i:=17) rfl (Wn.no c70 rfl rfl rfl rfl) rfl rfl ?_
     refine DL.not (i:=18) rfl (Wn.no c70 rfl rfl rfl rfl) rfl rfl ?_
     refine DL.not (i:=19) rfl (Wn.no c70 rfl rfl rfl rfl) rfl rfl ?_
     refine DL.not (i:=20) rfl (Wn.no c70 rfl rfl rfl rfl) rfl rfl ?_
     refine DL.not (i:=21) rfl (Wn.no c70 rfl rfl rfl rfl) rfl rfl ?_
     refine DL.not (i:=22) rfl (Wn.no c70 rfl rfl rfl rfl) rfl rfl ?_
     refine DL.pu 60 (.bool false) rfl (p_pick_f c70 rfl rfl rfl) ?_
     obtain rfl:=Option.some.inj h84
     exact DL.weak J69 (Sub.cons rfl (Sub.cons rfl (Sub.cons rfl (Sub.nil _))))
  ·
   by_cases c62 : q50 = true
   ·
    have h63:=ite_true c62 h59
    refine DL.pure (v:=t26_0_v) rfl (Wn.yes c62 rfl rfl rfl rfl) rfl rfl rfl (p_move rfl rfl) ?_
    refine DL.imm (v:=str (bytesL t26_0)) rfl (Wn.yes c62 rfl rfl rfl rfl) rfl rfl rfl (i_bytesStr ty_us23 ty_us5 ty_us9 (IntRow.mono (IntRow.mono hr_t26_0 (((hx33.trans hx37).trans hx42).trans hx46)) hE48.mi) rfl rfl) ?_
    refine DL.pure (v:=.bool ((bytesL t26_0) == [6,3,85,4,3])) rfl (Wn.yes c62 rfl rfl rfl rfl) rfl rfl rfl (p_strEq rfl rfl rfl) ?_
    refine DL.pu 49 (.bool ((bytesL t26_0) == [6,3,85,4,3])) rfl (p_pick_t c62 rfl rfl rfl) ?_
    obtain rfl:=Option.some.inj h63
    exact DL.weak J61 (Sub.cons rfl (Sub.cons rfl (Sub.cons rfl (Sub.cons rfl (Sub.cons rfl (Sub.cons rfl (Sub.nil _)))))))
   ·
    replace c62:=Bool.eq_false_iff.mpr c62
    have h64:=ite_false c62 h59
    refine DL.not (i:=9) rfl (Wn.no c62 rfl rfl rfl rfl) rfl rfl ?_
    refine DL.not (i:=10) rfl (Wn.no c62 rfl rfl rfl rfl) rfl rfl ?_
    refine DL.not (i:=11) rfl (Wn.no c62 rfl rfl rfl rfl) rfl rfl ?_
    refine DL.pu 49 (.bool false) rfl (p_pick_f c62 rfl rfl rfl) ?_
    obtain rfl:=Option.some.inj h64
    exact DL.weak J61 (Sub.cons rfl (Sub.cons rfl (Sub.cons rfl (Sub.cons rfl (Sub.cons rfl (Sub.cons rfl (Sub.nil _)))))))
 ·
  by_cases c54 : ((bytesL t5_0) == [2,2,0,128]) = true
  ·
   have h55:=ite_true c54 h51
   refine DL.pure (v:=t14_0_v) rfl (Wn.yes c54 rfl rfl rfl rfl) rfl rfl rfl (p_move rfl rfl) ?_
   refine DL.imm (v:=str (bytesL t14_0)) rfl (Wn.yes c54 rfl rfl rfl rfl) rfl rfl rfl (i_bytesStr ty_us23 ty_us5 ty_us9 (IntRow.mono (IntRow.mono hr_t14_0 ((((((hx21.trans hx25).trans hx29).trans hx33).trans hx37).trans hx42).trans hx46)) hE48.mi) rfl rfl) ?_
   refine DL.pure (v:=.bool ((bytesL t14_0) == [2,1,128])) rfl (Wn.yes c54 rfl rfl rfl rfl) rfl rfl rfl (p_strEq rfl rfl rfl) ?_
   refine DL.pu 44 (.bool ((bytesL t14_0) == [2,1,128])) rfl (p_pick_t c54 rfl rfl rfl) ?_
   obtain rfl:=Option.some.inj h55
   exact DL.weak J53 (Sub.cons rfl (Sub.cons rfl (Sub.cons rfl (Sub.cons rfl (Sub.cons rfl (Sub.cons rfl (Sub.cons rfl (Sub.nil _))))))))
  ·
   replace c54:=Bool.eq_false_iff.mpr c54
   have h56:=ite_false c54 h51
   refine DL.not (i:=4) rfl (Wn.no c54 rfl rfl rfl rfl) rfl rfl ?_
   refine DL.not (i:=5) rfl (Wn.no c54 rfl rfl rfl rfl) rfl rfl ?_
   refine DL.not (i:=6) rfl (Wn.no c54 rfl rfl rfl rfl) rfl rfl ?_
   refine DL.pu 44 (.bool false) rfl (p_pick_f c54 rfl rfl rfl) ?_
   obtain rfl:=Option.some.inj h56
   exact DL.weak J53 (Sub.cons rfl (Sub.cons rfl (Sub.cons rfl (Sub.cons rfl (Sub.cons rfl (Sub.cons rfl (Sub.cons rfl (Sub.nil _))))))))
theorem law13_known.val {r : Bool} (h : law13_known.f = some r) {M : Mem} (w : World) (hM : Ext M (heapOf w)) (hG : Glob M) : Calls Tryd.prog 11 #[] w fun e w' => e = .returned (.bool r) ∧ Below w.heap.size w w' :=
 calls_value (law13_known.ok h w hM hG)

end Go.Proofs.YtjhknfpociahoaaDoor
