import Derived.Test.YtfbogkhgfaibbaaDoorTmU
import Derived.Test.YtfbogkhgfaibbaaDoorTb1
import Derived.Test.YtfbogkhgfaibbaaDoorTf1
namespace Go.Proofs.YtfbogkhgfaibbaaDoor
open Go Go.HW Go.RowKit
set_option linter.unusedVariables false
set_option linter.unusedSimpArgs false

theorem enter70 (args : Array Value) (w : World) : (callFunc 70 args).run Tryd.prog w = .ok (.enter 70 args) w:=by kernel_rfl
theorem enter71 (args : Array Value) (w : World) : (callFunc 71 args).run Tryd.prog w = .ok (.enter 71 args) w:=by kernel_rfl
theorem enter49 (args : Array Value) (w : World) : (callFunc 49 args).run Tryd.prog w = .ok (.enter 49 args) w:=by kernel_rfl
theorem enter28 (args : Array Value) (w : World) : (callFunc 28 args).run Tryd.prog w = .ok (.enter 28 args) w:=by kernel_rfl
theorem enter29 (args : Array Value) (w : World) : (callFunc 29 args).run Tryd.prog w = .ok (.enter 29 args) w:=by kernel_rfl
theorem enter32 (args : Array Value) (w : World) : (callFunc 32 args).run Tryd.prog w = .ok (.enter 32 args) w:=by kernel_rfl
theorem enter33 (args : Array Value) (w : World) : (callFunc 33 args).run Tryd.prog w = .ok (.enter 33 args) w:=by kernel_rfl

@[reducible] def terms_read.Rec (r_ : (List UInt8) → Int → Option (Tm × (List UInt8) × Bool × Int)) : Prop:=∀ {a0 : List UInt8} {a2 : Int} {a1_m : Nat} {a2_b : Nat} {r_0 : Tm} {r_1 : List UInt8} {r_2 : Bool} {r_h : Int},r_ a0 a2 = some (r_0,r_1,r_2,r_h) → ∀ {M : Mem} (w : World) (hM : Ext M (heapOf w)) (hG : GlobE M) (hm_a1 : M a1_m = some FormsO) (hX : ∀ b,(some a2_b) = some b → w.heap[b]? = some (.cells (#[.int .i64 a2]) 3 (0,0))) (hXM : ∀ b,(some a2_b) = some b → M b = none),Calls Tryd.prog 49 #[str a0,.map (some a1_m),ptr a2_b 0] w ((PostX (G:=Value) (fun g => .tuple #[.agg (Tm.ce r_0 g),str r_1,.bool r_2]) (fun g M_ => (RowS ShTm M_ g (Tree.kids r_0))) (fun g => (some a2_b)) (fun g => .cells (#[.int .i64 r_h]) 3 (0,0)) (some a2_b) M w))

/-! ### escutcheon/terms.read: function 49 -/
noncomputable def B49 : Code:=bodyOf Tryd.f49
def terms_read.L0 (a0 : List UInt8) : Nat → Int → Option (Int)
 | 0,_ => none
 | k + 1,x9_2 => (if (decide (x9_2 < (a0.length : Int))) = true then (req (0 ≤ x9_2) (req (x9_2 < (a0.length : Int)) (some (decide (97 ≤ (chr a0 x9_2.toNat)))))) else (some false)).bind fun q82 => (if q82 = true then (req (0 ≤ x9_2) (req (x9_2 < (a0.length : Int)) (some (decide ((chr a0 x9_2.toNat) ≤ 122))))) else (some false)).bind fun q94 => if q94 = true then (terms_read.L0 a0 k (IntKind.i64.wrap (x9_2 + 1))) else (some x9_2)
set_option maxRecDepth 20000 in
theorem terms_read.L0_ok (a0 : List UInt8) (a1_m : Nat) (a2 : Int) (a2_b : Nat) (b1 : Nat) {R : Ending → World → Prop} {w0 : World} {M0 M I : Mem} {K : List Item} (hE : EnvX (some a2_b) w0 M0 M I) :
  ∀ (k : Nat) (x9_2 : Int) (r0_ : Int) (h : terms_read.L0 a0 k x9_2 = some r0_) (hk : TT Tryd.prog 49 R 158 w0 I K [(0,str a0),(1,.map (some a1_m)),(2,ptr a2_b 0),(6,ptr b1 0),(9,.int .i64 r0_)] [(some b1,.cells (#[.int .i64 0,.int .i64 0,(.slice none 0 0)]) 25 (0,0)),(some a2_b,.cells (#[.int .i64 (IntKind.i64.wrap (a2 - 1))]) 3 (0,0))]),
   TT Tryd.prog 49 R 158 w0 I (.code (sub [1,1,1,0,0,0] B49) :: .inLoop (sub [1,1,1,0,0,0] B49) :: .inBlock 0 :: K) [(0,str a0),(1,.map (some a1_m)),(2,ptr a2_b 0),(6,ptr b1 0),(9,.int .i64 x9_2)] [(some b1,.cells (#[.int .i64 0,.int .i64 0,(.slice none 0 0)]) 25 (0,0)),(some a2_b,.cells (#[.int .i64 (IntKind.i64.wrap (a2 - 1))]) 3 (0,0))]:=by
 intro k
 induction k with
 | zero => intro x9_2 r0_ h; simp [terms_read.L0] at h
 | succ k ih =>
  intro x9_2 r0_ h hk
  unfold terms_read.L0 at h
  refine TT.seq (x:=sub [1,1,1,0,0,0,0] B49) (y:=sub [1,1,1,0,0,0,1] B49) ?_
  refine TT.seq (x:=sub [1,1,1,0,0,0,0,0] B49) (y:=sub [1,1,1,0,0,0,0,1] B49) ?_
  refine TT.rg [0,1,2,3,4,5,6,7,8,9,10,11,12,13,14,15] [kp,kp,kp,kp,kp,kp,kp,kp,kp,kp,kp,kp,kp,kp,kp,kp] rfl rfl ?_
  refine DL.mv 29 (.int .i64 x9_2) rfl rfl rfl ?_
  refine DL.mv 30 (str a0) rfl rfl rfl ?_
  refine DL.pu 31 (.int .i64 (a0.length : Int)) rfl (p_strLen ty_u9 rfl rfl) ?_
  refine DL.pu 32 (.bool (decide (x9_2 < (a0.length : Int)))) rfl (p_lss rfl rfl rfl) ?_
  refine DL.mv 33 (.bool (decide (x9_2 < (a0.length : Int)))) rfl rfl rfl ?_
  obtain ⟨q82,h83,h84⟩:=bind_some h
  refine DL.cut [(0,str a0),(1,.map (some a1_m)),(2,ptr a2_b 0),(6,ptr b1 0),(9,.int .i64 x9_2),(38,.bool q82)] [10,11,12,13,14,15] ?_ (fun J85 => ?_)
  ·
   refine DL.mv 39 (.bool q82) rfl rfl rfl ?_
   obtain ⟨q94,h95,h96⟩:=bind_some h84
   refine DL.cut [(0,str a0),(1,.map (some a1_m)),(2,ptr a2_b 0),(6,ptr b1 0),(9,.int .i64 x9_2),(44,.bool q94)] [] ?_ (fun J97 => ?_)
   ·
    refine DL.nil ?_
    by_cases c105 : q94 = true
    ·
     have h106:=ite_true c105 h96
     refine TT.cond_true (x:=sub [1,1,1,0,0,0,0,1,0] B49) (y:=sub [1,1,1,0,0,0,0,1,1] B49) rfl c105 ?_
     refine TT.skip ?_
     refine TT.block (c:=sub [1,1,1,0,0,0,1,0] B49) ?_
     refine TT.rg [0,1,2] [kp,kp,kp] rfl rfl ?_
     refine DL.mv 45 (.int .i64 x9_2) rfl rfl rfl ?_
     refine DL.pu 46 (.int .i64 (IntKind.i64.wrap (x9_2 + 1))) rfl (p_add rfl rfl rfl) ?_
     refine DL.pu 9 (.int .i64 (IntKind.i64.wrap (x9_2 + 1))) rfl (p_assign rfl rfl) ?_
     refine DL.nil ?_
     refine TT.inBlock ?_
     refine TT.inLoop ?_
     exact TT.weak (ih (IntKind.i64.wrap (x9_2 + 1)) r0_ h106 hk) (Sub.cons rfl (Sub.cons rfl (Sub.cons rfl (Sub.cons rfl (Sub.cons rfl (Sub.nil _))))))
    ·
     replace c105:=Bool.eq_false_iff.mpr c105
     have h107:=ite_false c105 h96
     refine TT.cond_false (x:=sub [1,1,1,0,0,0,0,1,0] B49) (y:=sub [1,1,1,0,0,0,0,1,1] B49) rfl c105 ?_
     refine TT.exit rfl ?_
     obtain rfl:=Option.some.inj h107
     exact TT.weak (hk) (Sub.cons rfl (Sub.cons rfl (Sub.cons rfl (Sub.cons rfl (Sub.cons rfl (Sub.nil _))))))
   ·
    by_cases c98 : q82 = true
    ·
     have h99:=ite_true c98 h95
     refine DL.pure (v:=str a0) rfl (Wn.yes c98 rfl rfl rfl rfl) rfl rfl rfl (p_move rfl rfl) ?_
     refine DL.pure (v:=.int .i64 x9_2) rfl (Wn.yes c98 rfl rfl rfl rfl) rfl rfl rfl (p_move rfl rfl) ?_
     obtain ⟨g100,h101⟩:=req_some h99
     obtain ⟨g102,h103⟩:=req_some h101
     refine DL.pure (v:=.int .u8 (chr a0 x9_2.toNat)) rfl (Wn.yes c98 rfl rfl rfl rfl) rfl rfl rfl (p_strIndex ty_u9 g100 g102 rfl rfl rfl) ?_
     refine DL.pure (v:=.bool (decide ((chr a0 x9_2.toNat) ≤ 122))) rfl (Wn.yes c98 rfl rfl rfl rfl) rfl rfl rfl (p_leq rfl rfl rfl) ?_
     refine DL.pu 44 (.bool (decide ((chr a0 x9_2.toNat) ≤ 122))) rfl (p_pick_t c98 rfl rfl rfl) ?_
     obtain rfl:=Option.some.inj h103
     exact DL.weak J97 (Sub.cons rfl (Sub.cons rfl (Sub.cons rfl (Sub.cons rfl (Sub.cons rfl (Sub.cons rfl (Sub.nil _)))))))
    ·
     replace c98:=Bool.eq_false_iff.mpr c98
     have h104:=ite_false c98 h95
     refine DL.not (i:=11) rfl (Wn.no c98 rfl rfl rfl rfl) rfl rfl ?_
     refine DL.not (i:=12) rfl (Wn.no c98 rfl rfl rfl rfl) rfl rfl ?_
     refine DL.not (i:=13) rfl (Wn.no c98 rfl rfl rfl rfl) rfl rfl ?_
     refine DL.not (i:=14) rfl (Wn.no c98 rfl rfl rfl rfl) rfl rfl ?_
     refine DL.pu 44 (.bool false) rfl (p_pick_f c98 rfl rfl rfl) ?_
     obtain rfl:=Option.some.inj h104
     exact DL.weak J97 (Sub.cons rfl (Sub.cons rfl (Sub.cons rfl (Sub.cons rfl (Sub.cons rfl (Sub.cons rfl (Sub.nil _)))))))
  ·
   by_cases c86 : (decide (x9_2 < (a0.length : Int))) = true
   ·
    have h87:=ite_true c86 h83
    refine DL.pure (v:=str a0) rfl (Wn.yes c86 rfl rfl rfl rfl) rfl rfl rfl (p_move rfl rfl) ?_
    refine DL.pure (v:=.int .i64 x9_2) rfl (Wn.yes c86 rfl rfl rfl rfl) rfl rfl rfl (p_move rfl rfl) ?_
    obtain ⟨g88,h89⟩:=req_some h87
    obtain ⟨g90,h91⟩:=req_some h89
    refine DL.pure (v:=.int .u8 (chr a0 x9_2.toNat)) rfl (Wn.yes c86 rfl rfl rfl rfl) rfl rfl rfl (p_strIndex ty_u9 g88 g90 rfl rfl rfl) ?_
    refine DL.pure (v:=.bool (decide (97 ≤ (chr a0 x9_2.toNat)))) rfl (Wn.yes c86 rfl rfl rfl rfl) rfl rfl rfl (p_geq rfl rfl rfl) ?_
    refine DL.pu 38 (.bool (decide (97 ≤ (chr a0 x9_2.toNat)))) rfl (p_pick_t c86 rfl rfl rfl) ?_
    obtain rfl:=Option.some.inj h91
    exact DL.weak J85 (Sub.cons rfl (Sub.cons rfl (Sub.cons rfl (Sub.cons rfl (Sub.cons rfl (Sub.cons rfl (Sub.nil _)))))))
   ·
    replace c86:=Bool.eq_false_iff.mpr c86
    have h92:=ite_false c86 h83
    refine DL.not (i:=5) rfl (Wn.no c86 rfl rfl rfl rfl) rfl rfl ?_
    refine DL.not (i:=6) rfl (Wn.no c86 rfl rfl rfl rfl) rfl rfl ?_
    refine DL.not (i:=7) rfl (Wn.no c86 rfl rfl rfl rfl) rfl rfl ?_
    refine DL.not (i:=8) rfl (Wn.no c86 rfl rfl rfl rfl) rfl rfl ?_
    refine DL.pu 38 (.bool false) rfl (p_pick_f c86 rfl rfl rfl) ?_
    obtain rfl:=Option.some.inj h92
    exact DL.weak J85 (Sub.cons rfl (Sub.cons rfl (Sub.cons rfl (Sub.cons rfl (Sub.cons rfl (Sub.cons rfl (Sub.nil _)))))))

def terms_read.L1B (a0 : List UInt8) (z9_80 : Int) (e130 : Int × Int) (y_113_0 : Int) : Option (Int):=req (0 ≤ z9_80) (req (z9_80 ≤ (a0.length : Int)) ((if ((fmName e130.1) == (a0.take z9_80.toNat)) = true then (some e130.1) else (some y_113_0)).bind fun j_b111_0_138 => some j_b111_0_138))
def terms_read.L1 (a0 : List UInt8) (z9_80 : Int) : List (Int × Int) → Int → Option (Int)
 | [],y_113_0 => some y_113_0
 | e :: rem,y_113_0 => (terms_read.L1B a0 z9_80 e y_113_0).bind fun v => terms_read.L1 a0 z9_80 rem v
set_option maxRecDepth 20000 in
theorem terms_read.L1_ok (a0 : List UInt8) (a1_m : Nat) (a2 : Int) (a2_b : Nat) (b1 : Nat) (z9_80 : Int) (b111 : Nat) (b112 : Nat) {R : Ending → World → Prop} {w0 : World} {M0 M I : Mem} {K : List Item} (hE : EnvX (some a2_b) w0 M0 M I) (hm_a1 : M a1_m = some FormsO) :
  ∀ (nn : Nat) (seen : Array Nat) (y_113_0 : Int) (r0_ : Int) (hn : (remOf fmL seen).length = nn) (h : ∀ rem,rem.Perm (remOf fmL seen) → terms_read.L1 a0 z9_80 rem y_113_0 = some r0_) (hk : TT Tryd.prog 49 R 158 w0 I K [(0,str a0),(1,.map (some a1_m)),(2,ptr a2_b 0),(6,ptr b1 0),(9,.int .i64 z9_80),(10,ptr b111 0)] [(some b111,.cells (#[.int .i64 r0_,.int .i64 0,(.slice none 0 0)]) 25 (0,0)),(some b1,.cells (#[.int .i64 0,.int .i64 0,(.slice none 0 0)]) 25 (0,0)),(some a2_b,.cells (#[.int .i64 (IntKind.i64.wrap (a2 - 1))]) 3 (0,0))]),
   TT Tryd.prog 49 R 158 w0 I (.code (sub [1,1,1,1,1,0,1,0,0] B49) :: .inLoop (sub [1,1,1,1,1,0,1,0,0] B49) :: .inBlock 2 :: K) [(0,str a0),(1,.map (some a1_m)),(2,ptr a2_b 0),(6,ptr b1 0),(9,.int .i64 z9_80),(10,ptr b111 0),(49,ptr b112 0)] [(some b112,iobj a1_m 9 seen),(some b111,.cells (#[.int .i64 y_113_0,.int .i64 0,(.slice none 0 0)]) 25 (0,0)),(some b1,.cells (#[.int .i64 0,.int .i64 0,(.slice none 0 0)]) 25 (0,0)),(some a2_b,.cells (#[.int .i64 (IntKind.i64.wrap (a2 - 1))]) 3 (0,0))]:=by
 intro nn
 induction nn using Nat.strongRecOn with
 | ind nn ih =>
  intro seen y_113_0 r0_ hn h hk
  refine TT.seq (x:=sub [1,1,1,1,1,0,1,0,0,0] B49) (y:=sub [1,1,1,1,1,0,1,0,0,1] B49) ?_
  refine TT.rg [0,1] [kx,kp] rfl rfl ?_
  refine DL.actx (X:=NextX fmL seen) (u:=nextVF) (H':=nextH b112 a1_m 0 [(some b112,iobj a1_m 9 seen),(some b111,.cells (#[.int .i64 y_113_0,.int .i64 0,(.slice none 0 0)]) 25 (0,0)),(some b1,.cells (#[.int .i64 0,.int .i64 0,(.slice none 0 0)]) 25 (0,0)),(some a2_b,.cells (#[.int .i64 (IntKind.i64.wrap (a2 - 1))]) 3 (0,0))]) (i:=0) rfl (Wn.none rfl) rfl rfl rfl (f_nextF (j:=0) rfl (fun w hc => hc.imm _ _ (hE.mi _ _ hm_a1)) rfl rfl) ?_
  rintro ⟨x130,hx130⟩
  rcases x130 with _ | ⟨i130,e130⟩
  ·
   have hx130 : remOf fmL seen = []:=hx130
   have h0130:=h [] (by rw [hx130])
   unfold terms_read.L1 at h0130
   show DL _ _ _ _ _ _ _ _ _ _ _ ((50,.tuple #[.bool false]) :: _) [(some b112,iobj a1_m 9 seen),(some b111,.cells (#[.int .i64 y_113_0,.int .i64 0,(.slice none 0 0)]) 25 (0,0)),(some b1,.cells (#[.int .i64 0,.int .i64 0,(.slice none 0 0)]) 25 (0,0)),(some a2_b,.cells (#[.int .i64 (IntKind.i64.wrap (a2 - 1))]) 3 (0,0))]
   refine DL.pu 51 (.bool false) rfl (p_extract rfl rfl rfl) ?_
   refine DL.nil ?_
   refine TT.seq (x:=sub [1,1,1,1,1,0,1,0,0,1,0] B49) (y:=sub [1,1,1,1,1,0,1,0,0,1,1] B49) ?_
   refine TT.cond_false (x:=sub [1,1,1,1,1,0,1,0,0,1,0,0] B49) (y:=sub [1,1,1,1,1,0,1,0,0,1,0,1] B49) rfl rfl ?_
   refine TT.exit rfl ?_
   obtain rfl:=Option.some.inj h0130
   exact TT.pick [1,2,3] (by decide) (TT.weak (hk) (Sub.cons rfl (Sub.cons rfl (Sub.cons rfl (Sub.cons rfl (Sub.cons rfl (Sub.cons rfl (Sub.nil _))))))))
  ·
   have hx130 : (fmL)[i130]? = some e130 ∧ ¬ i130 ∈ seen:=hx130
   have hp130:=remOf_push hx130.1 hx130.2
   obtain ⟨v130_0,hB130,hL130⟩ : ∃ v,terms_read.L1B a0 z9_80 e130 y_113_0 = some v ∧ ∀ rem,rem.Perm (remOf fmL (seen.push i130)) → terms_read.L1 a0 z9_80 rem v = some r0_:=by
    have h1:=h (e130 :: remOf fmL (seen.push i130)) hp130
    unfold terms_read.L1 at h1
    obtain ⟨v,hB,_⟩:=bind_some h1
    refine ⟨v,hB,fun rem hp => ?_⟩
    have h2:=h (e130 :: rem) ((List.Perm.cons _ hp).trans hp130)
    unfold terms_read.L1 at h2
    rw [hB] at h2
    exact h2
   unfold terms_read.L1B at hB130
   show DL _ _ _ _ _ _ _ _ _ _ _ ((50,.tuple #[.bool true,.int .i64 e130.1,.agg #[str (fmName e130.1),.int .i64 e130.2]]) :: _) [(some b112,iobj a1_m 9 (seen.push i130)),(some b111,.cells (#[.int .i64 y_113_0,.int .i64 0,(.slice none 0 0)]) 25 (0,0)),(some b1,.cells (#[.int .i64 0,.int .i64 0,(.slice none 0 0)]) 25 (0,0)),(some a2_b,.cells (#[.int .i64 (IntKind.i64.wrap (a2 - 1))]) 3 (0,0))]
   refine DL.pu 51 (.bool true) rfl (p_extract rfl rfl rfl) ?_
   refine DL.nil ?_
   refine TT.seq (x:=sub [1,1,1,1,1,0,1,0,0,1,0] B49) (y:=sub [1,1,1,1,1,0,1,0,0,1,1] B49) ?_
   refine TT.cond_true (x:=sub [1,1,1,1,1,0,1,0,0,1,0,0] B49) (y:=sub [1,1,1,1,1,0,1,0,0,1,0,1] B49) rfl rfl ?_
   refine TT.skip ?_
   refine TT.block (c:=sub [1,1,1,1,1,0,1,0,0,1,1,0] B49) ?_
   refine TT.seq (x:=sub [1,1,1,1,1,0,1,0,0,1,1,0,0] B49) (y:=sub [1,1,1,1,1,0,1,0,0,1,1,0,1] B49) ?_
   refine TT.rg [0,1,2,3,4,5] [kq,kp,kp,(.alloc,none),kp,(.store,none)] rfl rfl ?_
   refine DL.qu 52 (.tuple #[.int .i64 e130.1,.agg #[str (fmName e130.1),.int .i64 e130.2]]) rfl (f_entryF (j:=0) rfl (fun w hc => hc.imm _ _ (hE.mi _ _ hm_a1)) hx130.1 rfl rfl) ?_
   refine DL.pu 53 (.int .i64 e130.1) rfl (p_extract rfl rfl rfl) ?_
   refine DL.pu 54 (.agg #[str (fmName e130.1),.int .i64 e130.2]) rfl (p_extract rfl rfl rfl) ?_
   refine DL.new (ob:=.cells (#[str ([] : List UInt8),.int .i64 0]) 87) (mk:=fun b => ptr b 0) (i:=3) rfl (Wn.none rfl) rfl rfl rfl (f_alloc ty_z87 rfl) ?_
   intro b131 hb131
   refine DL.pu 11 (.int .i64 e130.1) rfl (p_assign rfl rfl) ?_
   refine DL.put (H':=[(some b131,.cells (#[str (fmName e130.1),.int .i64 e130.2]) 87 (0,0)),(some b112,iobj a1_m 9 (seen.push i130)),(some b111,.cells (#[.int .i64 y_113_0,.int .i64 0,(.slice none 0 0)]) 25 (0,0)),(some b1,.cells (#[.int .i64 0,.int .i64 0,(.slice none 0 0)]) 25 (0,0)),(some a2_b,.cells (#[.int .i64 (IntKind.i64.wrap (a2 - 1))]) 3 (0,0))]) (i:=5) rfl (Wn.none rfl) rfl rfl (f_storeA (j:=0) ty_s87 rfl rfl rfl (by simp [OneCell,str]) rfl rfl rfl) (keep_none rfl) ?_
   refine DL.nil ?_
   refine TT.seq (x:=sub [1,1,1,1,1,0,1,0,0,1,1,0,1,0] B49) (y:=sub [1,1,1,1,1,0,1,0,0,1,1,0,1,1] B49) ?_
   refine TT.rgD [0,1,2,3,4,5] [0,1,0,0,12,31] [kp,(.look,some 0),kp,kp,kp,kp] rfl mixed (by kernel_rfl) ?_
   intro w132 hl132 hj132 hz132
   refine DL.pu 55 (ptr b131 0) rfl (p_fieldAddr ty_f87_0 rfl rfl) ?_
   refine DL.look (v:=str (fmName e130.1)) (x:=0) (b:=b131) (i:=1) rfl (Wn.none rfl) rfl rfl rfl rfl rfl (List.mem_of_getElem? (i:=0) rfl) (b_load ty_a9 rfl rfl rfl) ?_
   refine DL.mv 57 (str a0) rfl rfl rfl ?_
   refine DL.mv 58 (.int .i64 z9_80) rfl rfl rfl ?_
   obtain ⟨g133,h134⟩:=req_some hB130
   obtain ⟨g135,h136⟩:=req_some h134
   refine DL.pu 59 (str (a0.take z9_80.toNat)) rfl (p_strSubH ty_u9 g133 g135 rfl rfl rfl) ?_
   refine DL.pu 60 (.bool ((fmName e130.1) == (a0.take z9_80.toNat))) rfl (p_strEq rfl rfl rfl) ?_
   refine DL.nil' hl132 ?_
   obtain ⟨j_b111_0_138,h139,h140⟩:=bind_some h136
   have J141 : TT Tryd.prog 49 R 158 w0 I (.inBlock 3 :: .inLoop (sub [1,1,1,1,1,0,1,0,0] B49) :: .inBlock 2 :: K) [(0,str a0),(1,.map (some a1_m)),(2,ptr a2_b 0),(6,ptr b1 0),(9,.int .i64 z9_80),(10,ptr b111 0),(49,ptr b112 0)] [(some b131,.cells (#[str (fmName e130.1),.int .i64 e130.2]) 87 (0,0)),(some b112,iobj a1_m 9 (seen.push i130)),(some b111,.cells (#[.int .i64 j_b111_0_138,.int .i64 0,(.slice none 0 0)]) 25 (0,0)),(some b1,.cells (#[.int .i64 0,.int .i64 0,(.slice none 0 0)]) 25 (0,0)),(some a2_b,.cells (#[.int .i64 (IntKind.i64.wrap (a2 - 1))]) 3 (0,0))]:=by
    refine TT.inBlock ?_
    obtain rfl:=Option.some.inj h140
    refine TT.inLoop ?_
    have hl130 : (remOf fmL (seen.push i130)).length < nn:=by rw [← hn,← hp130.length_eq]; simp
    exact TT.pick [1,2,3,4] (by decide) (TT.weak (ih _ hl130 (seen.push i130) j_b111_0_138 r0_ rfl hL130 hk) (Sub.cons rfl (Sub.cons rfl (Sub.cons rfl (Sub.cons rfl (Sub.cons rfl (Sub.cons rfl (Sub.cons rfl (Sub.nil _)))))))))
   by_cases c137 : ((fmName e130.1) == (a0.take z9_80.toNat)) = true
   ·
    have h143:=ite_true c137 h139
    refine TT.cond_true (x:=sub [1,1,1,1,1,0,1,0,0,1,1,0,1,1,0] B49) (y:=sub [1,1,1,1,1,0,1,0,0,1,1,0,1,1,1] B49) rfl c137 ?_
    refine TT.rg [0,1,2] [kp,kp,(.store,none)] rfl rfl ?_
    refine DL.mv 61 (.int .i64 e130.1) rfl rfl rfl ?_
    refine DL.pu 62 (ptr b111 0) rfl (p_fieldAddr ty_f25_0 rfl rfl) ?_
    refine DL.put (H':=[(some b131,.cells (#[str (fmName e130.1),.int .i64 e130.2]) 87 (0,0)),(some b112,iobj a1_m 9 (seen.push i130)),(some b111,.cells (#[.int .i64 e130.1,.int .i64 0,(.slice none 0 0)]) 25 (0,0)),(some b1,.cells (#[.int .i64 0,.int .i64 0,(.slice none 0 0)]) 25 (0,0)),(some a2_b,.cells (#[.int .i64 (IntKind.i64.wrap (a2 - 1))]) 3 (0,0))]) (i:=2) rfl (Wn.none rfl) rfl rfl (f_store (c:=#[.int .i64 y_113_0,.int .i64 0,(.slice none 0 0)]) (v:=.int .i64 e130.1) (off:=0) (j:=2) ty_s23 rfl rfl (of_decide_eq_true rfl) trivial rfl rfl rfl) (keep_none rfl) ?_
    refine DL.nil ?_
    obtain rfl:=Option.some.inj h143
    exact TT.weak (J141 ) (Sub.cons rfl (Sub.cons rfl (Sub.cons rfl (Sub.cons rfl (Sub.cons rfl (Sub.cons rfl (Sub.cons rfl (Sub.nil _))))))))
   ·
    replace c137:=Bool.eq_false_iff.mpr c137
    have h144:=ite_false c137 h139
    refine TT.cond_false (x:=sub [1,1,1,1,1,0,1,0,0,1,1,0,1,1,0] B49) (y:=sub [1,1,1,1,1,0,1,0,0,1,1,0,1,1,1] B49) rfl c137 ?_
    refine TT.skip ?_
    obtain rfl:=Option.some.inj h144
    exact TT.weak (J141 ) (Sub.cons rfl (Sub.cons rfl (Sub.cons rfl (Sub.cons rfl (Sub.cons rfl (Sub.cons rfl (Sub.cons rfl (Sub.nil _))))))))

def terms_read.L2 (a0 : List UInt8) (z9_80 : Int) : Nat → Int → Option (Int)
 | 0,_ => none
 | k + 1,x9_165 => nm (decide (x9_165 < ((a0.drop z9_80.toNat).length : Int))) fun t253 => (if t253 = true then (req (0 ≤ x9_165) (req (x9_165 < ((a0.drop z9_80.toNat).length : Int)) (nm (decide (48 ≤ (chr (a0.drop z9_80.toNat) x9_165.toNat))) fun t267 => some t267))) else (some false)).bind fun q257 => (if q257 = true then (req (0 ≤ x9_165) (req (x9_165 < ((a0.drop z9_80.toNat).length : Int)) (nm (decide ((chr (a0.drop z9_80.toNat) x9_165.toNat) ≤ 57)) fun t282 => some t282))) else (some false)).bind fun q272 => if q272 = true then (terms_read.L2 a0 z9_80 k (IntKind.i64.wrap (x9_165 + 1))) else (some x9_165)
set_option maxRecDepth 20000 in
theorem terms_read.L2_ok (a0 : List UInt8) (a2 : Int) (a2_b : Nat) (b1 : Nat) (z9_80 : Int) (b111 : Nat) (z_b111_0_129 : Int) (b147 : Nat) {R : Ending → World → Prop} {w0 : World} {M0 M I : Mem} {K : List Item} (hE : EnvX (some a2_b) w0 M0 M I) :
  ∀ (k : Nat) (x9_165 : Int) (r0_ : Int) (h : terms_read.L2 a0 z9_80 k x9_165 = some r0_) (hk : TT Tryd.prog 49 R 158 w0 I K [(6,ptr b1 0),(9,.int .i64 r0_),(10,ptr b111 0),(15,str (a0.drop z9_80.toNat))] [(some b147,.cells (#[str (fmName z_b111_0_129),.int .i64 (fmArgs z_b111_0_129)]) 87 (0,0)),(some b111,.cells (#[.int .i64 z_b111_0_129,.int .i64 0,(.slice none 0 0)]) 25 (0,0)),(some b1,.cells (#[.int .i64 0,.int .i64 0,(.slice none 0 0)]) 25 (0,0)),(some a2_b,.cells (#[.int .i64 (IntKind.i64.wrap (a2 - 1))]) 3 (0,0))]),
   TT Tryd.prog 49 R 158 w0 I (.code (sub [1,1,1,1,1,1,1,1,1,0,1,0,1,0,0,0] B49) :: .inLoop (sub [1,1,1,1,1,1,1,1,1,0,1,0,1,0,0,0] B49) :: .inBlock 4 :: K) [(6,ptr b1 0),(9,.int .i64 x9_165),(10,ptr b111 0),(15,str (a0.drop z9_80.toNat))] [(some b147,.cells (#[str (fmName z_b111_0_129),.int .i64 (fmArgs z_b111_0_129)]) 87 (0,0)),(some b111,.cells (#[.int .i64 z_b111_0_129,.int .i64 0,(.slice none 0 0)]) 25 (0,0)),(some b1,.cells (#[.int .i64 0,.int .i64 0,(.slice none 0 0)]) 25 (0,0)),(some a2_b,.cells (#[.int .i64 (IntKind.i64.wrap (a2 - 1))]) 3 (0,0))]:=by
 intro k
 induction k with
 | zero => intro x9_165 r0_ h; simp [terms_read.L2] at h
 | succ k ih =>
  intro x9_165 r0_ h hk
  unfold terms_read.L2 at h
  refine TT.seq (x:=sub [1,1,1,1,1,1,1,1,1,0,1,0,1,0,0,0,0] B49) (y:=sub [1,1,1,1,1,1,1,1,1,0,1,0,1,0,0,0,1] B49) ?_
  refine TT.seq (x:=sub [1,1,1,1,1,1,1,1,1,0,1,0,1,0,0,0,0,0] B49) (y:=sub [1,1,1,1,1,1,1,1,1,0,1,0,1,0,0,0,0,1] B49) ?_
  refine TT.rg [0,1,2,3,4,5,6,7,8,9,10,11,12,13,14,15] [kp,kp,kp,kp,kp,kp,kp,kp,kp,kp,kp,kp,kp,kp,kp,kp] rfl rfl ?_
  refine DL.mv 85 (.int .i64 x9_165) rfl rfl rfl ?_
  refine DL.mv 86 (str (a0.drop z9_80.toNat)) rfl rfl rfl ?_
  refine DL.pu 87 (.int .i64 ((a0.drop z9_80.toNat).length : Int)) rfl (p_strLen ty_u9 rfl rfl) ?_
  obtain ⟨t253,e254,h255⟩:=nm_some h
  refine DL.pu 88 (.bool t253) rfl (by rw [e254]; exact p_lss rfl rfl rfl) ?_
  refine DL.mv 89 (.bool t253) rfl rfl rfl ?_
  obtain ⟨q257,h258,h259⟩:=bind_some h255
  refine DL.cut [(6,ptr b1 0),(9,.int .i64 x9_165),(10,ptr b111 0),(15,str (a0.drop z9_80.toNat)),(94,.bool q257)] [10,11,12,13,14,15] ?_ (fun J260 => ?_)
  ·
   refine DL.mv 95 (.bool q257) rfl rfl rfl ?_
   obtain ⟨q272,h273,h274⟩:=bind_some h259
   refine DL.cut [(6,ptr b1 0),(9,.int .i64 x9_165),(10,ptr b111 0),(15,str (a0.drop z9_80.toNat)),(100,.bool q272)] [] ?_ (fun J275 => ?_)
   ·
    refine DL.nil ?_
    by_cases c286 : q272 = true
    ·
     have h287:=ite_true c286 h274
     refine TT.cond_true (x:=sub [1,1,1,1,1,1,1,1,1,0,1,0,1,0,0,0,0,1,0] B49) (y:=sub [1,1,1,1,1,1,1,1,1,0,1,0,1,0,0,0,0,1,1] B49) rfl c286 ?_
     refine TT.skip ?_
     refine TT.block (c:=sub [1,1,1,1,1,1,1,1,1,0,1,0,1,0,0,0,1,0] B49) ?_
     refine TT.rg [0,1,2] [kp,kp,kp] rfl rfl ?_
     refine DL.mv 101 (.int .i64 x9_165) rfl rfl rfl ?_
     refine DL.pu 102 (.int .i64 (IntKind.i64.wrap (x9_165 + 1))) rfl (p_add rfl rfl rfl) ?_
     refine DL.pu 9 (.int .i64 (IntKind.i64.wrap (x9_165 + 1))) rfl (p_assign rfl rfl) ?_
     refine DL.nil ?_
     refine TT.inBlock ?_
     refine TT.inLoop ?_
     exact TT.weak (ih (IntKind.i64.wrap (x9_165 + 1)) r0_ h287 hk) (Sub.cons rfl (Sub.cons rfl (Sub.cons rfl (Sub.cons rfl (Sub.nil _)))))
    ·
     replace c286:=Bool.eq_false_iff.mpr c286
     have h288:=ite_false c286 h274
     refine TT.cond_false (x:=sub [1,1,1,1,1,1,1,1,1,0,1,0,1,0,0,0,0,1,0] B49) (y:=sub [1,1,1,1,1,1,1,1,1,0,1,0,1,0,0,0,0,1,1] B49) rfl c286 ?_
     refine TT.exit rfl ?_
     obtain rfl:=Option.some.inj h288
     exact TT.weak (hk) (Sub.cons rfl (Sub.cons rfl (Sub.cons rfl (Sub.cons rfl (Sub.nil _)))))
   ·
    by_cases c276 : q257 = true
    ·
     have h277:=ite_true c276 h273
     refine DL.pure (v:=str (a0.drop z9_80.toNat)) rfl (Wn.yes c276 rfl rfl rfl rfl) rfl rfl rfl (p_move rfl rfl) ?_
     refine DL.pure (v:=.int .i64 x9_165) rfl (Wn.yes c276 rfl rfl rfl rfl) rfl rfl rfl (p_move rfl rfl) ?_
     obtain ⟨g278,h279⟩:=req_some h277
     obtain ⟨g280,h281⟩:=req_some h279
     refine DL.pure (v:=.int .u8 (chr (a0.drop z9_80.toNat) x9_165.toNat)) rfl (Wn.yes c276 rfl rfl rfl rfl) rfl rfl rfl (p_strIndex ty_u9 g278 g280 rfl rfl rfl) ?_
     obtain ⟨t282,e283,h284⟩:=nm_some h281
     refine DL.pure (v:=.bool t282) rfl (Wn.yes c276 rfl rfl rfl rfl) rfl rfl rfl (by rw [e283]; exact p_leq rfl rfl rfl) ?_
     refine DL.pu 100 (.bool t282) rfl (p_pick_t c276 rfl rfl rfl) ?_
     obtain rfl:=Option.some.inj h284
     exact DL.weak J275 (Sub.cons rfl (Sub.cons rfl (Sub.cons rfl (Sub.cons rfl (Sub.cons rfl (Sub.nil _))))))
    ·
     replace c276:=Bool.eq_false_iff.mpr c276
     have h285:=ite_false c276 h273
     refine DL.not (i:=11) rfl (Wn.no c276 rfl rfl rfl rfl) rfl rfl ?_
     refine DL.not (i:=12) rfl (Wn.no c276 rfl rfl rfl rfl) rfl rfl ?_
     refine DL.not (i:=13) rfl (Wn.no c276 rfl rfl rfl rfl) rfl rfl ?_
     refine DL.not (i:=14) rfl (Wn.no c276 rfl rfl rfl rfl) rfl rfl ?_
     refine DL.pu 100 (.bool false) rfl (p_pick_f c276 rfl rfl rfl) ?_
     obtain rfl:=Option.some.inj h285
     exact DL.weak J275 (Sub.cons rfl (Sub.cons rfl (Sub.cons rfl (Sub.cons rfl (Sub.cons rfl (Sub.nil _))))))
  ·
   by_cases c261 : t253 = true
   ·
    have h262:=ite_true c261 h258
    refine DL.pure (v:=str (a0.drop z9_80.toNat)) rfl (Wn.yes c261 rfl rfl rfl rfl) rfl rfl rfl (p_move rfl rfl) ?_
    refine DL.pure (v:=.int .i64 x9_165) rfl (Wn.yes c261 rfl rfl rfl rfl) rfl rfl rfl (p_move rfl rfl) ?_
    obtain ⟨g263,h264⟩:=req_some h262
    obtain ⟨g265,h266⟩:=req_some h264
    refine DL.pure (v:=.int .u8 (chr (a0.drop z9_80.toNat) x9_165.toNat)) rfl (Wn.yes c261 rfl rfl rfl rfl) rfl rfl rfl (p_strIndex ty_u9 g263 g265 rfl rfl rfl) ?_
    obtain ⟨t267,e268,h269⟩:=nm_some h266
    refine DL.pure (v:=.bool t267) rfl (Wn.yes c261 rfl rfl rfl rfl) rfl rfl rfl (by rw [e268]; exact p_geq rfl rfl rfl) ?_
    refine DL.pu 94 (.bool t267) rfl (p_pick_t c261 rfl rfl rfl) ?_
    obtain rfl:=Option.some.inj h269
    exact DL.weak J260 (Sub.cons rfl (Sub.cons rfl (Sub.cons rfl (Sub.cons rfl (Sub.cons rfl (Sub.nil _))))))
   ·
    replace c261:=Bool.eq_false_iff.mpr c261
    have h270:=ite_false c261 h258
    refine DL.not (i:=5) rfl (Wn.no c261 rfl rfl rfl rfl) rfl rfl ?_
    refine DL.not (i:=6) rfl (Wn.no c261 rfl rfl rfl rfl) rfl rfl ?_
    refine DL.not (i:=7) rfl (Wn.no c261 rfl rfl rfl rfl) rfl rfl ?_
    refine DL.not (i:=8) rfl (Wn.no c261 rfl rfl rfl rfl) rfl rfl ?_
    refine DL.pu 94 (.bool false) rfl (p_pick_f c261 rfl rfl rfl) ?_
    obtain rfl:=Option.some.inj h270
    exact DL.weak J260 (Sub.cons rfl (Sub.cons rfl (Sub.cons rfl (Sub.cons rfl (Sub.cons rfl (Sub.nil _))))))

def terms_read.L3 (r_terms_read : (List UInt8) → Int → Option (Tm × (List UInt8) × Bool × Int)) (z_b111_0_129 : Int) : Nat → (List Tm) → (List UInt8) → Int → Int → Option ((List Tm × List UInt8 × Int) ⊕ (Tm × List UInt8 × Bool × Int))
 | 0,_,_,_,_ => none
 | k + 1,y_304,x15_305,x120_306,y_308 => if (decide (x120_306 < (fmArgs z_b111_0_129))) = true then ((if (x120_306 == 0) = true then (some [40]) else (some [44])).bind fun j19_407 => nm (Lib.trimPrefix x15_305 j19_407) fun t415 => nm (Lib.hasPrefix x15_305 j19_407) fun t418 => (if t418 = true then ((r_terms_read t415 y_308).bind fun (t431_0,t431_1,t431_2,t431_h) => some (t431_1,t431_2,t431_0,t431_h)) else (some (x15_305,t418,Tm.mk 0 0 ([] : List Tm),y_308))).bind fun (j15_422,j22_423,j_b414_424,j_a2_b_425) => if (!j22_423) = true then (some (.inr (Tm.mk z_b111_0_129 0 y_304,([] : List UInt8),false,j_a2_b_425))) else (req (y_304.length + [j_b414_424].length ≤ 1099511627776) (terms_read.L3 r_terms_read z_b111_0_129 k (y_304 ++ [j_b414_424]) j15_422 (IntKind.i64.wrap (x120_306 + 1)) j_a2_b_425))) else (some (.inl (y_304,x15_305,y_308)))
set_option maxRecDepth 20000 in
theorem terms_read.L3_ok {r_terms_read : (List UInt8) → Int → Option (Tm × (List UInt8) × Bool × Int)} (hr_terms_read : terms_read.Rec r_terms_read) (a1_m : Nat) (a2_b : Nat) (b1 : Nat) (b111 : Nat) (z_b111_0_129 : Int) (b147 : Nat) {r_0 : Tm} {r_1 : List UInt8} {r_2 : Bool} {r_h : Int}  {w0 : World} {M0 Mb : Mem} {K : List Item} (hG : GlobE Mb) (hm_a1 : Mb a1_m = some FormsO) :
  ∀ (k : Nat) (M I : Mem) (hE : EnvX (some a2_b) w0 M0 M I) (hx : Ext Mb M) (y_304 : List Tm) (x15_305 : List UInt8) (x120_306 : Int) (y_308 : Int) (y_304_v : Value) (y_304_c : Array Value) (q : (List Tm × List UInt8 × Int) ⊕ (Tm × List UInt8 × Bool × Int)) (ho_y_304 : OwnS ShTm M y_304_v y_304_c y_304) (h : terms_read.L3 r_terms_read z_b111_0_129 k y_304 x15_305 x120_306 y_308 = some q) (hk : match (generalizing:=false) q with | .inl (r0_,r1_,r2_) => (∀ (M' I' : Mem),EnvX (some a2_b) w0 M0 M' I' → Ext Mb M' → ∀ (z_o303_401_v : Value),∀ (z_o303_401_c : Array Value),OwnS ShTm M' z_o303_401_v z_o303_401_c r0_ → TT Tryd.prog 49 (PostX (G:=Value) (fun g => .tuple #[.agg (Tm.ce r_0 g),str r_1,.bool r_2]) (fun g M_ => (RowS ShTm M_ g (Tree.kids r_0))) (fun g => (some a2_b)) (fun g => .cells (#[.int .i64 r_h]) 3 (0,0)) (some a2_b) M0 w0) 158 w0 I' K [(6,ptr b1 0),(10,ptr b111 0),(15,str r1_)] [(Value.ownBlock z_o303_401_v,.cells z_o303_401_c 25 (0,0)),(some b147,.cells (#[str (fmName z_b111_0_129),.int .i64 (fmArgs z_b111_0_129)]) 87 (0,0)),(some b111,.cells (#[.int .i64 z_b111_0_129,.int .i64 0,z_o303_401_v]) 25 (0,0)),(some b1,.cells (#[.int .i64 0,.int .i64 0,(.slice none 0 0)]) 25 (0,0)),(some a2_b,.cells (#[.int .i64 r2_]) 3 (0,0))]) | .inr (r_0q,r_1q,r_2q,r_hq) => (r_0q,r_1q,r_2q,r_hq) = (r_0,r_1,r_2,r_h)),
   TT Tryd.prog 49 (PostX (G:=Value) (fun g => .tuple #[.agg (Tm.ce r_0 g),str r_1,.bool r_2]) (fun g M_ => (RowS ShTm M_ g (Tree.kids r_0))) (fun g => (some a2_b)) (fun g => .cells (#[.int .i64 r_h]) 3 (0,0)) (some a2_b) M0 w0) 158 w0 I (.code (sub [1,1,1,1,1,1,1,1,1,1,0,1,0,0] B49) :: .inLoop (sub [1,1,1,1,1,1,1,1,1,1,0,1,0,0] B49) :: .inBlock 6 :: K) [(1,.map (some a1_m)),(2,ptr a2_b 0),(6,ptr b1 0),(10,ptr b111 0),(15,str x15_305),(119,.int .i64 (fmArgs z_b111_0_129)),(120,.int .i64 x120_306)] [(Value.ownBlock y_304_v,.cells y_304_c 25 (0,0)),(some b147,.cells (#[str (fmName z_b111_0_129),.int .i64 (fmArgs z_b111_0_129)]) 87 (0,0)),(some b111,.cells (#[.int .i64 z_b111_0_129,.int .i64 0,y_304_v]) 25 (0,0)),(some b1,.cells (#[.int .i64 0,.int .i64 0,(.slice none 0 0)]) 25 (0,0)),(some a2_b,.cells (#[.int .i64 y_308]) 3 (0,0))]:=by
 intro k
 induction k with
 | zero => intro M I hE hx y_304 x15_305 x120_306 y_308 y_304_v y_304_c q ho_y_304 h; simp [terms_read.L3] at h
 | succ k ih =>
  intro M I hE hx y_304 x15_305 x120_306 y_308 y_304_v y_304_c q ho_y_304 h hk
  unfold terms_read.L3 at h
  refine TT.seq (x:=sub [1,1,1,1,1,1,1,1,1,1,0,1,0,0,0] B49) (y:=sub [1,1,1,1,1,1,1,1,1,1,0,1,0,0,1] B49) ?_
  refine TT.rg [0] [kp] rfl rfl ?_
  refine DL.pu 121 (.bool (decide (x120_306 < (fmArgs z_b111_0_129)))) rfl (p_lss rfl rfl rfl) ?_
  refine DL.nil ?_
  refine TT.seq (x:=sub [1,1,1,1,1,1,1,1,1,1,0,1,0,0,1,0] B49) (y:=sub [1,1,1,1,1,1,1,1,1,1,0,1,0,0,1,1] B49) ?_
  by_cases c404 : (decide (x120_306 < (fmArgs z_b111_0_129))) = true
  ·
   have h405:=ite_true c404 h
   refine TT.cond_true (x:=sub [1,1,1,1,1,1,1,1,1,1,0,1,0,0,1,0,0] B49) (y:=sub [1,1,1,1,1,1,1,1,1,1,0,1,0,0,1,0,1] B49) rfl c404 ?_
   refine TT.skip ?_
   refine TT.seq (x:=sub [1,1,1,1,1,1,1,1,1,1,0,1,0,0,1,1,0] B49) (y:=sub [1,1,1,1,1,1,1,1,1,1,0,1,0,0,1,1,1] B49) ?_
   refine TT.block (c:=sub [1,1,1,1,1,1,1,1,1,1,0,1,0,0,1,1,0,0] B49) ?_
   refine TT.seq (x:=sub [1,1,1,1,1,1,1,1,1,1,0,1,0,0,1,1,0,0,0] B49) (y:=sub [1,1,1,1,1,1,1,1,1,1,0,1,0,0,1,1,0,0,1] B49) ?_
   refine TT.rg [0,1] [kp,kp] rfl rfl ?_
   refine DL.mv 122 (.int .i64 x120_306) rfl rfl rfl ?_
   refine DL.pu 18 (.int .i64 x120_306) rfl (p_assign rfl rfl) ?_
   refine DL.nil ?_
   refine TT.seq (x:=sub [1,1,1,1,1,1,1,1,1,1,0,1,0,0,1,1,0,0,1,0] B49) (y:=sub [1,1,1,1,1,1,1,1,1,1,0,1,0,0,1,1,0,0,1,1] B49) ?_
   refine TT.rg [0] [kp] rfl rfl ?_
   refine DL.pu 19 (str [44]) rfl (p_assign rfl rfl) ?_
   refine DL.nil ?_
   refine TT.seq (x:=sub [1,1,1,1,1,1,1,1,1,1,0,1,0,0,1,1,0,0,1,1,0] B49) (y:=sub [1,1,1,1,1,1,1,1,1,1,0,1,0,0,1,1,0,0,1,1,1] B49) ?_
   refine TT.seq (x:=sub [1,1,1,1,1,1,1,1,1,1,0,1,0,0,1,1,0,0,1,1,0,0] B49) (y:=sub [1,1,1,1,1,1,1,1,1,1,0,1,0,0,1,1,0,0,1,1,0,1] B49) ?_
   refine TT.rg [0,1] [kp,kp] rfl rfl ?_
   refine DL.mv 123 (.int .i64 x120_306) rfl rfl rfl ?_
   refine DL.pu 124 (.bool (x120_306 == 0)) rfl (p_eql rfl rfl rfl) ?_
   refine DL.nil ?_
   obtain ⟨j19_407,h408,h409⟩:=bind_some h405
   have J410 : TT Tryd.prog 49 (PostX (G:=Value) (fun g => .tuple #[.agg (Tm.ce r_0 g),str r_1,.bool r_2]) (fun g M_ => (RowS ShTm M_ g (Tree.kids r_0))) (fun g => (some a2_b)) (fun g => .cells (#[.int .i64 r_h]) 3 (0,0)) (some a2_b) M0 w0) 158 w0 I (.code (sub [1,1,1,1,1,1,1,1,1,1,0,1,0,0,1,1,0,0,1,1,1] B49) :: .inBlock 7 :: .code (sub [1,1,1,1,1,1,1,1,1,1,0,1,0,0,1,1,1] B49) :: .inLoop (sub [1,1,1,1,1,1,1,1,1,1,0,1,0,0] B49) :: .inBlock 6 :: K) [(1,.map (some a1_m)),(2,ptr a2_b 0),(6,ptr b1 0),(10,ptr b111 0),(15,str x15_305),(19,str j19_407),(119,.int .i64 (fmArgs z_b111_0_129)),(120,.int .i64 x120_306)] [(Value.ownBlock y_304_v,.cells y_304_c 25 (0,0)),(some b147,.cells (#[str (fmName z_b111_0_129),.int .i64 (fmArgs z_b111_0_129)]) 87 (0,0)),(some b111,.cells (#[.int .i64 z_b111_0_129,.int .i64 0,y_304_v]) 25 (0,0)),(some b1,.cells (#[.int .i64 0,.int .i64 0,(.slice none 0 0)]) 25 (0,0)),(some a2_b,.cells (#[.int .i64 y_308]) 3 (0,0))]:=by
    refine TT.seq (x:=sub [1,1,1,1,1,1,1,1,1,1,0,1,0,0,1,1,0,0,1,1,1,0] B49) (y:=sub [1,1,1,1,1,1,1,1,1,1,0,1,0,0,1,1,0,0,1,1,1,1] B49) ?_
    refine TT.rg [0] [(.alloc,none)] rfl rfl ?_
    refine DL.new (ob:=.cells (#[.int .i64 0,.int .i64 0,(.slice none 0 0)]) 25) (mk:=fun b => ptr b 0) (i:=0) rfl (Wn.none rfl) rfl rfl rfl (f_alloc ty_z25 rfl) ?_
    intro b414 hb414
    refine DL.nil ?_
    refine TT.seq (x:=sub [1,1,1,1,1,1,1,1,1,1,0,1,0,0,1,1,0,0,1,1,1,1,0] B49) (y:=sub [1,1,1,1,1,1,1,1,1,1,0,1,0,0,1,1,0,0,1,1,1,1,1] B49) ?_
    refine TT.rg [0,1,2,3,4,5,6,7] [kp,kp,kq,kp,kp,kp,kp,kp] rfl rfl ?_
    refine DL.mv 126 (str x15_305) rfl rfl rfl ?_
    refine DL.mv 127 (str j19_407) rfl rfl rfl ?_
    obtain ⟨t415,e416,h417⟩:=nm_some h409
    obtain ⟨t418,e419,h420⟩:=nm_some h417
    refine DL.qu 128 (.tuple #[str t415,.bool t418]) rfl (by rw [e416,e419]; exact f_callR rfl rfl (args_val (vs:=[str x15_305,str j19_407]) rfl) (fun w => enter71 _ w) (fun w hc => cut_ok _ _ w)) ?_
    refine DL.mv 125 (.tuple #[str t415,.bool t418]) rfl rfl rfl ?_
    refine DL.pu 129 (str t415) rfl (p_extract rfl rfl rfl) ?_
    refine DL.pu 130 (.bool t418) rfl (p_extract rfl rfl rfl) ?_
    refine DL.pu 21 (str t415) rfl (p_assign rfl rfl) ?_
    refine DL.pu 22 (.bool t418) rfl (p_assign rfl rfl) ?_
    refine DL.nil ?_
    refine TT.seq (x:=sub [1,1,1,1,1,1,1,1,1,1,0,1,0,0,1,1,0,0,1,1,1,1,1,0] B49) (y:=sub [1,1,1,1,1,1,1,1,1,1,0,1,0,0,1,1,0,0,1,1,1,1,1,1] B49) ?_
    refine TT.seq (x:=sub [1,1,1,1,1,1,1,1,1,1,0,1,0,0,1,1,0,0,1,1,1,1,1,0,0] B49) (y:=sub [1,1,1,1,1,1,1,1,1,1,0,1,0,0,1,1,0,0,1,1,1,1,1,0,1] B49) ?_
    refine TT.rg [0] [kp] rfl rfl ?_
    refine DL.mv 131 (.bool t418) rfl rfl rfl ?_
    refine DL.nil ?_
    obtain ⟨⟨j15_422,j22_423,j_b414_424,j_a2_b_425⟩,h426,h427⟩:=bind_some h420
    have J428 : ∀ (M429 I429 : Mem),EnvX (some a2_b) w0 M0 M429 I429 → Ext M M429 → ∀ (j_b414_424_2 : Value),RowS ShTm M429 j_b414_424_2 (Tree.kids j_b414_424) → TT Tryd.prog 49 (PostX (G:=Value) (fun g => .tuple #[.agg (Tm.ce r_0 g),str r_1,.bool r_2]) (fun g M_ => (RowS ShTm M_ g (Tree.kids r_0))) (fun g => (some a2_b)) (fun g => .cells (#[.int .i64 r_h]) 3 (0,0)) (some a2_b) M0 w0) 158 w0 I429 (.code (sub [1,1,1,1,1,1,1,1,1,1,0,1,0,0,1,1,0,0,1,1,1,1,1,1] B49) :: .inBlock 7 :: .code (sub [1,1,1,1,1,1,1,1,1,1,0,1,0,0,1,1,1] B49) :: .inLoop (sub [1,1,1,1,1,1,1,1,1,1,0,1,0,0] B49) :: .inBlock 6 :: K) [(1,.map (some a1_m)),(2,ptr a2_b 0),(6,ptr b1 0),(10,ptr b111 0),(15,str j15_422),(20,ptr b414 0),(22,.bool j22_423),(119,.int .i64 (fmArgs z_b111_0_129)),(120,.int .i64 x120_306)] [(some b414,.cells ((Tm.ce j_b414_424 j_b414_424_2)) 25 (0,0)),(Value.ownBlock y_304_v,.cells y_304_c 25 (0,0)),(some b147,.cells (#[str (fmName z_b111_0_129),.int .i64 (fmArgs z_b111_0_129)]) 87 (0,0)),(some b111,.cells (#[.int .i64 z_b111_0_129,.int .i64 0,y_304_v]) 25 (0,0)),(some b1,.cells (#[.int .i64 0,.int .i64 0,(.slice none 0 0)]) 25 (0,0)),(some a2_b,.cells (#[.int .i64 j_a2_b_425]) 3 (0,0))]:=by
     intro M429 I429 hE429 hx429 j_b414_424_2 hr_j_b414_424_2
     refine TT.seq (x:=sub [1,1,1,1,1,1,1,1,1,1,0,1,0,0,1,1,0,0,1,1,1,1,1,1,0] B49) (y:=sub [1,1,1,1,1,1,1,1,1,1,0,1,0,0,1,1,0,0,1,1,1,1,1,1,1] B49) ?_
     refine TT.seq (x:=sub [1,1,1,1,1,1,1,1,1,1,0,1,0,0,1,1,0,0,1,1,1,1,1,1,0,0] B49) (y:=sub [1,1,1,1,1,1,1,1,1,1,0,1,0,0,1,1,0,0,1,1,1,1,1,1,0,1] B49) ?_
     refine TT.rg [0,1] [kp,kp] rfl rfl ?_
     refine DL.mv 140 (.bool j22_423) rfl rfl rfl ?_
     refine DL.pu 141 (.bool (!j22_423)) rfl (p_not rfl rfl) ?_
     refine DL.nil ?_
     by_cases c437 : (!j22_423) = true
     ·
      have h438:=ite_true c437 h427
      refine TT.cond_true (x:=sub [1,1,1,1,1,1,1,1,1,1,0,1,0,0,1,1,0,0,1,1,1,1,1,1,0,1,0] B49) (y:=sub [1,1,1,1,1,1,1,1,1,1,0,1,0,0,1,1,0,0,1,1,1,1,1,1,0,1,1] B49) rfl c437 ?_
      refine TT.seq (x:=sub [1,1,1,1,1,1,1,1,1,1,0,1,0,0,1,1,0,0,1,1,1,1,1,1,0,1,0,0] B49) (y:=sub [1,1,1,1,1,1,1,1,1,1,0,1,0,0,1,1,0,0,1,1,1,1,1,1,0,1,0,1] B49) ?_
      refine TT.rg [0,1,2,3] [kq,(.store,none),kp,kp] rfl rfl ?_
      refine DL.qu 142 (.agg #[.int .i64 z_b111_0_129,.int .i64 0,y_304_v]) rfl (f_loadA (j:=3) ty_a25 ty_s25 rfl rfl rfl rfl) ?_
      refine DL.put (H':=[(some b414,.cells ((Tm.ce j_b414_424 j_b414_424_2)) 25 (0,0)),(Value.ownBlock y_304_v,.cells y_304_c 25 (0,0)),(some b147,.cells (#[str (fmName z_b111_0_129),.int .i64 (fmArgs z_b111_0_129)]) 87 (0,0)),(some b111,.cells (#[.int .i64 z_b111_0_129,.int .i64 0,y_304_v]) 25 (0,0)),(some b1,.cells (#[.int .i64 z_b111_0_129,.int .i64 0,y_304_v]) 25 (0,0)),(some a2_b,.cells (#[.int .i64 j_a2_b_425]) 3 (0,0))]) (i:=1) rfl (Wn.none rfl) rfl rfl (f_storeA (j:=4) ty_s25 rfl rfl rfl (one_cons trivial (one_cons trivial (one_cons (sl_one (OwnS.sl (OwnS.mono ho_y_304 hx429))) one_nil))) rfl rfl rfl) (keep_none rfl) ?_
      refine DL.pu 7 (str ([] : List UInt8)) rfl (p_assign rfl rfl) ?_
      refine DL.pu 8 (.bool false) rfl (p_assign rfl rfl) ?_
      refine DL.nil ?_
      refine TT.freezeAtX (fun b e => by cases e; exact ⟨5,_,by decide,rfl⟩) (j:=1) hE429 rfl ?_
      intro M439 I439 hE439 hx439 hxI439 hb439
      have hr_439 : RowS ShTm M439 y_304_v y_304:=OwnS.stays (OwnS.mono ho_y_304 hx429) hx439 hb439
      show TT _ _ _ _ _ _ _ _ [(some b414,.cells ((Tm.ce j_b414_424 j_b414_424_2)) 25 (0,0)),(some b147,.cells (#[str (fmName z_b111_0_129),.int .i64 (fmArgs z_b111_0_129)]) 87 (0,0)),(some b111,.cells (#[.int .i64 z_b111_0_129,.int .i64 0,y_304_v]) 25 (0,0)),(some b1,.cells (#[.int .i64 z_b111_0_129,.int .i64 0,y_304_v]) 25 (0,0)),(some a2_b,.cells (#[.int .i64 j_a2_b_425]) 3 (0,0))]
      obtain rfl:=Option.some.inj h438
      have k440 : (Tm.mk z_b111_0_129 0 y_304,([] : List UInt8),false,j_a2_b_425) = (r_0,r_1,r_2,r_h):=hk
      simp only [Prod.mk.injEq] at k440
      obtain ⟨rfl,rfl,rfl,rfl⟩:=k440
      exact retX (rs:=[.cell 6 25,.tmp 7,.tmp 8]) (vs:=[.agg #[.int .i64 z_b111_0_129,.int .i64 0,y_304_v],str ([] : List UInt8),.bool false]) (j:=4) y_304_v hE439 Tryd.func49 rfl rfl rfl (res_cons (ResV.cell (j:=3) ty_a25 ty_s25 rfl rfl rfl) (res_cons (ResV.tmp rfl) (res_cons (ResV.tmp rfl) res_nil))) rfl hr_439
     ·
      replace c437:=Bool.eq_false_iff.mpr c437
      have h441:=ite_false c437 h427
      refine TT.cond_false (x:=sub [1,1,1,1,1,1,1,1,1,1,0,1,0,0,1,1,0,0,1,1,1,1,1,1,0,1,0] B49) (y:=sub [1,1,1,1,1,1,1,1,1,1,0,1,0,0,1,1,0,0,1,1,1,1,1,1,0,1,1] B49) rfl c437 ?_
      refine TT.skip ?_
      refine TT.rg [0,1,2,3,4,5,6] [kp,kq,kq,(.alloc,none),kx,kp,(.store,none)] rfl rfl ?_
      refine DL.pu 143 (ptr b111 2) rfl (p_fieldAddr ty_f25_2 rfl rfl) ?_
      refine DL.qu 144 (y_304_v) rfl (f_load (j:=3) ty_a22 rfl rfl rfl rfl) ?_
      refine DL.qu 145 (.agg (Tm.ce j_b414_424 j_b414_424_2)) rfl (f_loadA (j:=0) ty_a25 ty_s25 rfl rfl rfl rfl) ?_
      refine DL.newS (M:=M429) (s:=ShTm) (zs:=[j_b414_424]) (cells:=[.int .i64 (Tm.kind j_b414_424),.int .i64 (Tm.num j_b414_424),j_b414_424_2]) (n:=1) rfl (by decide) rfl (fun i x hx => by match i,hx with | 0,hx => cases hx; exact (Tm.cl (t:=j_b414_424) hr_j_b414_424_2) | k + 1,hx => simp at hx) (i:=3) rfl (Wn.none rfl) rfl rfl rfl (f_buildS (n:=1) (vs:=[(0,.agg (Tm.ce j_b414_424 j_b414_424_2))]) elem22 rfl rfl (by kernel_rfl) rfl (args_val2 rfl)) ?_
      intro s443_v s443_c ho_s443
      obtain ⟨g444,h445⟩:=req_some h441
      refine DL.appendS (M:=M429) (s:=ShTm) (fun s446_v s446_c => [(Value.ownBlock s443_v,.cells s443_c 25 (0,0)),(some b414,.cells ((Tm.ce j_b414_424 j_b414_424_2)) 25 (0,0)),(Value.ownBlock s446_v,.cells s446_c 25 (0,0)),(some b147,.cells (#[str (fmName z_b111_0_129),.int .i64 (fmArgs z_b111_0_129)]) 87 (0,0)),(some b111,.cells (#[.int .i64 z_b111_0_129,.int .i64 0,y_304_v]) 25 (0,0)),(some b1,.cells (#[.int .i64 0,.int .i64 0,(.slice none 0 0)]) 25 (0,0)),(some a2_b,.cells (#[.int .i64 j_a2_b_425]) 3 (0,0))]) elem22 (j:=2) rfl (OwnS.mono ho_y_304 hx429) g444 (by decide) (OwnS.src (i:=0) ho_s443 rfl) (i:=4) rfl (Wn.none rfl) rfl rfl rfl rfl rfl rfl (fun _ _ => rfl) ?_
      intro s446_v s446_c ho_s446
      show DL _ _ _ _ _ _ _ _ _ _ _ _ [(Value.ownBlock s443_v,.cells s443_c 25 (0,0)),(some b414,.cells ((Tm.ce j_b414_424 j_b414_424_2)) 25 (0,0)),(Value.ownBlock s446_v,.cells s446_c 25 (0,0)),(some b147,.cells (#[str (fmName z_b111_0_129),.int .i64 (fmArgs z_b111_0_129)]) 87 (0,0)),(some b111,.cells (#[.int .i64 z_b111_0_129,.int .i64 0,y_304_v]) 25 (0,0)),(some b1,.cells (#[.int .i64 0,.int .i64 0,(.slice none 0 0)]) 25 (0,0)),(some a2_b,.cells (#[.int .i64 j_a2_b_425]) 3 (0,0))]
      refine DL.pu 148 (ptr b111 2) rfl (p_fieldAddr ty_f25_2 rfl rfl) ?_
      refine DL.put (H':=[(Value.ownBlock s443_v,.cells s443_c 25 (0,0)),(some b414,.cells ((Tm.ce j_b414_424 j_b414_424_2)) 25 (0,0)),(Value.ownBlock s446_v,.cells s446_c 25 (0,0)),(some b147,.cells (#[str (fmName z_b111_0_129),.int .i64 (fmArgs z_b111_0_129)]) 87 (0,0)),(some b111,.cells (#[.int .i64 z_b111_0_129,.int .i64 0,s446_v]) 25 (0,0)),(some b1,.cells (#[.int .i64 0,.int .i64 0,(.slice none 0 0)]) 25 (0,0)),(some a2_b,.cells (#[.int .i64 j_a2_b_425]) 3 (0,0))]) (i:=6) rfl (Wn.none rfl) rfl rfl (f_store (c:=#[.int .i64 z_b111_0_129,.int .i64 0,y_304_v]) (v:=s446_v) (off:=2) (j:=4) ty_s22 rfl (sl_cells (OwnS.sl ho_s446)) (of_decide_eq_true rfl) (sl_one (OwnS.sl ho_s446)) rfl rfl rfl) (keep_none rfl) ?_
      refine DL.nil ?_
      refine TT.inBlock ?_
      refine TT.rg [0,1] [kp,kp] rfl rfl ?_
      refine DL.pu 149 (.int .i64 (IntKind.i64.wrap (x120_306 + 1))) rfl (p_add rfl rfl rfl) ?_
      refine DL.mv 120 (.int .i64 (IntKind.i64.wrap (x120_306 + 1))) rfl rfl rfl ?_
      refine DL.nil ?_
      refine TT.inLoop ?_
      exact TT.pick [2,3,4,5,6] (by decide) (TT.weak (ih M429 I429 hE429 (hx.trans hx429) (y_304 ++ [j_b414_424]) j15_422 (IntKind.i64.wrap (x120_306 + 1)) j_a2_b_425 s446_v s446_c _ ho_s446 h445 hk) (Sub.cons rfl (Sub.cons rfl (Sub.cons rfl (Sub.cons rfl (Sub.cons rfl (Sub.cons rfl (Sub.cons rfl (Sub.nil _)))))))))
    by_cases c421 : t418 = true
    ·
     have h430:=ite_true c421 h426
     refine TT.cond_true (x:=sub [1,1,1,1,1,1,1,1,1,1,0,1,0,0,1,1,0,0,1,1,1,1,1,0,1,0] B49) (y:=sub [1,1,1,1,1,1,1,1,1,1,0,1,0,0,1,1,0,0,1,1,1,1,1,0,1,1] B49) rfl c421 ?_
     refine TT.rg [0,1,2,3,4,5,6,7,8,9,10] [kp,kp,kp,kx,kp,kp,kp,kp,(.store,none),kp,kp] rfl rfl ?_
     refine DL.mv 133 (str t415) rfl rfl rfl ?_
     refine DL.mv 134 (.map (some a1_m)) rfl rfl rfl ?_
     refine DL.mv 135 (ptr a2_b 0) rfl rfl rfl ?_
     obtain ⟨⟨t431_0,t431_1,t431_2,t431_h⟩,h432,h433⟩:=bind_some h430
     refine DL.callX (G:=Value) (u:=fun g => .tuple #[.agg (Tm.ce t431_0 g),str t431_1,.bool t431_2]) (Q:=fun g M_ => (RowS ShTm M_ g (Tree.kids t431_0))) (r':=fun g => (some a2_b)) (o':=fun g => .cells (#[.int .i64 t431_h]) 3 (0,0)) (A:=[(some b414,.cells (#[.int .i64 0,.int .i64 0,(.slice none 0 0)]) 25 (0,0)),(Value.ownBlock y_304_v,.cells y_304_c 25 (0,0)),(some b147,.cells (#[str (fmName z_b111_0_129),.int .i64 (fmArgs z_b111_0_129)]) 87 (0,0)),(some b111,.cells (#[.int .i64 z_b111_0_129,.int .i64 0,y_304_v]) 25 (0,0)),(some b1,.cells (#[.int .i64 0,.int .i64 0,(.slice none 0 0)]) 25 (0,0)),(some a2_b,.cells (#[.int .i64 y_308]) 3 (0,0))]) (J:=[]) (j:=5) (fun r_434 o_434 J434 => ((some b414,.cells (#[.int .i64 0,.int .i64 0,(.slice none 0 0)]) 25 (0,0)) :: (Value.ownBlock y_304_v,.cells y_304_c 25 (0,0)) :: (some b147,.cells (#[str (fmName z_b111_0_129),.int .i64 (fmArgs z_b111_0_129)]) 87 (0,0)) :: (some b111,.cells (#[.int .i64 z_b111_0_129,.int .i64 0,y_304_v]) 25 (0,0)) :: (some b1,.cells (#[.int .i64 0,.int .i64 0,(.slice none 0 0)]) 25 (0,0)) :: (r_434,o_434) :: J434)) (Nat.le_refl _) hE.nil (List.append_nil _).symm rfl (fun _ _ _ => rfl) (by simp) (i:=3) rfl (Wn.none rfl) rfl rfl rfl rfl rfl rfl (args_val (vs:=[str t415,.map (some a1_m),ptr a2_b 0]) rfl) (fun w => enter49 _ w) (fun w hc hI hx_ hm_ => hr_terms_read h432 (M:=M) w hI (GlobE.mono hG hx) (hx _ _ hm_a1) hx_ hm_) ?_
     rintro t431_0_2 M434 J434 hE434 hx434 hr_t431_0_2
     show DL _ _ _ _ _ _ _ _ _ _ _ _ ((some b414,.cells (#[.int .i64 0,.int .i64 0,(.slice none 0 0)]) 25 (0,0)) :: (Value.ownBlock y_304_v,.cells y_304_c 25 (0,0)) :: (some b147,.cells (#[str (fmName z_b111_0_129),.int .i64 (fmArgs z_b111_0_129)]) 87 (0,0)) :: (some b111,.cells (#[.int .i64 z_b111_0_129,.int .i64 0,y_304_v]) 25 (0,0)) :: (some b1,.cells (#[.int .i64 0,.int .i64 0,(.slice none 0 0)]) 25 (0,0)) :: (some a2_b,.cells (#[.int .i64 t431_h]) 3 (0,0)) :: J434)
     refine DL.mv 132 (.tuple #[.agg (Tm.ce t431_0 t431_0_2),str t431_1,.bool t431_2]) rfl rfl rfl ?_
     refine DL.pu 137 (.agg (Tm.ce t431_0 t431_0_2)) rfl (p_extract rfl rfl rfl) ?_
     refine DL.pu 138 (str t431_1) rfl (p_extract rfl rfl rfl) ?_
     refine DL.pu 139 (.bool t431_2) rfl (p_extract rfl rfl rfl) ?_
     refine DL.put (H':=((some b414,.cells ((Tm.ce t431_0 t431_0_2)) 25 (0,0)) :: (Value.ownBlock y_304_v,.cells y_304_c 25 (0,0)) :: (some b147,.cells (#[str (fmName z_b111_0_129),.int .i64 (fmArgs z_b111_0_129)]) 87 (0,0)) :: (some b111,.cells (#[.int .i64 z_b111_0_129,.int .i64 0,y_304_v]) 25 (0,0)) :: (some b1,.cells (#[.int .i64 0,.int .i64 0,(.slice none 0 0)]) 25 (0,0)) :: (some a2_b,.cells (#[.int .i64 t431_h]) 3 (0,0)) :: J434)) (i:=8) rfl (Wn.none rfl) rfl rfl (f_storeA (j:=0) ty_s25 rfl rfl rfl (one_cons trivial (one_cons trivial (one_cons (sl_one (RowS.sl hr_t431_0_2)) one_nil))) rfl rfl rfl) (keep_none rfl) ?_
     refine DL.pu 15 (str t431_1) rfl (p_assign rfl rfl) ?_
     refine DL.pu 22 (.bool t431_2) rfl (p_assign rfl rfl) ?_
     refine DL.nil ?_
     refine TT.settle (A:=[(some b414,.cells ((Tm.ce t431_0 t431_0_2)) 25 (0,0)),(Value.ownBlock y_304_v,.cells y_304_c 25 (0,0)),(some b147,.cells (#[str (fmName z_b111_0_129),.int .i64 (fmArgs z_b111_0_129)]) 87 (0,0)),(some b111,.cells (#[.int .i64 z_b111_0_129,.int .i64 0,y_304_v]) 25 (0,0)),(some b1,.cells (#[.int .i64 0,.int .i64 0,(.slice none 0 0)]) 25 (0,0)),(some a2_b,.cells (#[.int .i64 t431_h]) 3 (0,0))]) (J:=J434) hE434 ?_
     intro I435 hE435 hxI435
     simp only [Option.some.injEq,Prod.mk.injEq] at h433
     obtain ⟨rfl,rfl,rfl,rfl⟩:=h433
     exact TT.weak (J428 M434 I435 hE435 hx434 t431_0_2 hr_t431_0_2) (Sub.cons rfl (Sub.cons rfl (Sub.cons rfl (Sub.cons rfl (Sub.cons rfl (Sub.cons rfl (Sub.cons rfl (Sub.cons rfl (Sub.cons rfl (Sub.nil _))))))))))
    ·
     replace c421:=Bool.eq_false_iff.mpr c421
     have h436:=ite_false c421 h426
     refine TT.cond_false (x:=sub [1,1,1,1,1,1,1,1,1,1,0,1,0,0,1,1,0,0,1,1,1,1,1,0,1,0] B49) (y:=sub [1,1,1,1,1,1,1,1,1,1,0,1,0,0,1,1,0,0,1,1,1,1,1,0,1,1] B49) rfl c421 ?_
     refine TT.skip ?_
     simp only [Option.some.injEq,Prod.mk.injEq] at h436
     obtain ⟨rfl,rfl,rfl,rfl⟩:=h436
     exact TT.weak (J428 M I hE (Ext.refl _) (.slice none 0 0) (RowS.nil ShTm M)) (Sub.cons rfl (Sub.cons rfl (Sub.cons rfl (Sub.cons rfl (Sub.cons rfl (Sub.cons rfl (Sub.cons rfl (Sub.cons rfl (Sub.cons rfl (Sub.nil _))))))))))
   by_cases c406 : (x120_306 == 0) = true
   ·
    have h412:=ite_true c406 h408
    refine TT.cond_true (x:=sub [1,1,1,1,1,1,1,1,1,1,0,1,0,0,1,1,0,0,1,1,0,1,0] B49) (y:=sub [1,1,1,1,1,1,1,1,1,1,0,1,0,0,1,1,0,0,1,1,0,1,1] B49) rfl c406 ?_
    refine TT.rg [0] [kp] rfl rfl ?_
    refine DL.pu 19 (str [40]) rfl (p_assign rfl rfl) ?_
    refine DL.nil ?_
    obtain rfl:=Option.some.inj h412
    exact TT.weak (J410 ) (Sub.cons rfl (Sub.cons rfl (Sub.cons rfl (Sub.cons rfl (Sub.cons rfl (Sub.cons rfl (Sub.cons rfl (Sub.cons rfl (Sub.nil _)))))))))
   ·
    replace c406:=Bool.eq_false_iff.mpr c406
    have h413:=ite_false c406 h408
    refine TT.cond_false (x:=sub [1,1,1,1,1,1,1,1,1,1,0,1,0,0,1,1,0,0,1,1,0,1,0] B49) (y:=sub [1,1,1,1,1,1,1,1,1,1,0,1,0,0,1,1,0,0,1,1,0,1,1] B49) rfl c406 ?_
    refine TT.skip ?_
    obtain rfl:=Option.some.inj h413
    exact TT.weak (J410 ) (Sub.cons rfl (Sub.cons rfl (Sub.cons rfl (Sub.cons rfl (Sub.cons rfl (Sub.cons rfl (Sub.cons rfl (Sub.cons rfl (Sub.nil _)))))))))
  ·
   replace c404:=Bool.eq_false_iff.mpr c404
   have h447:=ite_false c404 h
   refine TT.cond_false (x:=sub [1,1,1,1,1,1,1,1,1,1,0,1,0,0,1,0,0] B49) (y:=sub [1,1,1,1,1,1,1,1,1,1,0,1,0,0,1,0,1] B49) rfl c404 ?_
   refine TT.exit rfl ?_
   obtain rfl:=Option.some.inj h447
   exact TT.weak (hk M I hE hx y_304_v y_304_c ho_y_304) (Sub.cons rfl (Sub.cons rfl (Sub.cons rfl (Sub.nil _))))

theorem terms_read.L1_any (a0 : List UInt8) (z9_80 : Int) (y_113_0 : Int) {z : Int} (h : terms_read.L1 a0 z9_80 fmL y_113_0 = some z) : ∀ rem,rem.Perm (remOf fmL #[]) → terms_read.L1 a0 z9_80 rem y_113_0 = some z:=by
 intro rem hp
 rw [remOf_nil] at hp
 rw [← h]
 have hn : (fmL.map fun e => fmName e.1).Nodup:=of_decide_eq_true (by kernel_rfl)
 clear h
 generalize fmL = l at hp hn
 induction hp generalizing y_113_0 with
 | nil => rfl
 | cons x hp ih =>
  simp only [terms_read.L1]
  congr 1; funext v
  exact ih v (List.nodup_cons.1 hn).2
 | swap x y l =>
  simp only [terms_read.L1,terms_read.L1B]
  by_cases h0 : 0 ≤ z9_80
  ·
   by_cases h1 : z9_80 ≤ (a0.length : Int)
   ·
    by_cases e1 : fmName x.1 = a0.take z9_80.toNat
    ·
     by_cases e2 : fmName y.1 = a0.take z9_80.toNat
     ·
      rw [List.map_cons,List.map_cons,List.nodup_cons] at hn
      exact absurd (e1.trans e2.symm) fun e => hn.1 (by rw [e]; exact List.mem_cons_self)
     ·
      simp [req,h0,h1,e1,e2]
    ·
     by_cases e2 : fmName y.1 = a0.take z9_80.toNat
     ·
      simp [req,h0,h1,e1,e2]
     ·
      simp [req,h0,h1,e1,e2]
   ·
    simp [req,h0,h1]
  ·
   simp [req,h0]
 | trans h1 h2 ih1 ih2 => exact (ih1 _ ((h2.map _).nodup_iff.2 hn)).trans (ih2 _ hn)

def terms_read.F (r_terms_read : (List UInt8) → Int → Option (Tm × (List UInt8) × Bool × Int)) (a0 : List UInt8) (a2 : Int) : Option (Tm × (List UInt8) × Bool × Int):=(terms_read.L0 a0 (a0.length + 1) 0).bind fun z9_80 => (terms_read.L1 a0 z9_80 fmL 0).bind fun z_b111_0_129 => (if (!(fmIs z_b111_0_129)) = true then (some true) else (some (decide ((IntKind.i64.wrap (a2 - 1)) < 0)))).bind fun q149 => if q149 = true then (some (Tm.mk z_b111_0_129 0 ([] : List Tm),([] : List UInt8),false,IntKind.i64.wrap (a2 - 1))) else (req (0 ≤ z9_80) (req (z9_80 ≤ (a0.length : Int)) (if ((fmArgs z_b111_0_129) == 0) = true then ((terms_read.L2 a0 z9_80 (((a0.drop z9_80.toNat).length : Int).toNat + 1) 0).bind fun z9_252 => req (0 ≤ z9_252) (req (z9_252 ≤ ((a0.drop z9_80.toNat).length : Int)) ((tm_atoi.f ((a0.drop z9_80.toNat).take z9_252.toNat)).bind fun (t296_0,t296_1) => some (Tm.mk z_b111_0_129 t296_0 ([] : List Tm),(a0.drop z9_80.toNat).drop z9_252.toNat,t296_1,IntKind.i64.wrap (a2 - 1))))) else (onw (terms_read.L3 r_terms_read z_b111_0_129 ((fmArgs z_b111_0_129).toNat + 1) ([] : List Tm) (a0.drop z9_80.toNat) 0 (IntKind.i64.wrap (a2 - 1))) (fun (z_o303_401,z15_402,z_a2_b_403) => nm (Lib.trimPrefix z15_402 [41]) fun t455 => nm (Lib.hasPrefix z15_402 [41]) fun t458 => some (Tm.mk z_b111_0_129 0 z_o303_401,t455,t458,z_a2_b_403)) (fun r => some r)))))
set_option maxHeartbeats 1000000 in
set_option maxRecDepth 20000 in
theorem terms_read.okF {r_terms_read : (List UInt8) → Int → Option (Tm × (List UInt8) × Bool × Int)} (hr_terms_read : terms_read.Rec r_terms_read) {a0 : List UInt8} {a2 : Int} {a1_m : Nat} {a2_b : Nat} {r_0 : Tm} {r_1 : List UInt8} {r_2 : Bool} {r_h : Int} (h : terms_read.F r_terms_read a0 a2 = some (r_0,r_1,r_2,r_h)) {M : Mem} (w : World) (hM : Ext M (heapOf w)) (hG : GlobE M) (hm_a1 : M a1_m = some FormsO) (hX : ∀ b,(some a2_b) = some b → w.heap[b]? = some (.cells (#[.int .i64 a2]) 3 (0,0))) (hXM : ∀ b,(some a2_b) = some b → M b = none) : Calls Tryd.prog 49 #[str a0,.map (some a1_m),ptr a2_b 0] w (PostX (G:=Value) (fun g => .tuple #[.agg (Tm.ce r_0 g),str r_1,.bool r_2]) (fun g M_ => (RowS ShTm M_ g (Tree.kids r_0))) (fun g => (some a2_b)) (fun g => .cells (#[.int .i64 r_h]) 3 (0,0)) (some a2_b) M w):=by
 unfold terms_read.F at h
 have hE:=Env.startX hM hXM
 refine calls_of_TTX (x:=(some a2_b)) (o:=.cells (#[.int .i64 a2]) 3 (0,0)) (N:=158) (S:=[(0,str a0),(1,.map (some a1_m)),(2,ptr a2_b 0)]) (c:=B49) hX Tryd.func49 rfl rfl rfl (by simp) ?_
 show TT _ _ _ _ _ _ [.code (sub [] B49)] _ _
 refine TT.seq (x:=sub [0] B49) (y:=sub [1] B49) ?_
 refine TT.rg [0,1,2] [(.alloc,none),kp,kp] rfl rfl ?_
 refine DL.new (ob:=.cells (#[.int .i64 0,.int .i64 0,(.slice none 0 0)]) 25) (mk:=fun b => ptr b 0) (i:=0) rfl (Wn.none rfl) rfl rfl rfl (f_alloc ty_z25 rfl) ?_
 intro b1 hb1
 refine DL.pu 7 (str ([] : List UInt8)) rfl (p_assign rfl rfl) ?_
 refine DL.pu 8 (.bool false) rfl (p_assign rfl rfl) ?_
 refine DL.nil ?_
 refine TT.seq (x:=sub [1,0] B49) (y:=sub [1,1] B49) ?_
 refine TT.rg [0,1,2,3,4,5] [kp,kp,kq,kp,kp,(.store,none)] rfl rfl ?_
 refine DL.mv 24 (ptr a2_b 0) rfl rfl rfl ?_
 refine DL.pu 25 (ptr a2_b 0) rfl (p_nilCheck rfl rfl) ?_
 refine DL.qu 26 (.int .i64 a2) rfl (f_load (j:=1) ty_a3 rfl rfl rfl rfl) ?_
 refine DL.pu 27 (.int .i64 (IntKind.i64.wrap (a2 - 1))) rfl (p_sub rfl rfl rfl) ?_
 refine DL.pu 28 (ptr a2_b 0) rfl (p_nilCheck rfl rfl) ?_
 refine DL.put (H':=[(some b1,.cells (#[.int .i64 0,.int .i64 0,(.slice none 0 0)]) 25 (0,0)),(some a2_b,.cells (#[.int .i64 (IntKind.i64.wrap (a2 - 1))]) 3 (0,0))]) (i:=5) rfl (Wn.none rfl) rfl rfl (f_store (c:=#[.int .i64 a2]) (v:=.int .i64 (IntKind.i64.wrap (a2 - 1))) (off:=0) (j:=1) ty_s3 rfl rfl (of_decide_eq_true rfl) trivial rfl rfl rfl) (keep_none rfl) ?_
 refine DL.nil ?_
 refine TT.seq (x:=sub [1,1,0] B49) (y:=sub [1,1,1] B49) ?_
 refine TT.rg [0] [kp] rfl rfl ?_
 refine DL.pu 9 (.int .i64 0) rfl (p_assign rfl rfl) ?_
 refine DL.nil ?_
 refine TT.seq (x:=sub [1,1,1,0] B49) (y:=sub [1,1,1,1] B49) ?_
 refine TT.block (c:=sub [1,1,1,0,0] B49) ?_
 refine TT.loop (c:=sub [1,1,1,0,0,0] B49) ?_
 obtain ⟨z9_80,h108,h109⟩:=bind_some h
 refine TT.weak (terms_read.L0_ok a0 a1_m a2 a2_b b1 hE (a0.length + 1) 0 z9_80 h108 ( ?_)) (Sub.cons rfl (Sub.cons rfl (Sub.cons rfl (Sub.cons rfl (Sub.cons rfl (Sub.nil _))))))
 refine TT.seq (x:=sub [1,1,1,1,0] B49) (y:=sub [1,1,1,1,1] B49) ?_
 refine TT.rg [0,1,2] [kp,(.alloc,none),(.store,none)] rfl rfl ?_
 refine DL.pu 47 (.agg #[.int .i64 0,.int .i64 0,(.slice none 0 0)]) rfl (p_build (vs:=[]) (fun w => by kernel_rfl) rfl rfl) ?_
 refine DL.new (ob:=.cells (#[.int .i64 0,.int .i64 0,(.slice none 0 0)]) 25) (mk:=fun b => ptr b 0) (i:=1) rfl (Wn.none rfl) rfl rfl rfl (f_alloc ty_z25 rfl) ?_
 intro b111 hb111
 refine DL.put (H':=[(some b111,.cells (#[.int .i64 0,.int .i64 0,(.slice none 0 0)]) 25 (0,0)),(some b1,.cells (#[.int .i64 0,.int .i64 0,(.slice none 0 0)]) 25 (0,0)),(some a2_b,.cells (#[.int .i64 (IntKind.i64.wrap (a2 - 1))]) 3 (0,0))]) (i:=2) rfl (Wn.none rfl) rfl rfl (f_storeA (j:=0) ty_s25 rfl rfl rfl (one_cons trivial (one_cons trivial (one_cons (sl_one (RowS.sl (RowS.nil ShTm M))) one_nil))) rfl rfl rfl) (keep_none rfl) ?_
 refine DL.nil ?_
 refine TT.seq (x:=sub [1,1,1,1,1,0] B49) (y:=sub [1,1,1,1,1,1] B49) ?_
 refine TT.seq (x:=sub [1,1,1,1,1,0,0] B49) (y:=sub [1,1,1,1,1,0,1] B49) ?_
 refine TT.rg [0,1] [kp,kk] rfl rfl ?_
 refine DL.mv 48 (.map (some a1_m)) rfl rfl rfl ?_
 refine DL.rangeF ty_u59 (fun w hc => hc.imm _ _ (hE.mi _ _ hm_a1)) (i:=1) rfl (Wn.none rfl) rfl rfl rfl rfl rfl ?_
 intro b112
 show DL _ _ _ _ _ _ _ _ _ _ _ _ [(some b112,iobj a1_m 9 #[]),(some b111,.cells (#[.int .i64 0,.int .i64 0,(.slice none 0 0)]) 25 (0,0)),(some b1,.cells (#[.int .i64 0,.int .i64 0,(.slice none 0 0)]) 25 (0,0)),(some a2_b,.cells (#[.int .i64 (IntKind.i64.wrap (a2 - 1))]) 3 (0,0))]
 refine DL.nil ?_
 refine TT.block (c:=sub [1,1,1,1,1,0,1,0] B49) ?_
 refine TT.loop (c:=sub [1,1,1,1,1,0,1,0,0] B49) ?_
 obtain ⟨z_b111_0_129,h145,h146⟩:=bind_some h109
 refine TT.weak (terms_read.L1_ok a0 a1_m a2 a2_b b1 z9_80 b111 b112 hE hm_a1 _ #[] 0 z_b111_0_129 rfl (terms_read.L1_any a0 z9_80 0 h145) ( ?_)) (Sub.cons rfl (Sub.cons rfl (Sub.cons rfl (Sub.cons rfl (Sub.cons rfl (Sub.cons rfl (Sub.cons rfl (Sub.nil _))))))))
 refine TT.seq (x:=sub [1,1,1,1,1,1,0] B49) (y:=sub [1,1,1,1,1,1,1] B49) ?_
 refine TT.rg [0,1,2,3,4,5,6,7,8,9] [kp,kp,kq,kq,kp,kp,kp,(.alloc,none),(.store,none),kp] rfl rfl ?_
 refine DL.mv 64 (.map (some a1_m)) rfl rfl rfl ?_
 refine DL.pu 65 (ptr b111 0) rfl (p_fieldAddr ty_f25_0 rfl rfl) ?_
 refine DL.qu 66 (.int .i64 z_b111_0_129) rfl (f_load (j:=0) ty_a23 rfl rfl rfl rfl) ?_
 refine DL.qu 67 (.tuple #[.agg #[str (fmName z_b111_0_129),.int .i64 (fmArgs z_b111_0_129)],.bool (fmIs z_b111_0_129)]) rfl (FImm.quiet (i_lookupMOk (I:=M) (a:=z_b111_0_129) ty_u59 ty_u23 ty_z87 hm_a1 (fm_val z_b111_0_129) (fm_is z_b111_0_129) rfl rfl rfl) (fun w hc => hE.imm hc)) ?_
 refine DL.mv 63 (.tuple #[.agg #[str (fmName z_b111_0_129),.int .i64 (fmArgs z_b111_0_129)],.bool (fmIs z_b111_0_129)]) rfl rfl rfl ?_
 refine DL.pu 68 (.agg #[str (fmName z_b111_0_129),.int .i64 (fmArgs z_b111_0_129)]) rfl (p_extract rfl rfl rfl) ?_
 refine DL.pu 69 (.bool (fmIs z_b111_0_129)) rfl (p_extract rfl rfl rfl) ?_
 refine DL.new (ob:=.cells (#[str ([] : List UInt8),.int .i64 0]) 87) (mk:=fun b => ptr b 0) (i:=7) rfl (Wn.none rfl) rfl rfl rfl (f_alloc ty_z87 rfl) ?_
 intro b147 hb147
 refine DL.put (H':=[(some b147,.cells (#[str (fmName z_b111_0_129),.int .i64 (fmArgs z_b111_0_129)]) 87 (0,0)),(some b111,.cells (#[.int .i64 z_b111_0_129,.int .i64 0,(.slice none 0 0)]) 25 (0,0)),(some b1,.cells (#[.int .i64 0,.int .i64 0,(.slice none 0 0)]) 25 (0,0)),(some a2_b,.cells (#[.int .i64 (IntKind.i64.wrap (a2 - 1))]) 3 (0,0))]) (i:=8) rfl (Wn.none rfl) rfl rfl (f_storeA (j:=0) ty_s87 rfl rfl rfl (by simp [OneCell,str]) rfl rfl rfl) (keep_none rfl) ?_
 refine DL.pu 14 (.bool (fmIs z_b111_0_129)) rfl (p_assign rfl rfl) ?_
 refine DL.nil ?_
 refine TT.seq (x:=sub [1,1,1,1,1,1,1,0] B49) (y:=sub [1,1,1,1,1,1,1,1] B49) ?_
 refine TT.seq (x:=sub [1,1,1,1,1,1,1,0,0] B49) (y:=sub [1,1,1,1,1,1,1,0,1] B49) ?_
 refine TT.rg [0,1,2,3,4,5,6,7] [kp,kp,kp,kp,kp,kq,kp,kp] rfl rfl ?_
 refine DL.mv 70 (.bool (fmIs z_b111_0_129)) rfl rfl rfl ?_
 refine DL.pu 71 (.bool (!(fmIs z_b111_0_129))) rfl (p_not rfl rfl) ?_
 refine DL.mv 72 (.bool (!(fmIs z_b111_0_129))) rfl rfl rfl ?_
 obtain ⟨q149,h150,h151⟩:=bind_some h146
 refine DL.cut [(0,str a0),(1,.map (some a1_m)),(2,ptr a2_b 0),(6,ptr b1 0),(9,.int .i64 z9_80),(10,ptr b111 0),(13,ptr b147 0),(77,.bool q149)] [] ?_ (fun J152 => ?_)
 ·
  refine DL.nil ?_
  by_cases c156 : q149 = true
  ·
   have h157:=ite_true c156 h151
   refine TT.cond_true (x:=sub [1,1,1,1,1,1,1,0,1,0] B49) (y:=sub [1,1,1,1,1,1,1,0,1,1] B49) rfl c156 ?_
   refine TT.seq (x:=sub [1,1,1,1,1,1,1,0,1,0,0] B49) (y:=sub [1,1,1,1,1,1,1,0,1,0,1] B49) ?_
   refine TT.rg [0,1,2,3] [kq,(.store,none),kp,kp] rfl rfl ?_
   refine DL.qu 78 (.agg #[.int .i64 z_b111_0_129,.int .i64 0,(.slice none 0 0)]) rfl (f_loadA (j:=1) ty_a25 ty_s25 rfl rfl rfl rfl) ?_
   refine DL.put (H':=[(some b147,.cells (#[str (fmName z_b111_0_129),.int .i64 (fmArgs z_b111_0_129)]) 87 (0,0)),(some b111,.cells (#[.int .i64 z_b111_0_129,.int .i64 0,(.slice none 0 0)]) 25 (0,0)),(some b1,.cells (#[.int .i64 z_b111_0_129,.int .i64 0,(.slice none 0 0)]) 25 (0,0)),(some a2_b,.cells (#[.int .i64 (IntKind.i64.wrap (a2 - 1))]) 3 (0,0))]) (i:=1) rfl (Wn.none rfl) rfl rfl (f_storeA (j:=2) ty_s25 rfl rfl rfl (one_cons trivial (one_cons trivial (one_cons (sl_one (RowS.sl (RowS.nil ShTm M))) one_nil))) rfl rfl rfl) (keep_none rfl) ?_
   refine DL.pu 7 (str ([] : List UInt8)) rfl (p_assign rfl rfl) ?_
   refine DL.pu 8 (.bool false) rfl (p_assign rfl rfl) ?_
   refine DL.nil ?_
   simp only [Option.some.injEq,Prod.mk.injEq] at h157
   obtain ⟨rfl,rfl,rfl,rfl⟩:=h157
   exact retX (rs:=[.cell 6 25,.tmp 7,.tmp 8]) (vs:=[.agg #[.int .i64 z_b111_0_129,.int .i64 0,(.slice none 0 0)],str ([] : List UInt8),.bool false]) (j:=3) (.slice none 0 0) hE Tryd.func49 rfl rfl rfl (res_cons (ResV.cell (j:=2) ty_a25 ty_s25 rfl rfl rfl) (res_cons (ResV.tmp rfl) (res_cons (ResV.tmp rfl) res_nil))) rfl (RowS.nil ShTm M)
  ·
   replace c156:=Bool.eq_false_iff.mpr c156
   have h158:=ite_false c156 h151
   refine TT.cond_false (x:=sub [1,1,1,1,1,1,1,0,1,0] B49) (y:=sub [1,1,1,1,1,1,1,0,1,1] B49) rfl c156 ?_
   refine TT.skip ?_
   refine TT.seq (x:=sub [1,1,1,1,1,1,1,1,0] B49) (y:=sub [1,1,1,1,1,1,1,1,1] B49) ?_
   refine TT.rg [0,1,2,3] [kp,kp,kp,kp] rfl rfl ?_
   refine DL.mv 79 (str a0) rfl rfl rfl ?_
   refine DL.mv 80 (.int .i64 z9_80) rfl rfl rfl ?_
   obtain ⟨g159,h160⟩:=req_some h158
   obtain ⟨g161,h162⟩:=req_some h160
   refine DL.pu 81 (str (a0.drop z9_80.toNat)) rfl (p_strSubL ty_u9 g159 g161 rfl rfl rfl) ?_
   refine DL.pu 15 (str (a0.drop z9_80.toNat)) rfl (p_assign rfl rfl) ?_
   refine DL.nil ?_
   refine TT.seq (x:=sub [1,1,1,1,1,1,1,1,1,0] B49) (y:=sub [1,1,1,1,1,1,1,1,1,1] B49) ?_
   refine TT.seq (x:=sub [1,1,1,1,1,1,1,1,1,0,0] B49) (y:=sub [1,1,1,1,1,1,1,1,1,0,1] B49) ?_
   refine TT.rg [0,1,2] [kp,kq,kp] rfl rfl ?_
   refine DL.pu 82 (ptr b147 1) rfl (p_fieldAddr ty_f87_1 rfl rfl) ?_
   refine DL.qu 83 (.int .i64 (fmArgs z_b111_0_129)) rfl (f_load (j:=0) ty_a3 rfl rfl rfl rfl) ?_
   refine DL.pu 84 (.bool ((fmArgs z_b111_0_129) == 0)) rfl (p_eql rfl rfl rfl) ?_
   refine DL.nil ?_
   by_cases c163 : ((fmArgs z_b111_0_129) == 0) = true
   ·
    have h164:=ite_true c163 h162
    refine TT.cond_true (x:=sub [1,1,1,1,1,1,1,1,1,0,1,0] B49) (y:=sub [1,1,1,1,1,1,1,1,1,0,1,1] B49) rfl c163 ?_
    refine TT.seq (x:=sub [1,1,1,1,1,1,1,1,1,0,1,0,0] B49) (y:=sub [1,1,1,1,1,1,1,1,1,0,1,0,1] B49) ?_
    refine TT.rg [0] [kp] rfl rfl ?_
    refine DL.pu 9 (.int .i64 0) rfl (p_assign rfl rfl) ?_
    refine DL.nil ?_
    refine TT.seq (x:=sub [1,1,1,1,1,1,1,1,1,0,1,0,1,0] B49) (y:=sub [1,1,1,1,1,1,1,1,1,0,1,0,1,1] B49) ?_
    refine TT.block (c:=sub [1,1,1,1,1,1,1,1,1,0,1,0,1,0,0] B49) ?_
    refine TT.loop (c:=sub [1,1,1,1,1,1,1,1,1,0,1,0,1,0,0,0] B49) ?_
    obtain ⟨z9_252,h289,h290⟩:=bind_some h164
    refine TT.weak (terms_read.L2_ok a0 a2 a2_b b1 z9_80 b111 z_b111_0_129 b147 hE (((a0.drop z9_80.toNat).length : Int).toNat + 1) 0 z9_252 h289 ( ?_)) (Sub.cons rfl (Sub.cons rfl (Sub.cons rfl (Sub.cons rfl (Sub.nil _)))))
    refine TT.seq (x:=sub [1,1,1,1,1,1,1,1,1,0,1,0,1,1,0] B49) (y:=sub [1,1,1,1,1,1,1,1,1,0,1,0,1,1,1] B49) ?_
    refine TT.rg [0,1,2,3,4,5,6,7,8] [kp,kp,kp,kk,kp,kp,kp,kp,kp] rfl rfl ?_
    refine DL.mv 104 (str (a0.drop z9_80.toNat)) rfl rfl rfl ?_
    refine DL.mv 105 (.int .i64 z9_252) rfl rfl rfl ?_
    obtain ⟨g292,h293⟩:=req_some h290
    obtain ⟨g294,h295⟩:=req_some h293
    refine DL.pu 106 (str ((a0.drop z9_80.toNat).take z9_252.toNat)) rfl (p_strSubH ty_u9 g292 g294 rfl rfl rfl) ?_
    obtain ⟨⟨t296_0,t296_1⟩,h297,h298⟩:=bind_some h295
    refine DL.callF (G:=Value) (u:=fun g => .tuple #[.int .i64 t296_0,g]) (Q:=fun g M_ => (ErrV g t296_1)) (A:=[(some b147,.cells (#[str (fmName z_b111_0_129),.int .i64 (fmArgs z_b111_0_129)]) 87 (0,0)),(some b111,.cells (#[.int .i64 z_b111_0_129,.int .i64 0,(.slice none 0 0)]) 25 (0,0)),(some b1,.cells (#[.int .i64 0,.int .i64 0,(.slice none 0 0)]) 25 (0,0)),(some a2_b,.cells (#[.int .i64 (IntKind.i64.wrap (a2 - 1))]) 3 (0,0))]) (J:=[]) (fun J299 => ((some b147,.cells (#[str (fmName z_b111_0_129),.int .i64 (fmArgs z_b111_0_129)]) 87 (0,0)) :: (some b111,.cells (#[.int .i64 z_b111_0_129,.int .i64 0,(.slice none 0 0)]) 25 (0,0)) :: (some b1,.cells (#[.int .i64 0,.int .i64 0,(.slice none 0 0)]) 25 (0,0)) :: (some a2_b,.cells (#[.int .i64 (IntKind.i64.wrap (a2 - 1))]) 3 (0,0)) :: J299)) (Nat.le_refl _) hE.nil (List.append_nil _).symm (fun _ => rfl) (by simp [kind_mk,num_mk]) (i:=3) rfl (Wn.none rfl) rfl rfl rfl rfl rfl rfl (args_val (vs:=[str ((a0.drop z9_80.toNat).take z9_252.toNat)]) rfl) (fun w => enter70 _ w) (fun w hc hI => tm_atoi.ok h297 (M:=M) w hI hG) ?_
    rintro t296_1_e M299 J299 hE299 hx299 he_t296_1
    show DL _ _ _ _ _ _ _ _ _ _ _ _ ((some b147,.cells (#[str (fmName z_b111_0_129),.int .i64 (fmArgs z_b111_0_129)]) 87 (0,0)) :: (some b111,.cells (#[.int .i64 z_b111_0_129,.int .i64 0,(.slice none 0 0)]) 25 (0,0)) :: (some b1,.cells (#[.int .i64 0,.int .i64 0,(.slice none 0 0)]) 25 (0,0)) :: (some a2_b,.cells (#[.int .i64 (IntKind.i64.wrap (a2 - 1))]) 3 (0,0)) :: J299)
    refine DL.mv 103 (.tuple #[.int .i64 t296_0,t296_1_e]) rfl rfl rfl ?_
    refine DL.pu 108 (.int .i64 t296_0) rfl (p_extract rfl rfl rfl) ?_
    refine DL.pu 109 (t296_1_e) rfl (p_extract rfl rfl rfl) ?_
    refine DL.pu 16 (.int .i64 t296_0) rfl (p_assign rfl rfl) ?_
    refine DL.pu 17 (t296_1_e) rfl (p_assign rfl rfl) ?_
    refine DL.nil ?_
    refine TT.settle (A:=[(some b147,.cells (#[str (fmName z_b111_0_129),.int .i64 (fmArgs z_b111_0_129)]) 87 (0,0)),(some b111,.cells (#[.int .i64 z_b111_0_129,.int .i64 0,(.slice none 0 0)]) 25 (0,0)),(some b1,.cells (#[.int .i64 0,.int .i64 0,(.slice none 0 0)]) 25 (0,0)),(some a2_b,.cells (#[.int .i64 (IntKind.i64.wrap (a2 - 1))]) 3 (0,0))]) (J:=J299) hE299 ?_
    intro I300 hE300 hxI300
    refine TT.seq (x:=sub [1,1,1,1,1,1,1,1,1,0,1,0,1,1,1,0] B49) (y:=sub [1,1,1,1,1,1,1,1,1,0,1,0,1,1,1,1] B49) ?_
    refine TT.rg [0,1,2] [kp,kp,(.store,none)] rfl rfl ?_
    refine DL.mv 110 (.int .i64 t296_0) rfl rfl rfl ?_
    refine DL.pu 111 (ptr b111 1) rfl (p_fieldAddr ty_f25_1 rfl rfl) ?_
    refine DL.put (H':=[(some b147,.cells (#[str (fmName z_b111_0_129),.int .i64 (fmArgs z_b111_0_129)]) 87 (0,0)),(some b111,.cells (#[.int .i64 z_b111_0_129,.int .i64 t296_0,(.slice none 0 0)]) 25 (0,0)),(some b1,.cells (#[.int .i64 0,.int .i64 0,(.slice none 0 0)]) 25 (0,0)),(some a2_b,.cells (#[.int .i64 (IntKind.i64.wrap (a2 - 1))]) 3 (0,0))]) (i:=2) rfl (Wn.none rfl) rfl rfl (f_store (c:=#[.int .i64 z_b111_0_129,.int .i64 0,(.slice none 0 0)]) (v:=.int .i64 t296_0) (off:=1) (j:=1) ty_s3 rfl rfl (of_decide_eq_true rfl) trivial rfl rfl rfl) (keep_none rfl) ?_
    refine DL.nil ?_
    refine TT.seq (x:=sub [1,1,1,1,1,1,1,1,1,0,1,0,1,1,1,1,0] B49) (y:=sub [1,1,1,1,1,1,1,1,1,0,1,0,1,1,1,1,1] B49) ?_
    refine TT.rgD [0,1,2,3,4,5,6,7,8] [0,0,0,6,0,16,1,79,255] [(.look,some 1),kp,kp,kp,kp,kp,(.store,some 2),kp,kp] rfl mixed (by kernel_rfl) ?_
    intro w301 hl301 hj301 hz301
    refine DL.look (v:=.agg #[.int .i64 z_b111_0_129,.int .i64 t296_0,(.slice none 0 0)]) (x:=1) (b:=b111) (i:=0) rfl (Wn.none rfl) rfl rfl rfl rfl rfl (List.mem_of_getElem? (i:=1) rfl) (b_loadA ty_a25 ty_s25 rfl rfl rfl) ?_
    refine DL.mv 113 (str (a0.drop z9_80.toNat)) rfl rfl rfl ?_
    refine DL.mv 114 (.int .i64 z9_252) rfl rfl rfl ?_
    refine DL.pu 115 (str ((a0.drop z9_80.toNat).drop z9_252.toNat)) rfl (p_strSubL ty_u9 g292 g294 rfl rfl rfl) ?_
    refine DL.mv 116 (t296_1_e) rfl rfl rfl ?_
    refine DL.pu 117 (.bool t296_1) rfl (p_nilEq he_t296_1 (errEq he_t296_1) rfl rfl) ?_
    refine DL.put (H':=[(some b147,.cells (#[str (fmName z_b111_0_129),.int .i64 (fmArgs z_b111_0_129)]) 87 (0,0)),(some b111,.cells (#[.int .i64 z_b111_0_129,.int .i64 t296_0,(.slice none 0 0)]) 25 (0,0)),(some b1,.cells (#[.int .i64 z_b111_0_129,.int .i64 t296_0,(.slice none 0 0)]) 25 (0,0)),(some a2_b,.cells (#[.int .i64 (IntKind.i64.wrap (a2 - 1))]) 3 (0,0))]) (i:=6) rfl (Wn.none rfl) rfl rfl (f_storeA (j:=2) ty_s25 rfl rfl rfl (one_cons trivial (one_cons trivial (one_cons (sl_one (RowS.sl (RowS.nil ShTm M299))) one_nil))) rfl rfl rfl) (keep_set (j:=2) hj301 rfl rfl rfl) ?_
    refine DL.pu 7 (str ((a0.drop z9_80.toNat).drop z9_252.toNat)) rfl (p_assign rfl rfl) ?_
    refine DL.pu 8 (.bool t296_1) rfl (p_assign rfl rfl) ?_
    refine DL.nil' hl301 ?_
    simp only [Option.some.injEq,Prod.mk.injEq] at h298
    obtain ⟨rfl,rfl,rfl,rfl⟩:=h298
    exact retX (rs:=[.cell 6 25,.tmp 7,.tmp 8]) (vs:=[.agg #[.int .i64 z_b111_0_129,.int .i64 t296_0,(.slice none 0 0)],str ((a0.drop z9_80.toNat).drop z9_252.toNat),.bool t296_1]) (j:=3) (.slice none 0 0) hE300 Tryd.func49 rfl rfl rfl (res_cons (ResV.cell (j:=2) ty_a25 ty_s25 rfl rfl rfl) (res_cons (ResV.tmp rfl) (res_cons (ResV.tmp rfl) res_nil))) rfl (RowS.nil ShTm M299)
   ·
    replace c163:=Bool.eq_false_iff.mpr c163
    have h302:=ite_false c163 h162
    refine TT.cond_false (x:=sub [1,1,1,1,1,1,1,1,1,0,1,0] B49) (y:=sub [1,1,1,1,1,1,1,1,1,0,1,1] B49) rfl c163 ?_
    refine TT.skip ?_
    refine TT.seq (x:=sub [1,1,1,1,1,1,1,1,1,1,0] B49) (y:=sub [1,1,1,1,1,1,1,1,1,1,1] B49) ?_
    refine TT.seq (x:=sub [1,1,1,1,1,1,1,1,1,1,0,0] B49) (y:=sub [1,1,1,1,1,1,1,1,1,1,0,1] B49) ?_
    refine TT.rg [0,1,2] [kp,kq,kp] rfl rfl ?_
    refine DL.pu 118 (ptr b147 1) rfl (p_fieldAddr ty_f87_1 rfl rfl) ?_
    refine DL.qu 119 (.int .i64 (fmArgs z_b111_0_129)) rfl (f_load (j:=0) ty_a3 rfl rfl rfl rfl) ?_
    refine DL.mv 120 (.int .i64 0) rfl rfl rfl ?_
    refine DL.nil ?_
    refine TT.block (c:=sub [1,1,1,1,1,1,1,1,1,1,0,1,0] B49) ?_
    refine TT.nilOwn (e:=25) ?_
    refine TT.loop (c:=sub [1,1,1,1,1,1,1,1,1,1,0,1,0,0] B49) ?_
    rcases onw_some h302 with ⟨⟨z_o303_401,z15_402,z_a2_b_403⟩,h448,h449⟩ | ⟨⟨r451,r452,r453,r454⟩,h448,h449⟩
    ·
     refine TT.weak (terms_read.L3_ok hr_terms_read a1_m a2_b b1 b111 z_b111_0_129 b147 hG hm_a1 ((fmArgs z_b111_0_129).toNat + 1) M (I0 (some a2_b) w) hE (Ext.refl _) ([] : List Tm) (a0.drop z9_80.toNat) 0 (IntKind.i64.wrap (a2 - 1)) (.slice none 0 0) (#[]) (.inl (z_o303_401,z15_402,z_a2_b_403)) (OwnS.nil ShTm M) h448 (fun M450 I450 hE450 hx450 z_o303_401_v z_o303_401_c ho_z_o303_401 => ?_)) (Sub.cons rfl (Sub.cons rfl (Sub.cons rfl (Sub.cons rfl (Sub.cons rfl (Sub.cons rfl (Sub.cons rfl (Sub.nil _))))))))
     show TT _ _ _ _ _ _ _ _ _
     refine TT.seq (x:=sub [1,1,1,1,1,1,1,1,1,1,1,0] B49) (y:=sub [1,1,1,1,1,1,1,1,1,1,1,1] B49) ?_
     refine TT.rg [0,1,2,3,4,5,6] [kp,kq,kp,kp,kp,kp,kp] rfl rfl ?_
     refine DL.mv 151 (str z15_402) rfl rfl rfl ?_
     obtain ⟨t455,e456,h457⟩:=nm_some h449
     obtain ⟨t458,e459,h460⟩:=nm_some h457
     refine DL.qu 152 (.tuple #[str t455,.bool t458]) rfl (by rw [e456,e459]; exact f_callR rfl rfl (args_val (vs:=[str z15_402,str [41]]) rfl) (fun w => enter71 _ w) (fun w hc => cut_ok _ _ w)) ?_
     refine DL.mv 150 (.tuple #[str t455,.bool t458]) rfl rfl rfl ?_
     refine DL.pu 153 (str t455) rfl (p_extract rfl rfl rfl) ?_
     refine DL.pu 154 (.bool t458) rfl (p_extract rfl rfl rfl) ?_
     refine DL.pu 15 (str t455) rfl (p_assign rfl rfl) ?_
     refine DL.pu 23 (.bool t458) rfl (p_assign rfl rfl) ?_
     refine DL.nil ?_
     refine TT.seq (x:=sub [1,1,1,1,1,1,1,1,1,1,1,1,0] B49) (y:=sub [1,1,1,1,1,1,1,1,1,1,1,1,1] B49) ?_
     refine TT.rg [0,1,2,3,4,5] [kq,kp,kp,(.store,none),kp,kp] rfl rfl ?_
     refine DL.qu 155 (.agg #[.int .i64 z_b111_0_129,.int .i64 0,z_o303_401_v]) rfl (f_loadA (j:=2) ty_a25 ty_s25 rfl rfl rfl rfl) ?_
     refine DL.mv 156 (str t455) rfl rfl rfl ?_
     refine DL.mv 157 (.bool t458) rfl rfl rfl ?_
     refine DL.put (H':=[(Value.ownBlock z_o303_401_v,.cells z_o303_401_c 25 (0,0)),(some b147,.cells (#[str (fmName z_b111_0_129),.int .i64 (fmArgs z_b111_0_129)]) 87 (0,0)),(some b111,.cells (#[.int .i64 z_b111_0_129,.int .i64 0,z_o303_401_v]) 25 (0,0)),(some b1,.cells (#[.int .i64 z_b111_0_129,.int .i64 0,z_o303_401_v]) 25 (0,0)),(some a2_b,.cells (#[.int .i64 z_a2_b_403]) 3 (0,0))]) (i:=3) rfl (Wn.none rfl) rfl rfl (f_storeA (j:=3) ty_s25 rfl rfl rfl (one_cons trivial (one_cons trivial (one_cons (sl_one (OwnS.sl ho_z_o303_401)) one_nil))) rfl rfl rfl) (keep_none rfl) ?_
     refine DL.pu 7 (str t455) rfl (p_assign rfl rfl) ?_
     refine DL.pu 8 (.bool t458) rfl (p_assign rfl rfl) ?_
     refine DL.nil ?_
     refine TT.freezeAtX (fun b e => by cases e; exact ⟨4,_,by decide,rfl⟩) (j:=0) hE450 rfl ?_
     intro M461 I461 hE461 hx461 hxI461 hb461
     have hr_461 : RowS ShTm M461 z_o303_401_v z_o303_401:=OwnS.stays ho_z_o303_401 hx461 hb461
     show TT _ _ _ _ _ _ _ _ [(some b147,.cells (#[str (fmName z_b111_0_129),.int .i64 (fmArgs z_b111_0_129)]) 87 (0,0)),(some b111,.cells (#[.int .i64 z_b111_0_129,.int .i64 0,z_o303_401_v]) 25 (0,0)),(some b1,.cells (#[.int .i64 z_b111_0_129,.int .i64 0,z_o303_401_v]) 25 (0,0)),(some a2_b,.cells (#[.int .i64 z_a2_b_403]) 3 (0,0))]
     simp only [Option.some.injEq,Prod.mk.injEq] at h460
     obtain ⟨rfl,rfl,rfl,rfl⟩:=h460
     exact retX (rs:=[.cell 6 25,.tmp 7,.tmp 8]) (vs:=[.agg #[.int .i64 z_b111_0_129,.int .i64 0,z_o303_401_v],str t455,.bool t458]) (j:=3) z_o303_401_v hE461 Tryd.func49 rfl rfl rfl (res_cons (ResV.cell (j:=2) ty_a25 ty_s25 rfl rfl rfl) (res_cons (ResV.tmp rfl) (res_cons (ResV.tmp rfl) res_nil))) rfl hr_461
    ·
     simp only [Option.some.injEq,Prod.mk.injEq] at h449
     obtain ⟨rfl,rfl,rfl,rfl⟩:=h449
     exact TT.weak (terms_read.L3_ok hr_terms_read a1_m a2_b b1 b111 z_b111_0_129 b147 hG hm_a1 ((fmArgs z_b111_0_129).toNat + 1) M (I0 (some a2_b) w) hE (Ext.refl _) ([] : List Tm) (a0.drop z9_80.toNat) 0 (IntKind.i64.wrap (a2 - 1)) (.slice none 0 0) (#[]) (.inr (r451,r452,r453,r454)) (OwnS.nil ShTm M) h448 rfl) (Sub.cons rfl (Sub.cons rfl (Sub.cons rfl (Sub.cons rfl (Sub.cons rfl (Sub.cons rfl (Sub.cons rfl (Sub.nil _))))))))
 ·
  by_cases c153 : (!(fmIs z_b111_0_129)) = true
  ·
   have h154:=ite_true c153 h150
   refine DL.not (i:=3) rfl (Wn.yes c153 rfl rfl rfl rfl) rfl rfl ?_
   refine DL.not (i:=4) rfl (Wn.yes c153 rfl rfl rfl rfl) rfl rfl ?_
   refine DL.not (i:=5) rfl (Wn.yes c153 rfl rfl rfl rfl) rfl rfl ?_
   refine DL.not (i:=6) rfl (Wn.yes c153 rfl rfl rfl rfl) rfl rfl ?_
   refine DL.pu 77 (.bool true) rfl (p_pick_t c153 rfl rfl rfl) ?_
   obtain rfl:=Option.some.inj h154
   exact DL.weak J152 (Sub.cons rfl (Sub.cons rfl (Sub.cons rfl (Sub.cons rfl (Sub.cons rfl (Sub.cons rfl (Sub.cons rfl (Sub.cons rfl (Sub.nil _)))))))))
  ·
   replace c153:=Bool.eq_false_iff.mpr c153
   have h155:=ite_false c153 h150
   refine DL.pure (v:=ptr a2_b 0) rfl (Wn.no c153 rfl rfl rfl rfl) rfl rfl rfl (p_move rfl rfl) ?_
   refine DL.pure (v:=ptr a2_b 0) rfl (Wn.no c153 rfl rfl rfl rfl) rfl rfl rfl (p_nilCheck rfl rfl) ?_
   refine DL.quiet (v:=.int .i64 (IntKind.i64.wrap (a2 - 1))) rfl (Wn.no c153 rfl rfl rfl rfl) rfl rfl rfl (f_load (j:=3) ty_a3 rfl rfl rfl rfl) ?_
   refine DL.pure (v:=.bool (decide ((IntKind.i64.wrap (a2 - 1)) < 0))) rfl (Wn.no c153 rfl rfl rfl rfl) rfl rfl rfl (p_lss rfl rfl rfl) ?_
   refine DL.pu 77 (.bool (decide ((IntKind.i64.wrap (a2 - 1)) < 0))) rfl (p_pick_f c153 rfl rfl rfl) ?_
   obtain rfl:=Option.some.inj h155
   exact DL.weak J152 (Sub.cons rfl (Sub.cons rfl (Sub.cons rfl (Sub.cons rfl (Sub.cons rfl (Sub.cons rfl (Sub.cons rfl (Sub.cons rfl (Sub.nil _)))))))))
def terms_read.f : Nat → (List UInt8) → Int → Option (Tm × (List UInt8) × Bool × Int)
 | 0,_,_ => none
 | k + 1,a0,a2 => terms_read.F (terms_read.f k) a0 a2
theorem terms_read.rec : ∀ k,terms_read.Rec (terms_read.f k):=by
 intro k
 induction k with
 | zero => intro _ _ _ _ _ _ _ _ h; simp [terms_read.f] at h
 | succ k ih => intro a0 a2 a1_m a2_b r_0 r_1 r_2 r_h h M w hM hG hm_a1 hX hXM; exact terms_read.okF ih h w hM hG hm_a1 hX hXM
theorem terms_read.ok {k : Nat} {a0 : List UInt8} {a2 : Int} {a1_m : Nat} {a2_b : Nat} {r_0 : Tm} {r_1 : List UInt8} {r_2 : Bool} {r_h : Int} (h : terms_read.f k a0 a2 = some (r_0,r_1,r_2,r_h)) {M : Mem} (w : World) (hM : Ext M (heapOf w)) (hG : GlobE M) (hm_a1 : M a1_m = some FormsO) (hX : ∀ b,(some a2_b) = some b → w.heap[b]? = some (.cells (#[.int .i64 a2]) 3 (0,0))) (hXM : ∀ b,(some a2_b) = some b → M b = none) : Calls Tryd.prog 49 #[str a0,.map (some a1_m),ptr a2_b 0] w (PostX (G:=Value) (fun g => .tuple #[.agg (Tm.ce r_0 g),str r_1,.bool r_2]) (fun g M_ => (RowS ShTm M_ g (Tree.kids r_0))) (fun g => (some a2_b)) (fun g => .cells (#[.int .i64 r_h]) 3 (0,0)) (some a2_b) M w) :=
 terms_read.rec k h w hM hG hm_a1 hX hXM

/-! ### escutcheon/terms.Of: function 29 -/
noncomputable def B29 : Code:=bodyOf Tryd.f29
def terms_Of.f (a0 : List UInt8) : Option (Tm × Int):=(terms_forms.f).bind fun _ => (terms_read.f (a0.length + 2) a0 2000).bind fun (t7_0,t7_1,t7_2,t7_h) => (if (!t7_2) = true then (some true) else (some (!(t7_1 == ([] : List UInt8))))).bind fun q15 => (if q15 = true then (some true) else ((terms_May.f t7_0).bind fun t30 => some (!t30))).bind fun q23 => (if q23 = true then (some true) else ((terms_forms.f).bind fun _ => (terms_text.f (Tm.fuel t7_0) t7_0).bind fun t45 => some (!(t45 == a0)))).bind fun q34 => if q34 = true then (some (Tm.mk 0 0 ([] : List Tm),4)) else (some (t7_0,0))
set_option maxRecDepth 20000 in
theorem terms_Of.ok {a0 : List UInt8} {r_0 : Tm} {r_1 : Int} (h : terms_Of.f a0 = some (r_0,r_1)) {M : Mem} (w : World) (hM : Ext M (heapOf w)) (hG : GlobE M) : Calls Tryd.prog 29 #[str a0] w (PostF (G:=Value) (fun g => .tuple #[.agg (Tm.ce r_0 g),.int .i64 r_1]) (fun g M_ => (RowS ShTm M_ g (Tree.kids r_0))) M w):=by
 unfold terms_Of.f at h
 have hE:=Env.start hM
 refine calls_of_TT (N:=35) (S:=[(0,str a0)]) (c:=B29) Tryd.func29 rfl rfl rfl (by simp) ?_
 show TT _ _ _ _ _ _ [.code (sub [] B29)] _ _
 refine TT.seq (x:=sub [0] B29) (y:=sub [1] B29) ?_
 refine TT.rg [0,1] [(.alloc,none),kp] rfl rfl ?_
 refine DL.new (ob:=.cells (#[.int .i64 0,.int .i64 0,(.slice none 0 0)]) 25) (mk:=fun b => ptr b 0) (i:=0) rfl (Wn.none rfl) rfl rfl rfl (f_alloc ty_z25 rfl) ?_
 intro b1 hb1
 refine DL.pu 3 (.int .i64 0) rfl (p_assign rfl rfl) ?_
 refine DL.nil ?_
 refine TT.seq (x:=sub [1,0] B29) (y:=sub [1,1] B29) ?_
 refine TT.rg [0,1] [(.alloc,none),(.store,none)] rfl rfl ?_
 refine DL.new (ob:=.cells (#[.int .i64 0]) 3) (mk:=fun b => ptr b 0) (i:=0) rfl (Wn.none rfl) rfl rfl rfl (f_alloc ty_z3 rfl) ?_
 intro b2 hb2
 refine DL.put (H':=[(some b2,.cells (#[.int .i64 2000]) 3 (0,0)),(some b1,.cells (#[.int .i64 0,.int .i64 0,(.slice none 0 0)]) 25 (0,0))]) (i:=1) rfl (Wn.none rfl) rfl rfl (f_store (c:=#[.int .i64 0]) (v:=.int .i64 2000) (off:=0) (j:=0) ty_s3 rfl rfl (of_decide_eq_true rfl) trivial rfl rfl rfl) (keep_none rfl) ?_
 refine DL.nil ?_
 refine TT.seq (x:=sub [1,1,0] B29) (y:=sub [1,1,1] B29) ?_
 refine TT.rg [0,1,2,3,4,5,6,7,8,9,10] [kp,kk,kx,kp,kp,kp,kp,(.alloc,none),(.store,none),kp,kp] rfl rfl ?_
 refine DL.mv 9 (str a0) rfl rfl rfl ?_
 obtain ⟨_,h4,h5⟩:=bind_some h
 refine DL.callF (G:=Nat) (u:=fun g => .map (some g)) (Q:=fun g M_ => (M_ g = some FormsO)) (A:=[(some b2,.cells (#[.int .i64 2000]) 3 (0,0)),(some b1,.cells (#[.int .i64 0,.int .i64 0,(.slice none 0 0)]) 25 (0,0))]) (J:=[]) (fun J6 => ((some b2,.cells (#[.int .i64 2000]) 3 (0,0)) :: (some b1,.cells (#[.int .i64 0,.int .i64 0,(.slice none 0 0)]) 25 (0,0)) :: J6)) (Nat.le_refl _) hE.nil (List.append_nil _).symm (fun _ => rfl) (by simp [kind_mk,num_mk]) (i:=1) rfl (Wn.none rfl) rfl rfl rfl rfl rfl rfl (args_val (vs:=[]) rfl) (fun w => enter40 _ w) (fun w hc hI => terms_forms.ok h4 (M:=M) w hI ) ?_
 rintro t3_m M6 J6 hE6 hx6 hm_t3
 show DL _ _ _ _ _ _ _ _ _ _ _ _ ((some b2,.cells (#[.int .i64 2000]) 3 (0,0)) :: (some b1,.cells (#[.int .i64 0,.int .i64 0,(.slice none 0 0)]) 25 (0,0)) :: J6)
 obtain ⟨⟨t7_0,t7_1,t7_2,t7_h⟩,h8,h9⟩:=bind_some h5
 refine DL.callX (G:=Value) (u:=fun g => .tuple #[.agg (Tm.ce t7_0 g),str t7_1,.bool t7_2]) (Q:=fun g M_ => (RowS ShTm M_ g (Tree.kids t7_0))) (r':=fun g => (some b2)) (o':=fun g => .cells (#[.int .i64 t7_h]) 3 (0,0)) (A:=[(some b2,.cells (#[.int .i64 2000]) 3 (0,0)),(some b1,.cells (#[.int .i64 0,.int .i64 0,(.slice none 0 0)]) 25 (0,0))]) (J:=J6) (j:=0) (fun r_10 o_10 J10 => ((r_10,o_10) :: (some b1,.cells (#[.int .i64 0,.int .i64 0,(.slice none 0 0)]) 25 (0,0)) :: J10)) (Nat.le_refl _) hE6 rfl rfl (fun _ _ _ => rfl) (by simp) (i:=2) rfl (Wn.none rfl) rfl rfl rfl rfl rfl rfl (args_val (vs:=[str a0,.map (some t3_m),ptr b2 0]) rfl) (fun w => enter49 _ w) (fun w hc hI hx_ hm_ => terms_read.ok h8 (M:=M6) w hI (GlobE.mono hG hx6) hm_t3 hx_ hm_) ?_
 rintro t7_0_2 M10 J10 hE10 hx10 hr_t7_0_2
 show DL _ _ _ _ _ _ _ _ _ _ _ _ ((some b2,.cells (#[.int .i64 t7_h]) 3 (0,0)) :: (some b1,.cells (#[.int .i64 0,.int .i64 0,(.slice none 0 0)]) 25 (0,0)) :: J10)
 refine DL.mv 8 (.tuple #[.agg (Tm.ce t7_0 t7_0_2),str t7_1,.bool t7_2]) rfl rfl rfl ?_
 refine DL.pu 12 (.agg (Tm.ce t7_0 t7_0_2)) rfl (p_extract rfl rfl rfl) ?_
 refine DL.pu 13 (str t7_1) rfl (p_extract rfl rfl rfl) ?_
 refine DL.pu 14 (.bool t7_2) rfl (p_extract rfl rfl rfl) ?_
 refine DL.new (ob:=.cells (#[.int .i64 0,.int .i64 0,(.slice none 0 0)]) 25) (mk:=fun b => ptr b 0) (i:=7) rfl (Wn.none rfl) rfl rfl rfl (f_alloc ty_z25 rfl) ?_
 intro b11 hb11
 refine DL.put (H':=((some b11,.cells ((Tm.ce t7_0 t7_0_2)) 25 (0,0)) :: (some b2,.cells (#[.int .i64 t7_h]) 3 (0,0)) :: (some b1,.cells (#[.int .i64 0,.int .i64 0,(.slice none 0 0)]) 25 (0,0)) :: J10)) (i:=8) rfl (Wn.none rfl) rfl rfl (f_storeA (j:=0) ty_s25 rfl rfl rfl (one_cons trivial (one_cons trivial (one_cons (sl_one (RowS.sl hr_t7_0_2)) one_nil))) rfl rfl rfl) (keep_none rfl) ?_
 refine DL.pu 6 (str t7_1) rfl (p_assign rfl rfl) ?_
 refine DL.pu 7 (.bool t7_2) rfl (p_assign rfl rfl) ?_
 refine DL.nil ?_
 refine TT.settle (A:=[(some b11,.cells ((Tm.ce t7_0 t7_0_2)) 25 (0,0)),(some b2,.cells (#[.int .i64 t7_h]) 3 (0,0)),(some b1,.cells (#[.int .i64 0,.int .i64 0,(.slice none 0 0)]) 25 (0,0))]) (J:=J10) hE10 ?_
 intro I12 hE12 hxI12
 refine TT.seq (x:=sub [1,1,1,0] B29) (y:=sub [1,1,1,1] B29) ?_
 refine TT.seq (x:=sub [1,1,1,0,0] B29) (y:=sub [1,1,1,0,1] B29) ?_
 refine TT.rgD [0,1,2,3,4,5,6,7,8,9,10,11,12,15,13,14,16,17] [0,1,3,7,15,31,63,127,255,511,1023,2047,4095,4095,16383,4095,65535,131071] [kp,kp,kp,kp,kp,kp,kp,(.look,some 0),kq,kp,kp,kp,(.look,some 0),kk,kq,kp,kp,kp] rfl mixed (by kernel_rfl) ?_
 intro w13 hl13 hj13 hz13
 refine DL.mv 15 (.bool t7_2) rfl rfl rfl ?_
 refine DL.pu 16 (.bool (!t7_2)) rfl (p_not rfl rfl) ?_
 refine DL.mv 17 (.bool (!t7_2)) rfl rfl rfl ?_
 obtain ⟨q15,h16,h17⟩:=bind_some h9
 refine DL.cut [(0,str a0),(2,ptr b1 0),(5,ptr b11 0),(20,.bool q15)] [6,7,8,9,10,11,12,15,13,14,16,17] ?_ (fun J18 => ?_)
 ·
  refine DL.mv 21 (.bool q15) rfl rfl rfl ?_
  obtain ⟨q23,h24,h25⟩:=bind_some h17
  refine DL.cut [(0,str a0),(2,ptr b1 0),(5,ptr b11 0),(25,.bool q23)] [11,12,15,13,14,16,17] ?_ (fun J26 => ?_)
  ·
   refine DL.mv 26 (.bool q23) rfl rfl rfl ?_
   obtain ⟨q34,h35,h36⟩:=bind_some h25
   refine DL.cutJ [(some b11,.cells ((Tm.ce t7_0 t7_0_2)) 25 (0,0)),(some b2,.cells (#[.int .i64 t7_h]) 3 (0,0)),(some b1,.cells (#[.int .i64 0,.int .i64 0,(.slice none 0 0)]) 25 (0,0))] M10 hE12 [(2,ptr b1 0),(5,ptr b11 0),(32,.bool q34)] [] ?_ (fun J37 => ?_)
   ·
    intro M38 J38 hE38 hx38
    show DL _ _ _ _ _ _ _ _ _ _ _ _ ((some b11,.cells ((Tm.ce t7_0 t7_0_2)) 25 (0,0)) :: (some b2,.cells (#[.int .i64 t7_h]) 3 (0,0)) :: (some b1,.cells (#[.int .i64 0,.int .i64 0,(.slice none 0 0)]) 25 (0,0)) :: J38)
    refine DL.nil' hl13 ?_
    refine TT.settle (A:=[(some b11,.cells ((Tm.ce t7_0 t7_0_2)) 25 (0,0)),(some b2,.cells (#[.int .i64 t7_h]) 3 (0,0)),(some b1,.cells (#[.int .i64 0,.int .i64 0,(.slice none 0 0)]) 25 (0,0))]) (J:=J38) hE38 ?_
    intro I48 hE48 hxI48
    by_cases c49 : q34 = true
    ·
     have h50:=ite_true c49 h36
     refine TT.cond_true (x:=sub [1,1,1,0,1,0] B29) (y:=sub [1,1,1,0,1,1] B29) rfl c49 ?_
     refine TT.seq (x:=sub [1,1,1,0,1,0,0] B29) (y:=sub [1,1,1,0,1,0,1] B29) ?_
     refine TT.rg [0,1,2] [kp,(.store,none),kp] rfl rfl ?_
     refine DL.pu 33 (.agg #[.int .i64 0,.int .i64 0,(.slice none 0 0)]) rfl (p_build (vs:=[]) (fun w => by kernel_rfl) rfl rfl) ?_
     refine DL.put (H':=[(some b11,.cells ((Tm.ce t7_0 t7_0_2)) 25 (0,0)),(some b2,.cells (#[.int .i64 t7_h]) 3 (0,0)),(some b1,.cells (#[.int .i64 0,.int .i64 0,(.slice none 0 0)]) 25 (0,0))]) (i:=1) rfl (Wn.none rfl) rfl rfl (f_storeA (j:=2) ty_s25 rfl rfl rfl (one_cons trivial (one_cons trivial (one_cons (sl_one (RowS.sl (RowS.nil ShTm M38))) one_nil))) rfl rfl rfl) (keep_none rfl) ?_
     refine DL.pu 3 (.int .i64 4) rfl (p_assign rfl rfl) ?_
     refine DL.nil ?_
     simp only [Option.some.injEq,Prod.mk.injEq] at h50
     obtain ⟨rfl,rfl⟩:=h50
     exact retF (rs:=[.cell 2 25,.tmp 3]) (vs:=[.agg #[.int .i64 0,.int .i64 0,(.slice none 0 0)],.int .i64 4]) (.slice none 0 0) hE48 Tryd.func29 rfl rfl rfl (res_cons (ResV.cell (j:=2) ty_a25 ty_s25 rfl rfl rfl) (res_cons (ResV.tmp rfl) res_nil)) (RowS.nil ShTm M38)
    ·
     replace c49:=Bool.eq_false_iff.mpr c49
     have h51:=ite_false c49 h36
     refine TT.cond_false (x:=sub [1,1,1,0,1,0] B29) (y:=sub [1,1,1,0,1,1] B29) rfl c49 ?_
     refine TT.skip ?_
     refine TT.seq (x:=sub [1,1,1,1,0] B29) (y:=sub [1,1,1,1,1] B29) ?_
     refine TT.rg [0,1,2] [kq,(.store,none),kp] rfl rfl ?_
     refine DL.qu 34 (.agg (Tm.ce t7_0 t7_0_2)) rfl (f_loadA (j:=0) ty_a25 ty_s25 rfl rfl rfl rfl) ?_
     refine DL.put (H':=[(some b11,.cells ((Tm.ce t7_0 t7_0_2)) 25 (0,0)),(some b2,.cells (#[.int .i64 t7_h]) 3 (0,0)),(some b1,.cells ((Tm.ce t7_0 t7_0_2)) 25 (0,0))]) (i:=1) rfl (Wn.none rfl) rfl rfl (f_storeA (j:=2) ty_s25 rfl rfl rfl (one_cons trivial (one_cons trivial (one_cons (sl_one (RowS.sl (RowS.mono hr_t7_0_2 hx38))) one_nil))) rfl rfl rfl) (keep_none rfl) ?_
     refine DL.pu 3 (.int .i64 0) rfl (p_assign rfl rfl) ?_
     refine DL.nil ?_
     simp only [Option.some.injEq,Prod.mk.injEq] at h51
     obtain ⟨rfl,rfl⟩:=h51
     exact retF (rs:=[.cell 2 25,.tmp 3]) (vs:=[.agg (Tm.ce t7_0 t7_0_2),.int .i64 0]) t7_0_2 hE48 Tryd.func29 rfl rfl rfl (res_cons (ResV.cell (j:=2) ty_a25 ty_s25 rfl rfl rfl) (res_cons (ResV.tmp rfl) res_nil)) (RowS.mono hr_t7_0_2 hx38)
   ·
    by_cases c33 : q23 = true
    ·
     have h39:=ite_true c33 h35
     refine DL.not (i:=12) rfl (Wn.yes c33 rfl rfl rfl rfl) rfl rfl ?_
     refine DL.not (i:=15) rfl (Wn.yes c33 rfl rfl rfl rfl) rfl rfl ?_
     refine DL.not (i:=13) rfl (Wn.yes c33 rfl rfl rfl rfl) rfl rfl ?_
     refine DL.not (i:=14) rfl (Wn.yes c33 rfl rfl rfl rfl) rfl rfl ?_
     refine DL.not (i:=16) rfl (Wn.yes c33 rfl rfl rfl rfl) rfl rfl ?_
     refine DL.pu 32 (.bool true) rfl (p_pick_t c33 rfl rfl rfl) ?_
     obtain rfl:=Option.some.inj h39
     exact DL.weak (J37 _ _ hE12.nil (Ext.refl _)) (Sub.cons rfl (Sub.cons rfl (Sub.cons rfl (Sub.nil _))))
    ·
     replace c33:=Bool.eq_false_iff.mpr c33
     have h40:=ite_false c33 h35
     refine DL.look (v:=.agg (Tm.ce t7_0 t7_0_2)) (x:=0) (b:=b11) (i:=12) rfl (Wn.no c33 rfl rfl rfl rfl) rfl rfl rfl rfl rfl (List.mem_of_getElem? (i:=0) rfl) (b_loadA ty_a25 ty_s25 rfl rfl rfl) ?_
     refine DL.pure (v:=str a0) rfl (Wn.no c33 rfl rfl rfl rfl) rfl rfl rfl (p_move rfl rfl) ?_
     obtain ⟨_,h42,h43⟩:=bind_some h40
     refine DL.callF (G:=Nat) (u:=fun g => .map (some g)) (Q:=fun g M_ => (M_ g = some FormsO)) (A:=[(some b11,.cells ((Tm.ce t7_0 t7_0_2)) 25 (0,0)),(some b2,.cells (#[.int .i64 t7_h]) 3 (0,0)),(some b1,.cells (#[.int .i64 0,.int .i64 0,(.slice none 0 0)]) 25 (0,0))]) (J:=[]) (fun J44 => ((some b11,.cells ((Tm.ce t7_0 t7_0_2)) 25 (0,0)) :: (some b2,.cells (#[.int .i64 t7_h]) 3 (0,0)) :: (some b1,.cells (#[.int .i64 0,.int .i64 0,(.slice none 0 0)]) 25 (0,0)) :: J44)) hl13.2.2.2 hE12.nil (List.append_nil _).symm (fun _ => rfl) (by simp [kind_mk,num_mk]) (i:=13) rfl (Wn.no c33 rfl rfl rfl rfl) rfl rfl rfl rfl rfl rfl (args_val (vs:=[]) rfl) (fun w => enter40 _ w) (fun w hc hI => terms_forms.ok h42 (M:=M10) w hI ) ?_
     rintro t41_m M44 J44 hE44 hx44 hm_t41
     show DL _ _ _ _ _ _ _ _ _ _ _ _ ((some b11,.cells ((Tm.ce t7_0 t7_0_2)) 25 (0,0)) :: (some b2,.cells (#[.int .i64 t7_h]) 3 (0,0)) :: (some b1,.cells (#[.int .i64 0,.int .i64 0,(.slice none 0 0)]) 25 (0,0)) :: J44)
     obtain ⟨t45,h46,h47⟩:=bind_some h43
     refine DL.quiet (v:=str t45) rfl (Wn.no c33 rfl rfl rfl rfl) rfl rfl rfl (f_callR rfl rfl (args_val (vs:=[.agg (Tm.ce t7_0 t7_0_2),.map (some t41_m)]) rfl) (fun w => enter48 _ w) (fun w hc => terms_text.val h46 (M:=M44) w (hE44.extJ (A:=[(some b11,.cells ((Tm.ce t7_0 t7_0_2)) 25 (0,0)),(some b2,.cells (#[.int .i64 t7_h]) 3 (0,0)),(some b1,.cells (#[.int .i64 0,.int .i64 0,(.slice none 0 0)]) 25 (0,0))]) hc rfl) (Glob.mono hG.g ((hx6.trans hx10).trans hx44)) (RowS.mono hr_t7_0_2 hx44) hm_t41)) ?_
     refine DL.pure (v:=.bool (!(t45 == a0))) rfl (Wn.no c33 rfl rfl rfl rfl) rfl rfl rfl (p_strNe rfl rfl rfl) ?_
     refine DL.pu 32 (.bool (!(t45 == a0))) rfl (p_pick_f c33 rfl rfl rfl) ?_
     obtain rfl:=Option.some.inj h47
     exact DL.weak (J37 _ _ hE44 hx44) (Sub.cons rfl (Sub.cons rfl (Sub.cons rfl (Sub.nil _))))
  ·
   by_cases c27 : q15 = true
   ·
    have h28:=ite_true c27 h24
    refine DL.not (i:=7) rfl (Wn.yes c27 rfl rfl rfl rfl) rfl rfl ?_
    refine DL.not (i:=8) rfl (Wn.yes c27 rfl rfl rfl rfl) rfl rfl ?_
    refine DL.not (i:=9) rfl (Wn.yes c27 rfl rfl rfl rfl) rfl rfl ?_
    refine DL.pu 25 (.bool true) rfl (p_pick_t c27 rfl rfl rfl) ?_
    obtain rfl:=Option.some.inj h28
    exact DL.weak J26 (Sub.cons rfl (Sub.cons rfl (Sub.cons rfl (Sub.cons rfl (Sub.nil _)))))
   ·
    replace c27:=Bool.eq_false_iff.mpr c27
    have h29:=ite_false c27 h24
    refine DL.look (v:=.agg (Tm.ce t7_0 t7_0_2)) (x:=0) (b:=b11) (i:=7) rfl (Wn.no c27 rfl rfl rfl rfl) rfl rfl rfl rfl rfl (List.mem_of_getElem? (i:=0) rfl) (b_loadA ty_a25 ty_s25 rfl rfl rfl) ?_
    obtain ⟨t30,h31,h32⟩:=bind_some h29
    refine DL.quiet (v:=.bool t30) rfl (Wn.no c27 rfl rfl rfl rfl) rfl rfl rfl (f_callR rfl rfl (args_val (vs:=[.agg (Tm.ce t7_0 t7_0_2)]) rfl) (fun w => enter31 _ w) (fun w hc => terms_May.val h31 (M:=M10) w (hE12.ext hc) hr_t7_0_2)) ?_
    refine DL.pure (v:=.bool (!t30)) rfl (Wn.no c27 rfl rfl rfl rfl) rfl rfl rfl (p_not rfl rfl) ?_
    refine DL.pu 25 (.bool (!t30)) rfl (p_pick_f c27 rfl rfl rfl) ?_
    obtain rfl:=Option.some.inj h32
    exact DL.weak J26 (Sub.cons rfl (Sub.cons rfl (Sub.cons rfl (Sub.cons rfl (Sub.nil _)))))
 ·
  by_cases c19 : (!t7_2) = true
  ·
   have h20:=ite_true c19 h16
   refine DL.not (i:=3) rfl (Wn.yes c19 rfl rfl rfl rfl) rfl rfl ?_
   refine DL.not (i:=4) rfl (Wn.yes c19 rfl rfl rfl rfl) rfl rfl ?_
   refine DL.pu 20 (.bool true) rfl (p_pick_t c19 rfl rfl rfl) ?_
   obtain rfl:=Option.some.inj h20
   exact DL.weak J18 (Sub.cons rfl (Sub.cons rfl (Sub.cons rfl (Sub.cons rfl (Sub.nil _)))))
  ·
   replace c19:=Bool.eq_false_iff.mpr c19
   have h21:=ite_false c19 h16
   refine DL.pure (v:=str t7_1) rfl (Wn.no c19 rfl rfl rfl rfl) rfl rfl rfl (p_move rfl rfl) ?_
   refine DL.pure (v:=.bool (!(t7_1 == ([] : List UInt8)))) rfl (Wn.no c19 rfl rfl rfl rfl) rfl rfl rfl (p_strNe rfl rfl rfl) ?_
   refine DL.pu 20 (.bool (!(t7_1 == ([] : List UInt8)))) rfl (p_pick_f c19 rfl rfl rfl) ?_
   obtain rfl:=Option.some.inj h21
   exact DL.weak J18 (Sub.cons rfl (Sub.cons rfl (Sub.cons rfl (Sub.cons rfl (Sub.nil _)))))

end Go.Proofs.YtfbogkhgfaibbaaDoor
