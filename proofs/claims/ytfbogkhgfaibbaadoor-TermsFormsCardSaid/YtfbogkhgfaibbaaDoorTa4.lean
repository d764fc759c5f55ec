import Derived.Test.YtfbogkhgfaibbaaDoorTa3
namespace Go.Proofs.YtfbogkhgfaibbaaDoor
open Go Go.HW Go.RowKit
set_option linter.unusedVariables false
set_option linter.unusedSimpArgs false

/-! ### escutcheon/escutcheonlaw29.bare: function 18 -/
@[reducible] def ref29_made.Rec (r_ : Tm → (List Tm) → Option (Bool)) : Prop:=∀ {a0 : Tm} {a1 : List Tm} {a0_2 : Value} {a1_v : Value} {r : Bool},r_ a0 a1 = some r → ∀ {M : Mem} (w : World) (hM : Ext M (heapOf w)) (hr_a0_2 : RowS ShTm M a0_2 (Tree.kids a0)) (hr_a1 : RowS ShTm M a1_v a1),Calls Tryd.prog 45 #[.agg (Tm.ce a0 a0_2),a1_v] w (fun e w' => e = .returned (.bool r) ∧ Below w.heap.size w w')

/-! ### escutcheon/escutcheonref29.made: function 45 -/
/-! ### escutcheon/escutcheonref29.number: function 72 -/
noncomputable def B72 : Code:=bodyOf Tryd.f72
def ref29_number.L0 (a0 : List UInt8) : Nat → Int → Option (Int)
 | 0,_ => none
 | k + 1,x1_1 => (if (decide (x1_1 < (a0.length : Int))) = true then (req (0 ≤ x1_1) (req (x1_1 < (a0.length : Int)) (some (decide (48 ≤ (chr a0 x1_1.toNat)))))) else (some false)).bind fun q81 => (if q81 = true then (req (0 ≤ x1_1) (req (x1_1 < (a0.length : Int)) (some (decide ((chr a0 x1_1.toNat) ≤ 57))))) else (some false)).bind fun q93 => if q93 = true then (ref29_number.L0 a0 k (IntKind.i64.wrap (x1_1 + 1))) else (some x1_1)
set_option maxRecDepth 20000 in
theorem ref29_number.L0_ok (a0 : List UInt8) {R : Ending → World → Prop} {w0 : World} {M0 M I : Mem} {K : List Item} (hE : Env w0 M0 M I) :
  ∀ (k : Nat) (x1_1 : Int) (r0_ : Int) (h : ref29_number.L0 a0 k x1_1 = some r0_) (hk : TT Tryd.prog 72 R 24 w0 I K [(1,.int .i64 r0_)] []),
   TT Tryd.prog 72 R 24 w0 I (.code (sub [1,0,0,0] B72) :: .inLoop (sub [1,0,0,0] B72) :: .inBlock 0 :: K) [(0,str a0),(1,.int .i64 x1_1)] []:=by
 intro k
 induction k with
 | zero => intro x1_1 r0_ h; simp [ref29_number.L0] at h
 | succ k ih =>
  intro x1_1 r0_ h hk
  unfold ref29_number.L0 at h
  refine TT.seq (x:=sub [1,0,0,0,0] B72) (y:=sub [1,0,0,0,1] B72) ?_
  refine TT.seq (x:=sub [1,0,0,0,0,0] B72) (y:=sub [1,0,0,0,0,1] B72) ?_
  refine TT.rg [0,1,2,3,4,5,6,7,8,9,10,11,12,13,14,15] [kp,kp,kp,kp,kp,kp,kp,kp,kp,kp,kp,kp,kp,kp,kp,kp] rfl rfl ?_
  refine DL.mv 5 (.int .i64 x1_1) rfl rfl rfl ?_
  refine DL.mv 6 (str a0) rfl rfl rfl ?_
  refine DL.pu 7 (.int .i64 (a0.length : Int)) rfl (p_strLen ty_u9 rfl rfl) ?_
  refine DL.pu 8 (.bool (decide (x1_1 < (a0.length : Int)))) rfl (p_lss rfl rfl rfl) ?_
  refine DL.mv 9 (.bool (decide (x1_1 < (a0.length : Int)))) rfl rfl rfl ?_
  obtain ⟨q81,h82,h83⟩:=bind_some h
  refine DL.cut [(0,str a0),(1,.int .i64 x1_1),(14,.bool q81)] [10,11,12,13,14,15] ?_ (fun J84 => ?_)
  ·
   refine DL.mv 15 (.bool q81) rfl rfl rfl ?_
   obtain ⟨q93,h94,h95⟩:=bind_some h83
   refine DL.cut [(0,str a0),(1,.int .i64 x1_1),(20,.bool q93)] [] ?_ (fun J96 => ?_)
   ·
    refine DL.nil ?_
    by_cases c104 : q93 = true
    ·
     have h105:=ite_true c104 h95
     refine TT.cond_true (x:=sub [1,0,0,0,0,1,0] B72) (y:=sub [1,0,0,0,0,1,1] B72) rfl c104 ?_
     refine TT.skip ?_
     refine TT.block (c:=sub [1,0,0,0,1,0] B72) ?_
     refine TT.rg [0,1,2] [kp,kp,kp] rfl rfl ?_
     refine DL.mv 21 (.int .i64 x1_1) rfl rfl rfl ?_
     refine DL.pu 22 (.int .i64 (IntKind.i64.wrap (x1_1 + 1))) rfl (p_add rfl rfl rfl) ?_
     refine DL.pu 1 (.int .i64 (IntKind.i64.wrap (x1_1 + 1))) rfl (p_assign rfl rfl) ?_
     refine DL.nil ?_
     refine TT.inBlock ?_
     refine TT.inLoop ?_
     exact TT.weak (ih (IntKind.i64.wrap (x1_1 + 1)) r0_ h105 hk) (Sub.cons rfl (Sub.cons rfl (Sub.nil _)))
    ·
     replace c104:=Bool.eq_false_iff.mpr c104
     have h106:=ite_false c104 h95
     refine TT.cond_false (x:=sub [1,0,0,0,0,1,0] B72) (y:=sub [1,0,0,0,0,1,1] B72) rfl c104 ?_
     refine TT.exit rfl ?_
     obtain rfl:=Option.some.inj h106
     exact TT.weak (hk) (Sub.cons rfl (Sub.nil _))
   ·
    by_cases c97 : q81 = true
    ·
     have h98:=ite_true c97 h94
     refine DL.pure (v:=str a0) rfl (Wn.yes c97 rfl rfl rfl rfl) rfl rfl rfl (p_move rfl rfl) ?_
     refine DL.pure (v:=.int .i64 x1_1) rfl (Wn.yes c97 rfl rfl rfl rfl) rfl rfl rfl (p_move rfl rfl) ?_
     obtain ⟨g99,h100⟩:=req_some h98
     obtain ⟨g101,h102⟩:=req_some h100
     refine DL.pure (v:=.int .u8 (chr a0 x1_1.toNat)) rfl (Wn.yes c97 rfl rfl rfl rfl) rfl rfl rfl (p_strIndex ty_u9 g99 g101 rfl rfl rfl) ?_
     refine DL.pure (v:=.bool (decide ((chr a0 x1_1.toNat) ≤ 57))) rfl (Wn.yes c97 rfl rfl rfl rfl) rfl rfl rfl (p_leq rfl rfl rfl) ?_
     refine DL.pu 20 (.bool (decide ((chr a0 x1_1.toNat) ≤ 57))) rfl (p_pick_t c97 rfl rfl rfl) ?_
     obtain rfl:=Option.some.inj h102
     exact DL.weak J96 (Sub.cons rfl (Sub.cons rfl (Sub.cons rfl (Sub.nil _))))
    ·
     replace c97:=Bool.eq_false_iff.mpr c97
     have h103:=ite_false c97 h94
     refine DL.not (i:=11) rfl (Wn.no c97 rfl rfl rfl rfl) rfl rfl ?_
     refine DL.not (i:=12) rfl (Wn.no c97 rfl rfl rfl rfl) rfl rfl ?_
     refine DL.not (i:=13) rfl (Wn.no c97 rfl rfl rfl rfl) rfl rfl ?_
     refine DL.not (i:=14) rfl (Wn.no c97 rfl rfl rfl rfl) rfl rfl ?_
     refine DL.pu 20 (.bool false) rfl (p_pick_f c97 rfl rfl rfl) ?_
     obtain rfl:=Option.some.inj h103
     exact DL.weak J96 (Sub.cons rfl (Sub.cons rfl (Sub.cons rfl (Sub.nil _))))
  ·
   by_cases c85 : (decide (x1_1 < (a0.length : Int))) = true
   ·
    have h86:=ite_true c85 h82
    refine DL.pure (v:=str a0) rfl (Wn.yes c85 rfl rfl rfl rfl) rfl rfl rfl (p_move rfl rfl) ?_
    refine DL.pure (v:=.int .i64 x1_1) rfl (Wn.yes c85 rfl rfl rfl rfl) rfl rfl rfl (p_move rfl rfl) ?_
    obtain ⟨g87,h88⟩:=req_some h86
    obtain ⟨g89,h90⟩:=req_some h88
    refine DL.pure (v:=.int .u8 (chr a0 x1_1.toNat)) rfl (Wn.yes c85 rfl rfl rfl rfl) rfl rfl rfl (p_strIndex ty_u9 g87 g89 rfl rfl rfl) ?_
    refine DL.pure (v:=.bool (decide (48 ≤ (chr a0 x1_1.toNat)))) rfl (Wn.yes c85 rfl rfl rfl rfl) rfl rfl rfl (p_geq rfl rfl rfl) ?_
    refine DL.pu 14 (.bool (decide (48 ≤ (chr a0 x1_1.toNat)))) rfl (p_pick_t c85 rfl rfl rfl) ?_
    obtain rfl:=Option.some.inj h90
    exact DL.weak J84 (Sub.cons rfl (Sub.cons rfl (Sub.cons rfl (Sub.nil _))))
   ·
    replace c85:=Bool.eq_false_iff.mpr c85
    have h91:=ite_false c85 h82
    refine DL.not (i:=5) rfl (Wn.no c85 rfl rfl rfl rfl) rfl rfl ?_
    refine DL.not (i:=6) rfl (Wn.no c85 rfl rfl rfl rfl) rfl rfl ?_
    refine DL.not (i:=7) rfl (Wn.no c85 rfl rfl rfl rfl) rfl rfl ?_
    refine DL.not (i:=8) rfl (Wn.no c85 rfl rfl rfl rfl) rfl rfl ?_
    refine DL.pu 14 (.bool false) rfl (p_pick_f c85 rfl rfl rfl) ?_
    obtain rfl:=Option.some.inj h91
    exact DL.weak J84 (Sub.cons rfl (Sub.cons rfl (Sub.cons rfl (Sub.nil _))))

def ref29_number.f (a0 : List UInt8) (a1 : Int) : Option (Int):=(ref29_number.L0 a0 (((a0.length : Int) - a1).toNat + 1) a1).bind fun z1_79 => some z1_79
set_option maxRecDepth 20000 in
theorem ref29_number.ok {a0 : List UInt8} {a1 : Int} {r : Int} (h : ref29_number.f a0 a1 = some r) {M : Mem} (w : World) (hM : Ext M (heapOf w)) : Calls Tryd.prog 72 #[str a0,.int .i64 a1] w (Post (fun u => u = .int .i64 r) w):=by
 unfold ref29_number.f at h
 have hE:=Env.start hM
 refine calls_of_TT (N:=24) (S:=[(0,str a0),(1,.int .i64 a1)]) (c:=B72) Tryd.func72 rfl rfl rfl (by simp) ?_
 show TT _ _ _ _ _ _ [.code (sub [] B72)] _ _
 refine TT.seq (x:=sub [0] B72) (y:=sub [1] B72) ?_
 refine TT.rg [0] [kp] rfl rfl ?_
 refine DL.pu 4 (.int .i64 0) rfl (p_assign rfl rfl) ?_
 refine DL.nil ?_
 refine TT.seq (x:=sub [1,0] B72) (y:=sub [1,1] B72) ?_
 refine TT.block (c:=sub [1,0,0] B72) ?_
 refine TT.loop (c:=sub [1,0,0,0] B72) ?_
 obtain ⟨z1_79,h107,h108⟩:=bind_some h
 refine TT.weak (ref29_number.L0_ok a0 hE (((a0.length : Int) - a1).toNat + 1) a1 z1_79 h107 ( ?_)) (Sub.cons rfl (Sub.cons rfl (Sub.nil _)))
 refine TT.seq (x:=sub [1,1,0] B72) (y:=sub [1,1,1] B72) ?_
 refine TT.rg [0,1] [kp,kp] rfl rfl ?_
 refine DL.mv 23 (.int .i64 z1_79) rfl rfl rfl ?_
 refine DL.pu 4 (.int .i64 z1_79) rfl (p_assign rfl rfl) ?_
 refine DL.nil ?_
 obtain rfl:=Option.some.inj h108
 exact retnE (rs:=[.tmp 4]) (vs:=[.int .i64 z1_79]) hE.base Tryd.func72 rfl rfl rfl (res_cons (ResV.tmp rfl) res_nil) rfl
theorem ref29_number.val {a0 : List UInt8} {a1 : Int} {r : Int} (h : ref29_number.f a0 a1 = some r) {M : Mem} (w : World) (hM : Ext M (heapOf w)) : Calls Tryd.prog 72 #[str a0,.int .i64 a1] w fun e w' => e = .returned (.int .i64 r) ∧ Below w.heap.size w w' :=
 calls_value (ref29_number.ok h w hM)

/-! ### escutcheon/escutcheonref29.natural: function 73 -/
noncomputable def B73 : Code:=bodyOf Tryd.f73
def ref29_natural.L0 (a0 : List UInt8) (a1 : Int) : Nat → Int → Int → Option ((Int) ⊕ (Int × Bool))
 | 0,_,_ => none
 | k + 1,x6_22,x7_23 => if (decide (x7_23 < (a0.length : Int))) = true then (req (0 ≤ x7_23) (req (x7_23 < (a0.length : Int)) ((if (decide ((chr a0 x7_23.toNat) < 48)) = true then (some true) else (some (decide (57 < (chr a0 x7_23.toNat))))).bind fun q112 => if q112 = true then (some (.inr (0,false))) else (nm (IntKind.u64.wrap (IntKind.u8.wrap ((chr a0 x7_23.toNat) - 48))) fun t123 => nm (IntKind.u64.wrap (Int.tdiv (IntKind.u64.wrap (a1 - t123)) 10)) fun t126 => if (decide (t126 < x6_22)) = true then (some (.inr (0,false))) else (nm (IntKind.u64.wrap ((IntKind.u64.wrap (10 * x6_22)) + t123)) fun t133 => ref29_natural.L0 a0 a1 k t133 (IntKind.i64.wrap (x7_23 + 1))))))) else (some (.inl x6_22))
set_option maxRecDepth 20000 in
theorem ref29_natural.L0_ok (a0 : List UInt8) (a1 : Int) {r_0 : Int} {r_1 : Bool}  {w0 : World} {M0 M I : Mem} {K : List Item} (hE : Env w0 M0 M I) :
  ∀ (k : Nat) (x6_22 : Int) (x7_23 : Int) (q : (Int) ⊕ (Int × Bool)) (h : ref29_natural.L0 a0 a1 k x6_22 x7_23 = some q) (hk : match (generalizing:=false) q with | .inl r0_ => (TT Tryd.prog 73 (Post (fun u => u = .tuple #[.int .u64 r_0,.bool r_1]) w0) 53 w0 I K [(6,.int .u64 r0_)] []) | .inr (r_0q,r_1q) => (r_0q,r_1q) = (r_0,r_1)),
   TT Tryd.prog 73 (Post (fun u => u = .tuple #[.int .u64 r_0,.bool r_1]) w0) 53 w0 I (.code (sub [1,1,1,0,1,0,0] B73) :: .inLoop (sub [1,1,1,0,1,0,0] B73) :: .inBlock 0 :: K) [(0,str a0),(1,.int .u64 a1),(6,.int .u64 x6_22),(7,.int .i64 x7_23)] []:=by
 intro k
 induction k with
 | zero => intro x6_22 x7_23 q h; simp [ref29_natural.L0] at h
 | succ k ih =>
  intro x6_22 x7_23 q h hk
  unfold ref29_natural.L0 at h
  refine TT.seq (x:=sub [1,1,1,0,1,0,0,0] B73) (y:=sub [1,1,1,0,1,0,0,1] B73) ?_
  refine TT.seq (x:=sub [1,1,1,0,1,0,0,0,0] B73) (y:=sub [1,1,1,0,1,0,0,0,1] B73) ?_
  refine TT.rg [0,1,2,3] [kp,kp,kp,kp] rfl rfl ?_
  refine DL.mv 21 (.int .i64 x7_23) rfl rfl rfl ?_
  refine DL.mv 22 (str a0) rfl rfl rfl ?_
  refine DL.pu 23 (.int .i64 (a0.length : Int)) rfl (p_strLen ty_u9 rfl rfl) ?_
  refine DL.pu 24 (.bool (decide (x7_23 < (a0.length : Int)))) rfl (p_lss rfl rfl rfl) ?_
  refine DL.nil ?_
  by_cases c105 : (decide (x7_23 < (a0.length : Int))) = true
  ·
   have h106:=ite_true c105 h
   refine TT.cond_true (x:=sub [1,1,1,0,1,0,0,0,1,0] B73) (y:=sub [1,1,1,0,1,0,0,0,1,1] B73) rfl c105 ?_
   refine TT.skip ?_
   refine TT.seq (x:=sub [1,1,1,0,1,0,0,1,0] B73) (y:=sub [1,1,1,0,1,0,0,1,1] B73) ?_
   refine TT.block (c:=sub [1,1,1,0,1,0,0,1,0,0] B73) ?_
   refine TT.seq (x:=sub [1,1,1,0,1,0,0,1,0,0,0] B73) (y:=sub [1,1,1,0,1,0,0,1,0,0,1] B73) ?_
   refine TT.seq (x:=sub [1,1,1,0,1,0,0,1,0,0,0,0] B73) (y:=sub [1,1,1,0,1,0,0,1,0,0,0,1] B73) ?_
   refine TT.rg [0,1,2,3,4,5,6,7,8,9] [kp,kp,kp,kp,kp,kp,kp,kp,kp,kp] rfl rfl ?_
   refine DL.mv 27 (str a0) rfl rfl rfl ?_
   refine DL.mv 28 (.int .i64 x7_23) rfl rfl rfl ?_
   obtain ⟨g107,h108⟩:=req_some h106
   obtain ⟨g109,h110⟩:=req_some h108
   refine DL.pu 29 (.int .u8 (chr a0 x7_23.toNat)) rfl (p_strIndex ty_u9 g107 g109 rfl rfl rfl) ?_
   refine DL.pu 30 (.bool (decide ((chr a0 x7_23.toNat) < 48))) rfl (p_lss rfl rfl rfl) ?_
   refine DL.mv 31 (.bool (decide ((chr a0 x7_23.toNat) < 48))) rfl rfl rfl ?_
   obtain ⟨q112,h113,h114⟩:=bind_some h110
   refine DL.cut [(0,str a0),(1,.int .u64 a1),(6,.int .u64 x6_22),(7,.int .i64 x7_23),(36,.bool q112)] [] ?_ (fun J115 => ?_)
   ·
    refine DL.nil ?_
    by_cases c119 : q112 = true
    ·
     have h120:=ite_true c119 h114
     refine TT.cond_true (x:=sub [1,1,1,0,1,0,0,1,0,0,0,1,0] B73) (y:=sub [1,1,1,0,1,0,0,1,0,0,0,1,1] B73) rfl c119 ?_
     refine TT.seq (x:=sub [1,1,1,0,1,0,0,1,0,0,0,1,0,0] B73) (y:=sub [1,1,1,0,1,0,0,1,0,0,0,1,0,1] B73) ?_
     refine TT.rg [0,1] [kp,kp] rfl rfl ?_
     refine DL.pu 4 (.int .u64 0) rfl (p_assign rfl rfl) ?_
     refine DL.pu 5 (.bool false) rfl (p_assign rfl rfl) ?_
     refine DL.nil ?_
     obtain rfl:=Option.some.inj h120
     have k121 : (0,false) = (r_0,r_1):=hk
     simp only [Prod.mk.injEq] at k121
     obtain ⟨rfl,rfl⟩:=k121
     exact retnE (rs:=[.tmp 4,.tmp 5]) (vs:=[.int .u64 0,.bool false]) hE.base Tryd.func73 rfl rfl rfl (res_cons (ResV.tmp rfl) (res_cons (ResV.tmp rfl) res_nil)) rfl
    ·
     replace c119:=Bool.eq_false_iff.mpr c119
     have h122:=ite_false c119 h114
     refine TT.cond_false (x:=sub [1,1,1,0,1,0,0,1,0,0,0,1,0] B73) (y:=sub [1,1,1,0,1,0,0,1,0,0,0,1,1] B73) rfl c119 ?_
     refine TT.skip ?_
     refine TT.seq (x:=sub [1,1,1,0,1,0,0,1,0,0,1,0] B73) (y:=sub [1,1,1,0,1,0,0,1,0,0,1,1] B73) ?_
     refine TT.rg [0,1,2,3,4,5] [kp,kp,kp,kp,kp,kp] rfl rfl ?_
     refine DL.mv 37 (str a0) rfl rfl rfl ?_
     refine DL.mv 38 (.int .i64 x7_23) rfl rfl rfl ?_
     refine DL.pu 39 (.int .u8 (chr a0 x7_23.toNat)) rfl (p_strIndex ty_u9 g107 g109 rfl rfl rfl) ?_
     refine DL.pu 40 (.int .u8 (IntKind.u8.wrap ((chr a0 x7_23.toNat) - 48))) rfl (p_sub rfl rfl rfl) ?_
     obtain ⟨t123,e124,h125⟩:=nm_some h122
     refine DL.pu 41 (.int .u64 t123) rfl (by rw [e124]; exact p_conv ty_u5 ty_u99 ⟨_,rfl⟩ rfl rfl) ?_
     refine DL.pu 8 (.int .u64 t123) rfl (p_assign rfl rfl) ?_
     refine DL.nil ?_
     refine TT.seq (x:=sub [1,1,1,0,1,0,0,1,0,0,1,1,0] B73) (y:=sub [1,1,1,0,1,0,0,1,0,0,1,1,1] B73) ?_
     refine TT.seq (x:=sub [1,1,1,0,1,0,0,1,0,0,1,1,0,0] B73) (y:=sub [1,1,1,0,1,0,0,1,0,0,1,1,0,1] B73) ?_
     refine TT.rg [0,1,2,3,4,5] [kp,kp,kp,kp,kp,kp] rfl rfl ?_
     refine DL.mv 42 (.int .u64 x6_22) rfl rfl rfl ?_
     refine DL.mv 43 (.int .u64 a1) rfl rfl rfl ?_
     refine DL.mv 44 (.int .u64 t123) rfl rfl rfl ?_
     refine DL.pu 45 (.int .u64 (IntKind.u64.wrap (a1 - t123))) rfl (p_sub rfl rfl rfl) ?_
     obtain ⟨t126,e127,h128⟩:=nm_some h125
     refine DL.pu 46 (.int .u64 t126) rfl (by rw [e127]; exact p_quo (by decide) rfl rfl rfl) ?_
     refine DL.pu 47 (.bool (decide (t126 < x6_22))) rfl (p_gtr rfl rfl rfl) ?_
     refine DL.nil ?_
     by_cases c129 : (decide (t126 < x6_22)) = true
     ·
      have h130:=ite_true c129 h128
      refine TT.cond_true (x:=sub [1,1,1,0,1,0,0,1,0,0,1,1,0,1,0] B73) (y:=sub [1,1,1,0,1,0,0,1,0,0,1,1,0,1,1] B73) rfl c129 ?_
      refine TT.seq (x:=sub [1,1,1,0,1,0,0,1,0,0,1,1,0,1,0,0] B73) (y:=sub [1,1,1,0,1,0,0,1,0,0,1,1,0,1,0,1] B73) ?_
      refine TT.rg [0,1] [kp,kp] rfl rfl ?_
      refine DL.pu 4 (.int .u64 0) rfl (p_assign rfl rfl) ?_
      refine DL.pu 5 (.bool false) rfl (p_assign rfl rfl) ?_
      refine DL.nil ?_
      obtain rfl:=Option.some.inj h130
      have k131 : (0,false) = (r_0,r_1):=hk
      simp only [Prod.mk.injEq] at k131
      obtain ⟨rfl,rfl⟩:=k131
      exact retnE (rs:=[.tmp 4,.tmp 5]) (vs:=[.int .u64 0,.bool false]) hE.base Tryd.func73 rfl rfl rfl (res_cons (ResV.tmp rfl) (res_cons (ResV.tmp rfl) res_nil)) rfl
     ·
      replace c129:=Bool.eq_false_iff.mpr c129
      have h132:=ite_false c129 h128
      refine TT.cond_false (x:=sub [1,1,1,0,1,0,0,1,0,0,1,1,0,1,0] B73) (y:=sub [1,1,1,0,1,0,0,1,0,0,1,1,0,1,1] B73) rfl c129 ?_
      refine TT.skip ?_
      refine TT.rg [0,1,2,3,4] [kp,kp,kp,kp,kp] rfl rfl ?_
      refine DL.mv 48 (.int .u64 x6_22) rfl rfl rfl ?_
      refine DL.pu 49 (.int .u64 (IntKind.u64.wrap (10 * x6_22))) rfl (p_mul rfl rfl rfl) ?_
      refine DL.mv 50 (.int .u64 t123) rfl rfl rfl ?_
      obtain ⟨t133,e134,h135⟩:=nm_some h132
      refine DL.pu 51 (.int .u64 t133) rfl (by rw [e134]; exact p_add rfl rfl rfl) ?_
      refine DL.pu 6 (.int .u64 t133) rfl (p_assign rfl rfl) ?_
      refine DL.nil ?_
      refine TT.inBlock ?_
      refine TT.rg [0,1,2] [kp,kp,kp] rfl rfl ?_
      refine DL.mv 25 (.int .i64 x7_23) rfl rfl rfl ?_
      refine DL.pu 26 (.int .i64 (IntKind.i64.wrap (x7_23 + 1))) rfl (p_add rfl rfl rfl) ?_
      refine DL.pu 7 (.int .i64 (IntKind.i64.wrap (x7_23 + 1))) rfl (p_assign rfl rfl) ?_
      refine DL.nil ?_
      refine TT.inLoop ?_
      exact TT.weak (ih t133 (IntKind.i64.wrap (x7_23 + 1)) _ h135 hk) (Sub.cons rfl (Sub.cons rfl (Sub.cons rfl (Sub.cons rfl (Sub.nil _)))))
   ·
    by_cases c116 : (decide ((chr a0 x7_23.toNat) < 48)) = true
    ·
     have h117:=ite_true c116 h113
     refine DL.not (i:=5) rfl (Wn.yes c116 rfl rfl rfl rfl) rfl rfl ?_
     refine DL.not (i:=6) rfl (Wn.yes c116 rfl rfl rfl rfl) rfl rfl ?_
     refine DL.not (i:=7) rfl (Wn.yes c116 rfl rfl rfl rfl) rfl rfl ?_
     refine DL.not (i:=8) rfl (Wn.yes c116 rfl rfl rfl rfl) rfl rfl ?_
     refine DL.pu 36 (.bool true) rfl (p_pick_t c116 rfl rfl rfl) ?_
     obtain rfl:=Option.some.inj h117
     exact DL.weak J115 (Sub.cons rfl (Sub.cons rfl (Sub.cons rfl (Sub.cons rfl (Sub.cons rfl (Sub.nil _))))))
    ·
     replace c116:=Bool.eq_false_iff.mpr c116
     have h118:=ite_false c116 h113
     refine DL.pure (v:=str a0) rfl (Wn.no c116 rfl rfl rfl rfl) rfl rfl rfl (p_move rfl rfl) ?_
     refine DL.pure (v:=.int .i64 x7_23) rfl (Wn.no c116 rfl rfl rfl rfl) rfl rfl rfl (p_move rfl rfl) ?_
     refine DL.pure (v:=.int .u8 (chr a0 x7_23.toNat)) rfl (Wn.no c116 rfl rfl rfl rfl) rfl rfl rfl (p_strIndex ty_u9 g107 g109 rfl rfl rfl) ?_
     refine DL.pure (v:=.bool (decide (57 < (chr a0 x7_23.toNat)))) rfl (Wn.no c116 rfl rfl rfl rfl) rfl rfl rfl (p_gtr rfl rfl rfl) ?_
     refine DL.pu 36 (.bool (decide (57 < (chr a0 x7_23.toNat)))) rfl (p_pick_f c116 rfl rfl rfl) ?_
     obtain rfl:=Option.some.inj h118
     exact DL.weak J115 (Sub.cons rfl (Sub.cons rfl (Sub.cons rfl (Sub.cons rfl (Sub.cons rfl (Sub.nil _))))))
  ·
   replace c105:=Bool.eq_false_iff.mpr c105
   have h136:=ite_false c105 h
   refine TT.cond_false (x:=sub [1,1,1,0,1,0,0,0,1,0] B73) (y:=sub [1,1,1,0,1,0,0,0,1,1] B73) rfl c105 ?_
   refine TT.exit rfl ?_
   obtain rfl:=Option.some.inj h136
   exact TT.weak (hk) (Sub.cons rfl (Sub.nil _))

def ref29_natural.f (a0 : List UInt8) (a1 : Int) : Option (Int × Bool):=(if (a0 == ([] : List UInt8)) = true then (some true) else ((if (decide (1 < (a0.length : Int))) = true then (req ((0 : Int) < (a0.length : Int)) (some ((chr a0 (0 : Int).toNat) == 48))) else (some false)).bind fun q10 => some q10)).bind fun q2 => if q2 = true then (some (0,false)) else (onw (ref29_natural.L0 a0 a1 ((a0.length : Int).toNat + 1) 0 0) (fun z6_104 => some (z6_104,true)) (fun r => some r))
set_option maxRecDepth 20000 in
theorem ref29_natural.ok {a0 : List UInt8} {a1 : Int} {r_0 : Int} {r_1 : Bool} (h : ref29_natural.f a0 a1 = some (r_0,r_1)) {M : Mem} (w : World) (hM : Ext M (heapOf w)) : Calls Tryd.prog 73 #[str a0,.int .u64 a1] w (Post (fun u => u = .tuple #[.int .u64 r_0,.bool r_1]) w):=by
 unfold ref29_natural.f at h
 have hE:=Env.start hM
 refine calls_of_TT (N:=53) (S:=[(0,str a0),(1,.int .u64 a1)]) (c:=B73) Tryd.func73 rfl rfl rfl (by simp) ?_
 show TT _ _ _ _ _ _ [.code (sub [] B73)] _ _
 refine TT.seq (x:=sub [0] B73) (y:=sub [1] B73) ?_
 refine TT.rg [0,1] [kp,kp] rfl rfl ?_
 refine DL.pu 4 (.int .u64 0) rfl (p_assign rfl rfl) ?_
 refine DL.pu 5 (.bool false) rfl (p_assign rfl rfl) ?_
 refine DL.nil ?_
 refine TT.seq (x:=sub [1,0] B73) (y:=sub [1,1] B73) ?_
 refine TT.seq (x:=sub [1,0,0] B73) (y:=sub [1,0,1] B73) ?_
 refine TT.rg [0,1,2,3,4,5,6,7,8,9,10,11] [kp,kp,kp,kp,kp,kp,kp,kp,kp,kp,kp,kp] rfl rfl ?_
 refine DL.mv 9 (str a0) rfl rfl rfl ?_
 refine DL.pu 10 (.bool (a0 == ([] : List UInt8))) rfl (p_strEq rfl rfl rfl) ?_
 refine DL.mv 11 (.bool (a0 == ([] : List UInt8))) rfl rfl rfl ?_
 obtain ⟨q2,h3,h4⟩:=bind_some h
 refine DL.cut [(0,str a0),(1,.int .u64 a1),(20,.bool q2)] [] ?_ (fun J5 => ?_)
 ·
  refine DL.nil ?_
  by_cases c19 : q2 = true
  ·
   have h20:=ite_true c19 h4
   refine TT.cond_true (x:=sub [1,0,1,0] B73) (y:=sub [1,0,1,1] B73) rfl c19 ?_
   refine TT.seq (x:=sub [1,0,1,0,0] B73) (y:=sub [1,0,1,0,1] B73) ?_
   refine TT.rg [0,1] [kp,kp] rfl rfl ?_
   refine DL.pu 4 (.int .u64 0) rfl (p_assign rfl rfl) ?_
   refine DL.pu 5 (.bool false) rfl (p_assign rfl rfl) ?_
   refine DL.nil ?_
   simp only [Option.some.injEq,Prod.mk.injEq] at h20
   obtain ⟨rfl,rfl⟩:=h20
   exact retnE (rs:=[.tmp 4,.tmp 5]) (vs:=[.int .u64 0,.bool false]) hE.base Tryd.func73 rfl rfl rfl (res_cons (ResV.tmp rfl) (res_cons (ResV.tmp rfl) res_nil)) rfl
  ·
   replace c19:=Bool.eq_false_iff.mpr c19
   have h21:=ite_false c19 h4
   refine TT.cond_false (x:=sub [1,0,1,0] B73) (y:=sub [1,0,1,1] B73) rfl c19 ?_
   refine TT.skip ?_
   refine TT.seq (x:=sub [1,1,0] B73) (y:=sub [1,1,1] B73) ?_
   refine TT.rg [0] [kp] rfl rfl ?_
   refine DL.pu 6 (.int .u64 0) rfl (p_assign rfl rfl) ?_
   refine DL.nil ?_
   refine TT.seq (x:=sub [1,1,1,0] B73) (y:=sub [1,1,1,1] B73) ?_
   refine TT.seq (x:=sub [1,1,1,0,0] B73) (y:=sub [1,1,1,0,1] B73) ?_
   refine TT.rg [0] [kp] rfl rfl ?_
   refine DL.pu 7 (.int .i64 0) rfl (p_assign rfl rfl) ?_
   refine DL.nil ?_
   refine TT.block (c:=sub [1,1,1,0,1,0] B73) ?_
   refine TT.loop (c:=sub [1,1,1,0,1,0,0] B73) ?_
   rcases onw_some h21 with ⟨z6_104,h137,h138⟩ | ⟨⟨r140,r141⟩,h137,h138⟩
   ·
    refine TT.weak (ref29_natural.L0_ok a0 a1 hE ((a0.length : Int).toNat + 1) 0 0 (.inl z6_104) h137 (?_)) (Sub.cons rfl (Sub.cons rfl (Sub.cons rfl (Sub.cons rfl (Sub.nil _)))))
    show TT _ _ _ _ _ _ _ _ _
    refine TT.seq (x:=sub [1,1,1,1,0] B73) (y:=sub [1,1,1,1,1] B73) ?_
    refine TT.rg [0,1,2] [kp,kp,kp] rfl rfl ?_
    refine DL.mv 52 (.int .u64 z6_104) rfl rfl rfl ?_
    refine DL.pu 4 (.int .u64 z6_104) rfl (p_assign rfl rfl) ?_
    refine DL.pu 5 (.bool true) rfl (p_assign rfl rfl) ?_
    refine DL.nil ?_
    simp only [Option.some.injEq,Prod.mk.injEq] at h138
    obtain ⟨rfl,rfl⟩:=h138
    exact retnE (rs:=[.tmp 4,.tmp 5]) (vs:=[.int .u64 z6_104,.bool true]) hE.base Tryd.func73 rfl rfl rfl (res_cons (ResV.tmp rfl) (res_cons (ResV.tmp rfl) res_nil)) rfl
   ·
    simp only [Option.some.injEq,Prod.mk.injEq] at h138
    obtain ⟨rfl,rfl⟩:=h138
    exact TT.weak (ref29_natural.L0_ok a0 a1 hE ((a0.length : Int).toNat + 1) 0 0 (.inr (r140,r141)) h137 rfl) (Sub.cons rfl (Sub.cons rfl (Sub.cons rfl (Sub.cons rfl (Sub.nil _)))))
 ·
  by_cases c6 : (a0 == ([] : List UInt8)) = true
  ·
   have h7:=ite_true c6 h3
   refine DL.not (i:=3) rfl (Wn.yes c6 rfl rfl rfl rfl) rfl rfl ?_
   refine DL.not (i:=4) rfl (Wn.yes c6 rfl rfl rfl rfl) rfl rfl ?_
   refine DL.not (i:=5) rfl (Wn.yes c6 rfl rfl rfl rfl) rfl rfl ?_
   refine DL.not (i:=6) rfl (Wn.yes c6 rfl rfl rfl rfl) rfl rfl ?_
   refine DL.not (i:=7) rfl (Wn.undef rfl rfl rfl) rfl rfl ?_
   refine DL.not (i:=8) rfl (Wn.undef rfl rfl rfl) rfl rfl ?_
   refine DL.not (i:=9) rfl (Wn.undef rfl rfl rfl) rfl rfl ?_
   refine DL.not (i:=10) rfl (Wn.yes c6 rfl rfl rfl rfl) rfl rfl ?_
   refine DL.pu 20 (.bool true) rfl (p_pick_t c6 rfl rfl rfl) ?_
   obtain rfl:=Option.some.inj h7
   exact DL.weak J5 (Sub.cons rfl (Sub.cons rfl (Sub.cons rfl (Sub.nil _))))
  ·
   replace c6:=Bool.eq_false_iff.mpr c6
   have h8:=ite_false c6 h3
   refine DL.pure (v:=str a0) rfl (Wn.no c6 rfl rfl rfl rfl) rfl rfl rfl (p_move rfl rfl) ?_
   refine DL.pure (v:=.int .i64 (a0.length : Int)) rfl (Wn.no c6 rfl rfl rfl rfl) rfl rfl rfl (p_strLen ty_u9 rfl rfl) ?_
   refine DL.pure (v:=.bool (decide (1 < (a0.length : Int)))) rfl (Wn.no c6 rfl rfl rfl rfl) rfl rfl rfl (p_gtr rfl rfl rfl) ?_
   refine DL.pure (v:=.bool (decide (1 < (a0.length : Int)))) rfl (Wn.no c6 rfl rfl rfl rfl) rfl rfl rfl (p_move rfl rfl) ?_
   obtain ⟨q10,h11,h12⟩:=bind_some h8
   refine DL.cut [(0,str a0),(1,.int .u64 a1),(11,.bool (a0 == ([] : List UInt8))),(19,.bool q10)] [11] ?_ (fun J13 => ?_)
   ·
    refine DL.pu 20 (.bool q10) rfl (p_pick_f c6 rfl rfl rfl) ?_
    obtain rfl:=Option.some.inj h12
    exact DL.weak J5 (Sub.cons rfl (Sub.cons rfl (Sub.cons rfl (Sub.nil _))))
   ·
    by_cases c14 : (decide (1 < (a0.length : Int))) = true
    ·
     have h15:=ite_true c14 h11
     refine DL.pure (v:=str a0) rfl (Wn.yes c14 rfl rfl rfl rfl) rfl rfl rfl (p_move rfl rfl) ?_
     obtain ⟨g16,h17⟩:=req_some h15
     refine DL.pure (v:=.int .u8 (chr a0 (0 : Int).toNat)) rfl (Wn.yes c14 rfl rfl rfl rfl) rfl rfl rfl (p_strIndex ty_u9 (by decide) g16 rfl rfl rfl) ?_
     refine DL.pure (v:=.bool ((chr a0 (0 : Int).toNat) == 48)) rfl (Wn.yes c14 rfl rfl rfl rfl) rfl rfl rfl (p_eql rfl rfl rfl) ?_
     refine DL.pure (v:=.bool ((chr a0 (0 : Int).toNat) == 48)) rfl (Wn.no c6 rfl rfl rfl rfl) rfl rfl rfl (p_pick_t c14 rfl rfl rfl) ?_
     obtain rfl:=Option.some.inj h17
     exact DL.weak J13 (Sub.cons rfl (Sub.cons rfl (Sub.cons rfl (Sub.cons rfl (Sub.nil _)))))
    ·
     replace c14:=Bool.eq_false_iff.mpr c14
     have h18:=ite_false c14 h11
     refine DL.not (i:=7) rfl (Wn.no c14 rfl rfl rfl rfl) rfl rfl ?_
     refine DL.not (i:=8) rfl (Wn.no c14 rfl rfl rfl rfl) rfl rfl ?_
     refine DL.not (i:=9) rfl (Wn.no c14 rfl rfl rfl rfl) rfl rfl ?_
     refine DL.pure (v:=.bool false) rfl (Wn.no c6 rfl rfl rfl rfl) rfl rfl rfl (p_pick_f c14 rfl rfl rfl) ?_
     obtain rfl:=Option.some.inj h18
     exact DL.weak J13 (Sub.cons rfl (Sub.cons rfl (Sub.cons rfl (Sub.cons rfl (Sub.nil _)))))
theorem ref29_natural.val {a0 : List UInt8} {a1 : Int} {r_0 : Int} {r_1 : Bool} (h : ref29_natural.f a0 a1 = some (r_0,r_1)) {M : Mem} (w : World) (hM : Ext M (heapOf w)) : Calls Tryd.prog 73 #[str a0,.int .u64 a1] w fun e w' => e = .returned (.tuple #[.int .u64 r_0,.bool r_1]) ∧ Below w.heap.size w w' :=
 calls_value (ref29_natural.ok h w hM)

/-! ### escutcheon/escutcheonref29.names: function 46 -/
noncomputable def B46 : Code:=bodyOf Tryd.f46
def ref29_names.f : Option ((List (List UInt8))):=some ([([] : List UInt8),[100],[115],[112,117,98,108,105,99],[115,101,97,108],[115,105,103,110],[109,97,99],[112,97,105,114],[115,104,97,114,101,100],[104,97,115,104]] : List (List UInt8))
set_option maxRecDepth 20000 in
theorem ref29_names.ok {r : List (List UInt8)} (h : ref29_names.f = some r) {M : Mem} (w : World) (hM : Ext M (heapOf w)) : Calls Tryd.prog 46 #[] w (PostF (G:=Value) (fun g => g) (fun g M_ => (RowS Sh.str M_ g r)) M w):=by
 unfold ref29_names.f at h
 have hE:=Env.start hM
 refine calls_of_TT (N:=2) (S:=[]) (c:=B46) Tryd.func46 rfl rfl rfl (by simp) ?_
 show TT _ _ _ _ _ _ [.code (sub [] B46)] _ _
 refine TT.seq (x:=sub [0] B46) (y:=sub [1] B46) ?_
 refine TT.rg [0] [kp] rfl rfl ?_
 refine DL.pu 0 (.slice none 0 0) rfl (p_assign rfl rfl) ?_
 refine DL.nil ?_
 refine TT.seq (x:=sub [1,0] B46) (y:=sub [1,1] B46) ?_
 refine TT.rg [0,1] [(.alloc,none),kp] rfl rfl ?_
 refine DL.newS (M:=M) (s:=Sh.str) (zs:=([([] : List UInt8),[100],[115],[112,117,98,108,105,99],[115,101,97,108],[115,105,103,110],[109,97,99],[112,97,105,114],[115,104,97,114,101,100],[104,97,115,104]] : List (List UInt8))) (cells:=[str ([] : List UInt8),str [100],str [115],str [112,117,98,108,105,99],str [115,101,97,108],str [115,105,103,110],str [109,97,99],str [112,97,105,114],str [115,104,97,114,101,100],str [104,97,115,104]]) (n:=10) rfl (by decide) rfl (fun i x hx => by match i,hx with | 0,hx => cases hx; exact rfl | 1,hx => cases hx; exact rfl | 2,hx => cases hx; exact rfl | 3,hx => cases hx; exact rfl | 4,hx => cases hx; exact rfl | 5,hx => cases hx; exact rfl | 6,hx => cases hx; exact rfl | 7,hx => cases hx; exact rfl | 8,hx => cases hx; exact rfl | 9,hx => cases hx; exact rfl | k + 10,hx => simp at hx) (i:=0) rfl (Wn.none rfl) rfl rfl rfl (f_buildS (n:=10) (vs:=[(0,str ([] : List UInt8)),(1,str [100]),(2,str [115]),(3,str [112,117,98,108,105,99]),(4,str [115,101,97,108]),(5,str [115,105,103,110]),(6,str [109,97,99]),(7,str [112,97,105,114]),(8,str [115,104,97,114,101,100]),(9,str [104,97,115,104])]) elem64 rfl rfl (by kernel_rfl) rfl (args_val2 rfl)) ?_
 intro s2_v s2_c ho_s2
 refine DL.pu 0 (s2_v) rfl (p_assign rfl rfl) ?_
 refine DL.nil ?_
 refine TT.freezeAt (j:=0) hE rfl ?_
 intro M3 I3 hE3 hx3 hxI3 hb3
 have hr_3 : RowS Sh.str M3 s2_v ([([] : List UInt8),[100],[115],[112,117,98,108,105,99],[115,101,97,108],[115,105,103,110],[109,97,99],[112,97,105,114],[115,104,97,114,101,100],[104,97,115,104]] : List (List UInt8)):=OwnS.stays ho_s2 hx3 hb3
 show TT _ _ _ _ _ _ _ _ []
 obtain rfl:=Option.some.inj h
 exact retF (rs:=[.tmp 0]) (vs:=[s2_v]) s2_v hE3 Tryd.func46 rfl rfl rfl (res_cons (ResV.tmp rfl) res_nil) hr_3

@[reducible] def ref29_Text.Rec (r_ : Tm → Option ((List UInt8))) : Prop:=∀ {a0 : Tm} {a0_2 : Value} {r : List UInt8},r_ a0 = some r → ∀ {M : Mem} (w : World) (hM : Ext M (heapOf w)) (hG : Glob M) (hr_a0_2 : RowS ShTm M a0_2 (Tree.kids a0)),Calls Tryd.prog 27 #[.agg (Tm.ce a0 a0_2)] w (fun e w' => e = .returned (str r) ∧ Below w.heap.size w w')

/-! ### escutcheon/escutcheonref29.Text: function 27 -/
noncomputable def B27 : Code:=bodyOf Tryd.f27
def ref29_Text.L0 (r_ref29_Text : Tm → Option ((List UInt8))) (a0 : Tm) : Nat → (List UInt8) → Int → Option (List UInt8)
 | 0,_,_ => none
 | k + 1,x3_24,x4_25 => if (decide (x4_25 < ((Tree.kids a0).length : Int))) = true then ((if (x4_25 == 0) = true then (req (x3_24.length + [40].length ≤ 1099511627776) (some (x3_24 ++ [40]))) else (req (x3_24.length + [44].length ≤ 1099511627776) (some (x3_24 ++ [44])))).bind fun j3_108 => req (0 ≤ x4_25) (req (x4_25 < ((Tree.kids a0).length : Int)) (nm ((Tree.kids a0).getD x4_25.toNat Tm.dflt) fun t124 => (r_ref29_Text t124).bind fun t127 => req (j3_108.length + t127.length ≤ 1099511627776) (ref29_Text.L0 r_ref29_Text a0 k (j3_108 ++ t127) (IntKind.i64.wrap (x4_25 + 1)))))) else (some x3_24)
set_option maxRecDepth 20000 in
theorem ref29_Text.L0_ok {r_ref29_Text : Tm → Option ((List UInt8))} (hr_ref29_Text : ref29_Text.Rec r_ref29_Text) (a0 : Tm) (a0_2 : Value) (b1 : Nat) {R : Ending → World → Prop} {w0 : World} {M0 M I : Mem} {K : List Item} (hE : Env w0 M0 M I) (hG : Glob M) (hr_a0_2 : RowS ShTm M a0_2 (Tree.kids a0)) :
  ∀ (k : Nat) (x3_24 : List UInt8) (x4_25 : Int) (r0_ : List UInt8) (h : ref29_Text.L0 r_ref29_Text a0 k x3_24 x4_25 = some r0_) (hk : TT Tryd.prog 27 R 41 w0 I K [(3,str r0_)] [(some b1,.cells ((Tm.ce a0 a0_2)) 25 (0,0))]),
   TT Tryd.prog 27 R 41 w0 I (.code (sub [1,1,1,0,1,0,0] B27) :: .inLoop (sub [1,1,1,0,1,0,0] B27) :: .inBlock 0 :: K) [(1,ptr b1 0),(3,str x3_24),(4,.int .i64 x4_25)] [(some b1,.cells ((Tm.ce a0 a0_2)) 25 (0,0))]:=by
 intro k
 induction k with
 | zero => intro x3_24 x4_25 r0_ h; simp [ref29_Text.L0] at h
 | succ k ih =>
  intro x3_24 x4_25 r0_ h hk
  unfold ref29_Text.L0 at h
  refine TT.seq (x:=sub [1,1,1,0,1,0,0,0] B27) (y:=sub [1,1,1,0,1,0,0,1] B27) ?_
  refine TT.seq (x:=sub [1,1,1,0,1,0,0,0,0] B27) (y:=sub [1,1,1,0,1,0,0,0,1] B27) ?_
  refine TT.rg [0,1,2,3,4] [kp,kp,kq,kp,kp] rfl rfl ?_
  refine DL.mv 18 (.int .i64 x4_25) rfl rfl rfl ?_
  refine DL.pu 19 (ptr b1 2) rfl (p_fieldAddr ty_f25_2 rfl rfl) ?_
  refine DL.qu 20 (a0_2) rfl (f_load (j:=0) ty_a22 rfl rfl rfl rfl) ?_
  refine DL.pu 21 (.int .i64 ((Tree.kids a0).length : Int)) rfl (p_slLen ty_u22 (RowS.sl hr_a0_2) rfl rfl) ?_
  refine DL.pu 22 (.bool (decide (x4_25 < ((Tree.kids a0).length : Int)))) rfl (p_lss rfl rfl rfl) ?_
  refine DL.nil ?_
  by_cases c105 : (decide (x4_25 < ((Tree.kids a0).length : Int))) = true
  ·
   have h106:=ite_true c105 h
   refine TT.cond_true (x:=sub [1,1,1,0,1,0,0,0,1,0] B27) (y:=sub [1,1,1,0,1,0,0,0,1,1] B27) rfl c105 ?_
   refine TT.skip ?_
   refine TT.seq (x:=sub [1,1,1,0,1,0,0,1,0] B27) (y:=sub [1,1,1,0,1,0,0,1,1] B27) ?_
   refine TT.block (c:=sub [1,1,1,0,1,0,0,1,0,0] B27) ?_
   refine TT.seq (x:=sub [1,1,1,0,1,0,0,1,0,0,0] B27) (y:=sub [1,1,1,0,1,0,0,1,0,0,1] B27) ?_
   refine TT.seq (x:=sub [1,1,1,0,1,0,0,1,0,0,0,0] B27) (y:=sub [1,1,1,0,1,0,0,1,0,0,0,1] B27) ?_
   refine TT.rg [0,1] [kp,kp] rfl rfl ?_
   refine DL.mv 25 (.int .i64 x4_25) rfl rfl rfl ?_
   refine DL.pu 26 (.bool (x4_25 == 0)) rfl (p_eql rfl rfl rfl) ?_
   refine DL.nil ?_
   obtain ⟨j3_108,h109,h110⟩:=bind_some h106
   have J111 : TT Tryd.prog 27 R 41 w0 I (.code (sub [1,1,1,0,1,0,0,1,0,0,1] B27) :: .inBlock 1 :: .code (sub [1,1,1,0,1,0,0,1,1] B27) :: .inLoop (sub [1,1,1,0,1,0,0] B27) :: .inBlock 0 :: K) [(1,ptr b1 0),(3,str j3_108),(4,.int .i64 x4_25)] [(some b1,.cells ((Tm.ce a0 a0_2)) 25 (0,0))]:=by
    refine TT.rg [0,1,2,3,4,5,6,7,8] [kp,kp,kq,kp,kp,kp,kq,kp,kp] rfl rfl ?_
    refine DL.mv 31 (str j3_108) rfl rfl rfl ?_
    refine DL.pu 32 (ptr b1 2) rfl (p_fieldAddr ty_f25_2 rfl rfl) ?_
    refine DL.qu 33 (a0_2) rfl (f_load (j:=0) ty_a22 rfl rfl rfl rfl) ?_
    refine DL.mv 34 (.int .i64 x4_25) rfl rfl rfl ?_
    obtain ⟨g119,h120⟩:=req_some h110
    obtain ⟨g121,h122⟩:=req_some h120
    refine DL.pu 35 (elp a0_2 (x4_25.toNat * 3)) rfl (p_slIx ty_u22 ty_s25 (RowS.some hr_a0_2 g119 g121) g119 g121 rfl rfl rfl) ?_
    obtain ⟨t124,e125,h126⟩:=nm_some h122
    obtain ⟨cs123,hc123,hl123⟩:=id (hr_a0_2)
    have q123:=hl123 _ _ (getD_some Tm.dflt (lt_len g119 g121)); rw [← e125] at q123
    obtain ⟨t124_2,hq123,hr_t124_2⟩:=Tm.op q123
    refine DL.imm (v:=.agg (Tm.ce t124 t124_2)) rfl (Wn.none rfl) rfl rfl rfl (i_loadElA (RowV.mono hc123 hE.mi) hq123 (lt_len g119 g121) ty_a25 ty_s25 rfl rfl) ?_
    obtain ⟨t127,h128,h129⟩:=bind_some h126
    refine DL.qu 37 (str t127) rfl (f_callR rfl rfl (args_val (vs:=[.agg (Tm.ce t124 t124_2)]) rfl) (fun w => enter27 _ w) (fun w hc => hr_ref29_Text h128 (M:=M) w (hE.ext hc) hG hr_t124_2)) ?_
    obtain ⟨g130,h131⟩:=req_some h129
    refine DL.pu 38 (str (j3_108 ++ t127)) rfl (p_strAdd g130 rfl rfl rfl) ?_
    refine DL.pu 3 (str (j3_108 ++ t127)) rfl (p_assign rfl rfl) ?_
    refine DL.nil ?_
    refine TT.inBlock ?_
    refine TT.rg [0,1,2] [kp,kp,kp] rfl rfl ?_
    refine DL.mv 23 (.int .i64 x4_25) rfl rfl rfl ?_
    refine DL.pu 24 (.int .i64 (IntKind.i64.wrap (x4_25 + 1))) rfl (p_add rfl rfl rfl) ?_
    refine DL.pu 4 (.int .i64 (IntKind.i64.wrap (x4_25 + 1))) rfl (p_assign rfl rfl) ?_
    refine DL.nil ?_
    refine TT.inLoop ?_
    exact TT.weak (ih (j3_108 ++ t127) (IntKind.i64.wrap (x4_25 + 1)) r0_ h131 hk) (Sub.cons rfl (Sub.cons rfl (Sub.cons rfl (Sub.nil _))))
   by_cases c107 : (x4_25 == 0) = true
   ·
    have h113:=ite_true c107 h109
    refine TT.cond_true (x:=sub [1,1,1,0,1,0,0,1,0,0,0,1,0] B27) (y:=sub [1,1,1,0,1,0,0,1,0,0,0,1,1] B27) rfl c107 ?_
    refine TT.rg [0,1,2] [kp,kp,kp] rfl rfl ?_
    refine DL.mv 27 (str x3_24) rfl rfl rfl ?_
    obtain ⟨g114,h115⟩:=req_some h113
    refine DL.pu 28 (str (x3_24 ++ [40])) rfl (p_strAdd g114 rfl rfl rfl) ?_
    refine DL.pu 3 (str (x3_24 ++ [40])) rfl (p_assign rfl rfl) ?_
    refine DL.nil ?_
    obtain rfl:=Option.some.inj h115
    exact TT.weak (J111 ) (Sub.cons rfl (Sub.cons rfl (Sub.cons rfl (Sub.nil _))))
   ·
    replace c107:=Bool.eq_false_iff.mpr c107
    have h116:=ite_false c107 h109
    refine TT.cond_false (x:=sub [1,1,1,0,1,0,0,1,0,0,0,1,0] B27) (y:=sub [1,1,1,0,1,0,0,1,0,0,0,1,1] B27) rfl c107 ?_
    refine TT.rg [0,1,2] [kp,kp,kp] rfl rfl ?_
    refine DL.mv 29 (str x3_24) rfl rfl rfl ?_
    obtain ⟨g117,h118⟩:=req_some h116
    refine DL.pu 30 (str (x3_24 ++ [44])) rfl (p_strAdd g117 rfl rfl rfl) ?_
    refine DL.pu 3 (str (x3_24 ++ [44])) rfl (p_assign rfl rfl) ?_
    refine DL.nil ?_
    obtain rfl:=Option.some.inj h118
    exact TT.weak (J111 ) (Sub.cons rfl (Sub.cons rfl (Sub.cons rfl (Sub.nil _))))
  ·
   replace c105:=Bool.eq_false_iff.mpr c105
   have h132:=ite_false c105 h
   refine TT.cond_false (x:=sub [1,1,1,0,1,0,0,0,1,0] B27) (y:=sub [1,1,1,0,1,0,0,0,1,1] B27) rfl c105 ?_
   refine TT.exit rfl ?_
   obtain rfl:=Option.some.inj h132
   exact TT.weak (hk) (Sub.cons rfl (Sub.nil _))

def ref29_Text.F (r_ref29_Text : Tm → Option ((List UInt8))) (a0 : Tm) : Option ((List UInt8)):=(ref29_names.f).bind fun t3 => req (0 ≤ (Tm.kind a0)) (req ((Tm.kind a0) < (t3.length : Int)) (if (decide ((Tm.kind a0) ≤ 2)) = true then (req (-9223372036854775808 ≤ (Tm.num a0)) (req ((Tm.num a0) ≤ 9223372036854775807) (nm (Lib.itoa (Tm.num a0)) fun t18 => req ((t3.getD ((Tm.kind a0).toNat) []).length + t18.length ≤ 1099511627776) (some ((t3.getD ((Tm.kind a0).toNat) []) ++ t18))))) else ((ref29_Text.L0 r_ref29_Text a0 (((Tree.kids a0).length : Int).toNat + 1) (t3.getD ((Tm.kind a0).toNat) []) 0).bind fun z3_104 => req (z3_104.length + [41].length ≤ 1099511627776) (some (z3_104 ++ [41])))))
set_option maxRecDepth 20000 in
theorem ref29_Text.okF {r_ref29_Text : Tm → Option ((List UInt8))} (hr_ref29_Text : ref29_Text.Rec r_ref29_Text) {a0 : Tm} {a0_2 : Value} {r : List UInt8} (h : ref29_Text.F r_ref29_Text a0 = some r) {M : Mem} (w : World) (hM : Ext M (heapOf w)) (hG : Glob M) (hr_a0_2 : RowS ShTm M a0_2 (Tree.kids a0)) : Calls Tryd.prog 27 #[.agg (Tm.ce a0 a0_2)] w (Post (fun u => u = str r) w):=by
 unfold ref29_Text.F at h
 have hE:=Env.start hM
 refine calls_of_TT (N:=41) (S:=[(0,.agg (Tm.ce a0 a0_2))]) (c:=B27) Tryd.func27 rfl rfl rfl (by simp) ?_
 show TT _ _ _ _ _ _ [.code (sub [] B27)] _ _
 refine TT.seq (x:=sub [0] B27) (y:=sub [1] B27) ?_
 refine TT.rg [0,1] [(.alloc,none),kp] rfl rfl ?_
 refine DL.new (ob:=.cells ((Tm.ce a0 a0_2)) 25) (mk:=fun b => ptr b 0) (i:=0) rfl (Wn.none rfl) rfl rfl rfl (f_box (v:=.agg (Tm.ce a0 a0_2)) rfl rfl) ?_
 intro b1 hb1
 refine DL.pu 2 (str ([] : List UInt8)) rfl (p_assign rfl rfl) ?_
 refine DL.nil ?_
 refine TT.seq (x:=sub [1,0] B27) (y:=sub [1,1] B27) ?_
 refine TT.rgD [1,2,0,3,4,5] [0,0,2,7,15,31] [kk,kp,(.look,some 0),kp,kq,kp] rfl mixed (by kernel_rfl) ?_
 intro w2 hl2 hj2 hz2
 refine DL.pu 6 (ptr b1 0) rfl (p_fieldAddr ty_f25_0 rfl rfl) ?_
 refine DL.look (v:=.int .i64 (Tm.kind a0)) (x:=0) (b:=b1) (i:=2) rfl (Wn.none rfl) rfl rfl rfl rfl rfl (List.mem_of_getElem? (i:=0) rfl) (b_load ty_a23 rfl rfl rfl) ?_
 obtain ⟨t3,h4,h5⟩:=bind_some h
 refine DL.callF (G:=Value) (u:=fun g => g) (Q:=fun g M_ => (RowS Sh.str M_ g t3)) (A:=[(some b1,.cells ((Tm.ce a0 a0_2)) 25 (0,0))]) (J:=[]) (fun J6 => ((some b1,.cells ((Tm.ce a0 a0_2)) 25 (0,0)) :: J6)) hl2.2.2.2 hE.nil (List.append_nil _).symm (fun _ => rfl) (by simp) (i:=0) rfl (Wn.none rfl) rfl rfl rfl rfl rfl rfl (args_val (vs:=[]) rfl) (fun w => enter46 _ w) (fun w hc hI => ref29_names.ok h4 (M:=M) w hI ) ?_
 rintro t3_v M6 J6 hE6 hx6 hr_t3
 show DL _ _ _ _ _ _ _ _ _ _ _ _ ((some b1,.cells ((Tm.ce a0 a0_2)) 25 (0,0)) :: J6)
 obtain ⟨g7,h8⟩:=req_some h5
 obtain ⟨g9,h10⟩:=req_some h8
 refine DL.pu 8 (elp t3_v ((Tm.kind a0).toNat)) rfl (p_slIx1 ty_u64 ty_s9 (RowS.some hr_t3 g7 g9) g7 g9 rfl rfl rfl) ?_
 refine DL.qu 9 (str (t3.getD ((Tm.kind a0).toNat) [])) rfl (q_loadEl (fun w hc => hE6.immJ (A:=[(some b1,.cells ((Tm.ce a0 a0_2)) 25 (0,0))]) hc rfl) (RowS.strs hr_t3) (strs_get (lt_len g7 g9)) ty_a9 rfl rfl) ?_
 refine DL.pu 3 (str (t3.getD ((Tm.kind a0).toNat) [])) rfl (p_assign rfl rfl) ?_
 refine DL.nil' hl2 ?_
 refine TT.settle (A:=[(some b1,.cells ((Tm.ce a0 a0_2)) 25 (0,0))]) (J:=J6) hE6 ?_
 intro I11 hE11 hxI11
 refine TT.seq (x:=sub [1,1,0] B27) (y:=sub [1,1,1] B27) ?_
 refine TT.seq (x:=sub [1,1,0,0] B27) (y:=sub [1,1,0,1] B27) ?_
 refine TT.rg [0,1,2] [kp,kq,kp] rfl rfl ?_
 refine DL.pu 10 (ptr b1 0) rfl (p_fieldAddr ty_f25_0 rfl rfl) ?_
 refine DL.qu 11 (.int .i64 (Tm.kind a0)) rfl (f_load (j:=0) ty_a23 rfl rfl rfl rfl) ?_
 refine DL.pu 12 (.bool (decide ((Tm.kind a0) ≤ 2))) rfl (p_leq rfl rfl rfl) ?_
 refine DL.nil ?_
 by_cases c12 : (decide ((Tm.kind a0) ≤ 2)) = true
 ·
  have h13:=ite_true c12 h10
  refine TT.cond_true (x:=sub [1,1,0,1,0] B27) (y:=sub [1,1,0,1,1] B27) rfl c12 ?_
  refine TT.seq (x:=sub [1,1,0,1,0,0] B27) (y:=sub [1,1,0,1,0,1] B27) ?_
  refine TT.rg [0,1,2,3,4,5] [kp,kp,kq,kq,kp,kp] rfl rfl ?_
  refine DL.mv 13 (str (t3.getD ((Tm.kind a0).toNat) [])) rfl rfl rfl ?_
  refine DL.pu 14 (ptr b1 1) rfl (p_fieldAddr ty_f25_1 rfl rfl) ?_
  refine DL.qu 15 (.int .i64 (Tm.num a0)) rfl (f_load (j:=0) ty_a3 rfl rfl rfl rfl) ?_
  obtain ⟨g14,h15⟩:=req_some h13
  obtain ⟨g16,h17⟩:=req_some h15
  obtain ⟨t18,e19,h20⟩:=nm_some h17
  refine DL.qu 16 (str t18) rfl (by rw [e19]; exact f_callR rfl rfl (args_val (vs:=[.int .i64 (Tm.num a0)]) rfl) (fun w => enter47 _ w) (fun w hc => itoa_ok (Glob.mono hG hx6) _ g14 g16 w (hE11.ext hc))) ?_
  obtain ⟨g21,h22⟩:=req_some h20
  refine DL.pu 17 (str ((t3.getD ((Tm.kind a0).toNat) []) ++ t18)) rfl (p_strAdd g21 rfl rfl rfl) ?_
  refine DL.pu 2 (str ((t3.getD ((Tm.kind a0).toNat) []) ++ t18)) rfl (p_assign rfl rfl) ?_
  refine DL.nil ?_
  obtain rfl:=Option.some.inj h22
  exact retnE (rs:=[.tmp 2]) (vs:=[str ((t3.getD ((Tm.kind a0).toNat) []) ++ t18)]) hE11.base Tryd.func27 rfl rfl rfl (res_cons (ResV.tmp rfl) res_nil) rfl
 ·
  replace c12:=Bool.eq_false_iff.mpr c12
  have h23:=ite_false c12 h10
  refine TT.cond_false (x:=sub [1,1,0,1,0] B27) (y:=sub [1,1,0,1,1] B27) rfl c12 ?_
  refine TT.skip ?_
  refine TT.seq (x:=sub [1,1,1,0] B27) (y:=sub [1,1,1,1] B27) ?_
  refine TT.seq (x:=sub [1,1,1,0,0] B27) (y:=sub [1,1,1,0,1] B27) ?_
  refine TT.rg [0] [kp] rfl rfl ?_
  refine DL.pu 4 (.int .i64 0) rfl (p_assign rfl rfl) ?_
  refine DL.nil ?_
  refine TT.block (c:=sub [1,1,1,0,1,0] B27) ?_
  refine TT.loop (c:=sub [1,1,1,0,1,0,0] B27) ?_
  obtain ⟨z3_104,h133,h134⟩:=bind_some h23
  refine TT.weak (ref29_Text.L0_ok hr_ref29_Text a0 a0_2 b1 hE11 (Glob.mono hG hx6) (RowS.mono hr_a0_2 hx6) (((Tree.kids a0).length : Int).toNat + 1) (t3.getD ((Tm.kind a0).toNat) []) 0 z3_104 h133 ( ?_)) (Sub.cons rfl (Sub.cons rfl (Sub.cons rfl (Sub.nil _))))
  refine TT.seq (x:=sub [1,1,1,1,0] B27) (y:=sub [1,1,1,1,1] B27) ?_
  refine TT.rg [0,1,2] [kp,kp,kp] rfl rfl ?_
  refine DL.mv 39 (str z3_104) rfl rfl rfl ?_
  obtain ⟨g136,h137⟩:=req_some h134
  refine DL.pu 40 (str (z3_104 ++ [41])) rfl (p_strAdd g136 rfl rfl rfl) ?_
  refine DL.pu 2 (str (z3_104 ++ [41])) rfl (p_assign rfl rfl) ?_
  refine DL.nil ?_
  obtain rfl:=Option.some.inj h137
  exact retnE (rs:=[.tmp 2]) (vs:=[str (z3_104 ++ [41])]) hE11.base Tryd.func27 rfl rfl rfl (res_cons (ResV.tmp rfl) res_nil) rfl
theorem ref29_Text.valF {r_ref29_Text : Tm → Option ((List UInt8))} (hr_ref29_Text : ref29_Text.Rec r_ref29_Text) {a0 : Tm} {a0_2 : Value} {r : List UInt8} (h : ref29_Text.F r_ref29_Text a0 = some r) {M : Mem} (w : World) (hM : Ext M (heapOf w)) (hG : Glob M) (hr_a0_2 : RowS ShTm M a0_2 (Tree.kids a0)) : Calls Tryd.prog 27 #[.agg (Tm.ce a0 a0_2)] w fun e w' => e = .returned (str r) ∧ Below w.heap.size w w' :=
 calls_value (ref29_Text.okF hr_ref29_Text h w hM hG hr_a0_2)
def ref29_Text.f : Nat → Tm → Option ((List UInt8))
 | 0,_ => none
 | k + 1,a0 => ref29_Text.F (ref29_Text.f k) a0
theorem ref29_Text.rec : ∀ k,ref29_Text.Rec (ref29_Text.f k):=by
 intro k
 induction k with
 | zero => intro _ _ _ h; simp [ref29_Text.f] at h
 | succ k ih => intro a0 a0_2 r h M w hM hG hr_a0_2; exact ref29_Text.valF ih h w hM hG hr_a0_2
theorem ref29_Text.val {k : Nat} {a0 : Tm} {a0_2 : Value} {r : List UInt8} (h : ref29_Text.f k a0 = some r) {M : Mem} (w : World) (hM : Ext M (heapOf w)) (hG : Glob M) (hr_a0_2 : RowS ShTm M a0_2 (Tree.kids a0)) : Calls Tryd.prog 27 #[.agg (Tm.ce a0 a0_2)] w fun e w' => e = .returned (str r) ∧ Below w.heap.size w w' :=
 ref29_Text.rec k h w hM hG hr_a0_2

@[reducible] def ref29_Order.Rec (r_ : Tm → Option (Tm)) : Prop:=∀ {a0 : Tm} {a0_2 : Value} {r : Tm},r_ a0 = some r → ∀ {M : Mem} (w : World) (hM : Ext M (heapOf w)) (hG : Glob M) (hr_a0_2 : RowS ShTm M a0_2 (Tree.kids a0)),Calls Tryd.prog 17 #[.agg (Tm.ce a0 a0_2)] w ((PostF (G:=Value) (fun g => .agg (Tm.ce r g)) (fun g M_ => (RowS ShTm M_ g (Tree.kids r))) M w))

end Go.Proofs.YtfbogkhgfaibbaaDoor
