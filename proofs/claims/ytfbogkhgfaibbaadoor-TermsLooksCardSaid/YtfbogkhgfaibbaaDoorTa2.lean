import Derived.Test.YtfbogkhgfaibbaaDoorTa1
namespace Go.Proofs.YtfbogkhgfaibbaaDoor
open Go Go.HW Go.RowKit
set_option linter.unusedVariables false
set_option linter.unusedSimpArgs false

/-! ### slices.IndexFunc[[]escutcheon/api.Term,escutcheon/api.Term]: function 74 -/
def idx61.L0 (r_terms_can : Tm → KM → Option (Bool)) (a0 : List Tm) (a1_c0 : KM) : Nat → Int → Option ((Unit) ⊕ (Int))
 | 0,_ => none
 | k + 1,x8_1 => if (decide (x8_1 < (a0.length : Int))) = true then (req (0 ≤ x8_1) (req (x8_1 < (a0.length : Int)) (nm (a0.getD x8_1.toNat Tm.dflt) fun t76 => (terms_knowledge__can_1_2.f r_terms_can t76 a1_c0).bind fun t79 => if t79 = true then (some (.inr x8_1)) else (idx61.L0 r_terms_can a0 a1_c0 k (IntKind.i64.wrap (x8_1 + 1)))))) else (some (.inl ()))
set_option maxRecDepth 20000 in
theorem idx61.L0_ok {r_terms_can : Tm → KM → Option (Bool)} (hr_terms_can : terms_can.Rec r_terms_can) (a0 : List Tm) (a0_v : Value) (a1_c0 : KM) (a1_c0_m : Nat) (a1_c0_kb : Nat) (a1_c0_fm : Nat) (a1_c0_ab : Nat) (a1_c0_b : Nat) {r : Int}  {w0 : World} {M0 M I : Mem} {K : List Item} (hE : Env w0 M0 M I) (hG : Glob M) (hr_a0 : RowS ShTm M a0_v a0) (hm_a1_c0 : KMap ShTm M a1_c0_m a1_c0) (hb_a1_c0k : M a1_c0_kb = some (.cells #[.map (some a1_c0_m)] 56 (0,0))) (hm_a1_c0f : M a1_c0_fm = some FormsO) (hb_a1_c0a : M a1_c0_ab = some (.cells #[.map (some a1_c0_fm)] 59 (0,0))) (hb_a1_c0 : M a1_c0_b = some (.cells #[.func (.func 59) #[] #[ptr a1_c0_kb 0,ptr a1_c0_ab 0,ptr a1_c0_b 0]] 29 (0,0))) :
  ∀ (k : Nat) (x8_1 : Int) (q : (Unit) ⊕ (Int)) (h : idx61.L0 r_terms_can a0 a1_c0 k x8_1 = some q) (hk : match (generalizing:=false) q with | .inl () => (TT Tryd.prog 74 (Post (fun u => u = .int .i64 r) w0) 19 w0 I K [] []) | .inr rq => rq = r),
   TT Tryd.prog 74 (Post (fun u => u = .int .i64 r) w0) 19 w0 I (.code (sub [1,0,1,0,0] B74) :: .inLoop (sub [1,0,1,0,0] B74) :: .inBlock 0 :: K) [(0,a0_v),(1,.func (.func 61) #[] #[ptr a1_c0_b 0]),(7,.int .i64 (a0.length : Int)),(8,.int .i64 x8_1)] []:=by
 intro k
 induction k with
 | zero => intro x8_1 q h; simp [idx61.L0] at h
 | succ k ih =>
  intro x8_1 q h hk
  unfold idx61.L0 at h
  refine TT.seq (x:=sub [1,0,1,0,0,0] B74) (y:=sub [1,0,1,0,0,1] B74) ?_
  refine TT.rg [0] [kp] rfl rfl ?_
  refine DL.pu 9 (.bool (decide (x8_1 < (a0.length : Int)))) rfl (p_lss rfl rfl rfl) ?_
  refine DL.nil ?_
  refine TT.seq (x:=sub [1,0,1,0,0,1,0] B74) (y:=sub [1,0,1,0,0,1,1] B74) ?_
  by_cases c69 : (decide (x8_1 < (a0.length : Int))) = true
  ·
   have h70:=ite_true c69 h
   refine TT.cond_true (x:=sub [1,0,1,0,0,1,0,0] B74) (y:=sub [1,0,1,0,0,1,0,1] B74) rfl c69 ?_
   refine TT.skip ?_
   refine TT.seq (x:=sub [1,0,1,0,0,1,1,0] B74) (y:=sub [1,0,1,0,0,1,1,1] B74) ?_
   refine TT.block (c:=sub [1,0,1,0,0,1,1,0,0] B74) ?_
   refine TT.seq (x:=sub [1,0,1,0,0,1,1,0,0,0] B74) (y:=sub [1,0,1,0,0,1,1,0,0,1] B74) ?_
   refine TT.rg [0,1] [kp,kp] rfl rfl ?_
   refine DL.mv 10 (.int .i64 x8_1) rfl rfl rfl ?_
   refine DL.pu 5 (.int .i64 x8_1) rfl (p_assign rfl rfl) ?_
   refine DL.nil ?_
   refine TT.seq (x:=sub [1,0,1,0,0,1,1,0,0,1,0] B74) (y:=sub [1,0,1,0,0,1,1,0,0,1,1] B74) ?_
   refine TT.rg [0,1,2,3,4,5] [kp,kp,kp,kp,kp,kq] rfl rfl ?_
   refine DL.mv 11 (.func (.func 61) #[] #[ptr a1_c0_b 0]) rfl rfl rfl ?_
   refine DL.mv 12 (a0_v) rfl rfl rfl ?_
   refine DL.mv 13 (.int .i64 x8_1) rfl rfl rfl ?_
   obtain ⟨g71,h72⟩:=req_some h70
   obtain ⟨g73,h74⟩:=req_some h72
   refine DL.pu 14 (elp a0_v (x8_1.toNat * 3)) rfl (p_slIx ty_u22 ty_s25 (RowS.some hr_a0 g71 g73) g71 g73 rfl rfl rfl) ?_
   obtain ⟨t76,e77,h78⟩:=nm_some h74
   obtain ⟨cs75,hc75,hl75⟩:=id (hr_a0)
   have q75:=hl75 _ _ (getD_some Tm.dflt (lt_len g71 g73)); rw [← e77] at q75
   obtain ⟨t76_2,hq75,hr_t76_2⟩:=Tm.op q75
   refine DL.imm (v:=.agg (Tm.ce t76 t76_2)) rfl (Wn.none rfl) rfl rfl rfl (i_loadElA (RowV.mono hc75 hE.mi) hq75 (lt_len g71 g73) ty_a25 ty_s25 rfl rfl) ?_
   obtain ⟨t79,h80,h81⟩:=bind_some h78
   refine DL.qu 16 (.bool t79) rfl (f_callV (by simp) rfl rfl rfl (args_val (vs:=[.agg (Tm.ce t76 t76_2)]) rfl) (fun w => enter61 _ w) (fun w hc => terms_knowledge__can_1_2.val hr_terms_can h80 (M:=M) w (hE.ext hc) hG hr_t76_2 hm_a1_c0 hb_a1_c0k hm_a1_c0f hb_a1_c0a hb_a1_c0)) ?_
   refine DL.nil ?_
   by_cases c82 : t79 = true
   ·
    have h83:=ite_true c82 h81
    refine TT.cond_true (x:=sub [1,0,1,0,0,1,1,0,0,1,1,0] B74) (y:=sub [1,0,1,0,0,1,1,0,0,1,1,1] B74) rfl c82 ?_
    refine TT.seq (x:=sub [1,0,1,0,0,1,1,0,0,1,1,0,0] B74) (y:=sub [1,0,1,0,0,1,1,0,0,1,1,0,1] B74) ?_
    refine TT.rg [0,1] [kp,kp] rfl rfl ?_
    refine DL.mv 17 (.int .i64 x8_1) rfl rfl rfl ?_
    refine DL.pu 4 (.int .i64 x8_1) rfl (p_assign rfl rfl) ?_
    refine DL.nil ?_
    obtain rfl:=Option.some.inj h83
    have k84 : x8_1 = r:=hk
    subst k84
    exact retnE (rs:=[.tmp 4]) (vs:=[.int .i64 x8_1]) hE.base Tryd.func74 rfl rfl rfl (res_cons (ResV.tmp rfl) res_nil) rfl
   ·
    replace c82:=Bool.eq_false_iff.mpr c82
    have h85:=ite_false c82 h81
    refine TT.cond_false (x:=sub [1,0,1,0,0,1,1,0,0,1,1,0] B74) (y:=sub [1,0,1,0,0,1,1,0,0,1,1,1] B74) rfl c82 ?_
    refine TT.skip ?_
    refine TT.inBlock ?_
    refine TT.rg [0,1] [kp,kp] rfl rfl ?_
    refine DL.pu 18 (.int .i64 (IntKind.i64.wrap (x8_1 + 1))) rfl (p_add rfl rfl rfl) ?_
    refine DL.mv 8 (.int .i64 (IntKind.i64.wrap (x8_1 + 1))) rfl rfl rfl ?_
    refine DL.nil ?_
    refine TT.inLoop ?_
    exact TT.weak (ih (IntKind.i64.wrap (x8_1 + 1)) _ h85 hk) (Sub.cons rfl (Sub.cons rfl (Sub.cons rfl (Sub.cons rfl (Sub.nil _)))))
  ·
   replace c69:=Bool.eq_false_iff.mpr c69
   have h86:=ite_false c69 h
   refine TT.cond_false (x:=sub [1,0,1,0,0,1,0,0] B74) (y:=sub [1,0,1,0,0,1,0,1] B74) rfl c69 ?_
   refine TT.exit rfl ?_
   obtain rfl:=Option.some.inj h86
   exact TT.weak (hk) (Sub.nil _)

def idx61.f (r_terms_can : Tm → KM → Option (Bool)) (a0 : List Tm) (a1_c0 : KM) : Option (Int):=onw (idx61.L0 r_terms_can a0 a1_c0 ((a0.length : Int).toNat + 1) 0) (fun _ => some (-1)) (fun r => some r)
set_option maxRecDepth 20000 in
theorem idx61.ok {r_terms_can : Tm → KM → Option (Bool)} (hr_terms_can : terms_can.Rec r_terms_can) {a0 : List Tm} {a1_c0 : KM} {a0_v : Value} {a1_c0_m : Nat} {a1_c0_kb : Nat} {a1_c0_fm : Nat} {a1_c0_ab : Nat} {a1_c0_b : Nat} {r : Int} (h : idx61.f r_terms_can a0 a1_c0 = some r) {M : Mem} (w : World) (hM : Ext M (heapOf w)) (hG : Glob M) (hr_a0 : RowS ShTm M a0_v a0) (hm_a1_c0 : KMap ShTm M a1_c0_m a1_c0) (hb_a1_c0k : M a1_c0_kb = some (.cells #[.map (some a1_c0_m)] 56 (0,0))) (hm_a1_c0f : M a1_c0_fm = some FormsO) (hb_a1_c0a : M a1_c0_ab = some (.cells #[.map (some a1_c0_fm)] 59 (0,0))) (hb_a1_c0 : M a1_c0_b = some (.cells #[.func (.func 59) #[] #[ptr a1_c0_kb 0,ptr a1_c0_ab 0,ptr a1_c0_b 0]] 29 (0,0))) : Calls Tryd.prog 74 #[a0_v,.func (.func 61) #[] #[ptr a1_c0_b 0]] w (Post (fun u => u = .int .i64 r) w):=by
 unfold idx61.f at h
 have hE:=Env.start hM
 refine calls_of_TT (N:=19) (S:=[(0,a0_v),(1,.func (.func 61) #[] #[ptr a1_c0_b 0])]) (c:=B74) Tryd.func74 rfl rfl rfl (by simp) ?_
 show TT _ _ _ _ _ _ [.code (sub [] B74)] _ _
 refine TT.seq (x:=sub [0] B74) (y:=sub [1] B74) ?_
 refine TT.rg [0] [kp] rfl rfl ?_
 refine DL.pu 4 (.int .i64 0) rfl (p_assign rfl rfl) ?_
 refine DL.nil ?_
 refine TT.seq (x:=sub [1,0] B74) (y:=sub [1,1] B74) ?_
 refine TT.seq (x:=sub [1,0,0] B74) (y:=sub [1,0,1] B74) ?_
 refine TT.rg [0,1,2] [kp,kp,kp] rfl rfl ?_
 refine DL.mv 6 (a0_v) rfl rfl rfl ?_
 refine DL.pu 7 (.int .i64 (a0.length : Int)) rfl (p_slLen ty_u22 (RowS.sl hr_a0) rfl rfl) ?_
 refine DL.mv 8 (.int .i64 0) rfl rfl rfl ?_
 refine DL.nil ?_
 refine TT.block (c:=sub [1,0,1,0] B74) ?_
 refine TT.loop (c:=sub [1,0,1,0,0] B74) ?_
 rcases onw_some h with ⟨_,h87,h88⟩ | ⟨r90,h87,h88⟩
 ·
  refine TT.weak (idx61.L0_ok hr_terms_can a0 a0_v a1_c0 a1_c0_m a1_c0_kb a1_c0_fm a1_c0_ab a1_c0_b hE hG hr_a0 hm_a1_c0 hb_a1_c0k hm_a1_c0f hb_a1_c0a hb_a1_c0 ((a0.length : Int).toNat + 1) 0 (.inl ()) h87 (?_)) (Sub.cons rfl (Sub.cons rfl (Sub.cons rfl (Sub.cons rfl (Sub.nil _)))))
  show TT _ _ _ _ _ _ _ _ _
  refine TT.seq (x:=sub [1,1,0] B74) (y:=sub [1,1,1] B74) ?_
  refine TT.rg [0] [kp] rfl rfl ?_
  refine DL.pu 4 (.int .i64 (-1)) rfl (p_assign rfl rfl) ?_
  refine DL.nil ?_
  obtain rfl:=Option.some.inj h88
  exact retnE (rs:=[.tmp 4]) (vs:=[.int .i64 (-1)]) hE.base Tryd.func74 rfl rfl rfl (res_cons (ResV.tmp rfl) res_nil) rfl
 ·
  obtain rfl:=Option.some.inj h88
  exact TT.weak (idx61.L0_ok hr_terms_can a0 a0_v a1_c0 a1_c0_m a1_c0_kb a1_c0_fm a1_c0_ab a1_c0_b hE hG hr_a0 hm_a1_c0 hb_a1_c0k hm_a1_c0f hb_a1_c0a hb_a1_c0 ((a0.length : Int).toNat + 1) 0 (.inr r90) h87 rfl) (Sub.cons rfl (Sub.cons rfl (Sub.cons rfl (Sub.cons rfl (Sub.nil _)))))
theorem idx61.val {r_terms_can : Tm → KM → Option (Bool)} (hr_terms_can : terms_can.Rec r_terms_can) {a0 : List Tm} {a1_c0 : KM} {a0_v : Value} {a1_c0_m : Nat} {a1_c0_kb : Nat} {a1_c0_fm : Nat} {a1_c0_ab : Nat} {a1_c0_b : Nat} {r : Int} (h : idx61.f r_terms_can a0 a1_c0 = some r) {M : Mem} (w : World) (hM : Ext M (heapOf w)) (hG : Glob M) (hr_a0 : RowS ShTm M a0_v a0) (hm_a1_c0 : KMap ShTm M a1_c0_m a1_c0) (hb_a1_c0k : M a1_c0_kb = some (.cells #[.map (some a1_c0_m)] 56 (0,0))) (hm_a1_c0f : M a1_c0_fm = some FormsO) (hb_a1_c0a : M a1_c0_ab = some (.cells #[.map (some a1_c0_fm)] 59 (0,0))) (hb_a1_c0 : M a1_c0_b = some (.cells #[.func (.func 59) #[] #[ptr a1_c0_kb 0,ptr a1_c0_ab 0,ptr a1_c0_b 0]] 29 (0,0))) : Calls Tryd.prog 74 #[a0_v,.func (.func 61) #[] #[ptr a1_c0_b 0]] w fun e w' => e = .returned (.int .i64 r) ∧ Below w.heap.size w w' :=
 calls_value (idx61.ok hr_terms_can h w hM hG hr_a0 hm_a1_c0 hb_a1_c0k hm_a1_c0f hb_a1_c0a hb_a1_c0)

/-! ### slices.ContainsFunc[[]escutcheon/api.Term,escutcheon/api.Term]: function 54 -/
def cont61.f (r_terms_can : Tm → KM → Option (Bool)) (a0 : List Tm) (a1_c0 : KM) : Option (Bool):=(idx61.f r_terms_can a0 a1_c0).bind fun t1 => some (decide (0 ≤ t1))
set_option maxRecDepth 20000 in
theorem cont61.ok {r_terms_can : Tm → KM → Option (Bool)} (hr_terms_can : terms_can.Rec r_terms_can) {a0 : List Tm} {a1_c0 : KM} {a0_v : Value} {a1_c0_m : Nat} {a1_c0_kb : Nat} {a1_c0_fm : Nat} {a1_c0_ab : Nat} {a1_c0_b : Nat} {r : Bool} (h : cont61.f r_terms_can a0 a1_c0 = some r) {M : Mem} (w : World) (hM : Ext M (heapOf w)) (hG : Glob M) (hr_a0 : RowS ShTm M a0_v a0) (hm_a1_c0 : KMap ShTm M a1_c0_m a1_c0) (hb_a1_c0k : M a1_c0_kb = some (.cells #[.map (some a1_c0_m)] 56 (0,0))) (hm_a1_c0f : M a1_c0_fm = some FormsO) (hb_a1_c0a : M a1_c0_ab = some (.cells #[.map (some a1_c0_fm)] 59 (0,0))) (hb_a1_c0 : M a1_c0_b = some (.cells #[.func (.func 59) #[] #[ptr a1_c0_kb 0,ptr a1_c0_ab 0,ptr a1_c0_b 0]] 29 (0,0))) : Calls Tryd.prog 54 #[a0_v,.func (.func 61) #[] #[ptr a1_c0_b 0]] w (Post (fun u => u = .bool r) w):=by
 unfold cont61.f at h
 have hE:=Env.start hM
 refine calls_of_TT (N:=9) (S:=[(0,a0_v),(1,.func (.func 61) #[] #[ptr a1_c0_b 0])]) (c:=B54) Tryd.func54 rfl rfl rfl (by simp) ?_
 show TT _ _ _ _ _ _ [.code (sub [] B54)] _ _
 refine TT.seq (x:=sub [0] B54) (y:=sub [1] B54) ?_
 refine TT.rg [0] [kp] rfl rfl ?_
 refine DL.pu 4 (.bool false) rfl (p_assign rfl rfl) ?_
 refine DL.nil ?_
 refine TT.seq (x:=sub [1,0] B54) (y:=sub [1,1] B54) ?_
 refine TT.rg [0,1,2,3,4] [kp,kp,kq,kp,kp] rfl rfl ?_
 refine DL.mv 5 (a0_v) rfl rfl rfl ?_
 refine DL.mv 6 (.func (.func 61) #[] #[ptr a1_c0_b 0]) rfl rfl rfl ?_
 obtain ⟨t1,h2,h3⟩:=bind_some h
 refine DL.qu 7 (.int .i64 t1) rfl (f_callR rfl rfl (args_val (vs:=[a0_v,.func (.func 61) #[] #[ptr a1_c0_b 0]]) rfl) (fun w => enter74 _ w) (fun w hc => idx61.val hr_terms_can h2 (M:=M) w (hE.ext hc) hG hr_a0 hm_a1_c0 hb_a1_c0k hm_a1_c0f hb_a1_c0a hb_a1_c0)) ?_
 refine DL.pu 8 (.bool (decide (0 ≤ t1))) rfl (p_geq rfl rfl rfl) ?_
 refine DL.pu 4 (.bool (decide (0 ≤ t1))) rfl (p_assign rfl rfl) ?_
 refine DL.nil ?_
 obtain rfl:=Option.some.inj h3
 exact retnE (rs:=[.tmp 4]) (vs:=[.bool (decide (0 ≤ t1))]) hE.base Tryd.func54 rfl rfl rfl (res_cons (ResV.tmp rfl) res_nil) rfl
theorem cont61.val {r_terms_can : Tm → KM → Option (Bool)} (hr_terms_can : terms_can.Rec r_terms_can) {a0 : List Tm} {a1_c0 : KM} {a0_v : Value} {a1_c0_m : Nat} {a1_c0_kb : Nat} {a1_c0_fm : Nat} {a1_c0_ab : Nat} {a1_c0_b : Nat} {r : Bool} (h : cont61.f r_terms_can a0 a1_c0 = some r) {M : Mem} (w : World) (hM : Ext M (heapOf w)) (hG : Glob M) (hr_a0 : RowS ShTm M a0_v a0) (hm_a1_c0 : KMap ShTm M a1_c0_m a1_c0) (hb_a1_c0k : M a1_c0_kb = some (.cells #[.map (some a1_c0_m)] 56 (0,0))) (hm_a1_c0f : M a1_c0_fm = some FormsO) (hb_a1_c0a : M a1_c0_ab = some (.cells #[.map (some a1_c0_fm)] 59 (0,0))) (hb_a1_c0 : M a1_c0_b = some (.cells #[.func (.func 59) #[] #[ptr a1_c0_kb 0,ptr a1_c0_ab 0,ptr a1_c0_b 0]] 29 (0,0))) : Calls Tryd.prog 54 #[a0_v,.func (.func 61) #[] #[ptr a1_c0_b 0]] w fun e w' => e = .returned (.bool r) ∧ Below w.heap.size w w' :=
 calls_value (cont61.ok hr_terms_can h w hM hG hr_a0 hm_a1_c0 hb_a1_c0k hm_a1_c0f hb_a1_c0a hb_a1_c0)

/-! ### (escutcheon/terms.knowledge).can$1: function 59 -/
noncomputable def B59 : Code:=bodyOf Tryd.f59
def terms_can.F (r_terms_can : Tm → KM → Option (Bool)) (a0 : Tm) (c0 : KM) : Option (Bool):=(terms_text.f (Tm.fuel a0) a0).bind fun t3 => nm (kgetT c0 t3) fun t7 => (if (khas c0 t3) = true then (some true) else (some ((Tm.kind a0) == 1))).bind fun q12 => if q12 = true then (some true) else (if ((Tm.kind a0) == 8) = true then (req ((0 : Int) < ((Tree.kids a0).length : Int)) (nm ((Tree.kids a0).getD ((0 : Int).toNat) Tm.dflt) fun t28 => (r_terms_can t28 c0).bind fun t31 => req ((1 : Int) < ((Tree.kids a0).length : Int)) (nm ((Tree.kids a0).getD ((1 : Int).toNat) Tm.dflt) fun t37 => (r_terms_can t37 c0).bind fun t40 => (if t31 = true then ((if t40 = true then (some true) else ((terms_knowledge__can_1_1.f 1 c0 a0).bind fun t58 => some t58)).bind fun q51 => some q51) else (some false)).bind fun q44 => (if q44 = true then (some true) else ((if t40 = true then ((terms_knowledge__can_1_1.f 0 c0 a0).bind fun t77 => some t77) else (some false)).bind fun q71 => some q71)).bind fun q63 => some q63))) else ((if ((Tm.kind a0) != 2) = true then ((cont61.f r_terms_can (Tree.kids a0) c0).bind fun t89 => some (!t89)) else (some false)).bind fun q83 => some q83))
set_option maxRecDepth 20000 in
theorem terms_can.okF {r_terms_can : Tm → KM → Option (Bool)} (hr_terms_can : terms_can.Rec r_terms_can) {a0 : Tm} {c0 : KM} {a0_2 : Value} {c0_m : Nat} {c0_b : Nat} {c1_m : Nat} {c1_b : Nat} {c2_b : Nat} {r : Bool} (h : terms_can.F r_terms_can a0 c0 = some r) {M : Mem} (w : World) (hM : Ext M (heapOf w)) (hG : Glob M) (hr_a0_2 : RowS ShTm M a0_2 (Tree.kids a0)) (hm_c0 : KMap ShTm M c0_m c0) (hb_c0 : M c0_b = some (.cells #[.map (some c0_m)] 56 (0,0))) (hm_c1 : M c1_m = some FormsO) (hb_c1 : M c1_b = some (.cells #[.map (some c1_m)] 59 (0,0))) (hb_c2 : M c2_b = some (.cells #[.func (.func 59) #[] #[ptr c0_b 0,ptr c1_b 0,ptr c2_b 0]] 29 (0,0))) : Calls Tryd.prog 59 #[.agg (Tm.ce a0 a0_2),ptr c0_b 0,ptr c1_b 0,ptr c2_b 0] w (Post (fun u => u = .bool r) w):=by
 unfold terms_can.F at h
 have hE:=Env.start hM
 refine calls_of_TT (N:=66) (S:=[(0,.agg (Tm.ce a0 a0_2)),(1,ptr c0_b 0),(2,ptr c1_b 0),(3,ptr c2_b 0)]) (c:=B59) Tryd.func59 rfl rfl rfl (by simp) ?_
 show TT _ _ _ _ _ _ [.code (sub [] B59)] _ _
 refine TT.seq (x:=sub [0] B59) (y:=sub [1] B59) ?_
 refine TT.rg [0,1] [(.alloc,none),kp] rfl rfl ?_
 refine DL.new (ob:=.cells ((Tm.ce a0 a0_2)) 25) (mk:=fun b => ptr b 0) (i:=0) rfl (Wn.none rfl) rfl rfl rfl (f_box (v:=.agg (Tm.ce a0 a0_2)) rfl rfl) ?_
 intro b1 hb1
 refine DL.pu 5 (.bool false) rfl (p_assign rfl rfl) ?_
 refine DL.nil ?_
 refine TT.seq (x:=sub [1,0] B59) (y:=sub [1,1] B59) ?_
 refine TT.seq (x:=sub [1,0,0] B59) (y:=sub [1,0,1] B59) ?_
 refine TT.rgD [0,1,2,3,4,5,6,7,8,9,10] [0,0,0,6,15,31,63,63,0,383,1023] [kp,(.look,some 0),kp,kq,kq,kp,kp,kp,(.alloc,none),(.store,some 108),kp] rfl mixed (by kernel_rfl) ?_
 intro w2 hl2 hj2 hz2
 refine DL.imm (v:=.map (some c0_m)) rfl (Wn.none rfl) rfl rfl rfl (i_loadBox (hE.mi _ _ hb_c0) rfl ty_a56 rfl rfl) ?_
 refine DL.look (v:=.agg (Tm.ce a0 a0_2)) (x:=0) (b:=b1) (i:=1) rfl (Wn.none rfl) rfl rfl rfl rfl rfl (List.mem_of_getElem? (i:=0) rfl) (b_loadA ty_a25 ty_s25 rfl rfl rfl) ?_
 refine DL.imm (v:=.map (some c1_m)) rfl (Wn.none rfl) rfl rfl rfl (i_loadBox (hE.mi _ _ hb_c1) rfl ty_a59 rfl rfl) ?_
 obtain ⟨t3,h4,h5⟩:=bind_some h
 refine DL.qu 15 (str t3) rfl (f_callR rfl rfl (args_val (vs:=[.agg (Tm.ce a0 a0_2),.map (some c1_m)]) rfl) (fun w => enter48 _ w) (fun w hc => terms_text.val h4 (M:=M) w (hE.ext hc) hG hr_a0_2 hm_c1)) ?_
 obtain ⟨t7,e8,h9⟩:=nm_some h5
 obtain ⟨kv6,kl6,hr_kv6,hkb6,hkv6,hki6⟩:=KMap.look hm_c0 t3; rw [← e8] at hr_kv6 hkv6
 refine DL.qu 16 (.tuple #[.agg (Tm.ce t7 kv6),.bool (khas c0 t3)]) rfl (FImm.quiet (i_lookupSOk (I:=M) ty_u56 ty_u9 ty_z25 hkb6 hkv6 hki6 rfl rfl rfl) (fun w hc => hE.imm hc)) ?_
 refine DL.mv 11 (.tuple #[.agg (Tm.ce t7 kv6),.bool (khas c0 t3)]) rfl rfl rfl ?_
 refine DL.pu 17 (.agg (Tm.ce t7 kv6)) rfl (p_extract rfl rfl rfl) ?_
 refine DL.pu 18 (.bool (khas c0 t3)) rfl (p_extract rfl rfl rfl) ?_
 refine DL.new (ob:=.cells (#[.int .i64 0,.int .i64 0,(.slice none 0 0)]) 25) (mk:=fun b => ptr b 0) (i:=8) rfl (Wn.none rfl) rfl rfl rfl (f_alloc ty_z25 rfl) ?_
 intro b10 hb10
 refine DL.put (H':=[(some b10,.cells ((Tm.ce t7 kv6)) 25 (0,0)),(some b1,.cells ((Tm.ce a0 a0_2)) 25 (0,0))]) (i:=9) rfl (Wn.none rfl) rfl rfl (f_storeA (j:=0) ty_s25 rfl rfl rfl (one_cons trivial (one_cons trivial (one_cons (sl_one (RowS.sl hr_kv6)) one_nil))) rfl rfl rfl) (keep_new (j:=0) hz2 hb10 rfl) ?_
 refine DL.pu 7 (.bool (khas c0 t3)) rfl (p_assign rfl rfl) ?_
 refine DL.nil' hl2 ?_
 refine TT.seq (x:=sub [1,0,1,0] B59) (y:=sub [1,0,1,1] B59) ?_
 refine TT.rg [0,1,2,3,4,5] [kp,kp,kp,kq,kp,kp] rfl rfl ?_
 refine DL.mv 19 (.bool (khas c0 t3)) rfl rfl rfl ?_
 refine DL.mv 20 (.bool (khas c0 t3)) rfl rfl rfl ?_
 obtain ⟨q12,h13,h14⟩:=bind_some h9
 refine DL.cut [(1,ptr c0_b 0),(2,ptr c1_b 0),(3,ptr c2_b 0),(4,ptr b1 0),(24,.bool q12)] [] ?_ (fun J15 => ?_)
 ·
  refine DL.nil ?_
  by_cases c19 : q12 = true
  ·
   have h20:=ite_true c19 h14
   refine TT.cond_true (x:=sub [1,0,1,1,0] B59) (y:=sub [1,0,1,1,1] B59) rfl c19 ?_
   refine TT.seq (x:=sub [1,0,1,1,0,0] B59) (y:=sub [1,0,1,1,0,1] B59) ?_
   refine TT.rg [0] [kp] rfl rfl ?_
   refine DL.pu 5 (.bool true) rfl (p_assign rfl rfl) ?_
   refine DL.nil ?_
   obtain rfl:=Option.some.inj h20
   exact retnE (rs:=[.tmp 5]) (vs:=[.bool true]) hE.base Tryd.func59 rfl rfl rfl (res_cons (ResV.tmp rfl) res_nil) rfl
  ·
   replace c19:=Bool.eq_false_iff.mpr c19
   have h21:=ite_false c19 h14
   refine TT.cond_false (x:=sub [1,0,1,1,0] B59) (y:=sub [1,0,1,1,1] B59) rfl c19 ?_
   refine TT.skip ?_
   refine TT.seq (x:=sub [1,1,0] B59) (y:=sub [1,1,1] B59) ?_
   refine TT.seq (x:=sub [1,1,0,0] B59) (y:=sub [1,1,0,1] B59) ?_
   refine TT.rg [0,1,2] [kp,kq,kp] rfl rfl ?_
   refine DL.pu 25 (ptr b1 0) rfl (p_fieldAddr ty_f25_0 rfl rfl) ?_
   refine DL.qu 26 (.int .i64 (Tm.kind a0)) rfl (f_load (j:=1) ty_a23 rfl rfl rfl rfl) ?_
   refine DL.pu 27 (.bool ((Tm.kind a0) == 8)) rfl (p_eql rfl rfl rfl) ?_
   refine DL.nil ?_
   by_cases c22 : ((Tm.kind a0) == 8) = true
   ·
    have h23:=ite_true c22 h21
    refine TT.cond_true (x:=sub [1,1,0,1,0] B59) (y:=sub [1,1,0,1,1] B59) rfl c22 ?_
    refine TT.seq (x:=sub [1,1,0,1,0,0] B59) (y:=sub [1,1,0,1,0,1] B59) ?_
    refine TT.rg [0,1] [kp,kp] rfl rfl ?_
    refine DL.pu 28 (.func (.func 60) #[] #[ptr c0_b 0,ptr b1 0,ptr c1_b 0]) rfl (p_makeFunc rfl (args_val (vs:=[ptr c0_b 0,ptr b1 0,ptr c1_b 0]) rfl)) ?_
    refine DL.pu 8 (.func (.func 60) #[] #[ptr c0_b 0,ptr b1 0,ptr c1_b 0]) rfl (p_assign rfl rfl) ?_
    refine DL.nil ?_
    refine TT.seq (x:=sub [1,1,0,1,0,1,0] B59) (y:=sub [1,1,0,1,0,1,1] B59) ?_
    refine TT.rgD [0,1,2,3,4,5,6,7,8,9,10,11,12,13] [0,0,2,6,14,31,0,0,128,384,896,2047,4095,8191] [kp,kp,(.look,some 1),kp,kp,kq,kp,kp,(.look,some 1),kp,kp,kq,kp,kp] rfl mixed (by kernel_rfl) ?_
    intro w24 hl24 hj24 hz24
    refine DL.imm (v:=.func (.func 59) #[] #[ptr c0_b 0,ptr c1_b 0,ptr c2_b 0]) rfl (Wn.none rfl) rfl rfl rfl (i_loadBox (hE.mi _ _ hb_c2) rfl ty_a29 rfl rfl) ?_
    refine DL.pu 30 (ptr b1 2) rfl (p_fieldAddr ty_f25_2 rfl rfl) ?_
    refine DL.look (v:=a0_2) (x:=1) (b:=b1) (i:=2) rfl (Wn.none rfl) rfl rfl rfl rfl rfl (List.mem_of_getElem? (i:=1) rfl) (b_load ty_a22 rfl rfl rfl) ?_
    obtain ⟨g25,h26⟩:=req_some h23
    refine DL.pu 32 (elp a0_2 (((0 : Int).toNat) * 3)) rfl (p_slIx ty_u22 ty_s25 (RowS.some hr_a0_2 (by decide) g25) (by decide) g25 rfl rfl rfl) ?_
    obtain ⟨t28,e29,h30⟩:=nm_some h26
    obtain ⟨cs27,hc27,hl27⟩:=id (hr_a0_2)
    have q27:=hl27 _ _ (getD_some Tm.dflt (lt_len (by decide) g25)); rw [← e29] at q27
    obtain ⟨t28_2,hq27,hr_t28_2⟩:=Tm.op q27
    refine DL.imm (v:=.agg (Tm.ce t28 t28_2)) rfl (Wn.none rfl) rfl rfl rfl (i_loadElA (RowV.mono hc27 hE.mi) hq27 (lt_len (by decide) g25) ty_a25 ty_s25 rfl rfl) ?_
    obtain ⟨t31,h32,h33⟩:=bind_some h30
    refine DL.qu 34 (.bool t31) rfl (f_callV (by simp) rfl rfl rfl (args_val (vs:=[.agg (Tm.ce t28 t28_2)]) rfl) (fun w => enter59 _ w) (fun w hc => hr_terms_can h32 (M:=M) w (hE.ext hc) hG hr_t28_2 hm_c0 hb_c0 hm_c1 hb_c1 hb_c2)) ?_
    refine DL.imm (v:=.func (.func 59) #[] #[ptr c0_b 0,ptr c1_b 0,ptr c2_b 0]) rfl (Wn.none rfl) rfl rfl rfl (i_loadBox (hE.mi _ _ hb_c2) rfl ty_a29 rfl rfl) ?_
    refine DL.pu 36 (ptr b1 2) rfl (p_fieldAddr ty_f25_2 rfl rfl) ?_
    refine DL.look (v:=a0_2) (x:=1) (b:=b1) (i:=8) rfl (Wn.none rfl) rfl rfl rfl rfl rfl (List.mem_of_getElem? (i:=1) rfl) (b_load ty_a22 rfl rfl rfl) ?_
    obtain ⟨g34,h35⟩:=req_some h33
    refine DL.pu 38 (elp a0_2 (((1 : Int).toNat) * 3)) rfl (p_slIx ty_u22 ty_s25 (RowS.some hr_a0_2 (by decide) g34) (by decide) g34 rfl rfl rfl) ?_
    obtain ⟨t37,e38,h39⟩:=nm_some h35
    obtain ⟨cs36,hc36,hl36⟩:=id (hr_a0_2)
    have q36:=hl36 _ _ (getD_some Tm.dflt (lt_len (by decide) g34)); rw [← e38] at q36
    obtain ⟨t37_2,hq36,hr_t37_2⟩:=Tm.op q36
    refine DL.imm (v:=.agg (Tm.ce t37 t37_2)) rfl (Wn.none rfl) rfl rfl rfl (i_loadElA (RowV.mono hc36 hE.mi) hq36 (lt_len (by decide) g34) ty_a25 ty_s25 rfl rfl) ?_
    obtain ⟨t40,h41,h42⟩:=bind_some h39
    refine DL.qu 40 (.bool t40) rfl (f_callV (by simp) rfl rfl rfl (args_val (vs:=[.agg (Tm.ce t37 t37_2)]) rfl) (fun w => enter59 _ w) (fun w hc => hr_terms_can h41 (M:=M) w (hE.ext hc) hG hr_t37_2 hm_c0 hb_c0 hm_c1 hb_c1 hb_c2)) ?_
    refine DL.pu 9 (.bool t31) rfl (p_assign rfl rfl) ?_
    refine DL.pu 10 (.bool t40) rfl (p_assign rfl rfl) ?_
    refine DL.nil' hl24 ?_
    refine TT.seq (x:=sub [1,1,0,1,0,1,1,0] B59) (y:=sub [1,1,0,1,0,1,1,1] B59) ?_
    refine TT.rg [0,1,2,3,4,5,6,7,8,9,10,11,12,13,14,15] [kp,kp,kp,kp,kp,kq,kp,kp,kp,kp,kp,kp,kq,kp,kp,kp] rfl rfl ?_
    refine DL.mv 41 (.bool t31) rfl rfl rfl ?_
    refine DL.mv 42 (.bool t31) rfl rfl rfl ?_
    obtain ⟨q44,h45,h46⟩:=bind_some h42
    refine DL.cut [(8,.func (.func 60) #[] #[ptr c0_b 0,ptr b1 0,ptr c1_b 0]),(10,.bool t40),(48,.bool q44)] [8,9,10,11,12,13,14,15] ?_ (fun J47 => ?_)
    ·
     refine DL.mv 49 (.bool q44) rfl rfl rfl ?_
     obtain ⟨q63,h64,h65⟩:=bind_some h46
     refine DL.cut [(55,.bool q63)] [15] ?_ (fun J66 => ?_)
     ·
      refine DL.pu 5 (.bool q63) rfl (p_assign rfl rfl) ?_
      refine DL.nil ?_
      obtain rfl:=Option.some.inj h65
      exact retnE (rs:=[.tmp 5]) (vs:=[.bool q63]) hE.base Tryd.func59 rfl rfl rfl (res_cons (ResV.tmp rfl) res_nil) rfl
     ·
      by_cases c67 : q44 = true
      ·
       have h68:=ite_true c67 h64
       refine DL.not (i:=9) rfl (Wn.yes c67 rfl rfl rfl rfl) rfl rfl ?_
       refine DL.not (i:=10) rfl (Wn.yes c67 rfl rfl rfl rfl) rfl rfl ?_
       refine DL.not (i:=11) rfl (Wn.undef rfl rfl rfl) rfl rfl ?_
       refine DL.not (i:=12) rfl (Wn.undef rfl rfl rfl) rfl rfl ?_
       refine DL.not (i:=13) rfl (Wn.yes c67 rfl rfl rfl rfl) rfl rfl ?_
       refine DL.pu 55 (.bool true) rfl (p_pick_t c67 rfl rfl rfl) ?_
       obtain rfl:=Option.some.inj h68
       exact DL.weak J66 (Sub.cons rfl (Sub.nil _))
      ·
       replace c67:=Bool.eq_false_iff.mpr c67
       have h69:=ite_false c67 h64
       refine DL.pure (v:=.bool t40) rfl (Wn.no c67 rfl rfl rfl rfl) rfl rfl rfl (p_move rfl rfl) ?_
       refine DL.pure (v:=.bool t40) rfl (Wn.no c67 rfl rfl rfl rfl) rfl rfl rfl (p_move rfl rfl) ?_
       obtain ⟨q71,h72,h73⟩:=bind_some h69
       refine DL.cut [(49,.bool q44),(54,.bool q71)] [14,15] ?_ (fun J74 => ?_)
       ·
        refine DL.pu 55 (.bool q71) rfl (p_pick_f c67 rfl rfl rfl) ?_
        obtain rfl:=Option.some.inj h73
        exact DL.weak J66 (Sub.cons rfl (Sub.nil _))
       ·
        by_cases c75 : t40 = true
        ·
         have h76:=ite_true c75 h72
         refine DL.pure (v:=.func (.func 60) #[] #[ptr c0_b 0,ptr b1 0,ptr c1_b 0]) rfl (Wn.yes c75 rfl rfl rfl rfl) rfl rfl rfl (p_move rfl rfl) ?_
         obtain ⟨t77,h78,h79⟩:=bind_some h76
         refine DL.quiet (v:=.bool t77) rfl (Wn.yes c75 rfl rfl rfl rfl) rfl rfl rfl (f_callV (by simp) rfl rfl rfl (args_val (vs:=[.int .i64 0]) rfl) (fun w => enter60 _ w) (fun w hc => terms_knowledge__can_1_1.val h78 (M:=heapOf w) w (Ext.refl _) (Glob.mono hG (hE.ext hc)) (KMap.mono hm_c0 (hE.ext hc)) ((hE.ext hc) _ _ hb_c0) (RowS.mono hr_a0_2 (hE.ext hc)) (box_own hc (i:=1) rfl) ((hE.ext hc) _ _ hm_c1) ((hE.ext hc) _ _ hb_c1))) ?_
         refine DL.pure (v:=.bool t77) rfl (Wn.no c67 rfl rfl rfl rfl) rfl rfl rfl (p_pick_t c75 rfl rfl rfl) ?_
         obtain rfl:=Option.some.inj h79
         exact DL.weak J74 (Sub.cons rfl (Sub.cons rfl (Sub.nil _)))
        ·
         replace c75:=Bool.eq_false_iff.mpr c75
         have h80:=ite_false c75 h72
         refine DL.not (i:=11) rfl (Wn.no c75 rfl rfl rfl rfl) rfl rfl ?_
         refine DL.not (i:=12) rfl (Wn.no c75 rfl rfl rfl rfl) rfl rfl ?_
         refine DL.pure (v:=.bool false) rfl (Wn.no c67 rfl rfl rfl rfl) rfl rfl rfl (p_pick_f c75 rfl rfl rfl) ?_
         obtain rfl:=Option.some.inj h80
         exact DL.weak J74 (Sub.cons rfl (Sub.cons rfl (Sub.nil _)))
    ·
     by_cases c48 : t31 = true
     ·
      have h49:=ite_true c48 h45
      refine DL.pure (v:=.bool t40) rfl (Wn.yes c48 rfl rfl rfl rfl) rfl rfl rfl (p_move rfl rfl) ?_
      refine DL.pure (v:=.bool t40) rfl (Wn.yes c48 rfl rfl rfl rfl) rfl rfl rfl (p_move rfl rfl) ?_
      obtain ⟨q51,h52,h53⟩:=bind_some h49
      refine DL.cut [(8,.func (.func 60) #[] #[ptr c0_b 0,ptr b1 0,ptr c1_b 0]),(10,.bool t40),(42,.bool t31),(47,.bool q51)] [7,8,9,10,11,12,13,14,15] ?_ (fun J54 => ?_)
      ·
       refine DL.pu 48 (.bool q51) rfl (p_pick_t c48 rfl rfl rfl) ?_
       obtain rfl:=Option.some.inj h53
       exact DL.weak J47 (Sub.cons rfl (Sub.cons rfl (Sub.cons rfl (Sub.nil _))))
      ·
       by_cases c55 : t40 = true
       ·
        have h56:=ite_true c55 h52
        refine DL.not (i:=4) rfl (Wn.yes c55 rfl rfl rfl rfl) rfl rfl ?_
        refine DL.not (i:=5) rfl (Wn.yes c55 rfl rfl rfl rfl) rfl rfl ?_
        refine DL.pure (v:=.bool true) rfl (Wn.yes c48 rfl rfl rfl rfl) rfl rfl rfl (p_pick_t c55 rfl rfl rfl) ?_
        obtain rfl:=Option.some.inj h56
        exact DL.weak J54 (Sub.cons rfl (Sub.cons rfl (Sub.cons rfl (Sub.cons rfl (Sub.nil _)))))
       ·
        replace c55:=Bool.eq_false_iff.mpr c55
        have h57:=ite_false c55 h52
        refine DL.pure (v:=.func (.func 60) #[] #[ptr c0_b 0,ptr b1 0,ptr c1_b 0]) rfl (Wn.no c55 rfl rfl rfl rfl) rfl rfl rfl (p_move rfl rfl) ?_
        obtain ⟨t58,h59,h60⟩:=bind_some h57
        refine DL.quiet (v:=.bool t58) rfl (Wn.no c55 rfl rfl rfl rfl) rfl rfl rfl (f_callV (by simp) rfl rfl rfl (args_val (vs:=[.int .i64 1]) rfl) (fun w => enter60 _ w) (fun w hc => terms_knowledge__can_1_1.val h59 (M:=heapOf w) w (Ext.refl _) (Glob.mono hG (hE.ext hc)) (KMap.mono hm_c0 (hE.ext hc)) ((hE.ext hc) _ _ hb_c0) (RowS.mono hr_a0_2 (hE.ext hc)) (box_own hc (i:=1) rfl) ((hE.ext hc) _ _ hm_c1) ((hE.ext hc) _ _ hb_c1))) ?_
        refine DL.pure (v:=.bool t58) rfl (Wn.yes c48 rfl rfl rfl rfl) rfl rfl rfl (p_pick_f c55 rfl rfl rfl) ?_
        obtain rfl:=Option.some.inj h60
        exact DL.weak J54 (Sub.cons rfl (Sub.cons rfl (Sub.cons rfl (Sub.cons rfl (Sub.nil _)))))
     ·
      replace c48:=Bool.eq_false_iff.mpr c48
      have h61:=ite_false c48 h45
      refine DL.not (i:=2) rfl (Wn.no c48 rfl rfl rfl rfl) rfl rfl ?_
      refine DL.not (i:=3) rfl (Wn.no c48 rfl rfl rfl rfl) rfl rfl ?_
      refine DL.not (i:=4) rfl (Wn.undef rfl rfl rfl) rfl rfl ?_
      refine DL.not (i:=5) rfl (Wn.undef rfl rfl rfl) rfl rfl ?_
      refine DL.not (i:=6) rfl (Wn.no c48 rfl rfl rfl rfl) rfl rfl ?_
      refine DL.pu 48 (.bool false) rfl (p_pick_f c48 rfl rfl rfl) ?_
      obtain rfl:=Option.some.inj h61
      exact DL.weak J47 (Sub.cons rfl (Sub.cons rfl (Sub.cons rfl (Sub.nil _))))
   ·
    replace c22:=Bool.eq_false_iff.mpr c22
    have h81:=ite_false c22 h21
    refine TT.cond_false (x:=sub [1,1,0,1,0] B59) (y:=sub [1,1,0,1,1] B59) rfl c22 ?_
    refine TT.skip ?_
    refine TT.seq (x:=sub [1,1,1,0] B59) (y:=sub [1,1,1,1] B59) ?_
    refine TT.rg [0,1,2,3,4,5,6,7,8,9,10] [kp,kq,kp,kp,kp,kq,kp,kq,kp,kp,kp] rfl rfl ?_
    refine DL.pu 56 (ptr b1 0) rfl (p_fieldAddr ty_f25_0 rfl rfl) ?_
    refine DL.qu 57 (.int .i64 (Tm.kind a0)) rfl (f_load (j:=1) ty_a23 rfl rfl rfl rfl) ?_
    refine DL.pu 58 (.bool ((Tm.kind a0) != 2)) rfl (p_neq rfl rfl rfl) ?_
    refine DL.mv 59 (.bool ((Tm.kind a0) != 2)) rfl rfl rfl ?_
    obtain ⟨q83,h84,h85⟩:=bind_some h81
    refine DL.cut [(65,.bool q83)] [10] ?_ (fun J86 => ?_)
    ·
     refine DL.pu 5 (.bool q83) rfl (p_assign rfl rfl) ?_
     refine DL.nil ?_
     obtain rfl:=Option.some.inj h85
     exact retnE (rs:=[.tmp 5]) (vs:=[.bool q83]) hE.base Tryd.func59 rfl rfl rfl (res_cons (ResV.tmp rfl) res_nil) rfl
    ·
     by_cases c87 : ((Tm.kind a0) != 2) = true
     ·
      have h88:=ite_true c87 h84
      refine DL.pure (v:=ptr b1 2) rfl (Wn.yes c87 rfl rfl rfl rfl) rfl rfl rfl (p_fieldAddr ty_f25_2 rfl rfl) ?_
      refine DL.quiet (v:=a0_2) rfl (Wn.yes c87 rfl rfl rfl rfl) rfl rfl rfl (f_load (j:=1) ty_a22 rfl rfl rfl rfl) ?_
      refine DL.pure (v:=.func (.func 61) #[] #[ptr c2_b 0]) rfl (Wn.yes c87 rfl rfl rfl rfl) rfl rfl rfl (p_makeFunc rfl (args_val (vs:=[ptr c2_b 0]) rfl)) ?_
      obtain ⟨t89,h90,h91⟩:=bind_some h88
      refine DL.quiet (v:=.bool t89) rfl (Wn.yes c87 rfl rfl rfl rfl) rfl rfl rfl (f_callR rfl rfl (args_val (vs:=[a0_2,.func (.func 61) #[] #[ptr c2_b 0]]) rfl) (fun w => enter54 _ w) (fun w hc => cont61.val hr_terms_can h90 (M:=M) w (hE.ext hc) hG hr_a0_2 hm_c0 hb_c0 hm_c1 hb_c1 hb_c2)) ?_
      refine DL.pure (v:=.bool (!t89)) rfl (Wn.yes c87 rfl rfl rfl rfl) rfl rfl rfl (p_not rfl rfl) ?_
      refine DL.pu 65 (.bool (!t89)) rfl (p_pick_t c87 rfl rfl rfl) ?_
      obtain rfl:=Option.some.inj h91
      exact DL.weak J86 (Sub.cons rfl (Sub.nil _))
     ·
      replace c87:=Bool.eq_false_iff.mpr c87
      have h92:=ite_false c87 h84
      refine DL.not (i:=4) rfl (Wn.no c87 rfl rfl rfl rfl) rfl rfl ?_
      refine DL.not (i:=5) rfl (Wn.no c87 rfl rfl rfl rfl) rfl rfl ?_
      refine DL.not (i:=6) rfl (Wn.no c87 rfl rfl rfl rfl) rfl rfl ?_
      refine DL.not (i:=7) rfl (Wn.no c87 rfl rfl rfl rfl) rfl rfl ?_
      refine DL.not (i:=8) rfl (Wn.no c87 rfl rfl rfl rfl) rfl rfl ?_
      refine DL.pu 65 (.bool false) rfl (p_pick_f c87 rfl rfl rfl) ?_
      obtain rfl:=Option.some.inj h92
      exact DL.weak J86 (Sub.cons rfl (Sub.nil _))
 ·
  by_cases c16 : (khas c0 t3) = true
  ·
   have h17:=ite_true c16 h13
   refine DL.not (i:=2) rfl (Wn.yes c16 rfl rfl rfl rfl) rfl rfl ?_
   refine DL.not (i:=3) rfl (Wn.yes c16 rfl rfl rfl rfl) rfl rfl ?_
   refine DL.not (i:=4) rfl (Wn.yes c16 rfl rfl rfl rfl) rfl rfl ?_
   refine DL.pu 24 (.bool true) rfl (p_pick_t c16 rfl rfl rfl) ?_
   obtain rfl:=Option.some.inj h17
   exact DL.weak J15 (Sub.cons rfl (Sub.cons rfl (Sub.cons rfl (Sub.cons rfl (Sub.cons rfl (Sub.nil _))))))
  ·
   replace c16:=Bool.eq_false_iff.mpr c16
   have h18:=ite_false c16 h13
   refine DL.pure (v:=ptr b1 0) rfl (Wn.no c16 rfl rfl rfl rfl) rfl rfl rfl (p_fieldAddr ty_f25_0 rfl rfl) ?_
   refine DL.quiet (v:=.int .i64 (Tm.kind a0)) rfl (Wn.no c16 rfl rfl rfl rfl) rfl rfl rfl (f_load (j:=1) ty_a23 rfl rfl rfl rfl) ?_
   refine DL.pure (v:=.bool ((Tm.kind a0) == 1)) rfl (Wn.no c16 rfl rfl rfl rfl) rfl rfl rfl (p_eql rfl rfl rfl) ?_
   refine DL.pu 24 (.bool ((Tm.kind a0) == 1)) rfl (p_pick_f c16 rfl rfl rfl) ?_
   obtain rfl:=Option.some.inj h18
   exact DL.weak J15 (Sub.cons rfl (Sub.cons rfl (Sub.cons rfl (Sub.cons rfl (Sub.cons rfl (Sub.nil _))))))
theorem terms_can.valF {r_terms_can : Tm → KM → Option (Bool)} (hr_terms_can : terms_can.Rec r_terms_can) {a0 : Tm} {c0 : KM} {a0_2 : Value} {c0_m : Nat} {c0_b : Nat} {c1_m : Nat} {c1_b : Nat} {c2_b : Nat} {r : Bool} (h : terms_can.F r_terms_can a0 c0 = some r) {M : Mem} (w : World) (hM : Ext M (heapOf w)) (hG : Glob M) (hr_a0_2 : RowS ShTm M a0_2 (Tree.kids a0)) (hm_c0 : KMap ShTm M c0_m c0) (hb_c0 : M c0_b = some (.cells #[.map (some c0_m)] 56 (0,0))) (hm_c1 : M c1_m = some FormsO) (hb_c1 : M c1_b = some (.cells #[.map (some c1_m)] 59 (0,0))) (hb_c2 : M c2_b = some (.cells #[.func (.func 59) #[] #[ptr c0_b 0,ptr c1_b 0,ptr c2_b 0]] 29 (0,0))) : Calls Tryd.prog 59 #[.agg (Tm.ce a0 a0_2),ptr c0_b 0,ptr c1_b 0,ptr c2_b 0] w fun e w' => e = .returned (.bool r) ∧ Below w.heap.size w w' :=
 calls_value (terms_can.okF hr_terms_can h w hM hG hr_a0_2 hm_c0 hb_c0 hm_c1 hb_c1 hb_c2)
def terms_can.f : Nat → Tm → KM → Option (Bool)
 | 0,_,_ => none
 | k + 1,a0,c0 => terms_can.F (terms_can.f k) a0 c0
theorem terms_can.rec : ∀ k,terms_can.Rec (terms_can.f k):=by
 intro k
 induction k with
 | zero => intro _ _ _ _ _ _ _ _ _ h; simp [terms_can.f] at h
 | succ k ih => intro a0 c0 a0_2 c0_m c0_b c1_m c1_b c2_b r h M w hM hG hr_a0_2 hm_c0 hb_c0 hm_c1 hb_c1 hb_c2; exact terms_can.valF ih h w hM hG hr_a0_2 hm_c0 hb_c0 hm_c1 hb_c1 hb_c2
theorem terms_can.val {k : Nat} {a0 : Tm} {c0 : KM} {a0_2 : Value} {c0_m : Nat} {c0_b : Nat} {c1_m : Nat} {c1_b : Nat} {c2_b : Nat} {r : Bool} (h : terms_can.f k a0 c0 = some r) {M : Mem} (w : World) (hM : Ext M (heapOf w)) (hG : Glob M) (hr_a0_2 : RowS ShTm M a0_2 (Tree.kids a0)) (hm_c0 : KMap ShTm M c0_m c0) (hb_c0 : M c0_b = some (.cells #[.map (some c0_m)] 56 (0,0))) (hm_c1 : M c1_m = some FormsO) (hb_c1 : M c1_b = some (.cells #[.map (some c1_m)] 59 (0,0))) (hb_c2 : M c2_b = some (.cells #[.func (.func 59) #[] #[ptr c0_b 0,ptr c1_b 0,ptr c2_b 0]] 29 (0,0))) : Calls Tryd.prog 59 #[.agg (Tm.ce a0 a0_2),ptr c0_b 0,ptr c1_b 0,ptr c2_b 0] w fun e w' => e = .returned (.bool r) ∧ Below w.heap.size w w' :=
 terms_can.rec k h w hM hG hr_a0_2 hm_c0 hb_c0 hm_c1 hb_c1 hb_c2

/-! ### (escutcheon/terms.knowledge).can: function 38 -/
noncomputable def B38 : Code:=bodyOf Tryd.f38
def terms_canM.f (a0 : KM) (a1 : Tm) : Option (Bool):=(terms_forms.f).bind fun _ => (terms_can.f (Tm.fuel a1) a1 a0).bind fun t10 => some t10
set_option maxRecDepth 20000 in
theorem terms_canM.ok {a0 : KM} {a1 : Tm} {a0_m : Nat} {a1_2 : Value} {r : Bool} (h : terms_canM.f a0 a1 = some r) {M : Mem} (w : World) (hM : Ext M (heapOf w)) (hG : Glob M) (hm_a0 : KMap ShTm M a0_m a0) (hr_a1_2 : RowS ShTm M a1_2 (Tree.kids a1)) : Calls Tryd.prog 38 #[.map (some a0_m),.agg (Tm.ce a1 a1_2)] w (Post (fun u => u = .bool r) w):=by
 unfold terms_canM.f at h
 have hE:=Env.start hM
 refine calls_of_TT (N:=12) (S:=[(0,.map (some a0_m)),(1,.agg (Tm.ce a1 a1_2))]) (c:=B38) Tryd.func38 rfl rfl rfl (by simp) ?_
 show TT _ _ _ _ _ _ [.code (sub [] B38)] _ _
 refine TT.seq (x:=sub [0] B38) (y:=sub [1] B38) ?_
 refine TT.rg [0,1,2] [(.alloc,none),(.alloc,none),kp] rfl rfl ?_
 refine DL.new (ob:=.cells (#[.map (some a0_m)]) 56) (mk:=fun b => ptr b 0) (i:=0) rfl (Wn.none rfl) rfl rfl rfl (f_box (v:=.map (some a0_m)) rfl rfl) ?_
 intro b1 hb1
 refine DL.new (ob:=.cells ((Tm.ce a1 a1_2)) 25) (mk:=fun b => ptr b 0) (i:=1) rfl (Wn.none rfl) rfl rfl rfl (f_box (v:=.agg (Tm.ce a1 a1_2)) rfl rfl) ?_
 intro b2 hb2
 refine DL.pu 4 (.bool false) rfl (p_assign rfl rfl) ?_
 refine DL.nil ?_
 refine TT.seq (x:=sub [1,0] B38) (y:=sub [1,1] B38) ?_
 refine TT.rg [0,1,2] [kk,(.alloc,none),(.store,none)] rfl rfl ?_
 obtain ⟨_,h4,h5⟩:=bind_some h
 refine DL.callF (G:=Nat) (u:=fun g => .map (some g)) (Q:=fun g M_ => (M_ g = some FormsO)) (A:=[(some b2,.cells ((Tm.ce a1 a1_2)) 25 (0,0)),(some b1,.cells (#[.map (some a0_m)]) 56 (0,0))]) (J:=[]) (fun J6 => ((some b2,.cells ((Tm.ce a1 a1_2)) 25 (0,0)) :: (some b1,.cells (#[.map (some a0_m)]) 56 (0,0)) :: J6)) (Nat.le_refl _) hE.nil (List.append_nil _).symm (fun _ => rfl) (by simp) (i:=0) rfl (Wn.none rfl) rfl rfl rfl rfl rfl rfl (args_val (vs:=[]) rfl) (fun w => enter40 _ w) (fun w hc hI => terms_forms.ok h4 (M:=M) w hI ) ?_
 rintro t3_m M6 J6 hE6 hx6 hm_t3
 show DL _ _ _ _ _ _ _ _ _ _ _ _ ((some b2,.cells ((Tm.ce a1 a1_2)) 25 (0,0)) :: (some b1,.cells (#[.map (some a0_m)]) 56 (0,0)) :: J6)
 refine DL.new (ob:=.cells (#[.map none]) 59) (mk:=fun b => ptr b 0) (i:=1) rfl (Wn.none rfl) rfl rfl rfl (f_alloc ty_z59 rfl) ?_
 intro b7 hb7
 refine DL.put (H':=((some b7,.cells (#[.map (some t3_m)]) 59 (0,0)) :: (some b2,.cells ((Tm.ce a1 a1_2)) 25 (0,0)) :: (some b1,.cells (#[.map (some a0_m)]) 56 (0,0)) :: J6)) (i:=2) rfl (Wn.none rfl) rfl rfl (f_store (c:=#[.map none]) (v:=.map (some t3_m)) (off:=0) (j:=0) ty_s59 rfl rfl (of_decide_eq_true rfl) trivial rfl rfl rfl) (keep_none rfl) ?_
 refine DL.nil ?_
 refine TT.settle (A:=[(some b7,.cells (#[.map (some t3_m)]) 59 (0,0)),(some b2,.cells ((Tm.ce a1 a1_2)) 25 (0,0)),(some b1,.cells (#[.map (some a0_m)]) 56 (0,0))]) (J:=J6) hE6 ?_
 intro I8 hE8 hxI8
 refine TT.seq (x:=sub [1,1,0] B38) (y:=sub [1,1,1] B38) ?_
 refine TT.rg [0] [(.alloc,none)] rfl rfl ?_
 refine DL.new (ob:=.cells (#[.nilFunc]) 29) (mk:=fun b => ptr b 0) (i:=0) rfl (Wn.none rfl) rfl rfl rfl (f_alloc ty_z29 rfl) ?_
 intro b9 hb9
 refine DL.nil ?_
 refine TT.seq (x:=sub [1,1,1,0] B38) (y:=sub [1,1,1,1] B38) ?_
 refine TT.rg [0,1] [kp,(.store,none)] rfl rfl ?_
 refine DL.pu 8 (.func (.func 59) #[] #[ptr b1 0,ptr b7 0,ptr b9 0]) rfl (p_makeFunc rfl (args_val (vs:=[ptr b1 0,ptr b7 0,ptr b9 0]) rfl)) ?_
 refine DL.put (H':=[(some b9,.cells (#[.func (.func 59) #[] #[ptr b1 0,ptr b7 0,ptr b9 0]]) 29 (0,0)),(some b7,.cells (#[.map (some t3_m)]) 59 (0,0)),(some b2,.cells ((Tm.ce a1 a1_2)) 25 (0,0)),(some b1,.cells (#[.map (some a0_m)]) 56 (0,0))]) (i:=1) rfl (Wn.none rfl) rfl rfl (f_store (c:=#[.nilFunc]) (v:=.func (.func 59) #[] #[ptr b1 0,ptr b7 0,ptr b9 0]) (off:=0) (j:=0) ty_s29 rfl rfl (of_decide_eq_true rfl) trivial rfl rfl rfl) (keep_none rfl) ?_
 refine DL.nil ?_
 refine TT.seq (x:=sub [1,1,1,1,0] B38) (y:=sub [1,1,1,1,1] B38) ?_
 refine TT.rg [0,1,2,3] [kq,kq,kq,kp] rfl rfl ?_
 refine DL.qu 9 (.func (.func 59) #[] #[ptr b1 0,ptr b7 0,ptr b9 0]) rfl (f_load (j:=0) ty_a29 rfl rfl rfl rfl) ?_
 refine DL.qu 10 (.agg (Tm.ce a1 a1_2)) rfl (f_loadA (j:=2) ty_a25 ty_s25 rfl rfl rfl rfl) ?_
 obtain ⟨t10,h11,h12⟩:=bind_some h5
 refine DL.qu 11 (.bool t10) rfl (f_callV (by simp) rfl rfl rfl (args_val (vs:=[.agg (Tm.ce a1 a1_2)]) rfl) (fun w => enter59 _ w) (fun w hc => terms_can.val h11 (M:=heapOf w) w (Ext.refl _) (Glob.mono (Glob.mono hG hx6) (hE8.ext hc)) (RowS.mono (RowS.mono hr_a1_2 hx6) (hE8.ext hc)) (KMap.mono (KMap.mono hm_a0 hx6) (hE8.ext hc)) (box_own hc (i:=3) rfl) ((hE8.ext hc) _ _ hm_t3) (box_own hc (i:=1) rfl) (box_own hc (i:=0) rfl))) ?_
 refine DL.pu 4 (.bool t10) rfl (p_assign rfl rfl) ?_
 refine DL.nil ?_
 obtain rfl:=Option.some.inj h12
 exact retnE (rs:=[.tmp 4]) (vs:=[.bool t10]) hE8.base Tryd.func38 rfl rfl rfl (res_cons (ResV.tmp rfl) res_nil) rfl
theorem terms_canM.val {a0 : KM} {a1 : Tm} {a0_m : Nat} {a1_2 : Value} {r : Bool} (h : terms_canM.f a0 a1 = some r) {M : Mem} (w : World) (hM : Ext M (heapOf w)) (hG : Glob M) (hm_a0 : KMap ShTm M a0_m a0) (hr_a1_2 : RowS ShTm M a1_2 (Tree.kids a1)) : Calls Tryd.prog 38 #[.map (some a0_m),.agg (Tm.ce a1 a1_2)] w fun e w' => e = .returned (.bool r) ∧ Below w.heap.size w w' :=
 calls_value (terms_canM.ok h w hM hG hm_a0 hr_a1_2)

/-! ### slices.Reverse[[]escutcheon/api.Term,escutcheon/api.Term]: function 62 -/
noncomputable def B62 : Code:=bodyOf Tryd.f62
def tm_reverse.L0 : Nat → (List Tm) → Int → Int → Option (List Tm)
 | 0,_,_,_ => none
 | k + 1,y_1,x2_2,x3_3 => if (decide (x2_2 < x3_3)) = true then (req (0 ≤ x3_3) (req (x3_3 < (y_1.length : Int)) (nm (y_1.getD x3_3.toNat Tm.dflt) fun t89 => req (0 ≤ x2_2) (req (x2_2 < (y_1.length : Int)) (nm (y_1.getD x2_2.toNat Tm.dflt) fun t97 => req (x3_3 < ((y_1.set x2_2.toNat t89).length : Int)) (tm_reverse.L0 k ((y_1.set x2_2.toNat t89).set x3_3.toNat t97) (IntKind.i64.wrap (x2_2 + 1)) (IntKind.i64.wrap (x3_3 - 1)))))))) else (some y_1)
set_option maxRecDepth 20000 in
theorem tm_reverse.L0_ok (a0_v : Value) {R : Ending → World → Prop} {w0 : World} {M0 M I : Mem} {K : List Item} (hE : EnvX (Value.ownBlock a0_v) w0 M0 M I) :
  ∀ (k : Nat) (y_1 : List Tm) (x2_2 : Int) (x3_3 : Int) (y_1_c : Array Value) (r0_ : List Tm) (ho_y_1 : OwnS ShTm M a0_v y_1_c y_1) (h : tm_reverse.L0 k y_1 x2_2 x3_3 = some r0_) (hk : ∀ (z_hole_80_c : Array Value),OwnS ShTm M a0_v z_hole_80_c r0_ → TT Tryd.prog 62 R 28 w0 I K [] [(Value.ownBlock a0_v,.cells z_hole_80_c 25 (0,0))]),
   TT Tryd.prog 62 R 28 w0 I (.code (sub [1,0,0] B62) :: .inLoop (sub [1,0,0] B62) :: .inBlock 0 :: K) [(0,a0_v),(2,.int .i64 x2_2),(3,.int .i64 x3_3)] [(Value.ownBlock a0_v,.cells y_1_c 25 (0,0))]:=by
 intro k
 induction k with
 | zero => intro y_1 x2_2 x3_3 y_1_c r0_ ho_y_1 h; simp [tm_reverse.L0] at h
 | succ k ih =>
  intro y_1 x2_2 x3_3 y_1_c r0_ ho_y_1 h hk
  unfold tm_reverse.L0 at h
  refine TT.seq (x:=sub [1,0,0,0] B62) (y:=sub [1,0,0,1] B62) ?_
  refine TT.seq (x:=sub [1,0,0,0,0] B62) (y:=sub [1,0,0,0,1] B62) ?_
  refine TT.rg [0,1,2] [kp,kp,kp] rfl rfl ?_
  refine DL.mv 7 (.int .i64 x2_2) rfl rfl rfl ?_
  refine DL.mv 8 (.int .i64 x3_3) rfl rfl rfl ?_
  refine DL.pu 9 (.bool (decide (x2_2 < x3_3))) rfl (p_lss rfl rfl rfl) ?_
  refine DL.nil ?_
  by_cases c81 : (decide (x2_2 < x3_3)) = true
  ·
   have h82:=ite_true c81 h
   refine TT.cond_true (x:=sub [1,0,0,0,1,0] B62) (y:=sub [1,0,0,0,1,1] B62) rfl c81 ?_
   refine TT.skip ?_
   refine TT.seq (x:=sub [1,0,0,1,0] B62) (y:=sub [1,0,0,1,1] B62) ?_
   refine TT.block (c:=sub [1,0,0,1,0,0] B62) ?_
   refine TT.rgD [0,1,2,3,4,5,6,7,8,9,10,11,12,13,14,15] [0,0,0,0,0,0,48,112,0,0,768,1792,4083,8179,16383,32767] [kp,kp,kp,kp,kp,kp,kp,kq,kp,kp,kp,kq,kp,(.store,none),kp,(.store,none)] rfl mixed (by kernel_rfl) ?_
   intro w83 hl83 hj83 hz83
   refine DL.mv 14 (a0_v) rfl rfl rfl ?_
   refine DL.mv 15 (.int .i64 x2_2) rfl rfl rfl ?_
   refine DL.mv 16 (a0_v) rfl rfl rfl ?_
   refine DL.mv 17 (.int .i64 x3_3) rfl rfl rfl ?_
   refine DL.mv 18 (a0_v) rfl rfl rfl ?_
   refine DL.mv 19 (.int .i64 x3_3) rfl rfl rfl ?_
   obtain ⟨g84,h85⟩:=req_some h82
   obtain ⟨g86,h87⟩:=req_some h85
   refine DL.pu 20 (elp a0_v (x3_3.toNat * 3)) rfl (p_slIx ty_u22 ty_s25 (OwnS.some ho_y_1 g84 g86) g84 g86 rfl rfl rfl) ?_
   obtain ⟨t89,e90,h91⟩:=nm_some h87
   obtain ⟨cs88,hc88,hl88⟩:=id (ho_y_1)
   have q88:=hl88 _ _ (getD_some Tm.dflt (lt_len g84 g86)); rw [← e90] at q88
   obtain ⟨t89_2,hq88,hr_t89_2⟩:=Tm.op q88
   refine DL.qu 21 (.agg (Tm.ce t89 t89_2)) rfl (f_loadElA (j:=0) rfl hc88 hq88 (lt_len g84 g86) ty_a25 ty_s25 rfl rfl) ?_
   refine DL.mv 22 (a0_v) rfl rfl rfl ?_
   refine DL.mv 23 (.int .i64 x2_2) rfl rfl rfl ?_
   obtain ⟨g92,h93⟩:=req_some h91
   obtain ⟨g94,h95⟩:=req_some h93
   refine DL.pu 24 (elp a0_v (x2_2.toNat * 3)) rfl (p_slIx ty_u22 ty_s25 (OwnS.some ho_y_1 g92 g94) g92 g94 rfl rfl rfl) ?_
   obtain ⟨t97,e98,h99⟩:=nm_some h95
   obtain ⟨cs96,hc96,hl96⟩:=id (ho_y_1)
   have q96:=hl96 _ _ (getD_some Tm.dflt (lt_len g92 g94)); rw [← e98] at q96
   obtain ⟨t97_2,hq96,hr_t97_2⟩:=Tm.op q96
   refine DL.qu 25 (.agg (Tm.ce t97 t97_2)) rfl (f_loadElA (j:=0) rfl hc96 hq96 (lt_len g92 g94) ty_a25 ty_s25 rfl rfl) ?_
   refine DL.pu 26 (elp a0_v (x2_2.toNat * 3)) rfl (p_slIx ty_u22 ty_s25 (OwnS.some ho_y_1 g92 g94) g92 g94 rfl rfl rfl) ?_
   obtain ⟨c100,c100_e⟩ : ∃ c,c = splice y_1_c (x2_2.toNat * 3) [.int .i64 (Tm.kind t89),.int .i64 (Tm.num t89),t89_2]:=⟨_,rfl⟩
   have ho_101 : OwnS ShTm M a0_v c100 (y_1.set x2_2.toNat t89):=by rw [c100_e]; exact OwnS.set ho_y_1 (lt_len g92 g94) (Tm.cl (t:=t89) hr_t89_2) rfl
   refine DL.put (H':=[(Value.ownBlock a0_v,.cells c100 25 (0,0))]) (i:=13) rfl (Wn.none rfl) rfl rfl (by rw [c100_e]; exact f_storeElA (j:=0) (vs:=[.int .i64 (Tm.kind t89),.int .i64 (Tm.num t89),t89_2]) ty_s25 rfl (OwnS.V ho_y_1).choose_spec (lt_len g92 g94) rfl (one_cons trivial (one_cons trivial (one_cons (sl_one (RowS.sl hr_t89_2)) one_nil))) rfl rfl rfl) (keep_none rfl) ?_
   obtain ⟨g102,h103⟩:=req_some h99
   refine DL.pu 27 (elp a0_v (x3_3.toNat * 3)) rfl (p_slIx ty_u22 ty_s25 (OwnS.some ho_101 g84 g102) g84 g102 rfl rfl rfl) ?_
   obtain ⟨c104,c104_e⟩ : ∃ c,c = splice c100 (x3_3.toNat * 3) [.int .i64 (Tm.kind t97),.int .i64 (Tm.num t97),t97_2]:=⟨_,rfl⟩
   have ho_105 : OwnS ShTm M a0_v c104 ((y_1.set x2_2.toNat t89).set x3_3.toNat t97):=by rw [c104_e]; exact OwnS.set ho_101 (lt_len g84 g102) (Tm.cl (t:=t97) hr_t97_2) rfl
   refine DL.put (H':=[(Value.ownBlock a0_v,.cells c104 25 (0,0))]) (i:=15) rfl (Wn.none rfl) rfl rfl (by rw [c104_e]; exact f_storeElA (j:=0) (vs:=[.int .i64 (Tm.kind t97),.int .i64 (Tm.num t97),t97_2]) ty_s25 rfl (OwnS.V ho_101).choose_spec (lt_len g84 g102) rfl (one_cons trivial (one_cons trivial (one_cons (sl_one (RowS.sl hr_t97_2)) one_nil))) rfl rfl rfl) (keep_none rfl) ?_
   refine DL.nil' hl83 ?_
   refine TT.inBlock ?_
   refine TT.rg [0,1,2,3,4,5] [kp,kp,kp,kp,kp,kp] rfl rfl ?_
   refine DL.mv 10 (.int .i64 x2_2) rfl rfl rfl ?_
   refine DL.pu 11 (.int .i64 (IntKind.i64.wrap (x2_2 + 1))) rfl (p_add rfl rfl rfl) ?_
   refine DL.mv 12 (.int .i64 x3_3) rfl rfl rfl ?_
   refine DL.pu 13 (.int .i64 (IntKind.i64.wrap (x3_3 - 1))) rfl (p_sub rfl rfl rfl) ?_
   refine DL.pu 2 (.int .i64 (IntKind.i64.wrap (x2_2 + 1))) rfl (p_assign rfl rfl) ?_
   refine DL.pu 3 (.int .i64 (IntKind.i64.wrap (x3_3 - 1))) rfl (p_assign rfl rfl) ?_
   refine DL.nil ?_
   refine TT.inLoop ?_
   exact TT.weak (ih ((y_1.set x2_2.toNat t89).set x3_3.toNat t97) (IntKind.i64.wrap (x2_2 + 1)) (IntKind.i64.wrap (x3_3 - 1)) c104 r0_ ho_105 h103 hk) (Sub.cons rfl (Sub.cons rfl (Sub.cons rfl (Sub.nil _))))
  ·
   replace c81:=Bool.eq_false_iff.mpr c81
   have h106:=ite_false c81 h
   refine TT.cond_false (x:=sub [1,0,0,0,1,0] B62) (y:=sub [1,0,0,0,1,1] B62) rfl c81 ?_
   refine TT.exit rfl ?_
   obtain rfl:=Option.some.inj h106
   exact TT.weak (hk y_1_c ho_y_1) (Sub.nil _)

def tm_reverse.f (a0 : List Tm) : Option ((List Tm)):=(tm_reverse.L0 100 a0 0 (IntKind.i64.wrap ((a0.length : Int) - 1))).bind fun z_hole_80 => some z_hole_80
set_option maxRecDepth 20000 in
theorem tm_reverse.ok {a0 : List Tm} {a0_v : Value} {a0_c : Array Value} {r_h : List Tm} (h : tm_reverse.f a0 = some r_h) {M : Mem} (w : World) (hM : Ext M (heapOf w)) (ho_a0 : OwnS ShTm M a0_v a0_c a0) (hX : ∀ b,(Value.ownBlock a0_v) = some b → w.heap[b]? = some (.cells a0_c 25 (0,0))) (hXM : ∀ b,(Value.ownBlock a0_v) = some b → M b = none) : Calls Tryd.prog 62 #[a0_v] w (PostX (G:=Array Value) (fun g => .tuple #[]) (fun g M_ => (OwnS ShTm M_ a0_v g r_h)) (fun g => (Value.ownBlock a0_v)) (fun g => .cells g 25 (0,0)) (Value.ownBlock a0_v) M w):=by
 unfold tm_reverse.f at h
 have hE:=Env.startX hM hXM
 refine calls_of_TTX (x:=(Value.ownBlock a0_v)) (o:=.cells a0_c 25 (0,0)) (N:=28) (S:=[(0,a0_v)]) (c:=B62) hX Tryd.func62 rfl rfl rfl (by simp) ?_
 show TT _ _ _ _ _ _ [.code (sub [] B62)] _ _
 refine TT.seq (x:=sub [0] B62) (y:=sub [1] B62) ?_
 refine TT.rg [0,1,2,3,4] [kp,kp,kp,kp,kp] rfl rfl ?_
 refine DL.mv 4 (a0_v) rfl rfl rfl ?_
 refine DL.pu 5 (.int .i64 (a0.length : Int)) rfl (p_slLen ty_u22 (OwnS.sl ho_a0) rfl rfl) ?_
 refine DL.pu 6 (.int .i64 (IntKind.i64.wrap ((a0.length : Int) - 1))) rfl (p_sub rfl rfl rfl) ?_
 refine DL.pu 2 (.int .i64 0) rfl (p_assign rfl rfl) ?_
 refine DL.pu 3 (.int .i64 (IntKind.i64.wrap ((a0.length : Int) - 1))) rfl (p_assign rfl rfl) ?_
 refine DL.nil ?_
 refine TT.block (c:=sub [1,0] B62) ?_
 refine TT.loop (c:=sub [1,0,0] B62) ?_
 obtain ⟨z_hole_80,h107,h108⟩:=bind_some h
 refine TT.weak (tm_reverse.L0_ok a0_v hE 100 a0 0 (IntKind.i64.wrap ((a0.length : Int) - 1)) a0_c z_hole_80 ho_a0 h107 (fun z_hole_80_c ho_z_hole_80 => ?_)) (Sub.cons rfl (Sub.cons rfl (Sub.cons rfl (Sub.nil _))))
 obtain rfl:=Option.some.inj h108
 exact endX (rs:=[]) (vs:=[]) (j:=0) z_hole_80_c hE Tryd.func62 rfl rfl rfl res_nil rfl ho_z_hole_80

@[reducible] def terms_order.Rec (r_ : Tm → Option (Tm)) : Prop:=∀ {a0 : Tm} {a0_2 : Value} {a1_m : Nat} {r : Tm},r_ a0 = some r → ∀ {M : Mem} (w : World) (hM : Ext M (heapOf w)) (hG : Glob M) (hr_a0_2 : RowS ShTm M a0_2 (Tree.kids a0)) (hm_a1 : M a1_m = some FormsO),Calls Tryd.prog 39 #[.agg (Tm.ce a0 a0_2),.map (some a1_m)] w ((PostF (G:=Value) (fun g => .agg (Tm.ce r g)) (fun g M_ => (RowS ShTm M_ g (Tree.kids r))) M w))

/-! ### escutcheon/terms.order: function 39 -/
noncomputable def B39 : Code:=bodyOf Tryd.f39
def terms_order.L0 (r_terms_order : Tm → Option (Tm)) (a0 : Tm) : Nat → (List Tm) → Int → Option (List Tm)
 | 0,_,_ => none
 | k + 1,y_5,x16_6 => if (decide (x16_6 < ((Tree.kids a0).length : Int))) = true then (req (0 ≤ x16_6) (req (x16_6 < ((Tree.kids a0).length : Int)) (nm ((Tree.kids a0).getD x16_6.toNat Tm.dflt) fun t89 => (r_terms_order t89).bind fun t94 => req (y_5.length + [t94].length ≤ 1099511627776) (terms_order.L0 r_terms_order a0 k (y_5 ++ [t94]) (IntKind.i64.wrap (x16_6 + 1)))))) else (some y_5)
set_option maxRecDepth 20000 in
theorem terms_order.L0_ok {r_terms_order : Tm → Option (Tm)} (hr_terms_order : terms_order.Rec r_terms_order) (a0 : Tm) (a0_2 : Value) (a1_m : Nat) (b1 : Nat) (b2 : Nat) (b3 : Nat) {R : Ending → World → Prop} {w0 : World} {M0 Mb : Mem} {K : List Item} (hG : Glob Mb) (hr_a0_2 : RowS ShTm Mb a0_2 (Tree.kids a0)) (hm_a1 : Mb a1_m = some FormsO) :
  ∀ (k : Nat) (M I : Mem) (hE : Env w0 M0 M I) (hx : Ext Mb M) (y_5 : List Tm) (x16_6 : Int) (y_5_v : Value) (y_5_c : Array Value) (r0_ : List Tm) (ho_y_5 : OwnS ShTm M y_5_v y_5_c y_5) (h : terms_order.L0 r_terms_order a0 k y_5 x16_6 = some r0_) (hk : ∀ (M' I' : Mem),Env w0 M0 M' I' → Ext Mb M' → ∀ (z_o4_81_v : Value),∀ (z_o4_81_c : Array Value),OwnS ShTm M' z_o4_81_v z_o4_81_c r0_ → TT Tryd.prog 39 R 51 w0 I' K [(1,.map (some a1_m)),(2,ptr b1 0),(4,ptr b2 0),(5,ptr b3 0)] [(Value.ownBlock z_o4_81_v,.cells z_o4_81_c 25 (0,0)),(some b3,.cells ((Tm.ce a0 z_o4_81_v)) 25 (0,0)),(some b2,.cells (#[.int .i64 0,.int .i64 0,(.slice none 0 0)]) 25 (0,0)),(some b1,.cells ((Tm.ce a0 a0_2)) 25 (0,0))]),
   TT Tryd.prog 39 R 51 w0 I (.code (sub [1,1,0,1,0,0] B39) :: .inLoop (sub [1,1,0,1,0,0] B39) :: .inBlock 0 :: K) [(1,.map (some a1_m)),(2,ptr b1 0),(4,ptr b2 0),(5,ptr b3 0),(14,a0_2),(15,.int .i64 ((Tree.kids a0).length : Int)),(16,.int .i64 x16_6)] [(Value.ownBlock y_5_v,.cells y_5_c 25 (0,0)),(some b3,.cells ((Tm.ce a0 y_5_v)) 25 (0,0)),(some b2,.cells (#[.int .i64 0,.int .i64 0,(.slice none 0 0)]) 25 (0,0)),(some b1,.cells ((Tm.ce a0 a0_2)) 25 (0,0))]:=by
 intro k
 induction k with
 | zero => intro M I hE hx y_5 x16_6 y_5_v y_5_c r0_ ho_y_5 h; simp [terms_order.L0] at h
 | succ k ih =>
  intro M I hE hx y_5 x16_6 y_5_v y_5_c r0_ ho_y_5 h hk
  unfold terms_order.L0 at h
  refine TT.seq (x:=sub [1,1,0,1,0,0,0] B39) (y:=sub [1,1,0,1,0,0,1] B39) ?_
  refine TT.rg [0] [kp] rfl rfl ?_
  refine DL.pu 17 (.bool (decide (x16_6 < ((Tree.kids a0).length : Int)))) rfl (p_lss rfl rfl rfl) ?_
  refine DL.nil ?_
  refine TT.seq (x:=sub [1,1,0,1,0,0,1,0] B39) (y:=sub [1,1,0,1,0,0,1,1] B39) ?_
  by_cases c82 : (decide (x16_6 < ((Tree.kids a0).length : Int))) = true
  ·
   have h83:=ite_true c82 h
   refine TT.cond_true (x:=sub [1,1,0,1,0,0,1,0,0] B39) (y:=sub [1,1,0,1,0,0,1,0,1] B39) rfl c82 ?_
   refine TT.skip ?_
   refine TT.seq (x:=sub [1,1,0,1,0,0,1,1,0] B39) (y:=sub [1,1,0,1,0,0,1,1,1] B39) ?_
   refine TT.block (c:=sub [1,1,0,1,0,0,1,1,0,0] B39) ?_
   refine TT.seq (x:=sub [1,1,0,1,0,0,1,1,0,0,0] B39) (y:=sub [1,1,0,1,0,0,1,1,0,0,1] B39) ?_
   refine TT.rg [0,1,2,3] [kp,kp,(.alloc,none),(.store,none)] rfl rfl ?_
   obtain ⟨g84,h85⟩:=req_some h83
   obtain ⟨g86,h87⟩:=req_some h85
   refine DL.pu 18 (elp a0_2 (x16_6.toNat * 3)) rfl (p_slIx ty_u22 ty_s25 (RowS.some (RowS.mono hr_a0_2 hx) g84 g86) g84 g86 rfl rfl rfl) ?_
   obtain ⟨t89,e90,h91⟩:=nm_some h87
   obtain ⟨cs88,hc88,hl88⟩:=id ((RowS.mono hr_a0_2 hx))
   have q88:=hl88 _ _ (getD_some Tm.dflt (lt_len g84 g86)); rw [← e90] at q88
   obtain ⟨t89_2,hq88,hr_t89_2⟩:=Tm.op q88
   refine DL.imm (v:=.agg (Tm.ce t89 t89_2)) rfl (Wn.none rfl) rfl rfl rfl (i_loadElA (RowV.mono hc88 hE.mi) hq88 (lt_len g84 g86) ty_a25 ty_s25 rfl rfl) ?_
   refine DL.new (ob:=.cells (#[.int .i64 0,.int .i64 0,(.slice none 0 0)]) 25) (mk:=fun b => ptr b 0) (i:=2) rfl (Wn.none rfl) rfl rfl rfl (f_alloc ty_z25 rfl) ?_
   intro b92 hb92
   refine DL.put (H':=[(some b92,.cells ((Tm.ce t89 t89_2)) 25 (0,0)),(Value.ownBlock y_5_v,.cells y_5_c 25 (0,0)),(some b3,.cells ((Tm.ce a0 y_5_v)) 25 (0,0)),(some b2,.cells (#[.int .i64 0,.int .i64 0,(.slice none 0 0)]) 25 (0,0)),(some b1,.cells ((Tm.ce a0 a0_2)) 25 (0,0))]) (i:=3) rfl (Wn.none rfl) rfl rfl (f_storeA (j:=0) ty_s25 rfl rfl rfl (one_cons trivial (one_cons trivial (one_cons (sl_one (RowS.sl hr_t89_2)) one_nil))) rfl rfl rfl) (keep_none rfl) ?_
   refine DL.nil ?_
   refine TT.rgD [0,1,2,3,4,5,6,7,8] [0,1,0,0,12,28,63,127,255] [kp,(.look,some 2),(.look,some 0),kp,kk,(.alloc,none),kx,kp,(.store,some 2)] rfl mixed (by kernel_rfl) ?_
   intro w93 hl93 hj93 hz93
   refine DL.pu 20 (ptr b3 2) rfl (p_fieldAddr ty_f25_2 rfl rfl) ?_
   refine DL.look (v:=y_5_v) (x:=2) (b:=b3) (i:=1) rfl (Wn.none rfl) rfl rfl rfl rfl rfl (List.mem_of_getElem? (i:=2) rfl) (b_load ty_a22 rfl rfl rfl) ?_
   refine DL.look (v:=.agg (Tm.ce t89 t89_2)) (x:=0) (b:=b92) (i:=2) rfl (Wn.none rfl) rfl rfl rfl rfl rfl (List.mem_of_getElem? (i:=0) rfl) (b_loadA ty_a25 ty_s25 rfl rfl rfl) ?_
   refine DL.mv 23 (.map (some a1_m)) rfl rfl rfl ?_
   obtain ⟨t94,h95,h96⟩:=bind_some h91
   refine DL.callF (G:=Value) (u:=fun g => .agg (Tm.ce t94 g)) (Q:=fun g M_ => (RowS ShTm M_ g (Tree.kids t94))) (A:=[(some b92,.cells ((Tm.ce t89 t89_2)) 25 (0,0)),(Value.ownBlock y_5_v,.cells y_5_c 25 (0,0)),(some b3,.cells ((Tm.ce a0 y_5_v)) 25 (0,0)),(some b2,.cells (#[.int .i64 0,.int .i64 0,(.slice none 0 0)]) 25 (0,0)),(some b1,.cells ((Tm.ce a0 a0_2)) 25 (0,0))]) (J:=[]) (fun J97 => ((some b92,.cells ((Tm.ce t89 t89_2)) 25 (0,0)) :: (Value.ownBlock y_5_v,.cells y_5_c 25 (0,0)) :: (some b3,.cells ((Tm.ce a0 y_5_v)) 25 (0,0)) :: (some b2,.cells (#[.int .i64 0,.int .i64 0,(.slice none 0 0)]) 25 (0,0)) :: (some b1,.cells ((Tm.ce a0 a0_2)) 25 (0,0)) :: J97)) hl93.2.2.2 hE.nil (List.append_nil _).symm (fun _ => rfl) (by simp) (i:=4) rfl (Wn.none rfl) rfl rfl rfl rfl rfl rfl (args_val (vs:=[.agg (Tm.ce t89 t89_2),.map (some a1_m)]) rfl) (fun w => enter39 _ w) (fun w hc hI => hr_terms_order h95 (M:=M) w hI (Glob.mono hG hx) hr_t89_2 (hx _ _ hm_a1)) ?_
   rintro t94_2 M97 J97 hE97 hx97 hr_t94_2
   show DL _ _ _ _ _ _ _ _ _ _ _ _ ((some b92,.cells ((Tm.ce t89 t89_2)) 25 (0,0)) :: (Value.ownBlock y_5_v,.cells y_5_c 25 (0,0)) :: (some b3,.cells ((Tm.ce a0 y_5_v)) 25 (0,0)) :: (some b2,.cells (#[.int .i64 0,.int .i64 0,(.slice none 0 0)]) 25 (0,0)) :: (some b1,.cells ((Tm.ce a0 a0_2)) 25 (0,0)) :: J97)
   refine DL.newS (M:=M97) (s:=ShTm) (zs:=[t94]) (cells:=[.int .i64 (Tm.kind t94),.int .i64 (Tm.num t94),t94_2]) (n:=1) rfl (by decide) rfl (fun i x hx => by match i,hx with | 0,hx => cases hx; exact (Tm.cl (t:=t94) hr_t94_2) | k + 1,hx => simp at hx) (i:=5) rfl (Wn.none rfl) rfl rfl rfl (f_buildS (n:=1) (vs:=[(0,.agg (Tm.ce t94 t94_2))]) elem22 rfl rfl (by kernel_rfl) rfl (args_val2 rfl)) ?_
   intro s99_v s99_c ho_s99
   obtain ⟨g100,h101⟩:=req_some h96
   refine DL.appendS (M:=M97) (s:=ShTm) (fun s102_v s102_c => ((Value.ownBlock s99_v,.cells s99_c 25 (0,0)) :: (some b92,.cells ((Tm.ce t89 t89_2)) 25 (0,0)) :: (Value.ownBlock s102_v,.cells s102_c 25 (0,0)) :: (some b3,.cells ((Tm.ce a0 y_5_v)) 25 (0,0)) :: (some b2,.cells (#[.int .i64 0,.int .i64 0,(.slice none 0 0)]) 25 (0,0)) :: (some b1,.cells ((Tm.ce a0 a0_2)) 25 (0,0)) :: J97)) elem22 (j:=2) rfl (OwnS.mono ho_y_5 hx97) g100 (by decide) (OwnS.src (i:=0) ho_s99 rfl) (i:=6) rfl (Wn.none rfl) rfl rfl rfl rfl rfl rfl (fun _ _ => rfl) ?_
   intro s102_v s102_c ho_s102
   show DL _ _ _ _ _ _ _ _ _ _ _ _ ((Value.ownBlock s99_v,.cells s99_c 25 (0,0)) :: (some b92,.cells ((Tm.ce t89 t89_2)) 25 (0,0)) :: (Value.ownBlock s102_v,.cells s102_c 25 (0,0)) :: (some b3,.cells ((Tm.ce a0 y_5_v)) 25 (0,0)) :: (some b2,.cells (#[.int .i64 0,.int .i64 0,(.slice none 0 0)]) 25 (0,0)) :: (some b1,.cells ((Tm.ce a0 a0_2)) 25 (0,0)) :: J97)
   refine DL.pu 27 (ptr b3 2) rfl (p_fieldAddr ty_f25_2 rfl rfl) ?_
   refine DL.put (H':=((Value.ownBlock s99_v,.cells s99_c 25 (0,0)) :: (some b92,.cells ((Tm.ce t89 t89_2)) 25 (0,0)) :: (Value.ownBlock s102_v,.cells s102_c 25 (0,0)) :: (some b3,.cells ((Tm.ce a0 s102_v)) 25 (0,0)) :: (some b2,.cells (#[.int .i64 0,.int .i64 0,(.slice none 0 0)]) 25 (0,0)) :: (some b1,.cells ((Tm.ce a0 a0_2)) 25 (0,0)) :: J97)) (i:=8) rfl (Wn.none rfl) rfl rfl (f_store (c:=(Tm.ce a0 y_5_v)) (v:=s102_v) (off:=2) (j:=3) ty_s22 rfl (sl_cells (OwnS.sl ho_s102)) (of_decide_eq_true rfl) (sl_one (OwnS.sl ho_s102)) rfl rfl rfl) (keep_set (j:=3) hj93 rfl rfl rfl) ?_
   refine DL.nil' hl93 ?_
   refine TT.settle (A:=[(Value.ownBlock s99_v,.cells s99_c 25 (0,0)),(some b92,.cells ((Tm.ce t89 t89_2)) 25 (0,0)),(Value.ownBlock s102_v,.cells s102_c 25 (0,0)),(some b3,.cells ((Tm.ce a0 s102_v)) 25 (0,0)),(some b2,.cells (#[.int .i64 0,.int .i64 0,(.slice none 0 0)]) 25 (0,0)),(some b1,.cells ((Tm.ce a0 a0_2)) 25 (0,0))]) (J:=J97) hE97 ?_
   intro I103 hE103 hxI103
   refine TT.inBlock ?_
   refine TT.rg [0,1] [kp,kp] rfl rfl ?_
   refine DL.pu 28 (.int .i64 (IntKind.i64.wrap (x16_6 + 1))) rfl (p_add rfl rfl rfl) ?_
   refine DL.mv 16 (.int .i64 (IntKind.i64.wrap (x16_6 + 1))) rfl rfl rfl ?_
   refine DL.nil ?_
   refine TT.inLoop ?_
   exact TT.pick [2,3,4,5] (by decide) (TT.weak (ih M97 I103 hE103 (hx.trans hx97) (y_5 ++ [t94]) (IntKind.i64.wrap (x16_6 + 1)) s102_v s102_c r0_ ho_s102 h101 hk) (Sub.cons rfl (Sub.cons rfl (Sub.cons rfl (Sub.cons rfl (Sub.cons rfl (Sub.cons rfl (Sub.cons rfl (Sub.nil _)))))))))
  ·
   replace c82:=Bool.eq_false_iff.mpr c82
   have h104:=ite_false c82 h
   refine TT.cond_false (x:=sub [1,1,0,1,0,0,1,0,0] B39) (y:=sub [1,1,0,1,0,0,1,0,1] B39) rfl c82 ?_
   refine TT.exit rfl ?_
   obtain rfl:=Option.some.inj h104
   exact TT.weak (hk M I hE hx y_5_v y_5_c ho_y_5) (Sub.cons rfl (Sub.cons rfl (Sub.cons rfl (Sub.cons rfl (Sub.nil _)))))

def terms_order.F (r_terms_order : Tm → Option (Tm)) (a0 : Tm) : Option (Tm):=(terms_order.L0 r_terms_order a0 (((Tree.kids a0).length : Int).toNat + 1) ([] : List Tm) 0).bind fun z_o4_81 => (if ((Tm.kind a0) == 8) = true then (req ((0 : Int) < (z_o4_81.length : Int)) (nm (z_o4_81.getD ((0 : Int).toNat) Tm.dflt) fun t119 => (terms_text.f (Tm.fuel t119) t119).bind fun t122 => req ((1 : Int) < (z_o4_81.length : Int)) (nm (z_o4_81.getD ((1 : Int).toNat) Tm.dflt) fun t128 => (terms_text.f (Tm.fuel t128) t128).bind fun t131 => some (!(lessL t122 t131 || t122 == t131))))) else (some false)).bind fun q110 => (if q110 = true then ((tm_reverse.f z_o4_81).bind fun t142_h => some t142_h) else (some z_o4_81)).bind fun j_o4_136 => some (Tm.mk (Tm.kind a0) (Tm.num a0) j_o4_136)
set_option maxRecDepth 20000 in
theorem terms_order.okF {r_terms_order : Tm → Option (Tm)} (hr_terms_order : terms_order.Rec r_terms_order) {a0 : Tm} {a0_2 : Value} {a1_m : Nat} {r : Tm} (h : terms_order.F r_terms_order a0 = some r) {M : Mem} (w : World) (hM : Ext M (heapOf w)) (hG : Glob M) (hr_a0_2 : RowS ShTm M a0_2 (Tree.kids a0)) (hm_a1 : M a1_m = some FormsO) : Calls Tryd.prog 39 #[.agg (Tm.ce a0 a0_2),.map (some a1_m)] w (PostF (G:=Value) (fun g => .agg (Tm.ce r g)) (fun g M_ => (RowS ShTm M_ g (Tree.kids r))) M w):=by
 unfold terms_order.F at h
 have hE:=Env.start hM
 refine calls_of_TT (N:=51) (S:=[(0,.agg (Tm.ce a0 a0_2)),(1,.map (some a1_m))]) (c:=B39) Tryd.func39 rfl rfl rfl (by simp) ?_
 show TT _ _ _ _ _ _ [.code (sub [] B39)] _ _
 refine TT.seq (x:=sub [0] B39) (y:=sub [1] B39) ?_
 refine TT.rg [0,1] [(.alloc,none),(.alloc,none)] rfl rfl ?_
 refine DL.new (ob:=.cells ((Tm.ce a0 a0_2)) 25) (mk:=fun b => ptr b 0) (i:=0) rfl (Wn.none rfl) rfl rfl rfl (f_box (v:=.agg (Tm.ce a0 a0_2)) rfl rfl) ?_
 intro b1 hb1
 refine DL.new (ob:=.cells (#[.int .i64 0,.int .i64 0,(.slice none 0 0)]) 25) (mk:=fun b => ptr b 0) (i:=1) rfl (Wn.none rfl) rfl rfl rfl (f_alloc ty_z25 rfl) ?_
 intro b2 hb2
 refine DL.nil ?_
 refine TT.seq (x:=sub [1,0] B39) (y:=sub [1,1] B39) ?_
 refine TT.rg [0,1,2,3,4,5,6] [kp,kq,kp,kq,kp,(.alloc,none),(.store,none)] rfl rfl ?_
 refine DL.pu 8 (ptr b1 0) rfl (p_fieldAddr ty_f25_0 rfl rfl) ?_
 refine DL.qu 9 (.int .i64 (Tm.kind a0)) rfl (f_load (j:=1) ty_a23 rfl rfl rfl rfl) ?_
 refine DL.pu 10 (ptr b1 1) rfl (p_fieldAddr ty_f25_1 rfl rfl) ?_
 refine DL.qu 11 (.int .i64 (Tm.num a0)) rfl (f_load (j:=1) ty_a3 rfl rfl rfl rfl) ?_
 refine DL.pu 12 (.agg #[.int .i64 (Tm.kind a0),.int .i64 (Tm.num a0),(.slice none 0 0)]) rfl (p_build (vs:=[(0,.int .i64 (Tm.kind a0)),(1,.int .i64 (Tm.num a0))]) (fun w => by kernel_rfl) rfl rfl) ?_
 refine DL.new (ob:=.cells (#[.int .i64 0,.int .i64 0,(.slice none 0 0)]) 25) (mk:=fun b => ptr b 0) (i:=5) rfl (Wn.none rfl) rfl rfl rfl (f_alloc ty_z25 rfl) ?_
 intro b3 hb3
 refine DL.put (H':=[(some b3,.cells (#[.int .i64 (Tm.kind a0),.int .i64 (Tm.num a0),(.slice none 0 0)]) 25 (0,0)),(some b2,.cells (#[.int .i64 0,.int .i64 0,(.slice none 0 0)]) 25 (0,0)),(some b1,.cells ((Tm.ce a0 a0_2)) 25 (0,0))]) (i:=6) rfl (Wn.none rfl) rfl rfl (f_storeA (j:=0) ty_s25 rfl rfl rfl (one_cons trivial (one_cons trivial (one_cons (sl_one (RowS.sl (RowS.nil ShTm M))) one_nil))) rfl rfl rfl) (keep_none rfl) ?_
 refine DL.nil ?_
 refine TT.seq (x:=sub [1,1,0] B39) (y:=sub [1,1,1] B39) ?_
 refine TT.seq (x:=sub [1,1,0,0] B39) (y:=sub [1,1,0,1] B39) ?_
 refine TT.rg [0,1,2,3] [kp,kq,kp,kp] rfl rfl ?_
 refine DL.pu 13 (ptr b1 2) rfl (p_fieldAddr ty_f25_2 rfl rfl) ?_
 refine DL.qu 14 (a0_2) rfl (f_load (j:=2) ty_a22 rfl rfl rfl rfl) ?_
 refine DL.pu 15 (.int .i64 ((Tree.kids a0).length : Int)) rfl (p_slLen ty_u22 (RowS.sl hr_a0_2) rfl rfl) ?_
 refine DL.mv 16 (.int .i64 0) rfl rfl rfl ?_
 refine DL.nil ?_
 refine TT.block (c:=sub [1,1,0,1,0] B39) ?_
 refine TT.nilOwn (e:=25) ?_
 refine TT.loop (c:=sub [1,1,0,1,0,0] B39) ?_
 obtain ⟨z_o4_81,h105,h106⟩:=bind_some h
 refine TT.weak (terms_order.L0_ok hr_terms_order a0 a0_2 a1_m b1 b2 b3 hG hr_a0_2 hm_a1 (((Tree.kids a0).length : Int).toNat + 1) M (heapOf w) hE (Ext.refl _) ([] : List Tm) 0 (.slice none 0 0) (#[]) z_o4_81 (OwnS.nil ShTm M) h105 (fun M107 I107 hE107 hx107 z_o4_81_v z_o4_81_c ho_z_o4_81 => ?_)) (Sub.cons rfl (Sub.cons rfl (Sub.cons rfl (Sub.cons rfl (Sub.cons rfl (Sub.cons rfl (Sub.cons rfl (Sub.nil _))))))))
 refine TT.seq (x:=sub [1,1,1,0] B39) (y:=sub [1,1,1,1] B39) ?_
 refine TT.seq (x:=sub [1,1,1,0,0] B39) (y:=sub [1,1,1,0,1] B39) ?_
 refine TT.rgD [0,1,2,3,4,5,6,7,8,9,10,11,12,13,14,15,16,17] [0,1,3,7,15,31,63,127,15,511,15,1039,3087,7183,15,32767,65535,131071] [kp,(.look,some 3),kp,kp,kp,(.look,some 1),kp,kq,kp,kq,kp,(.look,some 1),kp,kq,kp,kq,kp,kp] rfl mixed (by kernel_rfl) ?_
 intro w108 hl108 hj108 hz108
 refine DL.pu 29 (ptr b1 0) rfl (p_fieldAddr ty_f25_0 rfl rfl) ?_
 refine DL.look (v:=.int .i64 (Tm.kind a0)) (x:=3) (b:=b1) (i:=1) rfl (Wn.none rfl) rfl rfl rfl rfl rfl (List.mem_of_getElem? (i:=3) rfl) (b_load ty_a23 rfl rfl rfl) ?_
 refine DL.pu 31 (.bool ((Tm.kind a0) == 8)) rfl (p_eql rfl rfl rfl) ?_
 refine DL.mv 32 (.bool ((Tm.kind a0) == 8)) rfl rfl rfl ?_
 obtain ⟨q110,h111,h112⟩:=bind_some h106
 refine DL.cut [(4,ptr b2 0),(5,ptr b3 0),(46,.bool q110)] [] ?_ (fun J113 => ?_)
 ·
  refine DL.nil' hl108 ?_
  obtain ⟨j_o4_136,h137,h138⟩:=bind_some h112
  have J139 : ∀ (M140 I140 : Mem),Env w M M140 I140 → Ext M107 M140 → ∀ (j_o4_136_v : Value),∀ (j_o4_136_c : Array Value),OwnS ShTm M140 j_o4_136_v j_o4_136_c j_o4_136 → TT Tryd.prog 39 (PostF (G:=Value) (fun g => .agg (Tm.ce r g)) (fun g M_ => (RowS ShTm M_ g (Tree.kids r))) M w) 51 w I140 (.code (sub [1,1,1,1] B39) :: []) [(4,ptr b2 0),(5,ptr b3 0)] [(Value.ownBlock j_o4_136_v,.cells j_o4_136_c 25 (0,0)),(some b3,.cells ((Tm.ce a0 j_o4_136_v)) 25 (0,0)),(some b2,.cells (#[.int .i64 0,.int .i64 0,(.slice none 0 0)]) 25 (0,0)),(some b1,.cells ((Tm.ce a0 a0_2)) 25 (0,0))]:=by
   intro M140 I140 hE140 hx140 j_o4_136_v j_o4_136_c ho_j_o4_136
   refine TT.seq (x:=sub [1,1,1,1,0] B39) (y:=sub [1,1,1,1,1] B39) ?_
   refine TT.rg [0,1] [kq,(.store,none)] rfl rfl ?_
   refine DL.qu 50 (.agg (Tm.ce a0 j_o4_136_v)) rfl (f_loadA (j:=1) ty_a25 ty_s25 rfl rfl rfl rfl) ?_
   refine DL.put (H':=[(Value.ownBlock j_o4_136_v,.cells j_o4_136_c 25 (0,0)),(some b3,.cells ((Tm.ce a0 j_o4_136_v)) 25 (0,0)),(some b2,.cells ((Tm.ce a0 j_o4_136_v)) 25 (0,0)),(some b1,.cells ((Tm.ce a0 a0_2)) 25 (0,0))]) (i:=1) rfl (Wn.none rfl) rfl rfl (f_storeA (j:=2) ty_s25 rfl rfl rfl (one_cons trivial (one_cons trivial (one_cons (sl_one (OwnS.sl ho_j_o4_136)) one_nil))) rfl rfl rfl) (keep_none rfl) ?_
   refine DL.nil ?_
   refine TT.freezeAt (j:=0) hE140 rfl ?_
   intro M148 I148 hE148 hx148 hxI148 hb148
   have hr_148 : RowS ShTm M148 j_o4_136_v j_o4_136:=OwnS.stays ho_j_o4_136 hx148 hb148
   show TT _ _ _ _ _ _ _ _ [(some b3,.cells ((Tm.ce a0 j_o4_136_v)) 25 (0,0)),(some b2,.cells ((Tm.ce a0 j_o4_136_v)) 25 (0,0)),(some b1,.cells ((Tm.ce a0 a0_2)) 25 (0,0))]
   obtain rfl:=Option.some.inj h138
   exact retF (rs:=[.cell 4 25]) (vs:=[.agg (Tm.ce a0 j_o4_136_v)]) j_o4_136_v hE148 Tryd.func39 rfl rfl rfl (res_cons (ResV.cell (j:=1) ty_a25 ty_s25 rfl rfl rfl) res_nil) hr_148
  by_cases c135 : q110 = true
  ·
   have h141:=ite_true c135 h137
   refine TT.cond_true (x:=sub [1,1,1,0,1,0] B39) (y:=sub [1,1,1,0,1,1] B39) rfl c135 ?_
   refine TT.rg [0,1,2] [kp,kq,kx] rfl rfl ?_
   refine DL.pu 47 (ptr b3 2) rfl (p_fieldAddr ty_f25_2 rfl rfl) ?_
   refine DL.qu 48 (z_o4_81_v) rfl (f_load (j:=1) ty_a22 rfl rfl rfl rfl) ?_
   obtain ⟨t142_h,h143,h144⟩:=bind_some h141
   refine DL.callX (G:=Array Value) (u:=fun g => .tuple #[]) (Q:=fun g M_ => (OwnS ShTm M_ z_o4_81_v g t142_h)) (r':=fun g => (Value.ownBlock z_o4_81_v)) (o':=fun g => .cells g 25 (0,0)) (A:=[(Value.ownBlock z_o4_81_v,.cells z_o4_81_c 25 (0,0)),(some b3,.cells ((Tm.ce a0 z_o4_81_v)) 25 (0,0)),(some b2,.cells (#[.int .i64 0,.int .i64 0,(.slice none 0 0)]) 25 (0,0)),(some b1,.cells ((Tm.ce a0 a0_2)) 25 (0,0))]) (J:=[]) (j:=0) (fun r_145 o_145 J145 => ((r_145,o_145) :: (some b3,.cells ((Tm.ce a0 z_o4_81_v)) 25 (0,0)) :: (some b2,.cells (#[.int .i64 0,.int .i64 0,(.slice none 0 0)]) 25 (0,0)) :: (some b1,.cells ((Tm.ce a0 a0_2)) 25 (0,0)) :: J145)) (Nat.le_refl _) hE107.nil (List.append_nil _).symm rfl (fun _ _ _ => rfl) (by simp) (i:=2) rfl (Wn.none rfl) rfl rfl rfl rfl rfl rfl (args_val (vs:=[z_o4_81_v]) rfl) (fun w => enter62 _ w) (fun w hc hI hx_ hm_ => tm_reverse.ok h143 (M:=M107) w hI ho_z_o4_81 hx_ hm_) ?_
   rintro t142_h_c M145 J145 hE145 hx145 ho_t142_h
   show DL _ _ _ _ _ _ _ _ _ _ _ _ ((Value.ownBlock z_o4_81_v,.cells t142_h_c 25 (0,0)) :: (some b3,.cells ((Tm.ce a0 z_o4_81_v)) 25 (0,0)) :: (some b2,.cells (#[.int .i64 0,.int .i64 0,(.slice none 0 0)]) 25 (0,0)) :: (some b1,.cells ((Tm.ce a0 a0_2)) 25 (0,0)) :: J145)
   refine DL.nil ?_
   refine TT.settle (A:=[(Value.ownBlock z_o4_81_v,.cells t142_h_c 25 (0,0)),(some b3,.cells ((Tm.ce a0 z_o4_81_v)) 25 (0,0)),(some b2,.cells (#[.int .i64 0,.int .i64 0,(.slice none 0 0)]) 25 (0,0)),(some b1,.cells ((Tm.ce a0 a0_2)) 25 (0,0))]) (J:=J145) hE145 ?_
   intro I146 hE146 hxI146
   obtain rfl:=Option.some.inj h144
   exact TT.weak (J139 M145 I146 hE146 hx145 z_o4_81_v t142_h_c ho_t142_h) (Sub.cons rfl (Sub.cons rfl (Sub.nil _)))
  ·
   replace c135:=Bool.eq_false_iff.mpr c135
   have h147:=ite_false c135 h137
   refine TT.cond_false (x:=sub [1,1,1,0,1,0] B39) (y:=sub [1,1,1,0,1,1] B39) rfl c135 ?_
   refine TT.skip ?_
   obtain rfl:=Option.some.inj h147
   exact TT.weak (J139 M107 I107 hE107 (Ext.refl _) z_o4_81_v z_o4_81_c ho_z_o4_81) (Sub.cons rfl (Sub.cons rfl (Sub.nil _)))
 ·
  by_cases c114 : ((Tm.kind a0) == 8) = true
  ·
   have h115:=ite_true c114 h111
   refine DL.pure (v:=ptr b3 2) rfl (Wn.yes c114 rfl rfl rfl rfl) rfl rfl rfl (p_fieldAddr ty_f25_2 rfl rfl) ?_
   refine DL.look (v:=z_o4_81_v) (x:=1) (b:=b3) (i:=5) rfl (Wn.yes c114 rfl rfl rfl rfl) rfl rfl rfl rfl rfl (List.mem_of_getElem? (i:=1) rfl) (b_load ty_a22 rfl rfl rfl) ?_
   obtain ⟨g116,h117⟩:=req_some h115
   refine DL.pure (v:=elp z_o4_81_v (((0 : Int).toNat) * 3)) rfl (Wn.yes c114 rfl rfl rfl rfl) rfl rfl rfl (p_slIx ty_u22 ty_s25 (OwnS.some ho_z_o4_81 (by decide) g116) (by decide) g116 rfl rfl rfl) ?_
   obtain ⟨t119,e120,h121⟩:=nm_some h117
   obtain ⟨cs118,hc118,hl118⟩:=id (ho_z_o4_81)
   have q118:=hl118 _ _ (getD_some Tm.dflt (lt_len (by decide) g116)); rw [← e120] at q118
   obtain ⟨t119_2,hq118,hr_t119_2⟩:=Tm.op q118
   refine DL.quiet (v:=.agg (Tm.ce t119 t119_2)) rfl (Wn.yes c114 rfl rfl rfl rfl) rfl rfl rfl (f_loadElA (j:=0) rfl hc118 hq118 (lt_len (by decide) g116) ty_a25 ty_s25 rfl rfl) ?_
   refine DL.pure (v:=.map (some a1_m)) rfl (Wn.yes c114 rfl rfl rfl rfl) rfl rfl rfl (p_move rfl rfl) ?_
   obtain ⟨t122,h123,h124⟩:=bind_some h121
   refine DL.quiet (v:=str t122) rfl (Wn.yes c114 rfl rfl rfl rfl) rfl rfl rfl (f_callR rfl rfl (args_val (vs:=[.agg (Tm.ce t119 t119_2),.map (some a1_m)]) rfl) (fun w => enter48 _ w) (fun w hc => terms_text.val h123 (M:=M107) w (hE107.ext hc) (Glob.mono hG hx107) hr_t119_2 (hx107 _ _ hm_a1))) ?_
   refine DL.pure (v:=ptr b3 2) rfl (Wn.yes c114 rfl rfl rfl rfl) rfl rfl rfl (p_fieldAddr ty_f25_2 rfl rfl) ?_
   refine DL.look (v:=z_o4_81_v) (x:=1) (b:=b3) (i:=11) rfl (Wn.yes c114 rfl rfl rfl rfl) rfl rfl rfl rfl rfl (List.mem_of_getElem? (i:=1) rfl) (b_load ty_a22 rfl rfl rfl) ?_
   obtain ⟨g125,h126⟩:=req_some h124
   refine DL.pure (v:=elp z_o4_81_v (((1 : Int).toNat) * 3)) rfl (Wn.yes c114 rfl rfl rfl rfl) rfl rfl rfl (p_slIx ty_u22 ty_s25 (OwnS.some ho_z_o4_81 (by decide) g125) (by decide) g125 rfl rfl rfl) ?_
   obtain ⟨t128,e129,h130⟩:=nm_some h126
   obtain ⟨cs127,hc127,hl127⟩:=id (ho_z_o4_81)
   have q127:=hl127 _ _ (getD_some Tm.dflt (lt_len (by decide) g125)); rw [← e129] at q127
   obtain ⟨t128_2,hq127,hr_t128_2⟩:=Tm.op q127
   refine DL.quiet (v:=.agg (Tm.ce t128 t128_2)) rfl (Wn.yes c114 rfl rfl rfl rfl) rfl rfl rfl (f_loadElA (j:=0) rfl hc127 hq127 (lt_len (by decide) g125) ty_a25 ty_s25 rfl rfl) ?_
   refine DL.pure (v:=.map (some a1_m)) rfl (Wn.yes c114 rfl rfl rfl rfl) rfl rfl rfl (p_move rfl rfl) ?_
   obtain ⟨t131,h132,h133⟩:=bind_some h130
   refine DL.quiet (v:=str t131) rfl (Wn.yes c114 rfl rfl rfl rfl) rfl rfl rfl (f_callR rfl rfl (args_val (vs:=[.agg (Tm.ce t128 t128_2),.map (some a1_m)]) rfl) (fun w => enter48 _ w) (fun w hc => terms_text.val h132 (M:=M107) w (hE107.ext hc) (Glob.mono hG hx107) hr_t128_2 (hx107 _ _ hm_a1))) ?_
   refine DL.pure (v:=.bool (!(lessL t122 t131 || t122 == t131))) rfl (Wn.yes c114 rfl rfl rfl rfl) rfl rfl rfl (p_strGt rfl rfl rfl) ?_
   refine DL.pu 46 (.bool (!(lessL t122 t131 || t122 == t131))) rfl (p_pick_t c114 rfl rfl rfl) ?_
   obtain rfl:=Option.some.inj h133
   exact DL.weak J113 (Sub.cons rfl (Sub.cons rfl (Sub.cons rfl (Sub.nil _))))
  ·
   replace c114:=Bool.eq_false_iff.mpr c114
   have h134:=ite_false c114 h111
   refine DL.not (i:=4) rfl (Wn.no c114 rfl rfl rfl rfl) rfl rfl ?_
   refine DL.not (i:=5) rfl (Wn.no c114 rfl rfl rfl rfl) rfl rfl ?_
   refine DL.not (i:=6) rfl (Wn.no c114 rfl rfl rfl rfl) rfl rfl ?_
   refine DL.not (i:=7) rfl (Wn.no c114 rfl rfl rfl rfl) rfl rfl ?_
   refine DL.not (i:=8) rfl (Wn.no c114 rfl rfl rfl rfl) rfl rfl ?_
   refine DL.not (i:=9) rfl (Wn.no c114 rfl rfl rfl rfl) rfl rfl ?_
   refine DL.not (i:=10) rfl (Wn.no c114 rfl rfl rfl rfl) rfl rfl ?_
   refine DL.not (i:=11) rfl (Wn.no c114 rfl rfl rfl rfl) rfl rfl ?_
   refine DL.not (i:=12) rfl (Wn.no c114 rfl rfl rfl rfl) rfl rfl ?_
   refine DL.not (i:=13) rfl (Wn.no c114 rfl rfl rfl rfl) rfl rfl ?_
   refine DL.not (i:=14) rfl (Wn.no c114 rfl rfl rfl rfl) rfl rfl ?_
   refine DL.not (i:=15) rfl (Wn.no c114 rfl rfl rfl rfl) rfl rfl ?_
   refine DL.not (i:=16) rfl (Wn.no c114 rfl rfl rfl rfl) rfl rfl ?_
   refine DL.pu 46 (.bool false) rfl (p_pick_f c114 rfl rfl rfl) ?_
   obtain rfl:=Option.some.inj h134
   exact DL.weak J113 (Sub.cons rfl (Sub.cons rfl (Sub.cons rfl (Sub.nil _))))
def terms_order.f : Nat → Tm → Option (Tm)
 | 0,_ => none
 | k + 1,a0 => terms_order.F (terms_order.f k) a0
theorem terms_order.rec : ∀ k,terms_order.Rec (terms_order.f k):=by
 intro k
 induction k with
 | zero => intro _ _ _ _ h; simp [terms_order.f] at h
 | succ k ih => intro a0 a0_2 a1_m r h M w hM hG hr_a0_2 hm_a1; exact terms_order.okF ih h w hM hG hr_a0_2 hm_a1
theorem terms_order.ok {k : Nat} {a0 : Tm} {a0_2 : Value} {a1_m : Nat} {r : Tm} (h : terms_order.f k a0 = some r) {M : Mem} (w : World) (hM : Ext M (heapOf w)) (hG : Glob M) (hr_a0_2 : RowS ShTm M a0_2 (Tree.kids a0)) (hm_a1 : M a1_m = some FormsO) : Calls Tryd.prog 39 #[.agg (Tm.ce a0 a0_2),.map (some a1_m)] w (PostF (G:=Value) (fun g => .agg (Tm.ce r g)) (fun g M_ => (RowS ShTm M_ g (Tree.kids r))) M w) :=
 terms_order.rec k h w hM hG hr_a0_2 hm_a1

/-! ### escutcheon/terms.name: function 52 -/
noncomputable def B52 : Code:=bodyOf Tryd.f52
def terms_name.f (a0 : Tm) : Option ((List UInt8)):=(terms_forms.f).bind fun _ => (terms_order.f (Tm.fuel a0) a0).bind fun t7 => (terms_text.f (Tm.fuel t7) t7).bind fun t11 => some t11
set_option maxRecDepth 20000 in
theorem terms_name.ok {a0 : Tm} {a0_2 : Value} {r : List UInt8} (h : terms_name.f a0 = some r) {M : Mem} (w : World) (hM : Ext M (heapOf w)) (hG : Glob M) (hr_a0_2 : RowS ShTm M a0_2 (Tree.kids a0)) : Calls Tryd.prog 52 #[.agg (Tm.ce a0 a0_2)] w (Post (fun u => u = str r) w):=by
 unfold terms_name.f at h
 have hE:=Env.start hM
 refine calls_of_TT (N:=10) (S:=[(0,.agg (Tm.ce a0 a0_2))]) (c:=B52) Tryd.func52 rfl rfl rfl (by simp) ?_
 show TT _ _ _ _ _ _ [.code (sub [] B52)] _ _
 refine TT.seq (x:=sub [0] B52) (y:=sub [1] B52) ?_
 refine TT.rg [0,1] [(.alloc,none),kp] rfl rfl ?_
 refine DL.new (ob:=.cells ((Tm.ce a0 a0_2)) 25) (mk:=fun b => ptr b 0) (i:=0) rfl (Wn.none rfl) rfl rfl rfl (f_box (v:=.agg (Tm.ce a0 a0_2)) rfl rfl) ?_
 intro b1 hb1
 refine DL.pu 2 (str ([] : List UInt8)) rfl (p_assign rfl rfl) ?_
 refine DL.nil ?_
 refine TT.seq (x:=sub [1,0] B52) (y:=sub [1,1] B52) ?_
 refine TT.rg [0,1] [kk,kp] rfl rfl ?_
 obtain ⟨_,h3,h4⟩:=bind_some h
 refine DL.callF (G:=Nat) (u:=fun g => .map (some g)) (Q:=fun g M_ => (M_ g = some FormsO)) (A:=[(some b1,.cells ((Tm.ce a0 a0_2)) 25 (0,0))]) (J:=[]) (fun J5 => ((some b1,.cells ((Tm.ce a0 a0_2)) 25 (0,0)) :: J5)) (Nat.le_refl _) hE.nil (List.append_nil _).symm (fun _ => rfl) (by simp) (i:=0) rfl (Wn.none rfl) rfl rfl rfl rfl rfl rfl (args_val (vs:=[]) rfl) (fun w => enter40 _ w) (fun w hc hI => terms_forms.ok h3 (M:=M) w hI ) ?_
 rintro t2_m M5 J5 hE5 hx5 hm_t2
 show DL _ _ _ _ _ _ _ _ _ _ _ _ ((some b1,.cells ((Tm.ce a0 a0_2)) 25 (0,0)) :: J5)
 refine DL.pu 3 (.map (some t2_m)) rfl (p_assign rfl rfl) ?_
 refine DL.nil ?_
 refine TT.settle (A:=[(some b1,.cells ((Tm.ce a0 a0_2)) 25 (0,0))]) (J:=J5) hE5 ?_
 intro I6 hE6 hxI6
 refine TT.seq (x:=sub [1,1,0] B52) (y:=sub [1,1,1] B52) ?_
 refine TT.rg [0,1,2,3,4,5] [kq,kp,kk,kp,kq,kp] rfl rfl ?_
 refine DL.qu 5 (.agg (Tm.ce a0 a0_2)) rfl (f_loadA (j:=0) ty_a25 ty_s25 rfl rfl rfl rfl) ?_
 refine DL.mv 6 (.map (some t2_m)) rfl rfl rfl ?_
 obtain ⟨t7,h8,h9⟩:=bind_some h4
 refine DL.callF (G:=Value) (u:=fun g => .agg (Tm.ce t7 g)) (Q:=fun g M_ => (RowS ShTm M_ g (Tree.kids t7))) (A:=[(some b1,.cells ((Tm.ce a0 a0_2)) 25 (0,0))]) (J:=[]) (fun J10 => ((some b1,.cells ((Tm.ce a0 a0_2)) 25 (0,0)) :: J10)) (Nat.le_refl _) hE6.nil (List.append_nil _).symm (fun _ => rfl) (by simp) (i:=2) rfl (Wn.none rfl) rfl rfl rfl rfl rfl rfl (args_val (vs:=[.agg (Tm.ce a0 a0_2),.map (some t2_m)]) rfl) (fun w => enter39 _ w) (fun w hc hI => terms_order.ok h8 (M:=M5) w hI (Glob.mono hG hx5) (RowS.mono hr_a0_2 hx5) hm_t2) ?_
 rintro t7_2 M10 J10 hE10 hx10 hr_t7_2
 show DL _ _ _ _ _ _ _ _ _ _ _ _ ((some b1,.cells ((Tm.ce a0 a0_2)) 25 (0,0)) :: J10)
 refine DL.mv 8 (.map (some t2_m)) rfl rfl rfl ?_
 obtain ⟨t11,h12,h13⟩:=bind_some h9
 refine DL.qu 9 (str t11) rfl (f_callR rfl rfl (args_val (vs:=[.agg (Tm.ce t7 t7_2),.map (some t2_m)]) rfl) (fun w => enter48 _ w) (fun w hc => terms_text.val h12 (M:=M10) w (hE10.extJ (A:=[(some b1,.cells ((Tm.ce a0 a0_2)) 25 (0,0))]) hc rfl) (Glob.mono hG (hx5.trans hx10)) hr_t7_2 (hx10 _ _ hm_t2))) ?_
 refine DL.pu 2 (str t11) rfl (p_assign rfl rfl) ?_
 refine DL.nil ?_
 refine TT.settle (A:=[(some b1,.cells ((Tm.ce a0 a0_2)) 25 (0,0))]) (J:=J10) hE10 ?_
 intro I14 hE14 hxI14
 obtain rfl:=Option.some.inj h13
 exact retnE (rs:=[.tmp 2]) (vs:=[str t11]) hE14.base Tryd.func52 rfl rfl rfl (res_cons (ResV.tmp rfl) res_nil) rfl
theorem terms_name.val {a0 : Tm} {a0_2 : Value} {r : List UInt8} (h : terms_name.f a0 = some r) {M : Mem} (w : World) (hM : Ext M (heapOf w)) (hG : Glob M) (hr_a0_2 : RowS ShTm M a0_2 (Tree.kids a0)) : Calls Tryd.prog 52 #[.agg (Tm.ce a0 a0_2)] w fun e w' => e = .returned (str r) ∧ Below w.heap.size w w' :=
 calls_value (terms_name.ok h w hM hG hr_a0_2)

/-! ### escutcheon/terms.Same: function 32 -/
noncomputable def B32 : Code:=bodyOf Tryd.f32
def terms_Same.f (a0 : Tm) (a1 : Tm) : Option (Bool):=(terms_May.f a0).bind fun t4 => (if t4 = true then ((terms_May.f a1).bind fun t14 => some t14) else (some false)).bind fun q8 => (if q8 = true then ((terms_name.f a0).bind fun t25 => (terms_name.f a1).bind fun t28 => some (t25 == t28)) else (some false)).bind fun q19 => some q19
set_option maxRecDepth 20000 in
theorem terms_Same.ok {a0 : Tm} {a1 : Tm} {a0_2 : Value} {a1_2 : Value} {r : Bool} (h : terms_Same.f a0 a1 = some r) {M : Mem} (w : World) (hM : Ext M (heapOf w)) (hG : Glob M) (hr_a0_2 : RowS ShTm M a0_2 (Tree.kids a0)) (hr_a1_2 : RowS ShTm M a1_2 (Tree.kids a1)) : Calls Tryd.prog 32 #[.agg (Tm.ce a0 a0_2),.agg (Tm.ce a1 a1_2)] w (Post (fun u => u = .bool r) w):=by
 unfold terms_Same.f at h
 have hE:=Env.start hM
 refine calls_of_TT (N:=18) (S:=[(0,.agg (Tm.ce a0 a0_2)),(1,.agg (Tm.ce a1 a1_2))]) (c:=B32) Tryd.func32 rfl rfl rfl (by simp) ?_
 show TT _ _ _ _ _ _ [.code (sub [] B32)] _ _
 refine TT.seq (x:=sub [0] B32) (y:=sub [1] B32) ?_
 refine TT.rg [0,1,2] [(.alloc,none),(.alloc,none),kp] rfl rfl ?_
 refine DL.new (ob:=.cells ((Tm.ce a0 a0_2)) 25) (mk:=fun b => ptr b 0) (i:=0) rfl (Wn.none rfl) rfl rfl rfl (f_box (v:=.agg (Tm.ce a0 a0_2)) rfl rfl) ?_
 intro b1 hb1
 refine DL.new (ob:=.cells ((Tm.ce a1 a1_2)) 25) (mk:=fun b => ptr b 0) (i:=1) rfl (Wn.none rfl) rfl rfl rfl (f_box (v:=.agg (Tm.ce a1 a1_2)) rfl rfl) ?_
 intro b2 hb2
 refine DL.pu 4 (.bool false) rfl (p_assign rfl rfl) ?_
 refine DL.nil ?_
 refine TT.seq (x:=sub [1,0] B32) (y:=sub [1,1] B32) ?_
 refine TT.rgD [0,1,2,3,4,5,6,7,8,9,10,11,12,13] [0,1,3,7,15,31,63,127,255,127,1023,2047,4095,8191] [(.look,some 1),kq,kp,(.look,some 0),kq,kp,kp,(.look,some 1),kq,(.look,some 0),kq,kp,kp,kp] rfl mixed (by kernel_rfl) ?_
 intro w3 hl3 hj3 hz3
 refine DL.look (v:=.agg (Tm.ce a0 a0_2)) (x:=1) (b:=b1) (i:=0) rfl (Wn.none rfl) rfl rfl rfl rfl rfl (List.mem_of_getElem? (i:=1) rfl) (b_loadA ty_a25 ty_s25 rfl rfl rfl) ?_
 obtain ⟨t4,h5,h6⟩:=bind_some h
 refine DL.qu 6 (.bool t4) rfl (f_callR rfl rfl (args_val (vs:=[.agg (Tm.ce a0 a0_2)]) rfl) (fun w => enter31 _ w) (fun w hc => terms_May.val h5 (M:=M) w (hE.ext hc) hr_a0_2)) ?_
 refine DL.mv 7 (.bool t4) rfl rfl rfl ?_
 obtain ⟨q8,h9,h10⟩:=bind_some h6
 refine DL.cut [(2,ptr b1 0),(3,ptr b2 0),(10,.bool q8)] [6,7,8,9,10,11,12,13] ?_ (fun J11 => ?_)
 ·
  refine DL.mv 11 (.bool q8) rfl rfl rfl ?_
  obtain ⟨q19,h20,h21⟩:=bind_some h10
  refine DL.cut [(17,.bool q19)] [13] ?_ (fun J22 => ?_)
  ·
   refine DL.pu 4 (.bool q19) rfl (p_assign rfl rfl) ?_
   refine DL.nil' hl3 ?_
   obtain rfl:=Option.some.inj h21
   exact retnE (rs:=[.tmp 4]) (vs:=[.bool q19]) hE.base Tryd.func32 rfl rfl rfl (res_cons (ResV.tmp rfl) res_nil) rfl
  ·
   by_cases c23 : q8 = true
   ·
    have h24:=ite_true c23 h20
    refine DL.look (v:=.agg (Tm.ce a0 a0_2)) (x:=1) (b:=b1) (i:=7) rfl (Wn.yes c23 rfl rfl rfl rfl) rfl rfl rfl rfl rfl (List.mem_of_getElem? (i:=1) rfl) (b_loadA ty_a25 ty_s25 rfl rfl rfl) ?_
    obtain ⟨t25,h26,h27⟩:=bind_some h24
    refine DL.quiet (v:=str t25) rfl (Wn.yes c23 rfl rfl rfl rfl) rfl rfl rfl (f_callR rfl rfl (args_val (vs:=[.agg (Tm.ce a0 a0_2)]) rfl) (fun w => enter52 _ w) (fun w hc => terms_name.val h26 (M:=M) w (hE.ext hc) hG hr_a0_2)) ?_
    refine DL.look (v:=.agg (Tm.ce a1 a1_2)) (x:=0) (b:=b2) (i:=9) rfl (Wn.yes c23 rfl rfl rfl rfl) rfl rfl rfl rfl rfl (List.mem_of_getElem? (i:=0) rfl) (b_loadA ty_a25 ty_s25 rfl rfl rfl) ?_
    obtain ⟨t28,h29,h30⟩:=bind_some h27
    refine DL.quiet (v:=str t28) rfl (Wn.yes c23 rfl rfl rfl rfl) rfl rfl rfl (f_callR rfl rfl (args_val (vs:=[.agg (Tm.ce a1 a1_2)]) rfl) (fun w => enter52 _ w) (fun w hc => terms_name.val h29 (M:=M) w (hE.ext hc) hG hr_a1_2)) ?_
    refine DL.pure (v:=.bool (t25 == t28)) rfl (Wn.yes c23 rfl rfl rfl rfl) rfl rfl rfl (p_strEq rfl rfl rfl) ?_
    refine DL.pu 17 (.bool (t25 == t28)) rfl (p_pick_t c23 rfl rfl rfl) ?_
    obtain rfl:=Option.some.inj h30
    exact DL.weak J22 (Sub.cons rfl (Sub.nil _))
   ·
    replace c23:=Bool.eq_false_iff.mpr c23
    have h31:=ite_false c23 h20
    refine DL.not (i:=7) rfl (Wn.no c23 rfl rfl rfl rfl) rfl rfl ?_
    refine DL.not (i:=8) rfl (Wn.no c23 rfl rfl rfl rfl) rfl rfl ?_
    refine DL.not (i:=9) rfl (Wn.no c23 rfl rfl rfl rfl) rfl rfl ?_
    refine DL.not (i:=10) rfl (Wn.no c23 rfl rfl rfl rfl) rfl rfl ?_
    refine DL.not (i:=11) rfl (Wn.no c23 rfl rfl rfl rfl) rfl rfl ?_
    refine DL.pu 17 (.bool false) rfl (p_pick_f c23 rfl rfl rfl) ?_
    obtain rfl:=Option.some.inj h31
    exact DL.weak J22 (Sub.cons rfl (Sub.nil _))
 ·
  by_cases c12 : t4 = true
  ·
   have h13:=ite_true c12 h9
   refine DL.look (v:=.agg (Tm.ce a1 a1_2)) (x:=0) (b:=b2) (i:=3) rfl (Wn.yes c12 rfl rfl rfl rfl) rfl rfl rfl rfl rfl (List.mem_of_getElem? (i:=0) rfl) (b_loadA ty_a25 ty_s25 rfl rfl rfl) ?_
   obtain ⟨t14,h15,h16⟩:=bind_some h13
   refine DL.quiet (v:=.bool t14) rfl (Wn.yes c12 rfl rfl rfl rfl) rfl rfl rfl (f_callR rfl rfl (args_val (vs:=[.agg (Tm.ce a1 a1_2)]) rfl) (fun w => enter31 _ w) (fun w hc => terms_May.val h15 (M:=M) w (hE.ext hc) hr_a1_2)) ?_
   refine DL.pu 10 (.bool t14) rfl (p_pick_t c12 rfl rfl rfl) ?_
   obtain rfl:=Option.some.inj h16
   exact DL.weak J11 (Sub.cons rfl (Sub.cons rfl (Sub.cons rfl (Sub.nil _))))
  ·
   replace c12:=Bool.eq_false_iff.mpr c12
   have h17:=ite_false c12 h9
   refine DL.not (i:=3) rfl (Wn.no c12 rfl rfl rfl rfl) rfl rfl ?_
   refine DL.not (i:=4) rfl (Wn.no c12 rfl rfl rfl rfl) rfl rfl ?_
   refine DL.pu 10 (.bool false) rfl (p_pick_f c12 rfl rfl rfl) ?_
   obtain rfl:=Option.some.inj h17
   exact DL.weak J11 (Sub.cons rfl (Sub.cons rfl (Sub.cons rfl (Sub.nil _))))
theorem terms_Same.val {a0 : Tm} {a1 : Tm} {a0_2 : Value} {a1_2 : Value} {r : Bool} (h : terms_Same.f a0 a1 = some r) {M : Mem} (w : World) (hM : Ext M (heapOf w)) (hG : Glob M) (hr_a0_2 : RowS ShTm M a0_2 (Tree.kids a0)) (hr_a1_2 : RowS ShTm M a1_2 (Tree.kids a1)) : Calls Tryd.prog 32 #[.agg (Tm.ce a0 a0_2),.agg (Tm.ce a1 a1_2)] w fun e w' => e = .returned (.bool r) ∧ Below w.heap.size w w' :=
 calls_value (terms_Same.ok h w hM hG hr_a0_2 hr_a1_2)

/-! ### escutcheon/terms.Order: function 33 -/
noncomputable def B33 : Code:=bodyOf Tryd.f33
def terms_Order.f (a0 : Tm) : Option (Tm):=(terms_May.f a0).bind fun t3 => if (!t3) = true then (some a0) else ((terms_forms.f).bind fun _ => (terms_order.f (Tm.fuel a0) a0).bind fun t14 => some t14)
set_option maxRecDepth 20000 in
theorem terms_Order.ok {a0 : Tm} {a0_2 : Value} {r : Tm} (h : terms_Order.f a0 = some r) {M : Mem} (w : World) (hM : Ext M (heapOf w)) (hG : Glob M) (hr_a0_2 : RowS ShTm M a0_2 (Tree.kids a0)) : Calls Tryd.prog 33 #[.agg (Tm.ce a0 a0_2)] w (PostF (G:=Value) (fun g => .agg (Tm.ce r g)) (fun g M_ => (RowS ShTm M_ g (Tree.kids r))) M w):=by
 unfold terms_Order.f at h
 have hE:=Env.start hM
 refine calls_of_TT (N:=10) (S:=[(0,.agg (Tm.ce a0 a0_2))]) (c:=B33) Tryd.func33 rfl rfl rfl (by simp) ?_
 show TT _ _ _ _ _ _ [.code (sub [] B33)] _ _
 refine TT.seq (x:=sub [0] B33) (y:=sub [1] B33) ?_
 refine TT.rg [0,1] [(.alloc,none),(.alloc,none)] rfl rfl ?_
 refine DL.new (ob:=.cells ((Tm.ce a0 a0_2)) 25) (mk:=fun b => ptr b 0) (i:=0) rfl (Wn.none rfl) rfl rfl rfl (f_box (v:=.agg (Tm.ce a0 a0_2)) rfl rfl) ?_
 intro b1 hb1
 refine DL.new (ob:=.cells (#[.int .i64 0,.int .i64 0,(.slice none 0 0)]) 25) (mk:=fun b => ptr b 0) (i:=1) rfl (Wn.none rfl) rfl rfl rfl (f_alloc ty_z25 rfl) ?_
 intro b2 hb2
 refine DL.nil ?_
 refine TT.seq (x:=sub [1,0] B33) (y:=sub [1,1] B33) ?_
 refine TT.seq (x:=sub [1,0,0] B33) (y:=sub [1,0,1] B33) ?_
 refine TT.rg [0,1,2] [kq,kq,kp] rfl rfl ?_
 refine DL.qu 3 (.agg (Tm.ce a0 a0_2)) rfl (f_loadA (j:=1) ty_a25 ty_s25 rfl rfl rfl rfl) ?_
 obtain ⟨t3,h4,h5⟩:=bind_some h
 refine DL.qu 4 (.bool t3) rfl (f_callR rfl rfl (args_val (vs:=[.agg (Tm.ce a0 a0_2)]) rfl) (fun w => enter31 _ w) (fun w hc => terms_May.val h4 (M:=M) w (hE.ext hc) hr_a0_2)) ?_
 refine DL.pu 5 (.bool (!t3)) rfl (p_not rfl rfl) ?_
 refine DL.nil ?_
 by_cases c6 : (!t3) = true
 ·
  have h7:=ite_true c6 h5
  refine TT.cond_true (x:=sub [1,0,1,0] B33) (y:=sub [1,0,1,1] B33) rfl c6 ?_
  refine TT.seq (x:=sub [1,0,1,0,0] B33) (y:=sub [1,0,1,0,1] B33) ?_
  refine TT.rg [0,1] [kq,(.store,none)] rfl rfl ?_
  refine DL.qu 6 (.agg (Tm.ce a0 a0_2)) rfl (f_loadA (j:=1) ty_a25 ty_s25 rfl rfl rfl rfl) ?_
  refine DL.put (H':=[(some b2,.cells ((Tm.ce a0 a0_2)) 25 (0,0)),(some b1,.cells ((Tm.ce a0 a0_2)) 25 (0,0))]) (i:=1) rfl (Wn.none rfl) rfl rfl (f_storeA (j:=0) ty_s25 rfl rfl rfl (one_cons trivial (one_cons trivial (one_cons (sl_one (RowS.sl hr_a0_2)) one_nil))) rfl rfl rfl) (keep_none rfl) ?_
  refine DL.nil ?_
  obtain rfl:=Option.some.inj h7
  exact retF (rs:=[.cell 2 25]) (vs:=[.agg (Tm.ce a0 a0_2)]) a0_2 hE Tryd.func33 rfl rfl rfl (res_cons (ResV.cell (j:=0) ty_a25 ty_s25 rfl rfl rfl) res_nil) hr_a0_2
 ·
  replace c6:=Bool.eq_false_iff.mpr c6
  have h8:=ite_false c6 h5
  refine TT.cond_false (x:=sub [1,0,1,0] B33) (y:=sub [1,0,1,1] B33) rfl c6 ?_
  refine TT.skip ?_
  refine TT.seq (x:=sub [1,1,0] B33) (y:=sub [1,1,1] B33) ?_
  refine TT.rgD [0,1,2,3] [0,0,3,7] [(.look,some 1),kk,kk,(.store,some 0)] rfl mixed (by kernel_rfl) ?_
  intro w9 hl9 hj9 hz9
  refine DL.look (v:=.agg (Tm.ce a0 a0_2)) (x:=1) (b:=b1) (i:=0) rfl (Wn.none rfl) rfl rfl rfl rfl rfl (List.mem_of_getElem? (i:=1) rfl) (b_loadA ty_a25 ty_s25 rfl rfl rfl) ?_
  obtain ⟨_,h11,h12⟩:=bind_some h8
  refine DL.callF (G:=Nat) (u:=fun g => .map (some g)) (Q:=fun g M_ => (M_ g = some FormsO)) (A:=[(some b2,.cells (#[.int .i64 0,.int .i64 0,(.slice none 0 0)]) 25 (0,0)),(some b1,.cells ((Tm.ce a0 a0_2)) 25 (0,0))]) (J:=[]) (fun J13 => ((some b2,.cells (#[.int .i64 0,.int .i64 0,(.slice none 0 0)]) 25 (0,0)) :: (some b1,.cells ((Tm.ce a0 a0_2)) 25 (0,0)) :: J13)) hl9.2.2.2 hE.nil (List.append_nil _).symm (fun _ => rfl) (by simp) (i:=1) rfl (Wn.none rfl) rfl rfl rfl rfl rfl rfl (args_val (vs:=[]) rfl) (fun w => enter40 _ w) (fun w hc hI => terms_forms.ok h11 (M:=M) w hI ) ?_
  rintro t10_m M13 J13 hE13 hx13 hm_t10
  show DL _ _ _ _ _ _ _ _ _ _ _ _ ((some b2,.cells (#[.int .i64 0,.int .i64 0,(.slice none 0 0)]) 25 (0,0)) :: (some b1,.cells ((Tm.ce a0 a0_2)) 25 (0,0)) :: J13)
  obtain ⟨t14,h15,h16⟩:=bind_some h12
  refine DL.callF (G:=Value) (u:=fun g => .agg (Tm.ce t14 g)) (Q:=fun g M_ => (RowS ShTm M_ g (Tree.kids t14))) (A:=[(some b2,.cells (#[.int .i64 0,.int .i64 0,(.slice none 0 0)]) 25 (0,0)),(some b1,.cells ((Tm.ce a0 a0_2)) 25 (0,0))]) (J:=J13) (fun J17 => ((some b2,.cells (#[.int .i64 0,.int .i64 0,(.slice none 0 0)]) 25 (0,0)) :: (some b1,.cells ((Tm.ce a0 a0_2)) 25 (0,0)) :: J17)) hl9.2.2.2 hE13 rfl (fun _ => rfl) (by simp) (i:=2) rfl (Wn.none rfl) rfl rfl rfl rfl rfl rfl (args_val (vs:=[.agg (Tm.ce a0 a0_2),.map (some t10_m)]) rfl) (fun w => enter39 _ w) (fun w hc hI => terms_order.ok h15 (M:=M13) w hI (Glob.mono hG hx13) (RowS.mono hr_a0_2 hx13) hm_t10) ?_
  rintro t14_2 M17 J17 hE17 hx17 hr_t14_2
  show DL _ _ _ _ _ _ _ _ _ _ _ _ ((some b2,.cells (#[.int .i64 0,.int .i64 0,(.slice none 0 0)]) 25 (0,0)) :: (some b1,.cells ((Tm.ce a0 a0_2)) 25 (0,0)) :: J17)
  refine DL.put (H':=((some b2,.cells ((Tm.ce t14 t14_2)) 25 (0,0)) :: (some b1,.cells ((Tm.ce a0 a0_2)) 25 (0,0)) :: J17)) (i:=3) rfl (Wn.none rfl) rfl rfl (f_storeA (j:=0) ty_s25 rfl rfl rfl (one_cons trivial (one_cons trivial (one_cons (sl_one (RowS.sl hr_t14_2)) one_nil))) rfl rfl rfl) (keep_set (j:=0) hj9 rfl rfl rfl) ?_
  refine DL.nil' hl9 ?_
  refine TT.settle (A:=[(some b2,.cells ((Tm.ce t14 t14_2)) 25 (0,0)),(some b1,.cells ((Tm.ce a0 a0_2)) 25 (0,0))]) (J:=J17) hE17 ?_
  intro I18 hE18 hxI18
  obtain rfl:=Option.some.inj h16
  exact retF (rs:=[.cell 2 25]) (vs:=[.agg (Tm.ce t14 t14_2)]) t14_2 hE18 Tryd.func33 rfl rfl rfl (res_cons (ResV.cell (j:=0) ty_a25 ty_s25 rfl rfl rfl) res_nil) hr_t14_2

end Go.Proofs.YtfbogkhgfaibbaaDoor
