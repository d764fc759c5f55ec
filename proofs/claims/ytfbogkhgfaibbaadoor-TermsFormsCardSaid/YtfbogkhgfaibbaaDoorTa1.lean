import Derived.Test.YtfbogkhgfaibbaaDoorTmU
namespace Go.Proofs.YtfbogkhgfaibbaaDoor
open Go Go.HW Go.RowKit
set_option linter.unusedVariables false
set_option linter.unusedSimpArgs false

theorem mixed : Tryd.prog.follows .mixedOrders = true:=by kernel_rfl
theorem ty_u59 (w : World) : (underlying 59).run Tryd.prog w = .ok (.map 23 87) w:=by kernel_rfl
theorem ty_u23 (w : World) : (underlying 23).run Tryd.prog w = .ok (.int .i64) w:=by kernel_rfl
theorem ty_f25_0 (a : Addr) (w : World) : (Instr.fieldAt 25 (.pointer (some a)) 0).run Tryd.prog w = .ok (.pointer (some (a.add 0))) w:=by kernel_rfl
theorem ty_a23 (w : World) : (isAgg 23).run Tryd.prog w = .ok false w:=by kernel_rfl
theorem ty_z87 (w : World) : (zeroValue 87).run Tryd.prog w = .ok (.agg #[str ([] : List UInt8),.int .i64 0]) w:=by kernel_rfl
theorem ty_s87 (w : World) : (sizeOf 87).run Tryd.prog w = .ok 2 w:=by kernel_rfl
theorem ty_f25_2 (a : Addr) (w : World) : (Instr.fieldAt 25 (.pointer (some a)) 2).run Tryd.prog w = .ok (.pointer (some (a.add 2))) w:=by kernel_rfl
theorem ty_a22 (w : World) : (isAgg 22).run Tryd.prog w = .ok false w:=by kernel_rfl
theorem ty_u22 (w : World) : (underlying 22).run Tryd.prog w = .ok (.slice 25) w:=by kernel_rfl
theorem ty_f87_1 (a : Addr) (w : World) : (Instr.fieldAt 87 (.pointer (some a)) 1).run Tryd.prog w = .ok (.pointer (some (a.add 1))) w:=by kernel_rfl
theorem ty_a3 (w : World) : (isAgg 3).run Tryd.prog w = .ok false w:=by kernel_rfl
theorem ty_f25_1 (a : Addr) (w : World) : (Instr.fieldAt 25 (.pointer (some a)) 1).run Tryd.prog w = .ok (.pointer (some (a.add 1))) w:=by kernel_rfl
theorem ty_s25 (w : World) : (sizeOf 25).run Tryd.prog w = .ok 3 w:=by kernel_rfl
theorem ty_a25 (w : World) : (isAgg 25).run Tryd.prog w = .ok true w:=by kernel_rfl
theorem ty_z25 (w : World) : (zeroValue 25).run Tryd.prog w = .ok (.agg #[.int .i64 0,.int .i64 0,(.slice none 0 0)]) w:=by kernel_rfl
theorem enter51 (args : Array Value) (w : World) : (callFunc 51 args).run Tryd.prog w = .ok (.enter 51 args) w:=by kernel_rfl
theorem enter40 (args : Array Value) (w : World) : (callFunc 40 args).run Tryd.prog w = .ok (.enter 40 args) w:=by kernel_rfl
theorem enter31 (args : Array Value) (w : World) : (callFunc 31 args).run Tryd.prog w = .ok (.enter 31 args) w:=by kernel_rfl
theorem enter55 (args : Array Value) (w : World) : (callFunc 55 args).run Tryd.prog w = .ok (.enter 55 args) w:=by kernel_rfl
theorem enter74 (args : Array Value) (w : World) : (callFunc 74 args).run Tryd.prog w = .ok (.enter 74 args) w:=by kernel_rfl
theorem enter54 (args : Array Value) (w : World) : (callFunc 54 args).run Tryd.prog w = .ok (.enter 54 args) w:=by kernel_rfl
theorem ty_f87_0 (a : Addr) (w : World) : (Instr.fieldAt 87 (.pointer (some a)) 0).run Tryd.prog w = .ok (.pointer (some (a.add 0))) w:=by kernel_rfl
theorem ty_a9 (w : World) : (isAgg 9).run Tryd.prog w = .ok false w:=by kernel_rfl
theorem enter47 (args : Array Value) (w : World) : (callFunc 47 args).run Tryd.prog w = .ok (.enter 47 args) w:=by kernel_rfl
theorem enter48 (args : Array Value) (w : World) : (callFunc 48 args).run Tryd.prog w = .ok (.enter 48 args) w:=by kernel_rfl
theorem elem64 : Elem Tryd.prog 64 9 1 16 (str ([] : List UInt8)):=Elem.of (by kernel_rfl) (by kernel_rfl) rfl (by decide)
theorem enter69 (args : Array Value) (w : World) : (callFunc 69 args).run Tryd.prog w = .ok (.enter 69 args) w:=by kernel_rfl
theorem ty_a56 (w : World) : (isAgg 56).run Tryd.prog w = .ok false w:=by kernel_rfl
theorem ty_a59 (w : World) : (isAgg 59).run Tryd.prog w = .ok false w:=by kernel_rfl
theorem ty_u56 (w : World) : (underlying 56).run Tryd.prog w = .ok (.map 9 25) w:=by kernel_rfl
theorem ty_u9 (w : World) : (underlying 9).run Tryd.prog w = .ok (.string) w:=by kernel_rfl
theorem ty_a29 (w : World) : (isAgg 29).run Tryd.prog w = .ok false w:=by kernel_rfl
theorem enter59 (args : Array Value) (w : World) : (callFunc 59 args).run Tryd.prog w = .ok (.enter 59 args) w:=by kernel_rfl
theorem enter61 (args : Array Value) (w : World) : (callFunc 61 args).run Tryd.prog w = .ok (.enter 61 args) w:=by kernel_rfl
theorem enter60 (args : Array Value) (w : World) : (callFunc 60 args).run Tryd.prog w = .ok (.enter 60 args) w:=by kernel_rfl
theorem ty_z59 (w : World) : (zeroValue 59).run Tryd.prog w = .ok (.map none) w:=by kernel_rfl
theorem ty_s59 (w : World) : (sizeOf 59).run Tryd.prog w = .ok 1 w:=by kernel_rfl
theorem ty_z29 (w : World) : (zeroValue 29).run Tryd.prog w = .ok (.nilFunc) w:=by kernel_rfl
theorem ty_s29 (w : World) : (sizeOf 29).run Tryd.prog w = .ok 1 w:=by kernel_rfl
theorem enter39 (args : Array Value) (w : World) : (callFunc 39 args).run Tryd.prog w = .ok (.enter 39 args) w:=by kernel_rfl
theorem elem22 : Elem Tryd.prog 22 25 3 40 (.agg #[.int .i64 0,.int .i64 0,(.slice none 0 0)]):=Elem.of (by kernel_rfl) (by kernel_rfl) rfl (by decide)
theorem ty_s22 (w : World) : (sizeOf 22).run Tryd.prog w = .ok 1 w:=by kernel_rfl
theorem enter62 (args : Array Value) (w : World) : (callFunc 62 args).run Tryd.prog w = .ok (.enter 62 args) w:=by kernel_rfl
theorem enter52 (args : Array Value) (w : World) : (callFunc 52 args).run Tryd.prog w = .ok (.enter 52 args) w:=by kernel_rfl
theorem enter38 (args : Array Value) (w : World) : (callFunc 38 args).run Tryd.prog w = .ok (.enter 38 args) w:=by kernel_rfl
theorem elem102 : Elem Tryd.prog 102 3 1 8 (.int .i64 0):=Elem.of (by kernel_rfl) (by kernel_rfl) rfl (by decide)
theorem ty_u102 (w : World) : (underlying 102).run Tryd.prog w = .ok (.slice 3) w:=by kernel_rfl
theorem ty_s3 (w : World) : (sizeOf 3).run Tryd.prog w = .ok 1 w:=by kernel_rfl
theorem enter13 (args : Array Value) (w : World) : (callFunc 13 args).run Tryd.prog w = .ok (.enter 13 args) w:=by kernel_rfl
theorem enter53 (args : Array Value) (w : World) : (callFunc 53 args).run Tryd.prog w = .ok (.enter 53 args) w:=by kernel_rfl
theorem enter35 (args : Array Value) (w : World) : (callFunc 35 args).run Tryd.prog w = .ok (.enter 35 args) w:=by kernel_rfl
theorem enter15 (args : Array Value) (w : World) : (callFunc 15 args).run Tryd.prog w = .ok (.enter 15 args) w:=by kernel_rfl
theorem ty_u5 (w : World) : (underlying 5).run Tryd.prog w = .ok (.int .u8) w:=by kernel_rfl
theorem ty_u99 (w : World) : (underlying 99).run Tryd.prog w = .ok (.int .u64) w:=by kernel_rfl
theorem enter46 (args : Array Value) (w : World) : (callFunc 46 args).run Tryd.prog w = .ok (.enter 46 args) w:=by kernel_rfl
theorem ty_u64 (w : World) : (underlying 64).run Tryd.prog w = .ok (.slice 9) w:=by kernel_rfl
theorem ty_s9 (w : World) : (sizeOf 9).run Tryd.prog w = .ok 1 w:=by kernel_rfl
theorem enter27 (args : Array Value) (w : World) : (callFunc 27 args).run Tryd.prog w = .ok (.enter 27 args) w:=by kernel_rfl
theorem ty_s23 (w : World) : (sizeOf 23).run Tryd.prog w = .ok 1 w:=by kernel_rfl
theorem enter72 (args : Array Value) (w : World) : (callFunc 72 args).run Tryd.prog w = .ok (.enter 72 args) w:=by kernel_rfl
theorem enter73 (args : Array Value) (w : World) : (callFunc 73 args).run Tryd.prog w = .ok (.enter 73 args) w:=by kernel_rfl
theorem ty_u3 (w : World) : (underlying 3).run Tryd.prog w = .ok (.int .i64) w:=by kernel_rfl
theorem enter50 (args : Array Value) (w : World) : (callFunc 50 args).run Tryd.prog w = .ok (.enter 50 args) w:=by kernel_rfl
theorem ty_z3 (w : World) : (zeroValue 3).run Tryd.prog w = .ok (.int .i64 0) w:=by kernel_rfl
theorem enter30 (args : Array Value) (w : World) : (callFunc 30 args).run Tryd.prog w = .ok (.enter 30 args) w:=by kernel_rfl
/-! ### escutcheon/terms.forms: function 40 -/
noncomputable def B40 : Code:=bodyOf Tryd.f40
def terms_forms.f : Option (Unit):=some ()
set_option maxRecDepth 20000 in
theorem terms_forms.ok (h : terms_forms.f = some ()) {M : Mem} (w : World) (hM : Ext M (heapOf w)) : Calls Tryd.prog 40 #[] w (PostF (G:=Nat) (fun g => .map (some g)) (fun g M_ => (M_ g = some FormsO)) M w):=by
 unfold terms_forms.f at h
 have hE:=Env.start hM
 refine calls_of_TT (N:=12) (S:=[]) (c:=B40) Tryd.func40 rfl rfl rfl (by simp) ?_
 show TT _ _ _ _ _ _ [.code (sub [] B40)] _ _
 refine TT.seq (x:=sub [0] B40) (y:=sub [1] B40) ?_
 refine TT.rg [0] [kp] rfl rfl ?_
 refine DL.pu 0 (.map none) rfl (p_assign rfl rfl) ?_
 refine DL.nil ?_
 refine TT.seq (x:=sub [1,0] B40) (y:=sub [1,1] B40) ?_
 refine TT.rg [0,1,2,3,4,5,6,7,8,9,10,11,12,13,14,15,16,17,18,19,20] [(.alloc,none),kp,(.store,none),kp,(.store,none),kp,(.store,none),kp,(.store,none),kp,(.store,none),kp,(.store,none),kp,(.store,none),kp,(.store,none),kp,(.store,none),kp,kp] rfl rfl ?_
 refine DL.new (ob:=mobj .i64 []) (mk:=fun b => .map (some b)) (i:=0) rfl (Wn.none rfl) rfl rfl rfl (f_makeMap rfl) ?_
 intro b1 hb1
 refine DL.pu 2 (.agg #[str [100],.int .i64 0]) rfl (p_build (vs:=[(0,str [100]),(1,.int .i64 0)]) (fun w => by kernel_rfl) rfl rfl) ?_
 refine DL.put (H':=[(some b1,mobj .i64 [(1,.agg #[str [100],.int .i64 0])])]) (i:=2) rfl (Wn.none rfl) rfl rfl (f_insert (l:=[]) (a:=1) (v:=.agg #[str [100],.int .i64 0]) (j:=0) ty_u59 ty_u23 rfl rfl rfl rfl rfl rfl) (keep_none rfl) ?_
 refine DL.pu 3 (.agg #[str [115],.int .i64 0]) rfl (p_build (vs:=[(0,str [115]),(1,.int .i64 0)]) (fun w => by kernel_rfl) rfl rfl) ?_
 refine DL.put (H':=[(some b1,mobj .i64 [(1,.agg #[str [100],.int .i64 0]),(2,.agg #[str [115],.int .i64 0])])]) (i:=4) rfl (Wn.none rfl) rfl rfl (f_insert (l:=[(1,.agg #[str [100],.int .i64 0])]) (a:=2) (v:=.agg #[str [115],.int .i64 0]) (j:=0) ty_u59 ty_u23 rfl rfl rfl rfl rfl rfl) (keep_none rfl) ?_
 refine DL.pu 4 (.agg #[str [112,117,98,108,105,99],.int .i64 1]) rfl (p_build (vs:=[(0,str [112,117,98,108,105,99]),(1,.int .i64 1)]) (fun w => by kernel_rfl) rfl rfl) ?_
 refine DL.put (H':=[(some b1,mobj .i64 [(1,.agg #[str [100],.int .i64 0]),(2,.agg #[str [115],.int .i64 0]),(3,.agg #[str [112,117,98,108,105,99],.int .i64 1])])]) (i:=6) rfl (Wn.none rfl) rfl rfl (f_insert (l:=[(1,.agg #[str [100],.int .i64 0]),(2,.agg #[str [115],.int .i64 0])]) (a:=3) (v:=.agg #[str [112,117,98,108,105,99],.int .i64 1]) (j:=0) ty_u59 ty_u23 rfl rfl rfl rfl rfl rfl) (keep_none rfl) ?_
 refine DL.pu 5 (.agg #[str [115,101,97,108],.int .i64 2]) rfl (p_build (vs:=[(0,str [115,101,97,108]),(1,.int .i64 2)]) (fun w => by kernel_rfl) rfl rfl) ?_
 refine DL.put (H':=[(some b1,mobj .i64 [(1,.agg #[str [100],.int .i64 0]),(2,.agg #[str [115],.int .i64 0]),(3,.agg #[str [112,117,98,108,105,99],.int .i64 1]),(4,.agg #[str [115,101,97,108],.int .i64 2])])]) (i:=8) rfl (Wn.none rfl) rfl rfl (f_insert (l:=[(1,.agg #[str [100],.int .i64 0]),(2,.agg #[str [115],.int .i64 0]),(3,.agg #[str [112,117,98,108,105,99],.int .i64 1])]) (a:=4) (v:=.agg #[str [115,101,97,108],.int .i64 2]) (j:=0) ty_u59 ty_u23 rfl rfl rfl rfl rfl rfl) (keep_none rfl) ?_
 refine DL.pu 6 (.agg #[str [115,105,103,110],.int .i64 2]) rfl (p_build (vs:=[(0,str [115,105,103,110]),(1,.int .i64 2)]) (fun w => by kernel_rfl) rfl rfl) ?_
 refine DL.put (H':=[(some b1,mobj .i64 [(1,.agg #[str [100],.int .i64 0]),(2,.agg #[str [115],.int .i64 0]),(3,.agg #[str [112,117,98,108,105,99],.int .i64 1]),(4,.agg #[str [115,101,97,108],.int .i64 2]),(5,.agg #[str [115,105,103,110],.int .i64 2])])]) (i:=10) rfl (Wn.none rfl) rfl rfl (f_insert (l:=[(1,.agg #[str [100],.int .i64 0]),(2,.agg #[str [115],.int .i64 0]),(3,.agg #[str [112,117,98,108,105,99],.int .i64 1]),(4,.agg #[str [115,101,97,108],.int .i64 2])]) (a:=5) (v:=.agg #[str [115,105,103,110],.int .i64 2]) (j:=0) ty_u59 ty_u23 rfl rfl rfl rfl rfl rfl) (keep_none rfl) ?_
 refine DL.pu 7 (.agg #[str [109,97,99],.int .i64 2]) rfl (p_build (vs:=[(0,str [109,97,99]),(1,.int .i64 2)]) (fun w => by kernel_rfl) rfl rfl) ?_
 refine DL.put (H':=[(some b1,mobj .i64 [(1,.agg #[str [100],.int .i64 0]),(2,.agg #[str [115],.int .i64 0]),(3,.agg #[str [112,117,98,108,105,99],.int .i64 1]),(4,.agg #[str [115,101,97,108],.int .i64 2]),(5,.agg #[str [115,105,103,110],.int .i64 2]),(6,.agg #[str [109,97,99],.int .i64 2])])]) (i:=12) rfl (Wn.none rfl) rfl rfl (f_insert (l:=[(1,.agg #[str [100],.int .i64 0]),(2,.agg #[str [115],.int .i64 0]),(3,.agg #[str [112,117,98,108,105,99],.int .i64 1]),(4,.agg #[str [115,101,97,108],.int .i64 2]),(5,.agg #[str [115,105,103,110],.int .i64 2])]) (a:=6) (v:=.agg #[str [109,97,99],.int .i64 2]) (j:=0) ty_u59 ty_u23 rfl rfl rfl rfl rfl rfl) (keep_none rfl) ?_
 refine DL.pu 8 (.agg #[str [112,97,105,114],.int .i64 2]) rfl (p_build (vs:=[(0,str [112,97,105,114]),(1,.int .i64 2)]) (fun w => by kernel_rfl) rfl rfl) ?_
 refine DL.put (H':=[(some b1,mobj .i64 [(1,.agg #[str [100],.int .i64 0]),(2,.agg #[str [115],.int .i64 0]),(3,.agg #[str [112,117,98,108,105,99],.int .i64 1]),(4,.agg #[str [115,101,97,108],.int .i64 2]),(5,.agg #[str [115,105,103,110],.int .i64 2]),(6,.agg #[str [109,97,99],.int .i64 2]),(7,.agg #[str [112,97,105,114],.int .i64 2])])]) (i:=14) rfl (Wn.none rfl) rfl rfl (f_insert (l:=[(1,.agg #[str [100],.int .i64 0]),(2,.agg #[str [115],.int .i64 0]),(3,.agg #[str [112,117,98,108,105,99],.int .i64 1]),(4,.agg #[str [115,101,97,108],.int .i64 2]),(5,.agg #[str [115,105,103,110],.int .i64 2]),(6,.agg #[str [109,97,99],.int .i64 2])]) (a:=7) (v:=.agg #[str [112,97,105,114],.int .i64 2]) (j:=0) ty_u59 ty_u23 rfl rfl rfl rfl rfl rfl) (keep_none rfl) ?_
 refine DL.pu 9 (.agg #[str [115,104,97,114,101,100],.int .i64 2]) rfl (p_build (vs:=[(0,str [115,104,97,114,101,100]),(1,.int .i64 2)]) (fun w => by kernel_rfl) rfl rfl) ?_
 refine DL.put (H':=[(some b1,mobj .i64 [(1,.agg #[str [100],.int .i64 0]),(2,.agg #[str [115],.int .i64 0]),(3,.agg #[str [112,117,98,108,105,99],.int .i64 1]),(4,.agg #[str [115,101,97,108],.int .i64 2]),(5,.agg #[str [115,105,103,110],.int .i64 2]),(6,.agg #[str [109,97,99],.int .i64 2]),(7,.agg #[str [112,97,105,114],.int .i64 2]),(8,.agg #[str [115,104,97,114,101,100],.int .i64 2])])]) (i:=16) rfl (Wn.none rfl) rfl rfl (f_insert (l:=[(1,.agg #[str [100],.int .i64 0]),(2,.agg #[str [115],.int .i64 0]),(3,.agg #[str [112,117,98,108,105,99],.int .i64 1]),(4,.agg #[str [115,101,97,108],.int .i64 2]),(5,.agg #[str [115,105,103,110],.int .i64 2]),(6,.agg #[str [109,97,99],.int .i64 2]),(7,.agg #[str [112,97,105,114],.int .i64 2])]) (a:=8) (v:=.agg #[str [115,104,97,114,101,100],.int .i64 2]) (j:=0) ty_u59 ty_u23 rfl rfl rfl rfl rfl rfl) (keep_none rfl) ?_
 refine DL.pu 10 (.agg #[str [104,97,115,104],.int .i64 1]) rfl (p_build (vs:=[(0,str [104,97,115,104]),(1,.int .i64 1)]) (fun w => by kernel_rfl) rfl rfl) ?_
 refine DL.put (H':=[(some b1,mobj .i64 [(1,.agg #[str [100],.int .i64 0]),(2,.agg #[str [115],.int .i64 0]),(3,.agg #[str [112,117,98,108,105,99],.int .i64 1]),(4,.agg #[str [115,101,97,108],.int .i64 2]),(5,.agg #[str [115,105,103,110],.int .i64 2]),(6,.agg #[str [109,97,99],.int .i64 2]),(7,.agg #[str [112,97,105,114],.int .i64 2]),(8,.agg #[str [115,104,97,114,101,100],.int .i64 2]),(9,.agg #[str [104,97,115,104],.int .i64 1])])]) (i:=18) rfl (Wn.none rfl) rfl rfl (f_insert (l:=[(1,.agg #[str [100],.int .i64 0]),(2,.agg #[str [115],.int .i64 0]),(3,.agg #[str [112,117,98,108,105,99],.int .i64 1]),(4,.agg #[str [115,101,97,108],.int .i64 2]),(5,.agg #[str [115,105,103,110],.int .i64 2]),(6,.agg #[str [109,97,99],.int .i64 2]),(7,.agg #[str [112,97,105,114],.int .i64 2]),(8,.agg #[str [115,104,97,114,101,100],.int .i64 2])]) (a:=9) (v:=.agg #[str [104,97,115,104],.int .i64 1]) (j:=0) ty_u59 ty_u23 rfl rfl rfl rfl rfl rfl) (keep_none rfl) ?_
 refine DL.mv 11 (.map (some b1)) rfl rfl rfl ?_
 refine DL.pu 0 (.map (some b1)) rfl (p_assign rfl rfl) ?_
 refine DL.nil ?_
 refine TT.freezeAt (j:=0) hE rfl ?_
 intro M2 I2 hE2 hx2 hxI2 hb2
 have hm_2 : M2 b1 = some FormsO:=hb2 _ rfl
 show TT _ _ _ _ _ _ _ _ []
 simp only [Option.some.injEq,Prod.mk.injEq] at h
 obtain ⟨⟩:=h
 exact retF (rs:=[.tmp 0]) (vs:=[.map (some b1)]) b1 hE2 Tryd.func40 rfl rfl rfl (res_cons (ResV.tmp rfl) res_nil) hm_2

@[reducible] def terms_fits.Rec (r_ : Tm → Int → Option (Bool × Int)) : Prop:=∀ {a0 : Tm} {a2 : Int} {a0_2 : Value} {a1_m : Nat} {r_0 : Bool} {r_1 : Int},r_ a0 a2 = some (r_0,r_1) → ∀ {M : Mem} (w : World) (hM : Ext M (heapOf w)) (hr_a0_2 : RowS ShTm M a0_2 (Tree.kids a0)) (hm_a1 : M a1_m = some FormsO),Calls Tryd.prog 51 #[.agg (Tm.ce a0 a0_2),.map (some a1_m),.int .i64 a2] w (fun e w' => e = .returned (.tuple #[.bool r_0,.int .i64 r_1]) ∧ Below w.heap.size w w')

/-! ### escutcheon/terms.fits: function 51 -/
noncomputable def B51 : Code:=bodyOf Tryd.f51
def terms_fits.L0 (r_terms_fits : Tm → Int → Option (Bool × Int)) (a0 : Tm) : Nat → Int → Int → Option ((Int) ⊕ (Bool × Int))
 | 0,_,_ => none
 | k + 1,x2_49,x55_50 => nm (decide (x55_50 < ((Tree.kids a0).length : Int))) fun t120 => if t120 = true then (req (0 ≤ x55_50) (req (x55_50 < ((Tree.kids a0).length : Int)) (nm ((Tree.kids a0).getD x55_50.toNat Tm.dflt) fun t130 => (r_terms_fits t130 x2_49).bind fun (t134_0,t134_1) => if (!t134_0) = true then (some (.inr (false,t134_1))) else (terms_fits.L0 r_terms_fits a0 k t134_1 (IntKind.i64.wrap (x55_50 + 1)))))) else (some (.inl x2_49))
set_option maxRecDepth 20000 in
theorem terms_fits.L0_ok {r_terms_fits : Tm → Int → Option (Bool × Int)} (hr_terms_fits : terms_fits.Rec r_terms_fits) (a0 : Tm) (a0_2 : Value) (a1_m : Nat) (b1 : Nat) (b2 : Nat) {r_0 : Bool} {r_1 : Int}  {w0 : World} {M0 M I : Mem} {K : List Item} (hE : Env w0 M0 M I) (hr_a0_2 : RowS ShTm M a0_2 (Tree.kids a0)) (hm_a1 : M a1_m = some FormsO) :
  ∀ (k : Nat) (x2_49 : Int) (x55_50 : Int) (q : (Int) ⊕ (Bool × Int)) (h : terms_fits.L0 r_terms_fits a0 k x2_49 x55_50 = some q) (hk : match (generalizing:=false) q with | .inl r0_ => (TT Tryd.prog 51 (Post (fun u => u = .tuple #[.bool r_0,.int .i64 r_1]) w0) 71 w0 I K [(2,.int .i64 r0_)] [(some b2,.cells (#[str (fmName (Tm.kind a0)),.int .i64 (fmArgs (Tm.kind a0))]) 87 (0,0)),(some b1,.cells ((Tm.ce a0 a0_2)) 25 (0,0))]) | .inr (r_0q,r_1q) => (r_0q,r_1q) = (r_0,r_1)),
   TT Tryd.prog 51 (Post (fun u => u = .tuple #[.bool r_0,.int .i64 r_1]) w0) 71 w0 I (.code (sub [1,1,1,1,0,1,0,0] B51) :: .inLoop (sub [1,1,1,1,0,1,0,0] B51) :: .inBlock 0 :: K) [(1,.map (some a1_m)),(2,.int .i64 x2_49),(53,a0_2),(54,.int .i64 ((Tree.kids a0).length : Int)),(55,.int .i64 x55_50)] [(some b2,.cells (#[str (fmName (Tm.kind a0)),.int .i64 (fmArgs (Tm.kind a0))]) 87 (0,0)),(some b1,.cells ((Tm.ce a0 a0_2)) 25 (0,0))]:=by
 intro k
 induction k with
 | zero => intro x2_49 x55_50 q h; simp [terms_fits.L0] at h
 | succ k ih =>
  intro x2_49 x55_50 q h hk
  unfold terms_fits.L0 at h
  refine TT.seq (x:=sub [1,1,1,1,0,1,0,0,0] B51) (y:=sub [1,1,1,1,0,1,0,0,1] B51) ?_
  refine TT.rg [0] [kp] rfl rfl ?_
  obtain ⟨t120,e121,h122⟩:=nm_some h
  refine DL.pu 56 (.bool t120) rfl (by rw [e121]; exact p_lss rfl rfl rfl) ?_
  refine DL.nil ?_
  refine TT.seq (x:=sub [1,1,1,1,0,1,0,0,1,0] B51) (y:=sub [1,1,1,1,0,1,0,0,1,1] B51) ?_
  by_cases c123 : t120 = true
  ·
   have h124:=ite_true c123 h122
   refine TT.cond_true (x:=sub [1,1,1,1,0,1,0,0,1,0,0] B51) (y:=sub [1,1,1,1,0,1,0,0,1,0,1] B51) rfl c123 ?_
   refine TT.skip ?_
   refine TT.seq (x:=sub [1,1,1,1,0,1,0,0,1,1,0] B51) (y:=sub [1,1,1,1,0,1,0,0,1,1,1] B51) ?_
   refine TT.block (c:=sub [1,1,1,1,0,1,0,0,1,1,0,0] B51) ?_
   refine TT.seq (x:=sub [1,1,1,1,0,1,0,0,1,1,0,0,0] B51) (y:=sub [1,1,1,1,0,1,0,0,1,1,0,0,1] B51) ?_
   refine TT.rg [0,1,2,3] [kp,kp,(.alloc,none),(.store,none)] rfl rfl ?_
   obtain ⟨g125,h126⟩:=req_some h124
   obtain ⟨g127,h128⟩:=req_some h126
   refine DL.pu 57 (elp a0_2 (x55_50.toNat * 3)) rfl (p_slIx ty_u22 ty_s25 (RowS.some hr_a0_2 g125 g127) g125 g127 rfl rfl rfl) ?_
   obtain ⟨t130,e131,h132⟩:=nm_some h128
   obtain ⟨cs129,hc129,hl129⟩:=id (hr_a0_2)
   have q129:=hl129 _ _ (getD_some Tm.dflt (lt_len g125 g127)); rw [← e131] at q129
   obtain ⟨t130_2,hq129,hr_t130_2⟩:=Tm.op q129
   refine DL.imm (v:=.agg (Tm.ce t130 t130_2)) rfl (Wn.none rfl) rfl rfl rfl (i_loadElA (RowV.mono hc129 hE.mi) hq129 (lt_len g125 g127) ty_a25 ty_s25 rfl rfl) ?_
   refine DL.new (ob:=.cells (#[.int .i64 0,.int .i64 0,(.slice none 0 0)]) 25) (mk:=fun b => ptr b 0) (i:=2) rfl (Wn.none rfl) rfl rfl rfl (f_alloc ty_z25 rfl) ?_
   intro b133 hb133
   refine DL.put (H':=[(some b133,.cells ((Tm.ce t130 t130_2)) 25 (0,0)),(some b2,.cells (#[str (fmName (Tm.kind a0)),.int .i64 (fmArgs (Tm.kind a0))]) 87 (0,0)),(some b1,.cells ((Tm.ce a0 a0_2)) 25 (0,0))]) (i:=3) rfl (Wn.none rfl) rfl rfl (f_storeA (j:=0) ty_s25 rfl rfl rfl (one_cons trivial (one_cons trivial (one_cons (sl_one (RowS.sl hr_t130_2)) one_nil))) rfl rfl rfl) (keep_none rfl) ?_
   refine DL.nil ?_
   refine TT.seq (x:=sub [1,1,1,1,0,1,0,0,1,1,0,0,1,0] B51) (y:=sub [1,1,1,1,0,1,0,0,1,1,0,0,1,1] B51) ?_
   refine TT.rg [0] [kp] rfl rfl ?_
   refine DL.pu 12 (.bool false) rfl (p_assign rfl rfl) ?_
   refine DL.nil ?_
   refine TT.seq (x:=sub [1,1,1,1,0,1,0,0,1,1,0,0,1,1,0] B51) (y:=sub [1,1,1,1,0,1,0,0,1,1,0,0,1,1,1] B51) ?_
   refine TT.rg [0,1,2,3,4,5,6,7,8] [kq,kp,kp,kq,kp,kp,kp,kp,kp] rfl rfl ?_
   refine DL.qu 60 (.agg (Tm.ce t130 t130_2)) rfl (f_loadA (j:=0) ty_a25 ty_s25 rfl rfl rfl rfl) ?_
   refine DL.mv 61 (.map (some a1_m)) rfl rfl rfl ?_
   refine DL.mv 62 (.int .i64 x2_49) rfl rfl rfl ?_
   obtain ⟨⟨t134_0,t134_1⟩,h135,h136⟩:=bind_some h132
   refine DL.qu 63 (.tuple #[.bool t134_0,.int .i64 t134_1]) rfl (f_callR rfl rfl (args_val (vs:=[.agg (Tm.ce t130 t130_2),.map (some a1_m),.int .i64 x2_49]) rfl) (fun w => enter51 _ w) (fun w hc => hr_terms_fits h135 (M:=M) w (hE.ext hc) hr_t130_2 hm_a1)) ?_
   refine DL.mv 59 (.tuple #[.bool t134_0,.int .i64 t134_1]) rfl rfl rfl ?_
   refine DL.pu 64 (.bool t134_0) rfl (p_extract rfl rfl rfl) ?_
   refine DL.pu 65 (.int .i64 t134_1) rfl (p_extract rfl rfl rfl) ?_
   refine DL.pu 12 (.bool t134_0) rfl (p_assign rfl rfl) ?_
   refine DL.pu 2 (.int .i64 t134_1) rfl (p_assign rfl rfl) ?_
   refine DL.nil ?_
   refine TT.seq (x:=sub [1,1,1,1,0,1,0,0,1,1,0,0,1,1,1,0] B51) (y:=sub [1,1,1,1,0,1,0,0,1,1,0,0,1,1,1,1] B51) ?_
   refine TT.rg [0,1] [kp,kp] rfl rfl ?_
   refine DL.mv 66 (.bool t134_0) rfl rfl rfl ?_
   refine DL.pu 67 (.bool (!t134_0)) rfl (p_not rfl rfl) ?_
   refine DL.nil ?_
   by_cases c137 : (!t134_0) = true
   ·
    have h138:=ite_true c137 h136
    refine TT.cond_true (x:=sub [1,1,1,1,0,1,0,0,1,1,0,0,1,1,1,1,0] B51) (y:=sub [1,1,1,1,0,1,0,0,1,1,0,0,1,1,1,1,1] B51) rfl c137 ?_
    refine TT.seq (x:=sub [1,1,1,1,0,1,0,0,1,1,0,0,1,1,1,1,0,0] B51) (y:=sub [1,1,1,1,0,1,0,0,1,1,0,0,1,1,1,1,0,1] B51) ?_
    refine TT.rg [0,1,2] [kp,kp,kp] rfl rfl ?_
    refine DL.mv 68 (.int .i64 t134_1) rfl rfl rfl ?_
    refine DL.pu 6 (.bool false) rfl (p_assign rfl rfl) ?_
    refine DL.pu 7 (.int .i64 t134_1) rfl (p_assign rfl rfl) ?_
    refine DL.nil ?_
    obtain rfl:=Option.some.inj h138
    have k139 : (false,t134_1) = (r_0,r_1):=hk
    simp only [Prod.mk.injEq] at k139
    obtain ⟨rfl,rfl⟩:=k139
    exact retnE (rs:=[.tmp 6,.tmp 7]) (vs:=[.bool false,.int .i64 t134_1]) hE.base Tryd.func51 rfl rfl rfl (res_cons (ResV.tmp rfl) (res_cons (ResV.tmp rfl) res_nil)) rfl
   ·
    replace c137:=Bool.eq_false_iff.mpr c137
    have h140:=ite_false c137 h136
    refine TT.cond_false (x:=sub [1,1,1,1,0,1,0,0,1,1,0,0,1,1,1,1,0] B51) (y:=sub [1,1,1,1,0,1,0,0,1,1,0,0,1,1,1,1,1] B51) rfl c137 ?_
    refine TT.skip ?_
    refine TT.inBlock ?_
    refine TT.rg [0,1] [kp,kp] rfl rfl ?_
    refine DL.pu 69 (.int .i64 (IntKind.i64.wrap (x55_50 + 1))) rfl (p_add rfl rfl rfl) ?_
    refine DL.mv 55 (.int .i64 (IntKind.i64.wrap (x55_50 + 1))) rfl rfl rfl ?_
    refine DL.nil ?_
    refine TT.inLoop ?_
    exact TT.pick [1,2] (by decide) (TT.weak (ih t134_1 (IntKind.i64.wrap (x55_50 + 1)) _ h140 hk) (Sub.cons rfl (Sub.cons rfl (Sub.cons rfl (Sub.cons rfl (Sub.cons rfl (Sub.nil _)))))))
  ·
   replace c123:=Bool.eq_false_iff.mpr c123
   have h141:=ite_false c123 h122
   refine TT.cond_false (x:=sub [1,1,1,1,0,1,0,0,1,0,0] B51) (y:=sub [1,1,1,1,0,1,0,0,1,0,1] B51) rfl c123 ?_
   refine TT.exit rfl ?_
   obtain rfl:=Option.some.inj h141
   exact TT.weak (hk) (Sub.cons rfl (Sub.nil _))

def terms_fits.F (r_terms_fits : Tm → Int → Option (Bool × Int)) (a0 : Tm) (a2 : Int) : Option (Bool × Int):=(if (!(fmIs (Tm.kind a0))) = true then (some true) else (some (decide ((IntKind.i64.wrap (a2 - 1)) < 0)))).bind fun q4 => (if q4 = true then (some true) else (nm (((Tree.kids a0).length : Int) != (fmArgs (Tm.kind a0))) fun t19 => some t19)).bind fun q12 => (if q12 = true then (some true) else (some (decide ((Tm.num a0) < 0)))).bind fun q23 => (if q23 = true then (some true) else ((if ((Tm.num a0) != 0) = true then (some (decide (0 < (fmArgs (Tm.kind a0))))) else (some false)).bind fun q39 => some q39)).bind fun q31 => if q31 = true then (some (false,IntKind.i64.wrap (a2 - 1))) else (onw (terms_fits.L0 r_terms_fits a0 (((Tree.kids a0).length : Int).toNat + 1) (IntKind.i64.wrap (a2 - 1)) 0) (fun z2_119 => some (true,z2_119)) (fun r => some r))
set_option maxRecDepth 20000 in
theorem terms_fits.okF {r_terms_fits : Tm → Int → Option (Bool × Int)} (hr_terms_fits : terms_fits.Rec r_terms_fits) {a0 : Tm} {a2 : Int} {a0_2 : Value} {a1_m : Nat} {r_0 : Bool} {r_1 : Int} (h : terms_fits.F r_terms_fits a0 a2 = some (r_0,r_1)) {M : Mem} (w : World) (hM : Ext M (heapOf w)) (hr_a0_2 : RowS ShTm M a0_2 (Tree.kids a0)) (hm_a1 : M a1_m = some FormsO) : Calls Tryd.prog 51 #[.agg (Tm.ce a0 a0_2),.map (some a1_m),.int .i64 a2] w (Post (fun u => u = .tuple #[.bool r_0,.int .i64 r_1]) w):=by
 unfold terms_fits.F at h
 have hE:=Env.start hM
 refine calls_of_TT (N:=71) (S:=[(0,.agg (Tm.ce a0 a0_2)),(1,.map (some a1_m)),(2,.int .i64 a2)]) (c:=B51) Tryd.func51 rfl rfl rfl (by simp) ?_
 show TT _ _ _ _ _ _ [.code (sub [] B51)] _ _
 refine TT.seq (x:=sub [0] B51) (y:=sub [1] B51) ?_
 refine TT.rg [0,1,2] [(.alloc,none),kp,kp] rfl rfl ?_
 refine DL.new (ob:=.cells ((Tm.ce a0 a0_2)) 25) (mk:=fun b => ptr b 0) (i:=0) rfl (Wn.none rfl) rfl rfl rfl (f_box (v:=.agg (Tm.ce a0 a0_2)) rfl rfl) ?_
 intro b1 hb1
 refine DL.pu 6 (.bool false) rfl (p_assign rfl rfl) ?_
 refine DL.pu 7 (.int .i64 0) rfl (p_assign rfl rfl) ?_
 refine DL.nil ?_
 refine TT.seq (x:=sub [1,0] B51) (y:=sub [1,1] B51) ?_
 refine TT.rg [0,1,2,3,4,5,6,7,8,9] [kp,kp,kq,kq,kp,kp,kp,(.alloc,none),(.store,none),kp] rfl rfl ?_
 refine DL.mv 14 (.map (some a1_m)) rfl rfl rfl ?_
 refine DL.pu 15 (ptr b1 0) rfl (p_fieldAddr ty_f25_0 rfl rfl) ?_
 refine DL.qu 16 (.int .i64 (Tm.kind a0)) rfl (f_load (j:=0) ty_a23 rfl rfl rfl rfl) ?_
 refine DL.qu 17 (.tuple #[.agg #[str (fmName (Tm.kind a0)),.int .i64 (fmArgs (Tm.kind a0))],.bool (fmIs (Tm.kind a0))]) rfl (FImm.quiet (i_lookupMOk (I:=M) (a:=(Tm.kind a0)) ty_u59 ty_u23 ty_z87 hm_a1 (fm_val (Tm.kind a0)) (fm_is (Tm.kind a0)) rfl rfl rfl) (fun w hc => hE.imm hc)) ?_
 refine DL.mv 13 (.tuple #[.agg #[str (fmName (Tm.kind a0)),.int .i64 (fmArgs (Tm.kind a0))],.bool (fmIs (Tm.kind a0))]) rfl rfl rfl ?_
 refine DL.pu 18 (.agg #[str (fmName (Tm.kind a0)),.int .i64 (fmArgs (Tm.kind a0))]) rfl (p_extract rfl rfl rfl) ?_
 refine DL.pu 19 (.bool (fmIs (Tm.kind a0))) rfl (p_extract rfl rfl rfl) ?_
 refine DL.new (ob:=.cells (#[str ([] : List UInt8),.int .i64 0]) 87) (mk:=fun b => ptr b 0) (i:=7) rfl (Wn.none rfl) rfl rfl rfl (f_alloc ty_z87 rfl) ?_
 intro b2 hb2
 refine DL.put (H':=[(some b2,.cells (#[str (fmName (Tm.kind a0)),.int .i64 (fmArgs (Tm.kind a0))]) 87 (0,0)),(some b1,.cells ((Tm.ce a0 a0_2)) 25 (0,0))]) (i:=8) rfl (Wn.none rfl) rfl rfl (f_storeA (j:=0) ty_s87 rfl rfl rfl (by simp [OneCell,str]) rfl rfl rfl) (keep_none rfl) ?_
 refine DL.pu 9 (.bool (fmIs (Tm.kind a0))) rfl (p_assign rfl rfl) ?_
 refine DL.nil ?_
 refine TT.seq (x:=sub [1,1,0] B51) (y:=sub [1,1,1] B51) ?_
 refine TT.rg [0,1,2] [kp,kp,kp] rfl rfl ?_
 refine DL.mv 20 (.int .i64 a2) rfl rfl rfl ?_
 refine DL.pu 21 (.int .i64 (IntKind.i64.wrap (a2 - 1))) rfl (p_sub rfl rfl rfl) ?_
 refine DL.pu 2 (.int .i64 (IntKind.i64.wrap (a2 - 1))) rfl (p_assign rfl rfl) ?_
 refine DL.nil ?_
 refine TT.seq (x:=sub [1,1,1,0] B51) (y:=sub [1,1,1,1] B51) ?_
 refine TT.seq (x:=sub [1,1,1,0,0] B51) (y:=sub [1,1,1,0,1] B51) ?_
 refine TT.rg [0,1,2,3,4,5,6,7,8,9,10,11,12,13,14,15,16,17,18,19,20,21,22,23,24,25,26,27,28] [kp,kp,kp,kp,kp,kp,kp,kp,kq,kp,kp,kq,kp,kp,kp,kp,kq,kp,kp,kp,kp,kq,kp,kp,kp,kq,kp,kp,kp] rfl rfl ?_
 refine DL.mv 22 (.bool (fmIs (Tm.kind a0))) rfl rfl rfl ?_
 refine DL.pu 23 (.bool (!(fmIs (Tm.kind a0)))) rfl (p_not rfl rfl) ?_
 refine DL.mv 24 (.bool (!(fmIs (Tm.kind a0)))) rfl rfl rfl ?_
 obtain ⟨q4,h5,h6⟩:=bind_some h
 refine DL.cut [(1,.map (some a1_m)),(2,.int .i64 (IntKind.i64.wrap (a2 - 1))),(3,ptr b1 0),(8,ptr b2 0),(27,.bool q4)] [6,7,8,9,10,11,12,13,14,15,16,17,18,19,20,21,22,23,24,25,26,27,28] ?_ (fun J7 => ?_)
 ·
  refine DL.mv 28 (.bool q4) rfl rfl rfl ?_
  obtain ⟨q12,h13,h14⟩:=bind_some h6
  refine DL.cut [(1,.map (some a1_m)),(2,.int .i64 (IntKind.i64.wrap (a2 - 1))),(3,ptr b1 0),(8,ptr b2 0),(35,.bool q12)] [14,15,16,17,18,19,20,21,22,23,24,25,26,27,28] ?_ (fun J15 => ?_)
  ·
   refine DL.mv 36 (.bool q12) rfl rfl rfl ?_
   obtain ⟨q23,h24,h25⟩:=bind_some h14
   refine DL.cut [(1,.map (some a1_m)),(2,.int .i64 (IntKind.i64.wrap (a2 - 1))),(3,ptr b1 0),(8,ptr b2 0),(40,.bool q23)] [19,20,21,22,23,24,25,26,27,28] ?_ (fun J26 => ?_)
   ·
    refine DL.mv 41 (.bool q23) rfl rfl rfl ?_
    obtain ⟨q31,h32,h33⟩:=bind_some h25
    refine DL.cut [(1,.map (some a1_m)),(2,.int .i64 (IntKind.i64.wrap (a2 - 1))),(3,ptr b1 0),(50,.bool q31)] [] ?_ (fun J34 => ?_)
    ·
     refine DL.nil ?_
     by_cases c46 : q31 = true
     ·
      have h47:=ite_true c46 h33
      refine TT.cond_true (x:=sub [1,1,1,0,1,0] B51) (y:=sub [1,1,1,0,1,1] B51) rfl c46 ?_
      refine TT.seq (x:=sub [1,1,1,0,1,0,0] B51) (y:=sub [1,1,1,0,1,0,1] B51) ?_
      refine TT.rg [0,1,2] [kp,kp,kp] rfl rfl ?_
      refine DL.mv 51 (.int .i64 (IntKind.i64.wrap (a2 - 1))) rfl rfl rfl ?_
      refine DL.pu 6 (.bool false) rfl (p_assign rfl rfl) ?_
      refine DL.pu 7 (.int .i64 (IntKind.i64.wrap (a2 - 1))) rfl (p_assign rfl rfl) ?_
      refine DL.nil ?_
      simp only [Option.some.injEq,Prod.mk.injEq] at h47
      obtain ⟨rfl,rfl⟩:=h47
      exact retnE (rs:=[.tmp 6,.tmp 7]) (vs:=[.bool false,.int .i64 (IntKind.i64.wrap (a2 - 1))]) hE.base Tryd.func51 rfl rfl rfl (res_cons (ResV.tmp rfl) (res_cons (ResV.tmp rfl) res_nil)) rfl
     ·
      replace c46:=Bool.eq_false_iff.mpr c46
      have h48:=ite_false c46 h33
      refine TT.cond_false (x:=sub [1,1,1,0,1,0] B51) (y:=sub [1,1,1,0,1,1] B51) rfl c46 ?_
      refine TT.skip ?_
      refine TT.seq (x:=sub [1,1,1,1,0] B51) (y:=sub [1,1,1,1,1] B51) ?_
      refine TT.seq (x:=sub [1,1,1,1,0,0] B51) (y:=sub [1,1,1,1,0,1] B51) ?_
      refine TT.rg [0,1,2,3] [kp,kq,kp,kp] rfl rfl ?_
      refine DL.pu 52 (ptr b1 2) rfl (p_fieldAddr ty_f25_2 rfl rfl) ?_
      refine DL.qu 53 (a0_2) rfl (f_load (j:=1) ty_a22 rfl rfl rfl rfl) ?_
      refine DL.pu 54 (.int .i64 ((Tree.kids a0).length : Int)) rfl (p_slLen ty_u22 (RowS.sl hr_a0_2) rfl rfl) ?_
      refine DL.mv 55 (.int .i64 0) rfl rfl rfl ?_
      refine DL.nil ?_
      refine TT.block (c:=sub [1,1,1,1,0,1,0] B51) ?_
      refine TT.loop (c:=sub [1,1,1,1,0,1,0,0] B51) ?_
      rcases onw_some h48 with ⟨z2_119,h142,h143⟩ | ⟨⟨r145,r146⟩,h142,h143⟩
      ·
       refine TT.weak (terms_fits.L0_ok hr_terms_fits a0 a0_2 a1_m b1 b2 hE hr_a0_2 hm_a1 (((Tree.kids a0).length : Int).toNat + 1) (IntKind.i64.wrap (a2 - 1)) 0 (.inl z2_119) h142 (?_)) (Sub.cons rfl (Sub.cons rfl (Sub.cons rfl (Sub.cons rfl (Sub.cons rfl (Sub.nil _))))))
       show TT _ _ _ _ _ _ _ _ _
       refine TT.seq (x:=sub [1,1,1,1,1,0] B51) (y:=sub [1,1,1,1,1,1] B51) ?_
       refine TT.rg [0,1,2] [kp,kp,kp] rfl rfl ?_
       refine DL.mv 70 (.int .i64 z2_119) rfl rfl rfl ?_
       refine DL.pu 6 (.bool true) rfl (p_assign rfl rfl) ?_
       refine DL.pu 7 (.int .i64 z2_119) rfl (p_assign rfl rfl) ?_
       refine DL.nil ?_
       simp only [Option.some.injEq,Prod.mk.injEq] at h143
       obtain ⟨rfl,rfl⟩:=h143
       exact retnE (rs:=[.tmp 6,.tmp 7]) (vs:=[.bool true,.int .i64 z2_119]) hE.base Tryd.func51 rfl rfl rfl (res_cons (ResV.tmp rfl) (res_cons (ResV.tmp rfl) res_nil)) rfl
      ·
       simp only [Option.some.injEq,Prod.mk.injEq] at h143
       obtain ⟨rfl,rfl⟩:=h143
       exact TT.weak (terms_fits.L0_ok hr_terms_fits a0 a0_2 a1_m b1 b2 hE hr_a0_2 hm_a1 (((Tree.kids a0).length : Int).toNat + 1) (IntKind.i64.wrap (a2 - 1)) 0 (.inr (r145,r146)) h142 rfl) (Sub.cons rfl (Sub.cons rfl (Sub.cons rfl (Sub.cons rfl (Sub.cons rfl (Sub.nil _))))))
    ·
     by_cases c35 : q23 = true
     ·
      have h36:=ite_true c35 h32
      refine DL.not (i:=20) rfl (Wn.yes c35 rfl rfl rfl rfl) rfl rfl ?_
      refine DL.not (i:=21) rfl (Wn.yes c35 rfl rfl rfl rfl) rfl rfl ?_
      refine DL.not (i:=22) rfl (Wn.yes c35 rfl rfl rfl rfl) rfl rfl ?_
      refine DL.not (i:=23) rfl (Wn.yes c35 rfl rfl rfl rfl) rfl rfl ?_
      refine DL.not (i:=24) rfl (Wn.undef rfl rfl rfl) rfl rfl ?_
      refine DL.not (i:=25) rfl (Wn.undef rfl rfl rfl) rfl rfl ?_
      refine DL.not (i:=26) rfl (Wn.undef rfl rfl rfl) rfl rfl ?_
      refine DL.not (i:=27) rfl (Wn.yes c35 rfl rfl rfl rfl) rfl rfl ?_
      refine DL.pu 50 (.bool true) rfl (p_pick_t c35 rfl rfl rfl) ?_
      obtain rfl:=Option.some.inj h36
      exact DL.weak J34 (Sub.cons rfl (Sub.cons rfl (Sub.cons rfl (Sub.cons rfl (Sub.nil _)))))
     ·
      replace c35:=Bool.eq_false_iff.mpr c35
      have h37:=ite_false c35 h32
      refine DL.pure (v:=ptr b1 1) rfl (Wn.no c35 rfl rfl rfl rfl) rfl rfl rfl (p_fieldAddr ty_f25_1 rfl rfl) ?_
      refine DL.quiet (v:=.int .i64 (Tm.num a0)) rfl (Wn.no c35 rfl rfl rfl rfl) rfl rfl rfl (f_load (j:=1) ty_a3 rfl rfl rfl rfl) ?_
      refine DL.pure (v:=.bool ((Tm.num a0) != 0)) rfl (Wn.no c35 rfl rfl rfl rfl) rfl rfl rfl (p_neq rfl rfl rfl) ?_
      refine DL.pure (v:=.bool ((Tm.num a0) != 0)) rfl (Wn.no c35 rfl rfl rfl rfl) rfl rfl rfl (p_move rfl rfl) ?_
      obtain ⟨q39,h40,h41⟩:=bind_some h37
      refine DL.cut [(1,.map (some a1_m)),(2,.int .i64 (IntKind.i64.wrap (a2 - 1))),(3,ptr b1 0),(41,.bool q23),(49,.bool q39)] [28] ?_ (fun J42 => ?_)
      ·
       refine DL.pu 50 (.bool q39) rfl (p_pick_f c35 rfl rfl rfl) ?_
       obtain rfl:=Option.some.inj h41
       exact DL.weak J34 (Sub.cons rfl (Sub.cons rfl (Sub.cons rfl (Sub.cons rfl (Sub.nil _)))))
      ·
       by_cases c43 : ((Tm.num a0) != 0) = true
       ·
        have h44:=ite_true c43 h40
        refine DL.pure (v:=ptr b2 1) rfl (Wn.yes c43 rfl rfl rfl rfl) rfl rfl rfl (p_fieldAddr ty_f87_1 rfl rfl) ?_
        refine DL.quiet (v:=.int .i64 (fmArgs (Tm.kind a0))) rfl (Wn.yes c43 rfl rfl rfl rfl) rfl rfl rfl (f_load (j:=0) ty_a3 rfl rfl rfl rfl) ?_
        refine DL.pure (v:=.bool (decide (0 < (fmArgs (Tm.kind a0))))) rfl (Wn.yes c43 rfl rfl rfl rfl) rfl rfl rfl (p_gtr rfl rfl rfl) ?_
        refine DL.pure (v:=.bool (decide (0 < (fmArgs (Tm.kind a0))))) rfl (Wn.no c35 rfl rfl rfl rfl) rfl rfl rfl (p_pick_t c43 rfl rfl rfl) ?_
        obtain rfl:=Option.some.inj h44
        exact DL.weak J42 (Sub.cons rfl (Sub.cons rfl (Sub.cons rfl (Sub.cons rfl (Sub.cons rfl (Sub.nil _))))))
       ·
        replace c43:=Bool.eq_false_iff.mpr c43
        have h45:=ite_false c43 h40
        refine DL.not (i:=24) rfl (Wn.no c43 rfl rfl rfl rfl) rfl rfl ?_
        refine DL.not (i:=25) rfl (Wn.no c43 rfl rfl rfl rfl) rfl rfl ?_
        refine DL.not (i:=26) rfl (Wn.no c43 rfl rfl rfl rfl) rfl rfl ?_
        refine DL.pure (v:=.bool false) rfl (Wn.no c35 rfl rfl rfl rfl) rfl rfl rfl (p_pick_f c43 rfl rfl rfl) ?_
        obtain rfl:=Option.some.inj h45
        exact DL.weak J42 (Sub.cons rfl (Sub.cons rfl (Sub.cons rfl (Sub.cons rfl (Sub.cons rfl (Sub.nil _))))))
   ·
    by_cases c27 : q12 = true
    ·
     have h28:=ite_true c27 h24
     refine DL.not (i:=15) rfl (Wn.yes c27 rfl rfl rfl rfl) rfl rfl ?_
     refine DL.not (i:=16) rfl (Wn.yes c27 rfl rfl rfl rfl) rfl rfl ?_
     refine DL.not (i:=17) rfl (Wn.yes c27 rfl rfl rfl rfl) rfl rfl ?_
     refine DL.pu 40 (.bool true) rfl (p_pick_t c27 rfl rfl rfl) ?_
     obtain rfl:=Option.some.inj h28
     exact DL.weak J26 (Sub.cons rfl (Sub.cons rfl (Sub.cons rfl (Sub.cons rfl (Sub.cons rfl (Sub.nil _))))))
    ·
     replace c27:=Bool.eq_false_iff.mpr c27
     have h29:=ite_false c27 h24
     refine DL.pure (v:=ptr b1 1) rfl (Wn.no c27 rfl rfl rfl rfl) rfl rfl rfl (p_fieldAddr ty_f25_1 rfl rfl) ?_
     refine DL.quiet (v:=.int .i64 (Tm.num a0)) rfl (Wn.no c27 rfl rfl rfl rfl) rfl rfl rfl (f_load (j:=1) ty_a3 rfl rfl rfl rfl) ?_
     refine DL.pure (v:=.bool (decide ((Tm.num a0) < 0))) rfl (Wn.no c27 rfl rfl rfl rfl) rfl rfl rfl (p_lss rfl rfl rfl) ?_
     refine DL.pu 40 (.bool (decide ((Tm.num a0) < 0))) rfl (p_pick_f c27 rfl rfl rfl) ?_
     obtain rfl:=Option.some.inj h29
     exact DL.weak J26 (Sub.cons rfl (Sub.cons rfl (Sub.cons rfl (Sub.cons rfl (Sub.cons rfl (Sub.nil _))))))
  ·
   by_cases c16 : q4 = true
   ·
    have h17:=ite_true c16 h13
    refine DL.not (i:=7) rfl (Wn.yes c16 rfl rfl rfl rfl) rfl rfl ?_
    refine DL.not (i:=8) rfl (Wn.yes c16 rfl rfl rfl rfl) rfl rfl ?_
    refine DL.not (i:=9) rfl (Wn.yes c16 rfl rfl rfl rfl) rfl rfl ?_
    refine DL.not (i:=10) rfl (Wn.yes c16 rfl rfl rfl rfl) rfl rfl ?_
    refine DL.not (i:=11) rfl (Wn.yes c16 rfl rfl rfl rfl) rfl rfl ?_
    refine DL.not (i:=12) rfl (Wn.yes c16 rfl rfl rfl rfl) rfl rfl ?_
    refine DL.pu 35 (.bool true) rfl (p_pick_t c16 rfl rfl rfl) ?_
    obtain rfl:=Option.some.inj h17
    exact DL.weak J15 (Sub.cons rfl (Sub.cons rfl (Sub.cons rfl (Sub.cons rfl (Sub.cons rfl (Sub.nil _))))))
   ·
    replace c16:=Bool.eq_false_iff.mpr c16
    have h18:=ite_false c16 h13
    refine DL.pure (v:=ptr b1 2) rfl (Wn.no c16 rfl rfl rfl rfl) rfl rfl rfl (p_fieldAddr ty_f25_2 rfl rfl) ?_
    refine DL.quiet (v:=a0_2) rfl (Wn.no c16 rfl rfl rfl rfl) rfl rfl rfl (f_load (j:=1) ty_a22 rfl rfl rfl rfl) ?_
    refine DL.pure (v:=.int .i64 ((Tree.kids a0).length : Int)) rfl (Wn.no c16 rfl rfl rfl rfl) rfl rfl rfl (p_slLen ty_u22 (RowS.sl hr_a0_2) rfl rfl) ?_
    refine DL.pure (v:=ptr b2 1) rfl (Wn.no c16 rfl rfl rfl rfl) rfl rfl rfl (p_fieldAddr ty_f87_1 rfl rfl) ?_
    refine DL.quiet (v:=.int .i64 (fmArgs (Tm.kind a0))) rfl (Wn.no c16 rfl rfl rfl rfl) rfl rfl rfl (f_load (j:=0) ty_a3 rfl rfl rfl rfl) ?_
    obtain ⟨t19,e20,h21⟩:=nm_some h18
    refine DL.pure (v:=.bool t19) rfl (Wn.no c16 rfl rfl rfl rfl) rfl rfl rfl (by rw [e20]; exact p_neq rfl rfl rfl) ?_
    refine DL.pu 35 (.bool t19) rfl (p_pick_f c16 rfl rfl rfl) ?_
    obtain rfl:=Option.some.inj h21
    exact DL.weak J15 (Sub.cons rfl (Sub.cons rfl (Sub.cons rfl (Sub.cons rfl (Sub.cons rfl (Sub.nil _))))))
 ·
  by_cases c8 : (!(fmIs (Tm.kind a0))) = true
  ·
   have h9:=ite_true c8 h5
   refine DL.not (i:=3) rfl (Wn.yes c8 rfl rfl rfl rfl) rfl rfl ?_
   refine DL.not (i:=4) rfl (Wn.yes c8 rfl rfl rfl rfl) rfl rfl ?_
   refine DL.pu 27 (.bool true) rfl (p_pick_t c8 rfl rfl rfl) ?_
   obtain rfl:=Option.some.inj h9
   exact DL.weak J7 (Sub.cons rfl (Sub.cons rfl (Sub.cons rfl (Sub.cons rfl (Sub.cons rfl (Sub.nil _))))))
  ·
   replace c8:=Bool.eq_false_iff.mpr c8
   have h10:=ite_false c8 h5
   refine DL.pure (v:=.int .i64 (IntKind.i64.wrap (a2 - 1))) rfl (Wn.no c8 rfl rfl rfl rfl) rfl rfl rfl (p_move rfl rfl) ?_
   refine DL.pure (v:=.bool (decide ((IntKind.i64.wrap (a2 - 1)) < 0))) rfl (Wn.no c8 rfl rfl rfl rfl) rfl rfl rfl (p_lss rfl rfl rfl) ?_
   refine DL.pu 27 (.bool (decide ((IntKind.i64.wrap (a2 - 1)) < 0))) rfl (p_pick_f c8 rfl rfl rfl) ?_
   obtain rfl:=Option.some.inj h10
   exact DL.weak J7 (Sub.cons rfl (Sub.cons rfl (Sub.cons rfl (Sub.cons rfl (Sub.cons rfl (Sub.nil _))))))
theorem terms_fits.valF {r_terms_fits : Tm → Int → Option (Bool × Int)} (hr_terms_fits : terms_fits.Rec r_terms_fits) {a0 : Tm} {a2 : Int} {a0_2 : Value} {a1_m : Nat} {r_0 : Bool} {r_1 : Int} (h : terms_fits.F r_terms_fits a0 a2 = some (r_0,r_1)) {M : Mem} (w : World) (hM : Ext M (heapOf w)) (hr_a0_2 : RowS ShTm M a0_2 (Tree.kids a0)) (hm_a1 : M a1_m = some FormsO) : Calls Tryd.prog 51 #[.agg (Tm.ce a0 a0_2),.map (some a1_m),.int .i64 a2] w fun e w' => e = .returned (.tuple #[.bool r_0,.int .i64 r_1]) ∧ Below w.heap.size w w' :=
 calls_value (terms_fits.okF hr_terms_fits h w hM hr_a0_2 hm_a1)
def terms_fits.f : Nat → Tm → Int → Option (Bool × Int)
 | 0,_,_ => none
 | k + 1,a0,a2 => terms_fits.F (terms_fits.f k) a0 a2
theorem terms_fits.rec : ∀ k,terms_fits.Rec (terms_fits.f k):=by
 intro k
 induction k with
 | zero => intro _ _ _ _ _ _ h; simp [terms_fits.f] at h
 | succ k ih => intro a0 a2 a0_2 a1_m r_0 r_1 h M w hM hr_a0_2 hm_a1; exact terms_fits.valF ih h w hM hr_a0_2 hm_a1
theorem terms_fits.val {k : Nat} {a0 : Tm} {a2 : Int} {a0_2 : Value} {a1_m : Nat} {r_0 : Bool} {r_1 : Int} (h : terms_fits.f k a0 a2 = some (r_0,r_1)) {M : Mem} (w : World) (hM : Ext M (heapOf w)) (hr_a0_2 : RowS ShTm M a0_2 (Tree.kids a0)) (hm_a1 : M a1_m = some FormsO) : Calls Tryd.prog 51 #[.agg (Tm.ce a0 a0_2),.map (some a1_m),.int .i64 a2] w fun e w' => e = .returned (.tuple #[.bool r_0,.int .i64 r_1]) ∧ Below w.heap.size w w' :=
 terms_fits.rec k h w hM hr_a0_2 hm_a1

/-! ### escutcheon/terms.May: function 31 -/
noncomputable def B31 : Code:=bodyOf Tryd.f31
def terms_May.f (a0 : Tm) : Option (Bool):=(terms_forms.f).bind fun _ => (terms_fits.f (Tm.fuel a0) a0 2000).bind fun (t7_0,t7_1) => some t7_0
set_option maxRecDepth 20000 in
theorem terms_May.ok {a0 : Tm} {a0_2 : Value} {r : Bool} (h : terms_May.f a0 = some r) {M : Mem} (w : World) (hM : Ext M (heapOf w)) (hr_a0_2 : RowS ShTm M a0_2 (Tree.kids a0)) : Calls Tryd.prog 31 #[.agg (Tm.ce a0 a0_2)] w (Post (fun u => u = .bool r) w):=by
 unfold terms_May.f at h
 have hE:=Env.start hM
 refine calls_of_TT (N:=12) (S:=[(0,.agg (Tm.ce a0 a0_2))]) (c:=B31) Tryd.func31 rfl rfl rfl (by simp) ?_
 show TT _ _ _ _ _ _ [.code (sub [] B31)] _ _
 refine TT.seq (x:=sub [0] B31) (y:=sub [1] B31) ?_
 refine TT.rg [0,1] [(.alloc,none),kp] rfl rfl ?_
 refine DL.new (ob:=.cells ((Tm.ce a0 a0_2)) 25) (mk:=fun b => ptr b 0) (i:=0) rfl (Wn.none rfl) rfl rfl rfl (f_box (v:=.agg (Tm.ce a0 a0_2)) rfl rfl) ?_
 intro b1 hb1
 refine DL.pu 2 (.bool false) rfl (p_assign rfl rfl) ?_
 refine DL.nil ?_
 refine TT.seq (x:=sub [1,0] B31) (y:=sub [1,1] B31) ?_
 refine TT.rgD [0,1,2,3,4,5,6,7] [0,0,3,7,15,15,31,127] [(.look,some 0),kk,kq,kp,kp,kp,kp,kp] rfl mixed (by kernel_rfl) ?_
 intro w2 hl2 hj2 hz2
 refine DL.look (v:=.agg (Tm.ce a0 a0_2)) (x:=0) (b:=b1) (i:=0) rfl (Wn.none rfl) rfl rfl rfl rfl rfl (List.mem_of_getElem? (i:=0) rfl) (b_loadA ty_a25 ty_s25 rfl rfl rfl) ?_
 obtain ⟨_,h4,h5⟩:=bind_some h
 refine DL.callF (G:=Nat) (u:=fun g => .map (some g)) (Q:=fun g M_ => (M_ g = some FormsO)) (A:=[(some b1,.cells ((Tm.ce a0 a0_2)) 25 (0,0))]) (J:=[]) (fun J6 => ((some b1,.cells ((Tm.ce a0 a0_2)) 25 (0,0)) :: J6)) hl2.2.2.2 hE.nil (List.append_nil _).symm (fun _ => rfl) (by simp) (i:=1) rfl (Wn.none rfl) rfl rfl rfl rfl rfl rfl (args_val (vs:=[]) rfl) (fun w => enter40 _ w) (fun w hc hI => terms_forms.ok h4 (M:=M) w hI ) ?_
 rintro t3_m M6 J6 hE6 hx6 hm_t3
 show DL _ _ _ _ _ _ _ _ _ _ _ _ ((some b1,.cells ((Tm.ce a0 a0_2)) 25 (0,0)) :: J6)
 obtain ⟨⟨t7_0,t7_1⟩,h8,h9⟩:=bind_some h5
 refine DL.qu 8 (.tuple #[.bool t7_0,.int .i64 t7_1]) rfl (f_callR rfl rfl (args_val (vs:=[.agg (Tm.ce a0 a0_2),.map (some t3_m),.int .i64 2000]) rfl) (fun w => enter51 _ w) (fun w hc => terms_fits.val h8 (M:=M6) w (hE6.extJ (A:=[(some b1,.cells ((Tm.ce a0 a0_2)) 25 (0,0))]) hc rfl) (RowS.mono hr_a0_2 hx6) hm_t3)) ?_
 refine DL.mv 5 (.tuple #[.bool t7_0,.int .i64 t7_1]) rfl rfl rfl ?_
 refine DL.pu 9 (.bool t7_0) rfl (p_extract rfl rfl rfl) ?_
 refine DL.pu 10 (.int .i64 t7_1) rfl (p_extract rfl rfl rfl) ?_
 refine DL.pu 3 (.bool t7_0) rfl (p_assign rfl rfl) ?_
 refine DL.pu 4 (.int .i64 t7_1) rfl (p_assign rfl rfl) ?_
 refine DL.nil' hl2 ?_
 refine TT.settle (A:=[(some b1,.cells ((Tm.ce a0 a0_2)) 25 (0,0))]) (J:=J6) hE6 ?_
 intro I10 hE10 hxI10
 refine TT.seq (x:=sub [1,1,0] B31) (y:=sub [1,1,1] B31) ?_
 refine TT.rg [0,1] [kp,kp] rfl rfl ?_
 refine DL.mv 11 (.bool t7_0) rfl rfl rfl ?_
 refine DL.pu 2 (.bool t7_0) rfl (p_assign rfl rfl) ?_
 refine DL.nil ?_
 obtain rfl:=Option.some.inj h9
 exact retnE (rs:=[.tmp 2]) (vs:=[.bool t7_0]) hE10.base Tryd.func31 rfl rfl rfl (res_cons (ResV.tmp rfl) res_nil) rfl
theorem terms_May.val {a0 : Tm} {a0_2 : Value} {r : Bool} (h : terms_May.f a0 = some r) {M : Mem} (w : World) (hM : Ext M (heapOf w)) (hr_a0_2 : RowS ShTm M a0_2 (Tree.kids a0)) : Calls Tryd.prog 31 #[.agg (Tm.ce a0 a0_2)] w fun e w' => e = .returned (.bool r) ∧ Below w.heap.size w w' :=
 calls_value (terms_May.ok h w hM hr_a0_2)

/-! ### escutcheon/terms.may$1: function 55 -/
noncomputable def B55 : Code:=bodyOf Tryd.f55
def terms_may_1.f (a0 : Tm) : Option (Bool):=(terms_May.f a0).bind fun t2 => some (!t2)
set_option maxRecDepth 20000 in
theorem terms_may_1.ok {a0 : Tm} {a0_2 : Value} {r : Bool} (h : terms_may_1.f a0 = some r) {M : Mem} (w : World) (hM : Ext M (heapOf w)) (hr_a0_2 : RowS ShTm M a0_2 (Tree.kids a0)) : Calls Tryd.prog 55 #[.agg (Tm.ce a0 a0_2)] w (Post (fun u => u = .bool r) w):=by
 unfold terms_may_1.f at h
 have hE:=Env.start hM
 refine calls_of_TT (N:=6) (S:=[(0,.agg (Tm.ce a0 a0_2))]) (c:=B55) Tryd.func55 rfl rfl rfl (by simp) ?_
 show TT _ _ _ _ _ _ [.code (sub [] B55)] _ _
 refine TT.seq (x:=sub [0] B55) (y:=sub [1] B55) ?_
 refine TT.rg [0,1] [(.alloc,none),kp] rfl rfl ?_
 refine DL.new (ob:=.cells ((Tm.ce a0 a0_2)) 25) (mk:=fun b => ptr b 0) (i:=0) rfl (Wn.none rfl) rfl rfl rfl (f_box (v:=.agg (Tm.ce a0 a0_2)) rfl rfl) ?_
 intro b1 hb1
 refine DL.pu 2 (.bool false) rfl (p_assign rfl rfl) ?_
 refine DL.nil ?_
 refine TT.seq (x:=sub [1,0] B55) (y:=sub [1,1] B55) ?_
 refine TT.rg [0,1,2,3] [kq,kq,kp,kp] rfl rfl ?_
 refine DL.qu 3 (.agg (Tm.ce a0 a0_2)) rfl (f_loadA (j:=0) ty_a25 ty_s25 rfl rfl rfl rfl) ?_
 obtain ⟨t2,h3,h4⟩:=bind_some h
 refine DL.qu 4 (.bool t2) rfl (f_callR rfl rfl (args_val (vs:=[.agg (Tm.ce a0 a0_2)]) rfl) (fun w => enter31 _ w) (fun w hc => terms_May.val h3 (M:=M) w (hE.ext hc) hr_a0_2)) ?_
 refine DL.pu 5 (.bool (!t2)) rfl (p_not rfl rfl) ?_
 refine DL.pu 2 (.bool (!t2)) rfl (p_assign rfl rfl) ?_
 refine DL.nil ?_
 obtain rfl:=Option.some.inj h4
 exact retnE (rs:=[.tmp 2]) (vs:=[.bool (!t2)]) hE.base Tryd.func55 rfl rfl rfl (res_cons (ResV.tmp rfl) res_nil) rfl
theorem terms_may_1.val {a0 : Tm} {a0_2 : Value} {r : Bool} (h : terms_may_1.f a0 = some r) {M : Mem} (w : World) (hM : Ext M (heapOf w)) (hr_a0_2 : RowS ShTm M a0_2 (Tree.kids a0)) : Calls Tryd.prog 55 #[.agg (Tm.ce a0 a0_2)] w fun e w' => e = .returned (.bool r) ∧ Below w.heap.size w w' :=
 calls_value (terms_may_1.ok h w hM hr_a0_2)

/-! ### slices.IndexFunc[[]escutcheon/api.Term,escutcheon/api.Term]: function 74 -/
noncomputable def B74 : Code:=bodyOf Tryd.f74
def idx55.L0 (a0 : List Tm) : Nat → Int → Option ((Unit) ⊕ (Int))
 | 0,_ => none
 | k + 1,x8_1 => if (decide (x8_1 < (a0.length : Int))) = true then (req (0 ≤ x8_1) (req (x8_1 < (a0.length : Int)) (nm (a0.getD x8_1.toNat Tm.dflt) fun t76 => (terms_may_1.f t76).bind fun t79 => if t79 = true then (some (.inr x8_1)) else (idx55.L0 a0 k (IntKind.i64.wrap (x8_1 + 1)))))) else (some (.inl ()))
set_option maxRecDepth 20000 in
theorem idx55.L0_ok (a0 : List Tm) (a0_v : Value) {r : Int}  {w0 : World} {M0 M I : Mem} {K : List Item} (hE : Env w0 M0 M I) (hr_a0 : RowS ShTm M a0_v a0) :
  ∀ (k : Nat) (x8_1 : Int) (q : (Unit) ⊕ (Int)) (h : idx55.L0 a0 k x8_1 = some q) (hk : match (generalizing:=false) q with | .inl () => (TT Tryd.prog 74 (Post (fun u => u = .int .i64 r) w0) 19 w0 I K [] []) | .inr rq => rq = r),
   TT Tryd.prog 74 (Post (fun u => u = .int .i64 r) w0) 19 w0 I (.code (sub [1,0,1,0,0] B74) :: .inLoop (sub [1,0,1,0,0] B74) :: .inBlock 0 :: K) [(0,a0_v),(1,.func (.func 55) #[] #[]),(7,.int .i64 (a0.length : Int)),(8,.int .i64 x8_1)] []:=by
 intro k
 induction k with
 | zero => intro x8_1 q h; simp [idx55.L0] at h
 | succ k ih =>
  intro x8_1 q h hk
  unfold idx55.L0 at h
  refine TT.seq (x:=sub [1,0,1,0,0,0] B74) (y:=sub [1,0,1,0,0,1] B74) ?_
  refine TT.rg [0] [kp] rfl rfl ?_
  refine DL.pu 9 (.bool (decide (x8_1 < (a0.length : Int)))) rfl (p_lss rfl rfl rfl) ?_
  refine DL.nil ?_
  refine TT.seq (x:=sub [1,0,1,0,0,1,0] B74) (y:=sub [1,0,1,0,0,1,1] B74) ?_
  by_cases c69 : (decide (x8_1 < (a0.length : Int))) = true
  ·
   have h70:=ite_true c69 h
   refine TT.cond_true (x:=sub [1,0,1,0,0,1,0,0] B74) (y:=sub [1,0,1,0,0,1,0,1] B74) rfl c69 ?_
   refine TT.skip ?_
   refine TT.seq (x:=sub [1,0,1,0,0,1,1,0] B74) (y:=sub [1,0,1,0,0,1,1,1] B74) ?_
   refine TT.block (c:=sub [1,0,1,0,0,1,1,0,0] B74) ?_
   refine TT.seq (x:=sub [1,0,1,0,0,1,1,0,0,0] B74) (y:=sub [1,0,1,0,0,1,1,0,0,1] B74) ?_
   refine TT.rg [0,1] [kp,kp] rfl rfl ?_
   refine DL.mv 10 (.int .i64 x8_1) rfl rfl rfl ?_
   refine DL.pu 5 (.int .i64 x8_1) rfl (p_assign rfl rfl) ?_
   refine DL.nil ?_
   refine TT.seq (x:=sub [1,0,1,0,0,1,1,0,0,1,0] B74) (y:=sub [1,0,1,0,0,1,1,0,0,1,1] B74) ?_
   refine TT.rg [0,1,2,3,4,5] [kp,kp,kp,kp,kp,kq] rfl rfl ?_
   refine DL.mv 11 (.func (.func 55) #[] #[]) rfl rfl rfl ?_
   refine DL.mv 12 (a0_v) rfl rfl rfl ?_
   refine DL.mv 13 (.int .i64 x8_1) rfl rfl rfl ?_
   obtain ⟨g71,h72⟩:=req_some h70
   obtain ⟨g73,h74⟩:=req_some h72
   refine DL.pu 14 (elp a0_v (x8_1.toNat * 3)) rfl (p_slIx ty_u22 ty_s25 (RowS.some hr_a0 g71 g73) g71 g73 rfl rfl rfl) ?_
   obtain ⟨t76,e77,h78⟩:=nm_some h74
   obtain ⟨cs75,hc75,hl75⟩:=id (hr_a0)
   have q75:=hl75 _ _ (getD_some Tm.dflt (lt_len g71 g73)); rw [← e77] at q75
   obtain ⟨t76_2,hq75,hr_t76_2⟩:=Tm.op q75
   refine DL.imm (v:=.agg (Tm.ce t76 t76_2)) rfl (Wn.none rfl) rfl rfl rfl (i_loadElA (RowV.mono hc75 hE.mi) hq75 (lt_len g71 g73) ty_a25 ty_s25 rfl rfl) ?_
   obtain ⟨t79,h80,h81⟩:=bind_some h78
   refine DL.qu 16 (.bool t79) rfl (f_callV (by simp) rfl rfl rfl (args_val (vs:=[.agg (Tm.ce t76 t76_2)]) rfl) (fun w => enter55 _ w) (fun w hc => terms_may_1.val h80 (M:=M) w (hE.ext hc) hr_t76_2)) ?_
   refine DL.nil ?_
   by_cases c82 : t79 = true
   ·
    have h83:=ite_true c82 h81
    refine TT.cond_true (x:=sub [1,0,1,0,0,1,1,0,0,1,1,0] B74) (y:=sub [1,0,1,0,0,1,1,0,0,1,1,1] B74) rfl c82 ?_
    refine TT.seq (x:=sub [1,0,1,0,0,1,1,0,0,1,1,0,0] B74) (y:=sub [1,0,1,0,0,1,1,0,0,1,1,0,1] B74) ?_
    refine TT.rg [0,1] [kp,kp] rfl rfl ?_
    refine DL.mv 17 (.int .i64 x8_1) rfl rfl rfl ?_
    refine DL.pu 4 (.int .i64 x8_1) rfl (p_assign rfl rfl) ?_
    refine DL.nil ?_
    obtain rfl:=Option.some.inj h83
    have k84 : x8_1 = r:=hk
    subst k84
    exact retnE (rs:=[.tmp 4]) (vs:=[.int .i64 x8_1]) hE.base Tryd.func74 rfl rfl rfl (res_cons (ResV.tmp rfl) res_nil) rfl
   ·
    replace c82:=Bool.eq_false_iff.mpr c82
    have h85:=ite_false c82 h81
    refine TT.cond_false (x:=sub [1,0,1,0,0,1,1,0,0,1,1,0] B74) (y:=sub [1,0,1,0,0,1,1,0,0,1,1,1] B74) rfl c82 ?_
    refine TT.skip ?_
    refine TT.inBlock ?_
    refine TT.rg [0,1] [kp,kp] rfl rfl ?_
    refine DL.pu 18 (.int .i64 (IntKind.i64.wrap (x8_1 + 1))) rfl (p_add rfl rfl rfl) ?_
    refine DL.mv 8 (.int .i64 (IntKind.i64.wrap (x8_1 + 1))) rfl rfl rfl ?_
    refine DL.nil ?_
    refine TT.inLoop ?_
    exact TT.weak (ih (IntKind.i64.wrap (x8_1 + 1)) _ h85 hk) (Sub.cons rfl (Sub.cons rfl (Sub.cons rfl (Sub.cons rfl (Sub.nil _)))))
  ·
   replace c69:=Bool.eq_false_iff.mpr c69
   have h86:=ite_false c69 h
   refine TT.cond_false (x:=sub [1,0,1,0,0,1,0,0] B74) (y:=sub [1,0,1,0,0,1,0,1] B74) rfl c69 ?_
   refine TT.exit rfl ?_
   obtain rfl:=Option.some.inj h86
   exact TT.weak (hk) (Sub.nil _)

def idx55.f (a0 : List Tm) : Option (Int):=onw (idx55.L0 a0 ((a0.length : Int).toNat + 1) 0) (fun _ => some (-1)) (fun r => some r)
set_option maxRecDepth 20000 in
theorem idx55.ok {a0 : List Tm} {a0_v : Value} {r : Int} (h : idx55.f a0 = some r) {M : Mem} (w : World) (hM : Ext M (heapOf w)) (hr_a0 : RowS ShTm M a0_v a0) : Calls Tryd.prog 74 #[a0_v,.func (.func 55) #[] #[]] w (Post (fun u => u = .int .i64 r) w):=by
 unfold idx55.f at h
 have hE:=Env.start hM
 refine calls_of_TT (N:=19) (S:=[(0,a0_v),(1,.func (.func 55) #[] #[])]) (c:=B74) Tryd.func74 rfl rfl rfl (by simp) ?_
 show TT _ _ _ _ _ _ [.code (sub [] B74)] _ _
 refine TT.seq (x:=sub [0] B74) (y:=sub [1] B74) ?_
 refine TT.rg [0] [kp] rfl rfl ?_
 refine DL.pu 4 (.int .i64 0) rfl (p_assign rfl rfl) ?_
 refine DL.nil ?_
 refine TT.seq (x:=sub [1,0] B74) (y:=sub [1,1] B74) ?_
 refine TT.seq (x:=sub [1,0,0] B74) (y:=sub [1,0,1] B74) ?_
 refine TT.rg [0,1,2] [kp,kp,kp] rfl rfl ?_
 refine DL.mv 6 (a0_v) rfl rfl rfl ?_
 refine DL.pu 7 (.int .i64 (a0.length : Int)) rfl (p_slLen ty_u22 (RowS.sl hr_a0) rfl rfl) ?_
 refine DL.mv 8 (.int .i64 0) rfl rfl rfl ?_
 refine DL.nil ?_
 refine TT.block (c:=sub [1,0,1,0] B74) ?_
 refine TT.loop (c:=sub [1,0,1,0,0] B74) ?_
 rcases onw_some h with ⟨_,h87,h88⟩ | ⟨r90,h87,h88⟩
 ·
  refine TT.weak (idx55.L0_ok a0 a0_v hE hr_a0 ((a0.length : Int).toNat + 1) 0 (.inl ()) h87 (?_)) (Sub.cons rfl (Sub.cons rfl (Sub.cons rfl (Sub.cons rfl (Sub.nil _)))))
  show TT _ _ _ _ _ _ _ _ _
  refine TT.seq (x:=sub [1,1,0] B74) (y:=sub [1,1,1] B74) ?_
  refine TT.rg [0] [kp] rfl rfl ?_
  refine DL.pu 4 (.int .i64 (-1)) rfl (p_assign rfl rfl) ?_
  refine DL.nil ?_
  obtain rfl:=Option.some.inj h88
  exact retnE (rs:=[.tmp 4]) (vs:=[.int .i64 (-1)]) hE.base Tryd.func74 rfl rfl rfl (res_cons (ResV.tmp rfl) res_nil) rfl
 ·
  obtain rfl:=Option.some.inj h88
  exact TT.weak (idx55.L0_ok a0 a0_v hE hr_a0 ((a0.length : Int).toNat + 1) 0 (.inr r90) h87 rfl) (Sub.cons rfl (Sub.cons rfl (Sub.cons rfl (Sub.cons rfl (Sub.nil _)))))
theorem idx55.val {a0 : List Tm} {a0_v : Value} {r : Int} (h : idx55.f a0 = some r) {M : Mem} (w : World) (hM : Ext M (heapOf w)) (hr_a0 : RowS ShTm M a0_v a0) : Calls Tryd.prog 74 #[a0_v,.func (.func 55) #[] #[]] w fun e w' => e = .returned (.int .i64 r) ∧ Below w.heap.size w w' :=
 calls_value (idx55.ok h w hM hr_a0)

/-! ### slices.ContainsFunc[[]escutcheon/api.Term,escutcheon/api.Term]: function 54 -/
noncomputable def B54 : Code:=bodyOf Tryd.f54
def cont55.f (a0 : List Tm) : Option (Bool):=(idx55.f a0).bind fun t1 => some (decide (0 ≤ t1))
set_option maxRecDepth 20000 in
theorem cont55.ok {a0 : List Tm} {a0_v : Value} {r : Bool} (h : cont55.f a0 = some r) {M : Mem} (w : World) (hM : Ext M (heapOf w)) (hr_a0 : RowS ShTm M a0_v a0) : Calls Tryd.prog 54 #[a0_v,.func (.func 55) #[] #[]] w (Post (fun u => u = .bool r) w):=by
 unfold cont55.f at h
 have hE:=Env.start hM
 refine calls_of_TT (N:=9) (S:=[(0,a0_v),(1,.func (.func 55) #[] #[])]) (c:=B54) Tryd.func54 rfl rfl rfl (by simp) ?_
 show TT _ _ _ _ _ _ [.code (sub [] B54)] _ _
 refine TT.seq (x:=sub [0] B54) (y:=sub [1] B54) ?_
 refine TT.rg [0] [kp] rfl rfl ?_
 refine DL.pu 4 (.bool false) rfl (p_assign rfl rfl) ?_
 refine DL.nil ?_
 refine TT.seq (x:=sub [1,0] B54) (y:=sub [1,1] B54) ?_
 refine TT.rg [0,1,2,3,4] [kp,kp,kq,kp,kp] rfl rfl ?_
 refine DL.mv 5 (a0_v) rfl rfl rfl ?_
 refine DL.mv 6 (.func (.func 55) #[] #[]) rfl rfl rfl ?_
 obtain ⟨t1,h2,h3⟩:=bind_some h
 refine DL.qu 7 (.int .i64 t1) rfl (f_callR rfl rfl (args_val (vs:=[a0_v,.func (.func 55) #[] #[]]) rfl) (fun w => enter74 _ w) (fun w hc => idx55.val h2 (M:=M) w (hE.ext hc) hr_a0)) ?_
 refine DL.pu 8 (.bool (decide (0 ≤ t1))) rfl (p_geq rfl rfl rfl) ?_
 refine DL.pu 4 (.bool (decide (0 ≤ t1))) rfl (p_assign rfl rfl) ?_
 refine DL.nil ?_
 obtain rfl:=Option.some.inj h3
 exact retnE (rs:=[.tmp 4]) (vs:=[.bool (decide (0 ≤ t1))]) hE.base Tryd.func54 rfl rfl rfl (res_cons (ResV.tmp rfl) res_nil) rfl
theorem cont55.val {a0 : List Tm} {a0_v : Value} {r : Bool} (h : cont55.f a0 = some r) {M : Mem} (w : World) (hM : Ext M (heapOf w)) (hr_a0 : RowS ShTm M a0_v a0) : Calls Tryd.prog 54 #[a0_v,.func (.func 55) #[] #[]] w fun e w' => e = .returned (.bool r) ∧ Below w.heap.size w w' :=
 calls_value (cont55.ok h w hM hr_a0)

/-! ### escutcheon/terms.may: function 36 -/
noncomputable def B36 : Code:=bodyOf Tryd.f36
def terms_may.f (a0 : List Tm) : Option (Bool):=(if (decide ((a0.length : Int) ≤ 500)) = true then ((cont55.f a0).bind fun t8 => some (!t8)) else (some false)).bind fun q2 => some q2
set_option maxRecDepth 20000 in
theorem terms_may.ok {a0 : List Tm} {a0_v : Value} {r : Bool} (h : terms_may.f a0 = some r) {M : Mem} (w : World) (hM : Ext M (heapOf w)) (hr_a0 : RowS ShTm M a0_v a0) : Calls Tryd.prog 36 #[a0_v] w (Post (fun u => u = .bool r) w):=by
 unfold terms_may.f at h
 have hE:=Env.start hM
 refine calls_of_TT (N:=11) (S:=[(0,a0_v)]) (c:=B36) Tryd.func36 rfl rfl rfl (by simp) ?_
 show TT _ _ _ _ _ _ [.code (sub [] B36)] _ _
 refine TT.seq (x:=sub [0] B36) (y:=sub [1] B36) ?_
 refine TT.rg [0] [kp] rfl rfl ?_
 refine DL.pu 2 (.bool false) rfl (p_assign rfl rfl) ?_
 refine DL.nil ?_
 refine TT.seq (x:=sub [1,0] B36) (y:=sub [1,1] B36) ?_
 refine TT.rg [0,1,2,3,4,5,6,7,8] [kp,kp,kp,kp,kp,kq,kp,kp,kp] rfl rfl ?_
 refine DL.mv 3 (a0_v) rfl rfl rfl ?_
 refine DL.pu 4 (.int .i64 (a0.length : Int)) rfl (p_slLen ty_u22 (RowS.sl hr_a0) rfl rfl) ?_
 refine DL.pu 5 (.bool (decide ((a0.length : Int) ≤ 500))) rfl (p_leq rfl rfl rfl) ?_
 refine DL.mv 6 (.bool (decide ((a0.length : Int) ≤ 500))) rfl rfl rfl ?_
 obtain ⟨q2,h3,h4⟩:=bind_some h
 refine DL.cut [(10,.bool q2)] [8] ?_ (fun J5 => ?_)
 ·
  refine DL.pu 2 (.bool q2) rfl (p_assign rfl rfl) ?_
  refine DL.nil ?_
  obtain rfl:=Option.some.inj h4
  exact retnE (rs:=[.tmp 2]) (vs:=[.bool q2]) hE.base Tryd.func36 rfl rfl rfl (res_cons (ResV.tmp rfl) res_nil) rfl
 ·
  by_cases c6 : (decide ((a0.length : Int) ≤ 500)) = true
  ·
   have h7:=ite_true c6 h3
   refine DL.pure (v:=a0_v) rfl (Wn.yes c6 rfl rfl rfl rfl) rfl rfl rfl (p_move rfl rfl) ?_
   obtain ⟨t8,h9,h10⟩:=bind_some h7
   refine DL.quiet (v:=.bool t8) rfl (Wn.yes c6 rfl rfl rfl rfl) rfl rfl rfl (f_callR rfl rfl (args_val (vs:=[a0_v,.func (.func 55) #[] #[]]) rfl) (fun w => enter54 _ w) (fun w hc => cont55.val h9 (M:=M) w (hE.ext hc) hr_a0)) ?_
   refine DL.pure (v:=.bool (!t8)) rfl (Wn.yes c6 rfl rfl rfl rfl) rfl rfl rfl (p_not rfl rfl) ?_
   refine DL.pu 10 (.bool (!t8)) rfl (p_pick_t c6 rfl rfl rfl) ?_
   obtain rfl:=Option.some.inj h10
   exact DL.weak J5 (Sub.cons rfl (Sub.nil _))
  ·
   replace c6:=Bool.eq_false_iff.mpr c6
   have h11:=ite_false c6 h3
   refine DL.not (i:=4) rfl (Wn.no c6 rfl rfl rfl rfl) rfl rfl ?_
   refine DL.not (i:=5) rfl (Wn.no c6 rfl rfl rfl rfl) rfl rfl ?_
   refine DL.not (i:=6) rfl (Wn.no c6 rfl rfl rfl rfl) rfl rfl ?_
   refine DL.pu 10 (.bool false) rfl (p_pick_f c6 rfl rfl rfl) ?_
   obtain rfl:=Option.some.inj h11
   exact DL.weak J5 (Sub.cons rfl (Sub.nil _))
theorem terms_may.val {a0 : List Tm} {a0_v : Value} {r : Bool} (h : terms_may.f a0 = some r) {M : Mem} (w : World) (hM : Ext M (heapOf w)) (hr_a0 : RowS ShTm M a0_v a0) : Calls Tryd.prog 36 #[a0_v] w fun e w' => e = .returned (.bool r) ∧ Below w.heap.size w w' :=
 calls_value (terms_may.ok h w hM hr_a0)

@[reducible] def terms_text.Rec (r_ : Tm → Option ((List UInt8))) : Prop:=∀ {a0 : Tm} {a0_2 : Value} {a1_m : Nat} {r : List UInt8},r_ a0 = some r → ∀ {M : Mem} (w : World) (hM : Ext M (heapOf w)) (hG : Glob M) (hr_a0_2 : RowS ShTm M a0_2 (Tree.kids a0)) (hm_a1 : M a1_m = some FormsO),Calls Tryd.prog 48 #[.agg (Tm.ce a0 a0_2),.map (some a1_m)] w (fun e w' => e = .returned (str r) ∧ Below w.heap.size w w')

/-! ### escutcheon/terms.text: function 48 -/
noncomputable def B48 : Code:=bodyOf Tryd.f48
def terms_text.L0 (r_terms_text : Tm → Option ((List UInt8))) (a0 : Tm) : Nat → (List (List UInt8)) → Int → Option (List (List UInt8))
 | 0,_,_ => none
 | k + 1,y_17,x25_18 => nm (decide (x25_18 < ((Tree.kids a0).length : Int))) fun t90 => if t90 = true then (req (0 ≤ x25_18) (req (x25_18 < ((Tree.kids a0).length : Int)) (nm ((Tree.kids a0).getD x25_18.toNat Tm.dflt) fun t100 => (r_terms_text t100).bind fun t104 => req (y_17.length + ([t104] : List (List UInt8)).length ≤ 1099511627776) (terms_text.L0 r_terms_text a0 k (y_17 ++ ([t104] : List (List UInt8))) (IntKind.i64.wrap (x25_18 + 1)))))) else (some y_17)
set_option maxRecDepth 20000 in
theorem terms_text.L0_ok {r_terms_text : Tm → Option ((List UInt8))} (hr_terms_text : terms_text.Rec r_terms_text) (a0 : Tm) (a0_2 : Value) (a1_m : Nat) (b1 : Nat) (b2 : Nat) {R : Ending → World → Prop} {w0 : World} {M0 M I : Mem} {K : List Item} (hE : Env w0 M0 M I) (hG : Glob M) (hr_a0_2 : RowS ShTm M a0_2 (Tree.kids a0)) (hm_a1 : M a1_m = some FormsO) :
  ∀ (k : Nat) (y_17 : List (List UInt8)) (x25_18 : Int) (y_17_v : Value) (y_17_c : Array Value) (r0_ : List (List UInt8)) (ho_y_17 : OwnS Sh.str M y_17_v y_17_c y_17) (h : terms_text.L0 r_terms_text a0 k y_17 x25_18 = some r0_) (hk : ∀ (z_o16_89_v : Value),∀ (z_o16_89_c : Array Value),OwnS Sh.str M z_o16_89_v z_o16_89_c r0_ → TT Tryd.prog 48 R 43 w0 I K [(5,ptr b2 0),(6,z_o16_89_v)] [(Value.ownBlock z_o16_89_v,.cells z_o16_89_c 9 (0,0)),(some b2,.cells (#[str (fmName (Tm.kind a0)),.int .i64 (fmArgs (Tm.kind a0))]) 87 (0,0)),(some b1,.cells ((Tm.ce a0 a0_2)) 25 (0,0))]),
   TT Tryd.prog 48 R 43 w0 I (.code (sub [1,1,1,1,0,1,0,0] B48) :: .inLoop (sub [1,1,1,1,0,1,0,0] B48) :: .inBlock 0 :: K) [(1,.map (some a1_m)),(5,ptr b2 0),(6,y_17_v),(23,a0_2),(24,.int .i64 ((Tree.kids a0).length : Int)),(25,.int .i64 x25_18)] [(Value.ownBlock y_17_v,.cells y_17_c 9 (0,0)),(some b2,.cells (#[str (fmName (Tm.kind a0)),.int .i64 (fmArgs (Tm.kind a0))]) 87 (0,0)),(some b1,.cells ((Tm.ce a0 a0_2)) 25 (0,0))]:=by
 intro k
 induction k with
 | zero => intro y_17 x25_18 y_17_v y_17_c r0_ ho_y_17 h; simp [terms_text.L0] at h
 | succ k ih =>
  intro y_17 x25_18 y_17_v y_17_c r0_ ho_y_17 h hk
  unfold terms_text.L0 at h
  refine TT.seq (x:=sub [1,1,1,1,0,1,0,0,0] B48) (y:=sub [1,1,1,1,0,1,0,0,1] B48) ?_
  refine TT.rg [0] [kp] rfl rfl ?_
  obtain ⟨t90,e91,h92⟩:=nm_some h
  refine DL.pu 26 (.bool t90) rfl (by rw [e91]; exact p_lss rfl rfl rfl) ?_
  refine DL.nil ?_
  refine TT.seq (x:=sub [1,1,1,1,0,1,0,0,1,0] B48) (y:=sub [1,1,1,1,0,1,0,0,1,1] B48) ?_
  by_cases c93 : t90 = true
  ·
   have h94:=ite_true c93 h92
   refine TT.cond_true (x:=sub [1,1,1,1,0,1,0,0,1,0,0] B48) (y:=sub [1,1,1,1,0,1,0,0,1,0,1] B48) rfl c93 ?_
   refine TT.skip ?_
   refine TT.seq (x:=sub [1,1,1,1,0,1,0,0,1,1,0] B48) (y:=sub [1,1,1,1,0,1,0,0,1,1,1] B48) ?_
   refine TT.block (c:=sub [1,1,1,1,0,1,0,0,1,1,0,0] B48) ?_
   refine TT.seq (x:=sub [1,1,1,1,0,1,0,0,1,1,0,0,0] B48) (y:=sub [1,1,1,1,0,1,0,0,1,1,0,0,1] B48) ?_
   refine TT.rg [0,1,2,3] [kp,kp,(.alloc,none),(.store,none)] rfl rfl ?_
   obtain ⟨g95,h96⟩:=req_some h94
   obtain ⟨g97,h98⟩:=req_some h96
   refine DL.pu 27 (elp a0_2 (x25_18.toNat * 3)) rfl (p_slIx ty_u22 ty_s25 (RowS.some hr_a0_2 g95 g97) g95 g97 rfl rfl rfl) ?_
   obtain ⟨t100,e101,h102⟩:=nm_some h98
   obtain ⟨cs99,hc99,hl99⟩:=id (hr_a0_2)
   have q99:=hl99 _ _ (getD_some Tm.dflt (lt_len g95 g97)); rw [← e101] at q99
   obtain ⟨t100_2,hq99,hr_t100_2⟩:=Tm.op q99
   refine DL.imm (v:=.agg (Tm.ce t100 t100_2)) rfl (Wn.none rfl) rfl rfl rfl (i_loadElA (RowV.mono hc99 hE.mi) hq99 (lt_len g95 g97) ty_a25 ty_s25 rfl rfl) ?_
   refine DL.new (ob:=.cells (#[.int .i64 0,.int .i64 0,(.slice none 0 0)]) 25) (mk:=fun b => ptr b 0) (i:=2) rfl (Wn.none rfl) rfl rfl rfl (f_alloc ty_z25 rfl) ?_
   intro b103 hb103
   refine DL.put (H':=[(some b103,.cells ((Tm.ce t100 t100_2)) 25 (0,0)),(Value.ownBlock y_17_v,.cells y_17_c 9 (0,0)),(some b2,.cells (#[str (fmName (Tm.kind a0)),.int .i64 (fmArgs (Tm.kind a0))]) 87 (0,0)),(some b1,.cells ((Tm.ce a0 a0_2)) 25 (0,0))]) (i:=3) rfl (Wn.none rfl) rfl rfl (f_storeA (j:=0) ty_s25 rfl rfl rfl (one_cons trivial (one_cons trivial (one_cons (sl_one (RowS.sl hr_t100_2)) one_nil))) rfl rfl rfl) (keep_none rfl) ?_
   refine DL.nil ?_
   refine TT.rg [0,1,2,3,4,5,6] [kp,kq,kp,kq,(.alloc,none),kx,kp] rfl rfl ?_
   refine DL.mv 29 (y_17_v) rfl rfl rfl ?_
   refine DL.qu 30 (.agg (Tm.ce t100 t100_2)) rfl (f_loadA (j:=0) ty_a25 ty_s25 rfl rfl rfl rfl) ?_
   refine DL.mv 31 (.map (some a1_m)) rfl rfl rfl ?_
   obtain ⟨t104,h105,h106⟩:=bind_some h102
   refine DL.qu 32 (str t104) rfl (f_callR rfl rfl (args_val (vs:=[.agg (Tm.ce t100 t100_2),.map (some a1_m)]) rfl) (fun w => enter48 _ w) (fun w hc => hr_terms_text h105 (M:=M) w (hE.ext hc) hG hr_t100_2 hm_a1)) ?_
   refine DL.newS (M:=M) (s:=Sh.str) (zs:=([t104] : List (List UInt8))) (cells:=[str t104]) (n:=1) rfl (by decide) rfl (fun i x hx => by match i,hx with | 0,hx => cases hx; exact rfl | k + 1,hx => simp at hx) (i:=4) rfl (Wn.none rfl) rfl rfl rfl (f_buildS (n:=1) (vs:=[(0,str t104)]) elem64 rfl rfl (by kernel_rfl) rfl (args_val2 rfl)) ?_
   intro s108_v s108_c ho_s108
   obtain ⟨g109,h110⟩:=req_some h106
   refine DL.appendS (M:=M) (s:=Sh.str) (fun s111_v s111_c => [(Value.ownBlock s108_v,.cells s108_c 9 (0,0)),(some b103,.cells ((Tm.ce t100 t100_2)) 25 (0,0)),(Value.ownBlock s111_v,.cells s111_c 9 (0,0)),(some b2,.cells (#[str (fmName (Tm.kind a0)),.int .i64 (fmArgs (Tm.kind a0))]) 87 (0,0)),(some b1,.cells ((Tm.ce a0 a0_2)) 25 (0,0))]) elem64 (j:=2) rfl ho_y_17 g109 (by decide) (OwnS.src (i:=0) ho_s108 rfl) (i:=5) rfl (Wn.none rfl) rfl rfl rfl rfl rfl rfl (fun _ _ => rfl) ?_
   intro s111_v s111_c ho_s111
   show DL _ _ _ _ _ _ _ _ _ _ _ _ [(Value.ownBlock s108_v,.cells s108_c 9 (0,0)),(some b103,.cells ((Tm.ce t100 t100_2)) 25 (0,0)),(Value.ownBlock s111_v,.cells s111_c 9 (0,0)),(some b2,.cells (#[str (fmName (Tm.kind a0)),.int .i64 (fmArgs (Tm.kind a0))]) 87 (0,0)),(some b1,.cells ((Tm.ce a0 a0_2)) 25 (0,0))]
   refine DL.pu 6 (s111_v) rfl (p_assign rfl rfl) ?_
   refine DL.nil ?_
   refine TT.inBlock ?_
   refine TT.rg [0,1] [kp,kp] rfl rfl ?_
   refine DL.pu 35 (.int .i64 (IntKind.i64.wrap (x25_18 + 1))) rfl (p_add rfl rfl rfl) ?_
   refine DL.mv 25 (.int .i64 (IntKind.i64.wrap (x25_18 + 1))) rfl rfl rfl ?_
   refine DL.nil ?_
   refine TT.inLoop ?_
   exact TT.pick [2,3,4] (by decide) (TT.weak (ih (y_17 ++ ([t104] : List (List UInt8))) (IntKind.i64.wrap (x25_18 + 1)) s111_v s111_c r0_ ho_s111 h110 hk) (Sub.cons rfl (Sub.cons rfl (Sub.cons rfl (Sub.cons rfl (Sub.cons rfl (Sub.cons rfl (Sub.nil _))))))))
  ·
   replace c93:=Bool.eq_false_iff.mpr c93
   have h112:=ite_false c93 h92
   refine TT.cond_false (x:=sub [1,1,1,1,0,1,0,0,1,0,0] B48) (y:=sub [1,1,1,1,0,1,0,0,1,0,1] B48) rfl c93 ?_
   refine TT.exit rfl ?_
   obtain rfl:=Option.some.inj h112
   exact TT.weak (hk y_17_v y_17_c ho_y_17) (Sub.cons rfl (Sub.cons rfl (Sub.nil _)))

def terms_text.F (r_terms_text : Tm → Option ((List UInt8))) (a0 : Tm) : Option ((List UInt8)):=if ((fmArgs (Tm.kind a0)) == 0) = true then (req (-9223372036854775808 ≤ (Tm.num a0)) (req ((Tm.num a0) ≤ 9223372036854775807) (nm (Lib.itoa (Tm.num a0)) fun t10 => req ((fmName (Tm.kind a0)).length + t10.length ≤ 1099511627776) (some ((fmName (Tm.kind a0)) ++ t10))))) else ((terms_text.L0 r_terms_text a0 (((Tree.kids a0).length : Int).toNat + 1) ([] : List (List UInt8)) 0).bind fun z_o16_89 => req ((fmName (Tm.kind a0)).length + [40].length ≤ 1099511627776) (req (z_o16_89.length ≤ 140737488355328) (req ((joinL z_o16_89 [44]).length ≤ 140737488355328) (nm (joinL z_o16_89 [44]) fun t123 => req (((fmName (Tm.kind a0)) ++ [40]).length + t123.length ≤ 1099511627776) (req ((((fmName (Tm.kind a0)) ++ [40]) ++ t123).length + [41].length ≤ 1099511627776) (nm ((((fmName (Tm.kind a0)) ++ [40]) ++ t123) ++ [41]) fun t130 => some t130))))))
set_option maxRecDepth 20000 in
theorem terms_text.okF {r_terms_text : Tm → Option ((List UInt8))} (hr_terms_text : terms_text.Rec r_terms_text) {a0 : Tm} {a0_2 : Value} {a1_m : Nat} {r : List UInt8} (h : terms_text.F r_terms_text a0 = some r) {M : Mem} (w : World) (hM : Ext M (heapOf w)) (hG : Glob M) (hr_a0_2 : RowS ShTm M a0_2 (Tree.kids a0)) (hm_a1 : M a1_m = some FormsO) : Calls Tryd.prog 48 #[.agg (Tm.ce a0 a0_2),.map (some a1_m)] w (Post (fun u => u = str r) w):=by
 unfold terms_text.F at h
 have hE:=Env.start hM
 refine calls_of_TT (N:=43) (S:=[(0,.agg (Tm.ce a0 a0_2)),(1,.map (some a1_m))]) (c:=B48) Tryd.func48 rfl rfl rfl (by simp) ?_
 show TT _ _ _ _ _ _ [.code (sub [] B48)] _ _
 refine TT.seq (x:=sub [0] B48) (y:=sub [1] B48) ?_
 refine TT.rg [0,1] [(.alloc,none),kp] rfl rfl ?_
 refine DL.new (ob:=.cells ((Tm.ce a0 a0_2)) 25) (mk:=fun b => ptr b 0) (i:=0) rfl (Wn.none rfl) rfl rfl rfl (f_box (v:=.agg (Tm.ce a0 a0_2)) rfl rfl) ?_
 intro b1 hb1
 refine DL.pu 4 (str ([] : List UInt8)) rfl (p_assign rfl rfl) ?_
 refine DL.nil ?_
 refine TT.seq (x:=sub [1,0] B48) (y:=sub [1,1] B48) ?_
 refine TT.rg [0,1,2,3,4,5] [kp,kp,kq,kq,(.alloc,none),(.store,none)] rfl rfl ?_
 refine DL.mv 9 (.map (some a1_m)) rfl rfl rfl ?_
 refine DL.pu 10 (ptr b1 0) rfl (p_fieldAddr ty_f25_0 rfl rfl) ?_
 refine DL.qu 11 (.int .i64 (Tm.kind a0)) rfl (f_load (j:=0) ty_a23 rfl rfl rfl rfl) ?_
 refine DL.qu 12 (.agg #[str (fmName (Tm.kind a0)),.int .i64 (fmArgs (Tm.kind a0))]) rfl (FImm.quiet (i_lookupM (I:=M) (a:=(Tm.kind a0)) ty_u59 ty_u23 ty_z87 hm_a1 (fm_val (Tm.kind a0)) rfl rfl rfl) (fun w hc => hE.imm hc)) ?_
 refine DL.new (ob:=.cells (#[str ([] : List UInt8),.int .i64 0]) 87) (mk:=fun b => ptr b 0) (i:=4) rfl (Wn.none rfl) rfl rfl rfl (f_alloc ty_z87 rfl) ?_
 intro b2 hb2
 refine DL.put (H':=[(some b2,.cells (#[str (fmName (Tm.kind a0)),.int .i64 (fmArgs (Tm.kind a0))]) 87 (0,0)),(some b1,.cells ((Tm.ce a0 a0_2)) 25 (0,0))]) (i:=5) rfl (Wn.none rfl) rfl rfl (f_storeA (j:=0) ty_s87 rfl rfl rfl (by simp [OneCell,str]) rfl rfl rfl) (keep_none rfl) ?_
 refine DL.nil ?_
 refine TT.seq (x:=sub [1,1,0] B48) (y:=sub [1,1,1] B48) ?_
 refine TT.seq (x:=sub [1,1,0,0] B48) (y:=sub [1,1,0,1] B48) ?_
 refine TT.rg [0,1,2] [kp,kq,kp] rfl rfl ?_
 refine DL.pu 13 (ptr b2 1) rfl (p_fieldAddr ty_f87_1 rfl rfl) ?_
 refine DL.qu 14 (.int .i64 (fmArgs (Tm.kind a0))) rfl (f_load (j:=0) ty_a3 rfl rfl rfl rfl) ?_
 refine DL.pu 15 (.bool ((fmArgs (Tm.kind a0)) == 0)) rfl (p_eql rfl rfl rfl) ?_
 refine DL.nil ?_
 by_cases c3 : ((fmArgs (Tm.kind a0)) == 0) = true
 ·
  have h4:=ite_true c3 h
  refine TT.cond_true (x:=sub [1,1,0,1,0] B48) (y:=sub [1,1,0,1,1] B48) rfl c3 ?_
  refine TT.seq (x:=sub [1,1,0,1,0,0] B48) (y:=sub [1,1,0,1,0,1] B48) ?_
  refine TT.rgD [0,1,2,3,4,5,6] [0,1,0,4,12,31,63] [kp,(.look,some 0),kp,(.look,some 1),kq,kp,kp] rfl mixed (by kernel_rfl) ?_
  intro w5 hl5 hj5 hz5
  refine DL.pu 16 (ptr b2 0) rfl (p_fieldAddr ty_f87_0 rfl rfl) ?_
  refine DL.look (v:=str (fmName (Tm.kind a0))) (x:=0) (b:=b2) (i:=1) rfl (Wn.none rfl) rfl rfl rfl rfl rfl (List.mem_of_getElem? (i:=0) rfl) (b_load ty_a9 rfl rfl rfl) ?_
  refine DL.pu 18 (ptr b1 1) rfl (p_fieldAddr ty_f25_1 rfl rfl) ?_
  refine DL.look (v:=.int .i64 (Tm.num a0)) (x:=1) (b:=b1) (i:=3) rfl (Wn.none rfl) rfl rfl rfl rfl rfl (List.mem_of_getElem? (i:=1) rfl) (b_load ty_a3 rfl rfl rfl) ?_
  obtain ⟨g6,h7⟩:=req_some h4
  obtain ⟨g8,h9⟩:=req_some h7
  obtain ⟨t10,e11,h12⟩:=nm_some h9
  refine DL.qu 20 (str t10) rfl (by rw [e11]; exact f_callR rfl rfl (args_val (vs:=[.int .i64 (Tm.num a0)]) rfl) (fun w => enter47 _ w) (fun w hc => itoa_ok hG _ g6 g8 w (hE.ext hc))) ?_
  obtain ⟨g13,h14⟩:=req_some h12
  refine DL.pu 21 (str ((fmName (Tm.kind a0)) ++ t10)) rfl (p_strAdd g13 rfl rfl rfl) ?_
  refine DL.pu 4 (str ((fmName (Tm.kind a0)) ++ t10)) rfl (p_assign rfl rfl) ?_
  refine DL.nil' hl5 ?_
  obtain rfl:=Option.some.inj h14
  exact retnE (rs:=[.tmp 4]) (vs:=[str ((fmName (Tm.kind a0)) ++ t10)]) hE.base Tryd.func48 rfl rfl rfl (res_cons (ResV.tmp rfl) res_nil) rfl
 ·
  replace c3:=Bool.eq_false_iff.mpr c3
  have h15:=ite_false c3 h
  refine TT.cond_false (x:=sub [1,1,0,1,0] B48) (y:=sub [1,1,0,1,1] B48) rfl c3 ?_
  refine TT.skip ?_
  refine TT.seq (x:=sub [1,1,1,0] B48) (y:=sub [1,1,1,1] B48) ?_
  refine TT.rg [0] [kp] rfl rfl ?_
  refine DL.pu 6 (.slice none 0 0) rfl (p_assign rfl rfl) ?_
  refine DL.nil ?_
  refine TT.seq (x:=sub [1,1,1,1,0] B48) (y:=sub [1,1,1,1,1] B48) ?_
  refine TT.seq (x:=sub [1,1,1,1,0,0] B48) (y:=sub [1,1,1,1,0,1] B48) ?_
  refine TT.rg [0,1,2,3] [kp,kq,kp,kp] rfl rfl ?_
  refine DL.pu 22 (ptr b1 2) rfl (p_fieldAddr ty_f25_2 rfl rfl) ?_
  refine DL.qu 23 (a0_2) rfl (f_load (j:=1) ty_a22 rfl rfl rfl rfl) ?_
  refine DL.pu 24 (.int .i64 ((Tree.kids a0).length : Int)) rfl (p_slLen ty_u22 (RowS.sl hr_a0_2) rfl rfl) ?_
  refine DL.mv 25 (.int .i64 0) rfl rfl rfl ?_
  refine DL.nil ?_
  refine TT.block (c:=sub [1,1,1,1,0,1,0] B48) ?_
  refine TT.nilOwn (e:=9) ?_
  refine TT.loop (c:=sub [1,1,1,1,0,1,0,0] B48) ?_
  obtain ⟨z_o16_89,h113,h114⟩:=bind_some h15
  refine TT.weak (terms_text.L0_ok hr_terms_text a0 a0_2 a1_m b1 b2 hE hG hr_a0_2 hm_a1 (((Tree.kids a0).length : Int).toNat + 1) ([] : List (List UInt8)) 0 (.slice none 0 0) (#[]) z_o16_89 (OwnS.nil Sh.str M) h113 (fun z_o16_89_v z_o16_89_c ho_z_o16_89 => ?_)) (Sub.cons rfl (Sub.cons rfl (Sub.cons rfl (Sub.cons rfl (Sub.cons rfl (Sub.cons rfl (Sub.nil _)))))))
  refine TT.seq (x:=sub [1,1,1,1,1,0] B48) (y:=sub [1,1,1,1,1,1] B48) ?_
  refine TT.rgD [0,1,2,3,4,5,6,7] [0,1,3,0,8,31,63,127] [kp,(.look,some 1),kp,kp,kq,kp,kp,kp] rfl mixed (by kernel_rfl) ?_
  intro w116 hl116 hj116 hz116
  refine DL.pu 36 (ptr b2 0) rfl (p_fieldAddr ty_f87_0 rfl rfl) ?_
  refine DL.look (v:=str (fmName (Tm.kind a0))) (x:=1) (b:=b2) (i:=1) rfl (Wn.none rfl) rfl rfl rfl rfl rfl (List.mem_of_getElem? (i:=1) rfl) (b_load ty_a9 rfl rfl rfl) ?_
  obtain ⟨g117,h118⟩:=req_some h114
  refine DL.pu 38 (str ((fmName (Tm.kind a0)) ++ [40])) rfl (p_strAdd g117 rfl rfl rfl) ?_
  refine DL.mv 39 (z_o16_89_v) rfl rfl rfl ?_
  obtain ⟨g119,h120⟩:=req_some h118
  obtain ⟨g121,h122⟩:=req_some h120
  obtain ⟨t123,e124,h125⟩:=nm_some h122
  refine DL.qu 40 (str t123) rfl (by rw [e124]; exact f_callR rfl rfl (args_val (vs:=[z_o16_89_v,str [44]]) rfl) (fun w => enter69 _ w) (fun w hc => join_ok (i:=0) _ ho_z_o16_89 hc rfl g119 g121)) ?_
  obtain ⟨g126,h127⟩:=req_some h125
  refine DL.pu 41 (str (((fmName (Tm.kind a0)) ++ [40]) ++ t123)) rfl (p_strAdd g126 rfl rfl rfl) ?_
  obtain ⟨g128,h129⟩:=req_some h127
  obtain ⟨t130,e131,h132⟩:=nm_some h129
  refine DL.pu 42 (str t130) rfl (by rw [e131]; exact p_strAdd g128 rfl rfl rfl) ?_
  refine DL.pu 4 (str t130) rfl (p_assign rfl rfl) ?_
  refine DL.nil' hl116 ?_
  obtain rfl:=Option.some.inj h132
  exact retnE (rs:=[.tmp 4]) (vs:=[str t130]) hE.base Tryd.func48 rfl rfl rfl (res_cons (ResV.tmp rfl) res_nil) rfl
theorem terms_text.valF {r_terms_text : Tm → Option ((List UInt8))} (hr_terms_text : terms_text.Rec r_terms_text) {a0 : Tm} {a0_2 : Value} {a1_m : Nat} {r : List UInt8} (h : terms_text.F r_terms_text a0 = some r) {M : Mem} (w : World) (hM : Ext M (heapOf w)) (hG : Glob M) (hr_a0_2 : RowS ShTm M a0_2 (Tree.kids a0)) (hm_a1 : M a1_m = some FormsO) : Calls Tryd.prog 48 #[.agg (Tm.ce a0 a0_2),.map (some a1_m)] w fun e w' => e = .returned (str r) ∧ Below w.heap.size w w' :=
 calls_value (terms_text.okF hr_terms_text h w hM hG hr_a0_2 hm_a1)
def terms_text.f : Nat → Tm → Option ((List UInt8))
 | 0,_ => none
 | k + 1,a0 => terms_text.F (terms_text.f k) a0
theorem terms_text.rec : ∀ k,terms_text.Rec (terms_text.f k):=by
 intro k
 induction k with
 | zero => intro _ _ _ _ h; simp [terms_text.f] at h
 | succ k ih => intro a0 a0_2 a1_m r h M w hM hG hr_a0_2 hm_a1; exact terms_text.valF ih h w hM hG hr_a0_2 hm_a1
theorem terms_text.val {k : Nat} {a0 : Tm} {a0_2 : Value} {a1_m : Nat} {r : List UInt8} (h : terms_text.f k a0 = some r) {M : Mem} (w : World) (hM : Ext M (heapOf w)) (hG : Glob M) (hr_a0_2 : RowS ShTm M a0_2 (Tree.kids a0)) (hm_a1 : M a1_m = some FormsO) : Calls Tryd.prog 48 #[.agg (Tm.ce a0 a0_2),.map (some a1_m)] w fun e w' => e = .returned (str r) ∧ Below w.heap.size w w' :=
 terms_text.rec k h w hM hG hr_a0_2 hm_a1

/-! ### escutcheon/terms.Text: function 28 -/
noncomputable def B28 : Code:=bodyOf Tryd.f28
def terms_Text.f (a0 : Tm) : Option ((List UInt8) × Int):=(terms_May.f a0).bind fun t2 => if (!t2) = true then (some (([] : List UInt8),2)) else ((terms_forms.f).bind fun _ => (terms_text.f (Tm.fuel a0) a0).bind fun t13 => some (t13,0))
set_option maxRecDepth 20000 in
theorem terms_Text.ok {a0 : Tm} {a0_2 : Value} {r_0 : List UInt8} {r_1 : Int} (h : terms_Text.f a0 = some (r_0,r_1)) {M : Mem} (w : World) (hM : Ext M (heapOf w)) (hG : Glob M) (hr_a0_2 : RowS ShTm M a0_2 (Tree.kids a0)) : Calls Tryd.prog 28 #[.agg (Tm.ce a0 a0_2)] w (Post (fun u => u = .tuple #[str r_0,.int .i64 r_1]) w):=by
 unfold terms_Text.f at h
 have hE:=Env.start hM
 refine calls_of_TT (N:=10) (S:=[(0,.agg (Tm.ce a0 a0_2))]) (c:=B28) Tryd.func28 rfl rfl rfl (by simp) ?_
 show TT _ _ _ _ _ _ [.code (sub [] B28)] _ _
 refine TT.seq (x:=sub [0] B28) (y:=sub [1] B28) ?_
 refine TT.rg [0,1,2] [(.alloc,none),kp,kp] rfl rfl ?_
 refine DL.new (ob:=.cells ((Tm.ce a0 a0_2)) 25) (mk:=fun b => ptr b 0) (i:=0) rfl (Wn.none rfl) rfl rfl rfl (f_box (v:=.agg (Tm.ce a0 a0_2)) rfl rfl) ?_
 intro b1 hb1
 refine DL.pu 2 (str ([] : List UInt8)) rfl (p_assign rfl rfl) ?_
 refine DL.pu 3 (.int .i64 0) rfl (p_assign rfl rfl) ?_
 refine DL.nil ?_
 refine TT.seq (x:=sub [1,0] B28) (y:=sub [1,1] B28) ?_
 refine TT.seq (x:=sub [1,0,0] B28) (y:=sub [1,0,1] B28) ?_
 refine TT.rg [0,1,2] [kq,kq,kp] rfl rfl ?_
 refine DL.qu 4 (.agg (Tm.ce a0 a0_2)) rfl (f_loadA (j:=0) ty_a25 ty_s25 rfl rfl rfl rfl) ?_
 obtain ⟨t2,h3,h4⟩:=bind_some h
 refine DL.qu 5 (.bool t2) rfl (f_callR rfl rfl (args_val (vs:=[.agg (Tm.ce a0 a0_2)]) rfl) (fun w => enter31 _ w) (fun w hc => terms_May.val h3 (M:=M) w (hE.ext hc) hr_a0_2)) ?_
 refine DL.pu 6 (.bool (!t2)) rfl (p_not rfl rfl) ?_
 refine DL.nil ?_
 by_cases c5 : (!t2) = true
 ·
  have h6:=ite_true c5 h4
  refine TT.cond_true (x:=sub [1,0,1,0] B28) (y:=sub [1,0,1,1] B28) rfl c5 ?_
  refine TT.seq (x:=sub [1,0,1,0,0] B28) (y:=sub [1,0,1,0,1] B28) ?_
  refine TT.rg [0,1] [kp,kp] rfl rfl ?_
  refine DL.pu 2 (str ([] : List UInt8)) rfl (p_assign rfl rfl) ?_
  refine DL.pu 3 (.int .i64 2) rfl (p_assign rfl rfl) ?_
  refine DL.nil ?_
  simp only [Option.some.injEq,Prod.mk.injEq] at h6
  obtain ⟨rfl,rfl⟩:=h6
  exact retnE (rs:=[.tmp 2,.tmp 3]) (vs:=[str ([] : List UInt8),.int .i64 2]) hE.base Tryd.func28 rfl rfl rfl (res_cons (ResV.tmp rfl) (res_cons (ResV.tmp rfl) res_nil)) rfl
 ·
  replace c5:=Bool.eq_false_iff.mpr c5
  have h7:=ite_false c5 h4
  refine TT.cond_false (x:=sub [1,0,1,0] B28) (y:=sub [1,0,1,1] B28) rfl c5 ?_
  refine TT.skip ?_
  refine TT.seq (x:=sub [1,1,0] B28) (y:=sub [1,1,1] B28) ?_
  refine TT.rgD [0,1,2,3,4] [0,0,3,7,15] [(.look,some 0),kk,kq,kp,kp] rfl mixed (by kernel_rfl) ?_
  intro w8 hl8 hj8 hz8
  refine DL.look (v:=.agg (Tm.ce a0 a0_2)) (x:=0) (b:=b1) (i:=0) rfl (Wn.none rfl) rfl rfl rfl rfl rfl (List.mem_of_getElem? (i:=0) rfl) (b_loadA ty_a25 ty_s25 rfl rfl rfl) ?_
  obtain ⟨_,h10,h11⟩:=bind_some h7
  refine DL.callF (G:=Nat) (u:=fun g => .map (some g)) (Q:=fun g M_ => (M_ g = some FormsO)) (A:=[(some b1,.cells ((Tm.ce a0 a0_2)) 25 (0,0))]) (J:=[]) (fun J12 => ((some b1,.cells ((Tm.ce a0 a0_2)) 25 (0,0)) :: J12)) hl8.2.2.2 hE.nil (List.append_nil _).symm (fun _ => rfl) (by simp) (i:=1) rfl (Wn.none rfl) rfl rfl rfl rfl rfl rfl (args_val (vs:=[]) rfl) (fun w => enter40 _ w) (fun w hc hI => terms_forms.ok h10 (M:=M) w hI ) ?_
  rintro t9_m M12 J12 hE12 hx12 hm_t9
  show DL _ _ _ _ _ _ _ _ _ _ _ _ ((some b1,.cells ((Tm.ce a0 a0_2)) 25 (0,0)) :: J12)
  obtain ⟨t13,h14,h15⟩:=bind_some h11
  refine DL.qu 9 (str t13) rfl (f_callR rfl rfl (args_val (vs:=[.agg (Tm.ce a0 a0_2),.map (some t9_m)]) rfl) (fun w => enter48 _ w) (fun w hc => terms_text.val h14 (M:=M12) w (hE12.extJ (A:=[(some b1,.cells ((Tm.ce a0 a0_2)) 25 (0,0))]) hc rfl) (Glob.mono hG hx12) (RowS.mono hr_a0_2 hx12) hm_t9)) ?_
  refine DL.pu 2 (str t13) rfl (p_assign rfl rfl) ?_
  refine DL.pu 3 (.int .i64 0) rfl (p_assign rfl rfl) ?_
  refine DL.nil' hl8 ?_
  refine TT.settle (A:=[(some b1,.cells ((Tm.ce a0 a0_2)) 25 (0,0))]) (J:=J12) hE12 ?_
  intro I16 hE16 hxI16
  simp only [Option.some.injEq,Prod.mk.injEq] at h15
  obtain ⟨rfl,rfl⟩:=h15
  exact retnE (rs:=[.tmp 2,.tmp 3]) (vs:=[str t13,.int .i64 0]) hE16.base Tryd.func28 rfl rfl rfl (res_cons (ResV.tmp rfl) (res_cons (ResV.tmp rfl) res_nil)) rfl
theorem terms_Text.val {a0 : Tm} {a0_2 : Value} {r_0 : List UInt8} {r_1 : Int} (h : terms_Text.f a0 = some (r_0,r_1)) {M : Mem} (w : World) (hM : Ext M (heapOf w)) (hG : Glob M) (hr_a0_2 : RowS ShTm M a0_2 (Tree.kids a0)) : Calls Tryd.prog 28 #[.agg (Tm.ce a0 a0_2)] w fun e w' => e = .returned (.tuple #[str r_0,.int .i64 r_1]) ∧ Below w.heap.size w w' :=
 calls_value (terms_Text.ok h w hM hG hr_a0_2)

@[reducible] def terms_can.Rec (r_ : Tm → KM → Option (Bool)) : Prop:=∀ {a0 : Tm} {c0 : KM} {a0_2 : Value} {c0_m : Nat} {c0_b : Nat} {c1_m : Nat} {c1_b : Nat} {c2_b : Nat} {r : Bool},r_ a0 c0 = some r → ∀ {M : Mem} (w : World) (hM : Ext M (heapOf w)) (hG : Glob M) (hr_a0_2 : RowS ShTm M a0_2 (Tree.kids a0)) (hm_c0 : KMap ShTm M c0_m c0) (hb_c0 : M c0_b = some (.cells #[.map (some c0_m)] 56 (0,0))) (hm_c1 : M c1_m = some FormsO) (hb_c1 : M c1_b = some (.cells #[.map (some c1_m)] 59 (0,0))) (hb_c2 : M c2_b = some (.cells #[.func (.func 59) #[] #[ptr c0_b 0,ptr c1_b 0,ptr c2_b 0]] 29 (0,0))),Calls Tryd.prog 59 #[.agg (Tm.ce a0 a0_2),ptr c0_b 0,ptr c1_b 0,ptr c2_b 0] w (fun e w' => e = .returned (.bool r) ∧ Below w.heap.size w w')

/-! ### (escutcheon/terms.knowledge).can$1$1: function 60 -/
noncomputable def B60 : Code:=bodyOf Tryd.f60
def terms_knowledge__can_1_1.f (a0 : Int) (c0 : KM) (c1 : Tm) : Option (Bool):=req (0 ≤ a0) (req (a0 ≤ (IntKind.i64.wrap (a0 + 1))) (req ((IntKind.i64.wrap (a0 + 1)) ≤ ((Tree.kids c1).length : Int)) (nm (((Tree.kids c1).drop a0.toNat).take ((IntKind.i64.wrap (a0 + 1)).toNat - a0.toNat)) fun t9 => (terms_text.f (Tm.fuel (Tm.mk 3 0 t9)) (Tm.mk 3 0 t9)).bind fun t12 => nm (kgetT c0 t12) fun t16 => some ((Tm.kind t16) != 0))))
set_option maxRecDepth 20000 in
theorem terms_knowledge__can_1_1.ok {a0 : Int} {c0 : KM} {c1 : Tm} {c0_m : Nat} {c0_b : Nat} {c1_2 : Value} {c1_b : Nat} {c2_m : Nat} {c2_b : Nat} {r : Bool} (h : terms_knowledge__can_1_1.f a0 c0 c1 = some r) {M : Mem} (w : World) (hM : Ext M (heapOf w)) (hG : Glob M) (hm_c0 : KMap ShTm M c0_m c0) (hb_c0 : M c0_b = some (.cells #[.map (some c0_m)] 56 (0,0))) (hr_c1_2 : RowS ShTm M c1_2 (Tree.kids c1)) (hb_c1 : M c1_b = some (.cells (Tm.ce c1 c1_2) 25 (0,0))) (hm_c2 : M c2_m = some FormsO) (hb_c2 : M c2_b = some (.cells #[.map (some c2_m)] 59 (0,0))) : Calls Tryd.prog 60 #[.int .i64 a0,ptr c0_b 0,ptr c1_b 0,ptr c2_b 0] w (Post (fun u => u = .bool r) w):=by
 unfold terms_knowledge__can_1_1.f at h
 have hE:=Env.start hM
 refine calls_of_TT (N:=19) (S:=[(0,.int .i64 a0),(1,ptr c0_b 0),(2,ptr c1_b 0),(3,ptr c2_b 0)]) (c:=B60) Tryd.func60 rfl rfl rfl (by simp) ?_
 show TT _ _ _ _ _ _ [.code (sub [] B60)] _ _
 refine TT.seq (x:=sub [0] B60) (y:=sub [1] B60) ?_
 refine TT.rg [0] [kp] rfl rfl ?_
 refine DL.pu 5 (.bool false) rfl (p_assign rfl rfl) ?_
 refine DL.nil ?_
 refine TT.seq (x:=sub [1,0] B60) (y:=sub [1,1] B60) ?_
 refine TT.rgD [0,1,2,3,4,5,6,7,8,9,10,11,12,13] [0,0,2,0,0,16,62,126,0,510,1023,2047,4095,8191] [kp,kp,kp,kp,kp,kp,kp,kp,kp,kq,kq,kp,kp,kp] rfl mixed (by kernel_rfl) ?_
 intro w1 hl1 hj1 hz1
 refine DL.imm (v:=.map (some c0_m)) rfl (Wn.none rfl) rfl rfl rfl (i_loadBox (hE.mi _ _ hb_c0) rfl ty_a56 rfl rfl) ?_
 refine DL.pu 7 (ptr c1_b 2) rfl (p_fieldAddr ty_f25_2 rfl rfl) ?_
 refine DL.imm (v:=c1_2) rfl (Wn.none rfl) rfl rfl rfl (i_loadBoxO (hE.mi _ _ hb_c1) rfl ty_a22 rfl rfl) ?_
 refine DL.mv 9 (.int .i64 a0) rfl rfl rfl ?_
 refine DL.mv 10 (.int .i64 a0) rfl rfl rfl ?_
 refine DL.pu 11 (.int .i64 (IntKind.i64.wrap (a0 + 1))) rfl (p_add rfl rfl rfl) ?_
 obtain ⟨g3,h4⟩:=req_some h
 obtain ⟨g5,h6⟩:=req_some h4
 obtain ⟨g7,h8⟩:=req_some h6
 obtain ⟨t9,e10,h11⟩:=nm_some h8
 obtain ⟨v2,v2_e⟩ : ∃ u,u = subsl c1_2 3 a0.toNat (IntKind.i64.wrap (a0 + 1)).toNat:=⟨_,rfl⟩
 have hr_v2 : RowS ShTm M v2 t9:=by rw [v2_e]; exact (by rw [e10]; exact RowS.sub hr_c1_2 (toNat_le g7) (toNat_le2 g5))
 refine DL.pu 12 (v2) rfl (by rw [v2_e]; exact p_subLH ty_u22 ty_s25 (RowS.V hr_c1_2).choose_spec g3 g5 g7 rfl rfl rfl rfl) ?_
 refine DL.pu 13 (.agg #[.int .i64 3,.int .i64 0,v2]) rfl (p_build (vs:=[(0,.int .i64 3),(2,v2)]) (fun w => by obtain ⟨_,_,e_⟩:=RowS.sl hr_v2; subst e_; kernel_rfl) rfl rfl) ?_
 refine DL.imm (v:=.map (some c2_m)) rfl (Wn.none rfl) rfl rfl rfl (i_loadBox (hE.mi _ _ hb_c2) rfl ty_a59 rfl rfl) ?_
 obtain ⟨t12,h13,h14⟩:=bind_some h11
 refine DL.qu 15 (str t12) rfl (f_callR rfl rfl (args_val (vs:=[.agg #[.int .i64 3,.int .i64 0,v2],.map (some c2_m)]) rfl) (fun w => enter48 _ w) (fun w hc => terms_text.val h13 (M:=M) w (hE.ext hc) hG hr_v2 hm_c2)) ?_
 obtain ⟨t16,e17,h18⟩:=nm_some h14
 obtain ⟨kv15,kl15,hr_kv15,hkb15,hkv15,hki15⟩:=KMap.look hm_c0 t12; rw [← e17] at hr_kv15 hkv15
 refine DL.qu 16 (.agg (Tm.ce t16 kv15)) rfl (FImm.quiet (i_lookupS (I:=M) ty_u56 ty_u9 ty_z25 hkb15 hkv15 rfl rfl rfl) (fun w hc => hE.imm hc)) ?_
 refine DL.pu 17 (.int .i64 (Tm.kind t16)) rfl (p_field (fun w => by obtain ⟨_,_,e_⟩:=RowS.sl hr_kv15; subst e_; kernel_rfl) rfl rfl) ?_
 refine DL.pu 18 (.bool ((Tm.kind t16) != 0)) rfl (p_neq rfl rfl rfl) ?_
 refine DL.pu 5 (.bool ((Tm.kind t16) != 0)) rfl (p_assign rfl rfl) ?_
 refine DL.nil' hl1 ?_
 obtain rfl:=Option.some.inj h18
 exact retnE (rs:=[.tmp 5]) (vs:=[.bool ((Tm.kind t16) != 0)]) hE.base Tryd.func60 rfl rfl rfl (res_cons (ResV.tmp rfl) res_nil) rfl
theorem terms_knowledge__can_1_1.val {a0 : Int} {c0 : KM} {c1 : Tm} {c0_m : Nat} {c0_b : Nat} {c1_2 : Value} {c1_b : Nat} {c2_m : Nat} {c2_b : Nat} {r : Bool} (h : terms_knowledge__can_1_1.f a0 c0 c1 = some r) {M : Mem} (w : World) (hM : Ext M (heapOf w)) (hG : Glob M) (hm_c0 : KMap ShTm M c0_m c0) (hb_c0 : M c0_b = some (.cells #[.map (some c0_m)] 56 (0,0))) (hr_c1_2 : RowS ShTm M c1_2 (Tree.kids c1)) (hb_c1 : M c1_b = some (.cells (Tm.ce c1 c1_2) 25 (0,0))) (hm_c2 : M c2_m = some FormsO) (hb_c2 : M c2_b = some (.cells #[.map (some c2_m)] 59 (0,0))) : Calls Tryd.prog 60 #[.int .i64 a0,ptr c0_b 0,ptr c1_b 0,ptr c2_b 0] w fun e w' => e = .returned (.bool r) ∧ Below w.heap.size w w' :=
 calls_value (terms_knowledge__can_1_1.ok h w hM hG hm_c0 hb_c0 hr_c1_2 hb_c1 hm_c2 hb_c2)

/-! ### (escutcheon/terms.knowledge).can$1$2: function 61 -/
noncomputable def B61 : Code:=bodyOf Tryd.f61
def terms_knowledge__can_1_2.f (r_terms_can : Tm → KM → Option (Bool)) (a0 : Tm) (c0 : KM) : Option (Bool):=(r_terms_can a0 c0).bind fun t2 => some (!t2)
set_option maxRecDepth 20000 in
theorem terms_knowledge__can_1_2.ok {r_terms_can : Tm → KM → Option (Bool)} (hr_terms_can : terms_can.Rec r_terms_can) {a0 : Tm} {c0 : KM} {a0_2 : Value} {c0_m : Nat} {c0_kb : Nat} {c0_fm : Nat} {c0_ab : Nat} {c0_b : Nat} {r : Bool} (h : terms_knowledge__can_1_2.f r_terms_can a0 c0 = some r) {M : Mem} (w : World) (hM : Ext M (heapOf w)) (hG : Glob M) (hr_a0_2 : RowS ShTm M a0_2 (Tree.kids a0)) (hm_c0 : KMap ShTm M c0_m c0) (hb_c0k : M c0_kb = some (.cells #[.map (some c0_m)] 56 (0,0))) (hm_c0f : M c0_fm = some FormsO) (hb_c0a : M c0_ab = some (.cells #[.map (some c0_fm)] 59 (0,0))) (hb_c0 : M c0_b = some (.cells #[.func (.func 59) #[] #[ptr c0_kb 0,ptr c0_ab 0,ptr c0_b 0]] 29 (0,0))) : Calls Tryd.prog 61 #[.agg (Tm.ce a0 a0_2),ptr c0_b 0] w (Post (fun u => u = .bool r) w):=by
 unfold terms_knowledge__can_1_2.f at h
 have hE:=Env.start hM
 refine calls_of_TT (N:=8) (S:=[(0,.agg (Tm.ce a0 a0_2)),(1,ptr c0_b 0)]) (c:=B61) Tryd.func61 rfl rfl rfl (by simp) ?_
 show TT _ _ _ _ _ _ [.code (sub [] B61)] _ _
 refine TT.seq (x:=sub [0] B61) (y:=sub [1] B61) ?_
 refine TT.rg [0,1] [(.alloc,none),kp] rfl rfl ?_
 refine DL.new (ob:=.cells ((Tm.ce a0 a0_2)) 25) (mk:=fun b => ptr b 0) (i:=0) rfl (Wn.none rfl) rfl rfl rfl (f_box (v:=.agg (Tm.ce a0 a0_2)) rfl rfl) ?_
 intro b1 hb1
 refine DL.pu 3 (.bool false) rfl (p_assign rfl rfl) ?_
 refine DL.nil ?_
 refine TT.seq (x:=sub [1,0] B61) (y:=sub [1,1] B61) ?_
 refine TT.rg [0,1,2,3,4] [kp,kq,kq,kp,kp] rfl rfl ?_
 refine DL.imm (v:=.func (.func 59) #[] #[ptr c0_kb 0,ptr c0_ab 0,ptr c0_b 0]) rfl (Wn.none rfl) rfl rfl rfl (i_loadBox (hE.mi _ _ hb_c0) rfl ty_a29 rfl rfl) ?_
 refine DL.qu 5 (.agg (Tm.ce a0 a0_2)) rfl (f_loadA (j:=0) ty_a25 ty_s25 rfl rfl rfl rfl) ?_
 obtain ⟨t2,h3,h4⟩:=bind_some h
 refine DL.qu 6 (.bool t2) rfl (f_callV (by simp) rfl rfl rfl (args_val (vs:=[.agg (Tm.ce a0 a0_2)]) rfl) (fun w => enter59 _ w) (fun w hc => hr_terms_can h3 (M:=M) w (hE.ext hc) hG hr_a0_2 hm_c0 hb_c0k hm_c0f hb_c0a hb_c0)) ?_
 refine DL.pu 7 (.bool (!t2)) rfl (p_not rfl rfl) ?_
 refine DL.pu 3 (.bool (!t2)) rfl (p_assign rfl rfl) ?_
 refine DL.nil ?_
 obtain rfl:=Option.some.inj h4
 exact retnE (rs:=[.tmp 3]) (vs:=[.bool (!t2)]) hE.base Tryd.func61 rfl rfl rfl (res_cons (ResV.tmp rfl) res_nil) rfl
theorem terms_knowledge__can_1_2.val {r_terms_can : Tm → KM → Option (Bool)} (hr_terms_can : terms_can.Rec r_terms_can) {a0 : Tm} {c0 : KM} {a0_2 : Value} {c0_m : Nat} {c0_kb : Nat} {c0_fm : Nat} {c0_ab : Nat} {c0_b : Nat} {r : Bool} (h : terms_knowledge__can_1_2.f r_terms_can a0 c0 = some r) {M : Mem} (w : World) (hM : Ext M (heapOf w)) (hG : Glob M) (hr_a0_2 : RowS ShTm M a0_2 (Tree.kids a0)) (hm_c0 : KMap ShTm M c0_m c0) (hb_c0k : M c0_kb = some (.cells #[.map (some c0_m)] 56 (0,0))) (hm_c0f : M c0_fm = some FormsO) (hb_c0a : M c0_ab = some (.cells #[.map (some c0_fm)] 59 (0,0))) (hb_c0 : M c0_b = some (.cells #[.func (.func 59) #[] #[ptr c0_kb 0,ptr c0_ab 0,ptr c0_b 0]] 29 (0,0))) : Calls Tryd.prog 61 #[.agg (Tm.ce a0 a0_2),ptr c0_b 0] w fun e w' => e = .returned (.bool r) ∧ Below w.heap.size w w' :=
 calls_value (terms_knowledge__can_1_2.ok hr_terms_can h w hM hG hr_a0_2 hm_c0 hb_c0k hm_c0f hb_c0a hb_c0)

end Go.Proofs.YtfbogkhgfaibbaaDoor
