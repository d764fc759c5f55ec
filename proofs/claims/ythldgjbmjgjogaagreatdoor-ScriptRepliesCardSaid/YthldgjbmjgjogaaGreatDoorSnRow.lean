import Derived.Test.YthldgjbmjgjogaaGreatDoorRows
import Derived.Test.YthldgjbmjgjogaaGreatDoorTie
import Derived.Test.YthldgjbmjgjogaaGreatDoorCards
import Derived.Test.YthldgjbmjgjogaaGreatDoorHw8
import Derived.Test.YthldgjbmjgjogaaGreatDoorSnTk
import Derived.Lib.LaidIn
import Derived.Lib.LaidTab
import Derived.LaidHandle
import Derived.SevenTiedAt
import Derived.ChangeSlices
import Derived.HandedShaped
import Derived.Shelf.Vars
import Derived.Stop.LaidErr
namespace Go.Proofs.YthldgjbmjgjogaaGreatDoor
open Go Go.HW Go.RowKit Go.ChangeShapes Go.WideShapes Go.ChangeAt Go.Lib
set_option linter.unusedVariables false

theorem own : ownKnob Tryz.prog.godebug = none := by kernel_rfl
theorem laidOut : laidOutB Tryz.prog = true := by kernel_rfl
/-- What the rows list. -/
abbrev laidS : List (String × DataW Unit) := [("math/bits.deBruijn32tab", Rows.laid_math_bits_deBruijn32tab), ("math/bits.deBruijn64tab", Rows.laid_math_bits_deBruijn64tab), ("internal/strconv.uint64pow10", Rows.laid_internal_strconv_uint64pow10), ("unicode/utf8.acceptRanges", Rows.laid_unicode_utf8_acceptRanges), ("strconv.ErrRange", Rows.laid_strconv_ErrRange), ("strconv.ErrSyntax", Rows.laid_strconv_ErrSyntax), ("unicode/utf8.first", Rows.laid_unicode_utf8_first)]
/-- The numbers of a table. -/
def litOf : DataW Unit → List Value
  | .lit (.int k z) => [Value.int k z]
  | _ => []
def litsOf : DataW Unit → List Value
  | .agg l => (l.map fun
    | .agg l2 => (l2.map litOf).flatten
    | x => litOf x).flatten
  | _ => []
abbrev synS : ByteArray := { data := #[105, 110, 118, 97, 108, 105, 100, 32, 115, 121, 110, 116, 97, 120] }
abbrev rngS : ByteArray := { data := #[118, 97, 108, 117, 101, 32, 111, 117, 116, 32, 111, 102, 32, 114, 97, 110, 103, 101] }
noncomputable def low : Nat := (World.holding Tryz.prog default ⟨#[], #[], []⟩).heap.size
noncomputable def laidWorld (os : Os) : World :=
  let w0 := World.holding Tryz.prog os ⟨#[.cells #[.string rngS] 184, .cells #[.string synS] 184], #[], []⟩
  let put (h : Array Obj) (g : Nat) (cs : Array Value) : Array Obj := h.modify g fun
    | .cells _ t frozen => .cells cs t frozen
    | o => o
  let h1 := put w0.heap 0 (litsOf Rows.laid_internal_strconv_uint64pow10).toArray
  let h2 := put h1 6 (litsOf Rows.laid_math_bits_deBruijn32tab).toArray
  let h3 := put h2 7 (litsOf Rows.laid_math_bits_deBruijn64tab).toArray
  let h4 := put h3 5 (litsOf Rows.laid_unicode_utf8_acceptRanges).toArray
  let h5 := put h4 4 (litsOf Rows.laid_unicode_utf8_first).toArray
  let h6 := put h5 3 #[.iface 182 (.pointer (some ⟨low, 0, none⟩))]
  let h7 := put h6 2 #[.iface 182 (.pointer (some ⟨low + 1, 0, none⟩))]
  { w0 with heap := h7 }
theorem laid_met (os : Os) (args : Array Value) : laidMetH Tryz.prog laidS ((laidWorld os).forCall (fun _ _ => 0) ⟨#[], args, []⟩).memory :=
  (LaidIn.of_run (l := laidS) [0, 2, 3, 4, 5, 6, 7, low, low + 1] 8 (by kernel_rfl) (by kernel_rfl) (by kernel_rfl) (by kernel_rfl)).met
theorem star : "*" ++ "errors.errorString" = "*errors.errorString" := by decide
theorem row182 (u : TypeId) (h : Tryz.prog.typeName? 3 u = some "*errors.errorString") : u = 182 :=
  typeName_ptr_named (nm := "errors.errorString") (by rw [star]; kernel_rfl) (by kernel_rfl) (by decide) u (by rw [star]; exact h)
theorem var_stays {w w' : World} (h : Imm (heapOf w) w') {n : String} {v : Array Value} (hc : w.var? Tryz.prog n = some v) : w'.var? Tryz.prog n = some v := by
  unfold World.var? at hc ⊢
  cases hg : Tryz.prog.globalNamed n with
  | none => rw [hg] at hc; cases hc
  | some g =>
    rw [hg, Option.bind_some] at hc
    rw [Option.bind_some]
    cases ho : w.heap[g]? with
    | none => rw [ho] at hc; cases hc
    | some o => rw [h g o ho]; rw [ho] at hc; exact hc
theorem cell_stays {w w' : World} (h : Imm (heapOf w) w') {b o : Nat} {v : Value} (hc : w.cell? ⟨b, o, none⟩ = some v) : w'.cell? ⟨b, o, none⟩ = some v := by
  unfold World.cell? at hc ⊢
  simp only at hc ⊢
  cases ho : w.heap[b]? with
  | none => rw [ho] at hc; cases hc
  | some x => rw [h b x ho]; rw [ho] at hc; exact hc
theorem d_pow : (Rows.laid_internal_strconv_uint64pow10 : DataW Unit) = Lib.tabData .u64 Lib.pow10Tab := by kernel_rfl
theorem pow_of {W : World} (h : laidMetH Tryz.prog laidS W) : Lib.TabIs Tryz.prog W "internal/strconv.uint64pow10" .u64 Lib.pow10Tab := by
  have hL : laidMet Tryz.prog laidS W := h
  obtain ⟨ps, ⟨g1, t1, cs1, f1, p1, q1, _, _, _, _, ⟨g2, t2, cs2, f2, p2, q2, _, _, _, _, ⟨g, t', cs, fuel, p, q, hg', ht', hvar, hd, _, _⟩, _⟩, _⟩, _⟩ := hL
  obtain rfl := Option.some.inj ((show Tryz.prog.globalNamed "internal/strconv.uint64pow10" = some 0 by kernel_rfl).symm.trans hg')
  obtain rfl := Option.some.inj ((show (Tryz.prog.globals[0]?).map (·.type) = some 165 by kernel_rfl).symm.trans ht')
  unfold Lib.TabIs
  rw [d_pow] at hd
  rw [hvar, ← Lib.cells_of_tab (n := 20) (by kernel_rfl : Tryz.prog.underlying 165 = some (.array 20 24)) (by kernel_rfl : Tryz.prog.underlying 24 = some (.int .u64)) (by kernel_rfl) (by kernel_rfl) hd]
theorem gE1 : Tryz.prog.globalNamed "strconv.ErrSyntax" = some 2 := by kernel_rfl
theorem gE2 : Tryz.prog.globalNamed "strconv.ErrRange" = some 3 := by kernel_rfl
noncomputable def fldE : Field := match Tryz.prog.underlying 184 with
  | some (.struct fs) => fs.getD 0 { name := "", type := 0, offset := 0, embedded := false, tag := "", pkgPath := "", byteOffset := 0 }
  | _ => { name := "", type := 0, offset := 0, embedded := false, tag := "", pkgPath := "", byteOffset := 0 }
noncomputable def msE : Array (String × TypeId) := match Tryz.prog.underlying 110 with
  | some (.interface ms) => ms
  | _ => #[]
theorem globE_of {W : World} (h : laidMetH Tryz.prog laidS W) (hsh : W.ShapedOpen Tryz.prog) : GlobE (heapOf W) := by
  have hL : laidMet Tryz.prog laidS W := h
  have h4 := hL.tail.tail.tail.tail
  have h5 := h4.tail
  refine ⟨fun w' hw => var_stays hw (pow_of h), fun w' hw => ?_, fun w' hw => ?_, fun w' hw => ?_⟩
  · obtain ⟨m, hm⟩ := cell_of_shapedOpen_int (g := 1) (t := 3) (k := .i64) hsh (of_decide_eq_true (by kernel_rfl)) (by kernel_rfl : ((begin Tryz.prog (fun _ _ => 0) default).world.heap[1]?).bind Obj.row? = some (#[.int .i64 0], 3)) rfl (by kernel_rfl) (by kernel_rfl) (by kernel_rfl)
    exact ⟨m, cell_stays hw hm⟩
  · obtain ⟨a, s, hv, -, -, -⟩ := laid_sentinel h5 gE1 (by kernel_rfl : (Tryz.prog.globals[2]?).map (·.type) = some 110) (by kernel_rfl : Tryz.prog.underlying 110 = some (.interface msE)) row182 (by kernel_rfl : Tryz.prog.underlying 182 = some (.pointer 184)) (by kernel_rfl : Tryz.prog.underlying 184 = some (.struct #[fldE])) (by kernel_rfl : fldE.type = 9) (by kernel_rfl : fldE.offset = 0) (by kernel_rfl) (by kernel_rfl) (by kernel_rfl)
    have h0 := World.var?_cell gE1 (var_stays hw hv) 0
    exact ⟨_, by simpa using h0, .inr ⟨_, _, rfl⟩⟩
  · obtain ⟨a, s, hv, -, -, -⟩ := laid_sentinel h4 gE2 (by kernel_rfl : (Tryz.prog.globals[3]?).map (·.type) = some 110) (by kernel_rfl : Tryz.prog.underlying 110 = some (.interface msE)) row182 (by kernel_rfl : Tryz.prog.underlying 182 = some (.pointer 184)) (by kernel_rfl : Tryz.prog.underlying 184 = some (.struct #[fldE])) (by kernel_rfl : fldE.type = 9) (by kernel_rfl : fldE.offset = 0) (by kernel_rfl) (by kernel_rfl) (by kernel_rfl)
    have h0 := World.var?_cell gE2 (var_stays hw hv) 0
    exact ⟨_, by simpa using h0, .inr ⟨_, _, rfl⟩⟩
/-- a law over what is listed, the world's shape kept -/
theorem returns_shaped_and {H : Type} {enc : TypeId × Value → H} {a : Assume} {C : Checked} {os : Os} {f : FuncId} {fn : Func} {s : ChangeSpec} {conds : List PathCond} {apart fresh handsOn again : Bool} {X : World → Array Value → Prop}
    (hX : ∀ (w w' : World) (args : Array Value), w.heap = w'.heap → X w args → X w' args)
    (own : ownKnob C.prog.godebug = none) (started : os.Started) (noInit : C.prog.inits.idxOf? f = none) (hfn : C.prog.funcs[f]? = some fn)
    (witness : ∃ (w : World) (tape : Tape) (i : Input), w.os = os ∧ (w.forCall tape i).Shaped C.prog ∧ i.vars = [] ∧ Input.okWide C.prog (w.forCall tape i) .any w.heap.size f i ∧
      ((s.pre enc C.prog fn conds apart (w.forCall tape i).memory i.args ∧ X (w.forCall tape i).memory i.args) ∧ sizedMet enc C.prog fn (OpenSpec.ofChange s) apart (w.forCall tape i).memory i.args) ∧ a.holds C.prog (lone (Frame.enter C.prog f i.args .normal) [] (w.forCall tape i)))
    (contract : ∀ (W : World) (base : Nat) (args : Array Value) (ds gs : List (DataW H)) (before : List MemPlace),
      (∀ (j : Nat) t v, fn.params[j]? = some t → args[j]? = some v → Value.okWide C.prog W .any base t v) →
      DataW.Whole enc C.prog fn.params.toList s.vars apart W args.toList ds gs before →
      conds.all (PathCond.test C.prog ⟨fn.params.toList, ds, s.plain.varTypes C.prog, gs⟩) = true →
      (DataW.weightsEach C.prog (fn.params.toList ++ s.plain.varTypes C.prog) (ds ++ gs)).all (· ≤ reachBytes) = true → X W args → W.ShapedOpen C.prog →
      a.holds C.prog (lone (Frame.enter C.prog f args .normal) [] W) →
      Calls C.prog f args W fun e W' => ∃ v, e = .returned v ∧ s.post enc C.prog fn apart fresh handsOn again W args v W') :
    ReturnsInHanded a C os f .any (fun w args => (s.pre enc C.prog fn conds apart w args ∧ X w args) ∧ sizedMet enc C.prog fn (OpenSpec.ofChange s) apart w args) (s.post enc C.prog fn apart fresh handsOn again) := by
  refine returnsInHanded_of_calls own started noInit witness ?_
  intro w tape i _ hsh _ hok hpre hholds
  obtain ⟨_, _, _, fn', hfn', _, _, _, _, hval⟩ := hok
  have e : fn' = fn := Option.some.inj (hfn'.symm.trans hfn)
  subst e
  obtain ⟨⟨⟨ds, gs, before, hw, hc⟩, hx⟩, hz⟩ := hpre
  have hw' := DataW.Whole.of_heap (w' := w.forCall tape i) (by rfl) hw
  refine (contract (w.forCall tape i) w.heap.size i.args ds gs before hval hw' hc (hz.weights hw) (hX _ _ _ (by rfl) hx) hsh hholds).mono fun e W' ⟨v, he, hp⟩ => ?_
  subst he
  exact ChangeSpec.post_blind hp
end Go.Proofs.YthldgjbmjgjogaaGreatDoor
