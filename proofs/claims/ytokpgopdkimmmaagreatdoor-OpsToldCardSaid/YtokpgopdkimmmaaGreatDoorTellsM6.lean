import Derived.Test.YtokpgopdkimmmaaGreatDoorOpsLine
import Derived.ProofKit
import Derived.LaidMore
import Derived.OpenShut
import Derived.Stop.Joined
import Derived.LaidSub
import Derived.Test.YtokpgopdkimmmaaGreatDoorText
import Derived.Test.YtokpgopdkimmmaaGreatDoorOpAwake
import Derived.Stop.LaidErr
import Derived.Shelf.Vars
import Derived.HandedShaped
import Derived.Test.YtokpgopdkimmmaaGreatDoorRows
import Derived.Lib.SmallJoins
import Derived.Test.YtokpgopdkimmmaaGreatDoorTellsM5
import Derived.Deep.Slices
import Derived.Deep.Fields
import Derived.ChangeSame
import Derived.SizedLaws
import Derived.Test.YtokpgopdkimmmaaGreatDoorOpReplyWalk
/- What the row's condition on the library's own tables gives; that the start meets it. -/
namespace Go.Proofs.YtokpgopdkimmmaaGreatDoor
open Go.RowKit
set_option linter.unusedVariables false

def laidBlanks : List (String × DataW Unit) := [("unicode.White_Space", Rows.laid_unicode_White_Space), ("strings.asciiSpace", Rows.laid_strings_asciiSpace)]
theorem gBlanks : Tryz.prog.globalNamed "strings.asciiSpace" = some 0 := by kernel_rfl
theorem tBlanks : (Tryz.prog.globals[0]?).map (·.type) = some 100 := by kernel_rfl
theorem tabBlanks : Rows.laid_strings_asciiSpace (H := Unit) = Lib.tabData .u8 Lib.asciiSpaceTab := by kernel_rfl
theorem blanks_of {W : World} (h : laidMetH Tryz.prog laidBlanks W) : Blanks W := by
  have h1 := laidMetH.filter (fun x => x.1 == "strings.asciiSpace") h
  rw [show laidBlanks.filter (fun x => x.1 == "strings.asciiSpace") = [("strings.asciiSpace", Rows.laid_strings_asciiSpace)] from rfl, tabBlanks] at h1
  rw [MakeChecks.laidMetH_plain _ _ _ (by kernel_rfl)] at h1
  exact Lib.tabIs_of_head gBlanks tBlanks Tryz.underlying100 Tryz.underlying5 (by kernel_rfl) (by kernel_rfl) h1
/-- The start's own heap meets the condition. -/
theorem door_blanks (os : Os) (args : Array Value) : laidMetH Tryz.prog laidBlanks ((World.doorLaid Tryz.prog 4000 os).forCall (fun _ _ => 0) ⟨#[], args, []⟩).memory :=
  laidMetH_of_parts3 (fuel := 8) (laidMet_of_run' 8 (by kernel_rfl) (by kernel_rfl)) (by kernel_rfl) (by kernel_rfl)
end Go.Proofs.YtokpgopdkimmmaaGreatDoor
/- What the row's condition on the library's own tables gives; that the start meets it. -/
namespace Go.Proofs.YtokpgopdkimmmaaGreatDoor
open Go.RowKit
set_option linter.unusedVariables false

def laidWide : List (String × DataW Unit) := [("math/bits.deBruijn32tab", Rows.laid_math_bits_deBruijn32tab), ("math/bits.deBruijn64tab", Rows.laid_math_bits_deBruijn64tab), ("internal/strconv.uint64pow10", Rows.laid_internal_strconv_uint64pow10)]
theorem gPow : Tryz.prog.globalNamed "internal/strconv.uint64pow10" = some 5 := by kernel_rfl
theorem tPow : (Tryz.prog.globals[5]?).map (·.type) = some 231 := by kernel_rfl
theorem tabPow : Rows.laid_internal_strconv_uint64pow10 (H := Unit) = Lib.tabData .u64 Lib.pow10Tab := by kernel_rfl
theorem pow10_of {W : World} (h : laidMetH Tryz.prog laidWide W) : Lib.TabIs Tryz.prog W "internal/strconv.uint64pow10" .u64 Lib.pow10Tab := by
  have h1 := laidMetH.filter (fun x => x.1 == "internal/strconv.uint64pow10") h
  rw [show laidWide.filter (fun x => x.1 == "internal/strconv.uint64pow10") = [("internal/strconv.uint64pow10", Rows.laid_internal_strconv_uint64pow10)] from rfl, tabPow] at h1
  rw [MakeChecks.laidMetH_plain _ _ _ (by kernel_rfl)] at h1
  exact Lib.tabIs_of_head gPow tPow Tryz.underlying231 Tryz.underlying29 (by kernel_rfl) (by kernel_rfl) h1
/-- The start's own heap meets the condition. -/
theorem door_wide (os : Os) (args : Array Value) : laidMetH Tryz.prog laidWide ((World.doorLaid Tryz.prog 4000 os).forCall (fun _ _ => 0) ⟨#[], args, []⟩).memory :=
  laidMetH_of_parts3 (fuel := 8) (laidMet_of_run' 8 (by kernel_rfl) (by kernel_rfl)) (by kernel_rfl) (by kernel_rfl)
end Go.Proofs.YtokpgopdkimmmaaGreatDoor
/- What the ops rows' condition on the library's own variables gives, with the world's shape. -/
namespace Go.Proofs.YtokpgopdkimmmaaGreatDoor
open Go.RowKit
set_option linter.unusedVariables false

def laidOps : List (String × DataW Unit) := [("math/bits.deBruijn32tab", Rows.laid_math_bits_deBruijn32tab), ("math/bits.deBruijn64tab", Rows.laid_math_bits_deBruijn64tab), ("internal/strconv.uint64pow10", Rows.laid_internal_strconv_uint64pow10), ("unicode/utf8.acceptRanges", Rows.laid_unicode_utf8_acceptRanges), ("strconv.ErrRange", Rows.laid_strconv_ErrRange), ("strconv.ErrSyntax", Rows.laid_strconv_ErrSyntax), ("unicode.White_Space", Rows.laid_unicode_White_Space), ("strings.asciiSpace", Rows.laid_strings_asciiSpace), ("unicode/utf8.first", Rows.laid_unicode_utf8_first)]
theorem gER : Tryz.prog.globalNamed "strconv.ErrRange" = some 7 := by kernel_rfl
theorem gERT : (Tryz.prog.globals[7]?).map (·.type) = some 92 := by kernel_rfl
theorem gES : Tryz.prog.globalNamed "strconv.ErrSyntax" = some 6 := by kernel_rfl
theorem gEST : (Tryz.prog.globals[6]?).map (·.type) = some 92 := by kernel_rfl
theorem errStar : "*" ++ "errors.errorString" = "*errors.errorString" := by decide
theorem errRow (u : TypeId) (h : Tryz.prog.typeName? 3 u = some "*errors.errorString") : u = 257 :=
  typeName_ptr_named (nm := "errors.errorString") (by rw [errStar]; kernel_rfl) (by kernel_rfl) (by decide) u (by rw [errStar]; exact h)
theorem errCells : Tryz.prog.cellsOf 259 = 1 := by kernel_rfl
theorem strCells1 : Tryz.prog.cellsOf 9 = 1 := by kernel_rfl

theorem errVars_of {W : World} (h : laidMetH Tryz.prog laidOps W) : ErrVars W := by
  have h1 := laidMetH.filter (fun x => x.1 == "strconv.ErrSyntax") h
  rw [show laidOps.filter (fun x => x.1 == "strconv.ErrSyntax") = [("strconv.ErrSyntax", Rows.laid_strconv_ErrSyntax)] from rfl] at h1
  rw [MakeChecks.laidMetH_plain _ _ _ (by kernel_rfl)] at h1
  have h2 := laidMetH.filter (fun x => x.1 == "strconv.ErrRange") h
  rw [show laidOps.filter (fun x => x.1 == "strconv.ErrRange") = [("strconv.ErrRange", Rows.laid_strconv_ErrRange)] from rfl] at h2
  rw [MakeChecks.laidMetH_plain _ _ _ (by kernel_rfl)] at h2
  obtain ⟨a0, s0, hv0, -, -, -⟩ := laid_sentinel h1 gES gEST Tryz.underlying92 errRow Tryz.underlying257 Tryz.underlying259 rfl rfl Tryz.underlying9 errCells strCells1
  obtain ⟨a1, s1, hv1, -, -, -⟩ := laid_sentinel h2 gER gERT Tryz.underlying92 errRow Tryz.underlying257 Tryz.underlying259 rfl rfl Tryz.underlying9 errCells strCells1
  have c0 := World.var?_cell gES hv0 0
  have c1 := World.var?_cell gER hv1 0
  have c0' : W.cell? ⟨6, 0, none⟩ = some (.iface 257 (.pointer (some a0))) := by simpa using c0
  have c1' : W.cell? ⟨7, 0, none⟩ = some (.iface 257 (.pointer (some a1))) := by simpa using c1
  exact ⟨⟨World.block_lt_of_cell? _ _ c0', _, c0', .inr ⟨_, _, rfl⟩⟩, ⟨World.block_lt_of_cell? _ _ c1', _, c1', .inr ⟨_, _, rfl⟩⟩⟩
theorem blanks_ops {W : World} (h : laidMetH Tryz.prog laidOps W) : Blanks W := by
  have h1 := laidMetH.filter (fun x => x.1 == "strings.asciiSpace") h
  rw [show laidOps.filter (fun x => x.1 == "strings.asciiSpace") = [("strings.asciiSpace", Rows.laid_strings_asciiSpace)] from rfl, tabBlanks] at h1
  rw [MakeChecks.laidMetH_plain _ _ _ (by kernel_rfl)] at h1
  exact Lib.tabIs_of_head gBlanks tBlanks Tryz.underlying100 Tryz.underlying5 (by kernel_rfl) (by kernel_rfl) h1
theorem pow10_ops {W : World} (h : laidMetH Tryz.prog laidOps W) : Tab64 W := by
  have h1 := laidMetH.filter (fun x => x.1 == "internal/strconv.uint64pow10") h
  rw [show laidOps.filter (fun x => x.1 == "internal/strconv.uint64pow10") = [("internal/strconv.uint64pow10", Rows.laid_internal_strconv_uint64pow10)] from rfl, tabPow] at h1
  rw [MakeChecks.laidMetH_plain _ _ _ (by kernel_rfl)] at h1
  exact Lib.tabIs_of_head gPow tPow Tryz.underlying231 Tryz.underlying29 (by kernel_rfl) (by kernel_rfl) h1
theorem maxAt_of {W : World} (h : W.ShapedOpen Tryz.prog) : MaxAt W := by
  obtain ⟨m, hm⟩ := cell_of_shapedOpen_int (P := Tryz.prog) (w := W) (g := 2) (t := 3) (zero := #[.int .i64 0]) (k := .i64) h (of_decide_eq_true (by kernel_rfl)) (by kernel_rfl) rfl (by kernel_rfl) (by kernel_rfl) Tryz.underlying3
  exact ⟨World.block_lt_of_cell? _ _ hm, m, hm⟩
theorem env27_of {W : World} (h : laidMetH Tryz.prog laidOps W) (hs : W.ShapedOpen Tryz.prog) : Env27 W := ⟨pow10_ops h, blanks_ops h, errVars_of h, maxAt_of hs⟩

section
variable {H : Type} {enc : TypeId × Value → H}
/-- The wrap with a condition on the world, and the world's shape handed on. -/
theorem returns_and_shaped {a : Assume} {C : Checked} {os : Os} {f : FuncId} {fn : Func} {s : ChangeSpec} {conds : List PathCond} {apart fresh handsOn again : Bool} {X : World → Array Value → Prop}
    (hX : ∀ (w w' : World) (args : Array Value), w.heap = w'.heap → X w args → X w' args)
    (own : ownKnob C.prog.godebug = none) (started : os.Started) (noInit : C.prog.inits.idxOf? f = none) (hfn : C.prog.funcs[f]? = some fn)
    (witness : ∃ (w : World) (tape : Tape) (i : Input), w.os = os ∧ (w.forCall tape i).Shaped C.prog ∧ i.vars = [] ∧ Input.okWide C.prog (w.forCall tape i) .any w.heap.size f i ∧
      ((s.pre enc C.prog fn conds apart (w.forCall tape i).memory i.args ∧ X (w.forCall tape i).memory i.args) ∧ sizedMet enc C.prog fn (OpenSpec.ofChange s) apart (w.forCall tape i).memory i.args) ∧ a.holds C.prog (lone (Frame.enter C.prog f i.args .normal) [] (w.forCall tape i)))
    (contract : ∀ (W : World) (base : Nat) (args : Array Value) (ds gs : List (DataW H)) (before : List MemPlace),
      (∀ (j : Nat) t v, fn.params[j]? = some t → args[j]? = some v → Value.okWide C.prog W .any base t v) →
      DataW.Whole enc C.prog fn.params.toList s.vars apart W args.toList ds gs before →
      conds.all (PathCond.test C.prog ⟨fn.params.toList, ds, s.plain.varTypes C.prog, gs⟩) = true →
      (DataW.weightsEach C.prog (fn.params.toList ++ s.plain.varTypes C.prog) (ds ++ gs)).all (· ≤ reachBytes) = true → X W args → W.ShapedOpen C.prog →
      a.holds C.prog (lone (Frame.enter C.prog f args .normal) [] W) →
      Calls C.prog f args W fun e W' => ∃ v, e = .returned v ∧ s.post enc C.prog fn apart fresh handsOn again W args v W') :
    ReturnsInHanded a C os f .any (fun w args => (s.pre enc C.prog fn conds apart w args ∧ X w args) ∧ sizedMet enc C.prog fn (OpenSpec.ofChange s) apart w args) (s.post enc C.prog fn apart fresh handsOn again) := by
  refine returnsInHanded_of_calls own started noInit witness ?_
  intro w tape i _ hsh _ hok hpre hholds
  obtain ⟨_, _, _, fn', hfn', _, _, _, _, hval⟩ := hok
  have e : fn' = fn := Option.some.inj (hfn'.symm.trans hfn)
  subst e
  obtain ⟨⟨⟨ds, gs, before, hw, hc⟩, hx⟩, hz⟩ := hpre
  have hw' := DataW.Whole.of_heap (w' := w.forCall tape i) (by rfl) hw
  refine (contract (w.forCall tape i) w.heap.size i.args ds gs before hval hw' hc (hz.weights hw) (hX _ _ _ (by rfl) hx) hsh hholds).mono fun e W' ⟨v, he, hp⟩ => ?_
  subst he
  exact ChangeSpec.post_blind hp
end
end Go.Proofs.YtokpgopdkimmmaaGreatDoor
/- A struct of five, six or seven one-cell fields, by value: its fields' own readings. -/
namespace Go.Proofs.YtokpgopdkimmmaaGreatDoor
open Go.Joins Go.ChangeShapes Go.WideShapes Go.RowKit Go.Deep
section
variable {H : Type} {enc : TypeId × Value → H} {P : Program} {w : World} {base : Nat} {spare : Nat → Bool} {held : Bool}
theorem open_agg5 {r : Reach} {b0 : Nat} {t : TypeId} {f0 f1 f2 f3 f4 : Field} {v : Value} {d : DataW H} {p : List MemPlace} (hs : P.underlying t = some (.struct #[f0, f1, f2, f3, f4])) (hone : oneCellFields P #[f0, f1, f2, f3, f4] = true) (hC : P.cellsOf t = 5)
    (hv : Value.okWide P w r b0 t v) (h : DataW.Trod enc P w base spare held t v d p) :
    ∃ (v0 v1 v2 v3 v4 : Value) (y0 y1 y2 y3 y4 : DataW H × List MemPlace) (n : Nat), v = .agg #[v0, v1, v2, v3, v4] ∧ d = .agg [y0.1, y1.1, y2.1, y3.1, y4.1] ∧ p = y0.2 ++ (y1.2 ++ (y2.2 ++ (y3.2 ++ y4.2))) ∧
      DataW.trod enc P w base spare held n f0.type [v0] = some y0 ∧ DataW.trod enc P w base spare held n f1.type [v1] = some y1 ∧ DataW.trod enc P w base spare held n f2.type [v2] = some y2 ∧ DataW.trod enc P w base spare held n f3.type [v3] = some y3 ∧ DataW.trod enc P w base spare held n f4.type [v4] = some y4 := by
  obtain ⟨cs, rfl, hsz⟩ := okWide_struct hs hv
  obtain ⟨l⟩ := cs
  match l, hsz.trans hC with
  | [c0, c1, c2, c3, c4], _ =>
    obtain ⟨fuel, hf⟩ := h
    obtain ⟨xs, n, _, hx, _, hlen, hg⟩ := DataW.trod_struct hs hf
    obtain ⟨o0, k0⟩ := hone_of hone 0 f0 rfl
    obtain ⟨o1, k1⟩ := hone_of hone 1 f1 rfl
    obtain ⟨o2, k2⟩ := hone_of hone 2 f2 rfl
    obtain ⟨o3, k3⟩ := hone_of hone 3 f3 rfl
    obtain ⟨o4, k4⟩ := hone_of hone 4 f4 rfl
    match xs, hlen with
    | [y0, y1, y2, y3, y4], _ =>
      simp only [Prod.mk.injEq] at hx
      exact ⟨c0, c1, c2, c3, c4, y0, y1, y2, y3, y4, n, rfl, by simpa using hx.1, by simpa using hx.2, by simpa [Value.cells, o0, k0] using hg 0 f0 rfl, by simpa [Value.cells, o1, k1] using hg 1 f1 rfl, by simpa [Value.cells, o2, k2] using hg 2 f2 rfl, by simpa [Value.cells, o3, k3] using hg 3 f3 rfl, by simpa [Value.cells, o4, k4] using hg 4 f4 rfl⟩

theorem open_agg6 {r : Reach} {b0 : Nat} {t : TypeId} {f0 f1 f2 f3 f4 f5 : Field} {v : Value} {d : DataW H} {p : List MemPlace} (hs : P.underlying t = some (.struct #[f0, f1, f2, f3, f4, f5])) (hone : oneCellFields P #[f0, f1, f2, f3, f4, f5] = true) (hC : P.cellsOf t = 6)
    (hv : Value.okWide P w r b0 t v) (h : DataW.Trod enc P w base spare held t v d p) :
    ∃ (v0 v1 v2 v3 v4 v5 : Value) (y0 y1 y2 y3 y4 y5 : DataW H × List MemPlace) (n : Nat), v = .agg #[v0, v1, v2, v3, v4, v5] ∧ d = .agg [y0.1, y1.1, y2.1, y3.1, y4.1, y5.1] ∧ p = y0.2 ++ (y1.2 ++ (y2.2 ++ (y3.2 ++ (y4.2 ++ y5.2)))) ∧
      DataW.trod enc P w base spare held n f0.type [v0] = some y0 ∧ DataW.trod enc P w base spare held n f1.type [v1] = some y1 ∧ DataW.trod enc P w base spare held n f2.type [v2] = some y2 ∧ DataW.trod enc P w base spare held n f3.type [v3] = some y3 ∧ DataW.trod enc P w base spare held n f4.type [v4] = some y4 ∧ DataW.trod enc P w base spare held n f5.type [v5] = some y5 := by
  obtain ⟨cs, rfl, hsz⟩ := okWide_struct hs hv
  obtain ⟨l⟩ := cs
  match l, hsz.trans hC with
  | [c0, c1, c2, c3, c4, c5], _ =>
    obtain ⟨fuel, hf⟩ := h
    obtain ⟨xs, n, _, hx, _, hlen, hg⟩ := DataW.trod_struct hs hf
    obtain ⟨o0, k0⟩ := hone_of hone 0 f0 rfl
    obtain ⟨o1, k1⟩ := hone_of hone 1 f1 rfl
    obtain ⟨o2, k2⟩ := hone_of hone 2 f2 rfl
    obtain ⟨o3, k3⟩ := hone_of hone 3 f3 rfl
    obtain ⟨o4, k4⟩ := hone_of hone 4 f4 rfl
    obtain ⟨o5, k5⟩ := hone_of hone 5 f5 rfl
    match xs, hlen with
    | [y0, y1, y2, y3, y4, y5], _ =>
      simp only [Prod.mk.injEq] at hx
      exact ⟨c0, c1, c2, c3, c4, c5, y0, y1, y2, y3, y4, y5, n, rfl, by simpa using hx.1, by simpa using hx.2, by simpa [Value.cells, o0, k0] using hg 0 f0 rfl, by simpa [Value.cells, o1, k1] using hg 1 f1 rfl, by simpa [Value.cells, o2, k2] using hg 2 f2 rfl, by simpa [Value.cells, o3, k3] using hg 3 f3 rfl, by simpa [Value.cells, o4, k4] using hg 4 f4 rfl, by simpa [Value.cells, o5, k5] using hg 5 f5 rfl⟩

theorem open_agg7 {r : Reach} {b0 : Nat} {t : TypeId} {f0 f1 f2 f3 f4 f5 f6 : Field} {v : Value} {d : DataW H} {p : List MemPlace} (hs : P.underlying t = some (.struct #[f0, f1, f2, f3, f4, f5, f6])) (hone : oneCellFields P #[f0, f1, f2, f3, f4, f5, f6] = true) (hC : P.cellsOf t = 7)
    (hv : Value.okWide P w r b0 t v) (h : DataW.Trod enc P w base spare held t v d p) :
    ∃ (v0 v1 v2 v3 v4 v5 v6 : Value) (y0 y1 y2 y3 y4 y5 y6 : DataW H × List MemPlace) (n : Nat), v = .agg #[v0, v1, v2, v3, v4, v5, v6] ∧ d = .agg [y0.1, y1.1, y2.1, y3.1, y4.1, y5.1, y6.1] ∧ p = y0.2 ++ (y1.2 ++ (y2.2 ++ (y3.2 ++ (y4.2 ++ (y5.2 ++ y6.2))))) ∧
      DataW.trod enc P w base spare held n f0.type [v0] = some y0 ∧ DataW.trod enc P w base spare held n f1.type [v1] = some y1 ∧ DataW.trod enc P w base spare held n f2.type [v2] = some y2 ∧ DataW.trod enc P w base spare held n f3.type [v3] = some y3 ∧ DataW.trod enc P w base spare held n f4.type [v4] = some y4 ∧ DataW.trod enc P w base spare held n f5.type [v5] = some y5 ∧ DataW.trod enc P w base spare held n f6.type [v6] = some y6 := by
  obtain ⟨cs, rfl, hsz⟩ := okWide_struct hs hv
  obtain ⟨l⟩ := cs
  match l, hsz.trans hC with
  | [c0, c1, c2, c3, c4, c5, c6], _ =>
    obtain ⟨fuel, hf⟩ := h
    obtain ⟨xs, n, _, hx, _, hlen, hg⟩ := DataW.trod_struct hs hf
    obtain ⟨o0, k0⟩ := hone_of hone 0 f0 rfl
    obtain ⟨o1, k1⟩ := hone_of hone 1 f1 rfl
    obtain ⟨o2, k2⟩ := hone_of hone 2 f2 rfl
    obtain ⟨o3, k3⟩ := hone_of hone 3 f3 rfl
    obtain ⟨o4, k4⟩ := hone_of hone 4 f4 rfl
    obtain ⟨o5, k5⟩ := hone_of hone 5 f5 rfl
    obtain ⟨o6, k6⟩ := hone_of hone 6 f6 rfl
    match xs, hlen with
    | [y0, y1, y2, y3, y4, y5, y6], _ =>
      simp only [Prod.mk.injEq] at hx
      exact ⟨c0, c1, c2, c3, c4, c5, c6, y0, y1, y2, y3, y4, y5, y6, n, rfl, by simpa using hx.1, by simpa using hx.2, by simpa [Value.cells, o0, k0] using hg 0 f0 rfl, by simpa [Value.cells, o1, k1] using hg 1 f1 rfl, by simpa [Value.cells, o2, k2] using hg 2 f2 rfl, by simpa [Value.cells, o3, k3] using hg 3 f3 rfl, by simpa [Value.cells, o4, k4] using hg 4 f4 rfl, by simpa [Value.cells, o5, k5] using hg 5 f5 rfl, by simpa [Value.cells, o6, k6] using hg 6 f6 rfl⟩

end
end Go.Proofs.YtokpgopdkimmmaaGreatDoor
/- An argument that is a slice of operations, opened: operations in memory. -/
namespace Go.Proofs.YtokpgopdkimmmaaGreatDoor
open Go.ChangeShapes Go.WideShapes Go.Deep
set_option linter.unusedVariables false

section
variable {H : Type} {enc : TypeId × Value → H} {P : Program} {w : World} {base : Nat} {spare : Nat → Bool} {held : Bool}
theorem open_slice_fields {t e : TypeId} {fs : Array Field} {fuel : Nat} {cs : List Value} {x : DataW H × List MemPlace} (ht : P.underlying t = some (.slice e)) (he : P.underlying e = some (.struct fs))
    (hone : oneCellFields P fs = true) (hC : P.cellsOf e = fs.size) (h : DataW.trod enc P w base spare held fuel t cs = some x) :
    (cs = [.slice none 0 0] ∧ x = (.nil, [])) ∨
    ∃ (a : Addr) (len cap m : Nat) (D : Nat → DataW H) (Pl : Nat → List MemPlace), cs = [.slice (some a) len cap] ∧ base ≤ a.block ∧ len ≤ cap ∧ cap ≤ maxLen ∧ m = (if spare a.block then cap else len) ∧
      x = (.slice ((List.range len).map D) ((List.range (m - len)).map fun j => D (len + j)), MemPlace.row a (m * fs.size) ++ (List.range m).flatMap Pl) ∧
      ∀ i, i < m → ∃ (ys : List (DataW H × List MemPlace)) (n : Nat), D i = .agg (ys.map (·.1)) ∧ Pl i = ys.flatMap (·.2) ∧ ys.length = fs.size ∧
        ∀ (j : Nat) (f : Field), fs[j]? = some f → ∃ (v : Value) (y : DataW H × List MemPlace), w.cell? (a.add (i * fs.size + j)) = some v ∧ ys[j]? = some y ∧ DataW.trod enc P w base spare held n f.type [v] = some y := by
  rcases open_slice ht h with h0 | ⟨a, len, cap, m, n, D, Pl, hcs, hb, hl, hm, hmm, hx, hi⟩
  · exact .inl h0
  · refine .inr ⟨a, len, cap, m, D, Pl, hcs, hb, hl, hm, hmm, by rw [hC] at hx; exact hx, fun i him => ?_⟩
    obtain ⟨cs', hc, ht'⟩ := hi i him
    rw [hC] at hc
    obtain ⟨ys, n', hn', hy, hlen, hyl, hf⟩ := DataW.trod_struct he ht'
    obtain ⟨_, hcl, hat⟩ := World.cells?_some hc
    simp only [Prod.mk.injEq] at hy
    refine ⟨ys, n', hy.1, hy.2, hyl, fun j f hj => ?_⟩
    obtain ⟨ho, hk⟩ := hone_of hone j f hj
    have hjl : j < fs.size := (Array.getElem?_eq_some_iff.1 hj).1
    have hcell := hat j hjl
    have hv : cs'[j]? = some (cs'[j]'(by omega)) := List.getElem?_eq_getElem (by omega)
    have h1 := hf j f hj
    rw [ho, hk] at h1
    have hone' : (cs'.drop j).take 1 = [cs'[j]'(by omega)] := by
      rw [List.drop_eq_getElem_cons (by omega)]
      rfl
    rw [hone'] at h1
    have hys : ys[j]? = some (ys[j]'(by omega)) := List.getElem?_eq_getElem (by omega)
    refine ⟨_, _, ?_, hys, h1.trans hys⟩
    rw [← Go.Deep.add_add, hcell, hv]
end

theorem in64_wf {n : Int} (h : (Lit.int .i64 n).wf = true) : In64 n := by
  simp only [Lit.wf, Bool.and_eq_true, decide_eq_true_eq] at h
  exact ⟨h.1, Int.lt_of_le_of_lt h.2 (by decide)⟩
theorem opV_of {k a b c d i : Int} (hk : (Lit.int .u8 k).wf = true) (ha : (Lit.int .i64 a).wf = true) (hb : (Lit.int .i64 b).wf = true) (hc : (Lit.int .i64 c).wf = true) (hd : (Lit.int .i64 d).wf = true) (hi : (Lit.int .u32 i).wf = true) :
    ∃ o : OpV, o.ok ∧ o.cells = #[.int .u8 k, .int .i64 a, .int .i64 b, .int .i64 c, .int .i64 d, .int .u32 i] := by
  simp only [Lit.wf, Bool.and_eq_true, decide_eq_true_eq] at hk hi
  have hk2 : 0 ≤ k ∧ k < 256 := ⟨hk.1, Int.lt_of_le_of_lt hk.2 (by decide)⟩
  have hi2 : 0 ≤ i ∧ i < 4294967296 := ⟨hi.1, Int.lt_of_le_of_lt hi.2 (by decide)⟩
  refine ⟨⟨k.toNat, a, b, c, d, i.toNat⟩, ⟨?_, in64_wf ha, in64_wf hb, in64_wf hc, in64_wf hd, ?_⟩, ?_⟩
  · show k.toNat < 256; omega
  · show i.toNat < 4294967296; omega
  · show #[Value.int .u8 (k.toNat : Int), _, _, _, _, Value.int .u32 (i.toNat : Int)] = _
    rw [Int.toNat_of_nonneg hk2.1, Int.toNat_of_nonneg hi2.1]
set_option maxRecDepth 100000 in
theorem open_ops_sl {H : Type} {enc : TypeId × Value → H} {W : World} {a0 : Option Addr} {len0 cap0 : Nat} {d : DataW H} {p : List MemPlace}
    (h : DataW.Trod enc Tryz.prog W 0 (fun _ => true) true 25 (.slice a0 len0 cap0) d p) :
    ∃ (ls : List OpV) (A : Option Addr) (cap : Nat), Value.slice a0 len0 cap0 = .slice A ls.length cap ∧ OpRow W A ls ∧ ls.length ≤ cap ∧ cap ≤ maxLen ∧ (∀ o ∈ ls, o.ok) ∧ (cap = 0 ∨ ∃ el sp, d = .slice el sp ∧ el.length + sp.length = cap) := by
  obtain ⟨fuel, hf⟩ := h
  rcases open_slice_fields Tryz.underlying25 Tryz.underlying24 (by kernel_rfl) (by kernel_rfl) hf with ⟨h0, hx⟩ | ⟨a, len, cap, m, D, Pl, hcs, hb, hl, hm, hmm, hx, hi⟩
  · simp only [Value.cells, List.cons.injEq, and_true, Value.slice.injEq] at h0
    obtain ⟨rfl, rfl, rfl⟩ := h0
    exact ⟨[], none, 0, rfl, .inl rfl, Nat.le_refl _, Nat.zero_le _, (by intro n hn; cases hn), .inl rfl⟩
  · simp only [Value.cells, List.cons.injEq, and_true, Value.slice.injEq] at hcs
    obtain ⟨rfl, rfl, rfl⟩ := hcs
    simp only [if_true] at hmm
    subst hmm
    simp only [Prod.mk.injEq] at hx
    have key : ∀ i, i < len0 → ∃ o : OpV, o.ok ∧ ∀ j, j < 6 → W.cell? (a.add (i * 6 + j)) = o.cells[j]? := by
      intro i hlt
      obtain ⟨ys, n', _, _, _, hf⟩ := hi i (by omega)
      obtain ⟨v0, y0, c0, _, t0⟩ := hf 0 _ rfl
      obtain ⟨v1, y1, c1, _, t1⟩ := hf 1 _ rfl
      obtain ⟨v2, y2, c2, _, t2⟩ := hf 2 _ rfl
      obtain ⟨v3, y3, c3, _, t3⟩ := hf 3 _ rfl
      obtain ⟨v4, y4, c4, _, t4⟩ := hf 4 _ rfl
      obtain ⟨v5, y5, c5, _, t5⟩ := hf 5 _ rfl
      obtain ⟨n0, e0, _, g0⟩ := DataW.trod_int Tryz.underlying5 t0
      obtain ⟨n1, e1, _, g1⟩ := DataW.trod_int Tryz.underlying2 t1
      obtain ⟨n2, e2, _, g2⟩ := DataW.trod_int Tryz.underlying2 t2
      obtain ⟨n3, e3, _, g3⟩ := DataW.trod_int Tryz.underlying2 t3
      obtain ⟨n4, e4, _, g4⟩ := DataW.trod_int Tryz.underlying2 t4
      obtain ⟨n5, e5, _, g5⟩ := DataW.trod_int Tryz.underlying22 t5
      simp only [List.cons.injEq, and_true] at e0 e1 e2 e3 e4 e5
      subst e0 e1 e2 e3 e4 e5
      obtain ⟨o, ho, hcells⟩ := opV_of g0 g1 g2 g3 g4 g5
      refine ⟨o, ho, fun j hj => ?_⟩
      rw [hcells]
      match j, hj with
      | 0, _ => exact c0
      | 1, _ => exact c1
      | 2, _ => exact c2
      | 3, _ => exact c3
      | 4, _ => exact c4
      | 5, _ => exact c5
    have hch : ∃ f : Nat → OpV, ∀ i, i < len0 → (f i).ok ∧ ∀ j, j < 6 → W.cell? (a.add (i * 6 + j)) = (f i).cells[j]? :=
      ⟨fun i => if h : i < len0 then Classical.choose (key i h) else codeOnly 0, fun i hlt => by simp only [hlt, dif_pos]; exact Classical.choose_spec (key i hlt)⟩
    obtain ⟨f, hf2⟩ := hch
    have hlen : ((List.range len0).map f).length = len0 := by simp
    refine ⟨(List.range len0).map f, some a, m, by rw [hlen], ?_, by rw [hlen]; exact hl, hm, ?_, .inr ⟨_, _, hx.1, by simp; omega⟩⟩
    · by_cases hz : len0 = 0
      · left; subst hz; rfl
      · right
        have h0 := (hf2 0 (by omega)).2 0 (by omega)
        obtain ⟨b, off, sp⟩ := a
        have hsp : sp = none := by
          rw [show (0 * 6 + 0) = 0 from rfl] at h0
          cases sp with
          | none => rfl
          | some x =>
            unfold World.cell? Addr.add at h0
            simp only [if_true, Option.isSome_some] at h0
            split at h0 <;> simp at h0
        subst hsp
        have hbl : b < W.heap.size := by
          have h1 : W.cell? ⟨b, off, none⟩ = some (.int .u8 ((f 0).k : Int)) := by
            have : (⟨b, off, none⟩ : Addr).add (0 * 6 + 0) = ⟨b, off, none⟩ := by simp [Addr.add]
            rw [← this]; exact h0
          exact World.block_lt_of_cell? _ _ h1
        refine ⟨b, off, rfl, hbl, fun i x hx' j hj => ?_⟩
        have hi' : i < len0 := by have := (List.getElem?_eq_some_iff.1 hx').1; rwa [hlen] at this
        rw [List.getElem?_map, List.getElem?_range hi'] at hx'
        obtain rfl : f i = x := by simpa using hx'
        have h1 := (hf2 i hi').2 j hj
        rw [← h1]
        unfold Addr.add
        split
        · rename_i hz'; rw [show i * 6 = 0 by omega, show j = 0 by omega]; rfl
        · rw [Nat.add_assoc]
    · intro n hn
      obtain ⟨i, hi', rfl⟩ := List.mem_map.1 hn
      exact (hf2 i (List.mem_range.1 hi')).1
set_option maxRecDepth 100000 in
theorem open_ops {H : Type} {enc : TypeId × Value → H} {W : World} {b0 : Nat} {r : Reach} {v : Value} {d : DataW H} {p : List MemPlace}
    (hv : Value.okWide Tryz.prog W r b0 25 v) (h : DataW.Trod enc Tryz.prog W 0 (fun _ => true) true 25 v d p) :
    ∃ (ls : List OpV) (A : Option Addr) (cap : Nat), v = .slice A ls.length cap ∧ OpRow W A ls ∧ ls.length ≤ cap ∧ cap ≤ maxLen ∧ (∀ o ∈ ls, o.ok) ∧ (cap = 0 ∨ ∃ el sp, d = .slice el sp ∧ el.length + sp.length = cap) := by
  obtain ⟨a0, len0, cap0, rfl⟩ := okWide_slice Tryz.underlying25 hv
  exact open_ops_sl h
theorem bytesOp : Tryz.prog.bytesOf 24 = 48 := by kernel_rfl
/-- The form's own reach bounds how many operations come in. -/
theorem ops_reach {H : Type} {ts : List TypeId} {ds : List (DataW H)} {j n cap : Nat} {d : DataW H} (hsz : (DataW.weightsEach Tryz.prog ts ds).all (· ≤ reachBytes) = true) (ht : ts[j]? = some 25) (hd : ds[j]? = some d) (hc : n ≤ cap) (h : cap = 0 ∨ ∃ el sp, d = .slice el sp ∧ el.length + sp.length = cap) : n ≤ 1000000000000000 := by
  rcases h with h | ⟨el, sp, rfl, h⟩
  · omega
  · have g := sized_slice hsz ht hd Tryz.underlying25
    rw [h, bytesOp] at g
    unfold reachBytes at g
    omega
set_option maxRecDepth 100000 in
/-- An operation by value. -/
theorem open_op {H : Type} {enc : TypeId × Value → H} {W : World} {b0 : Nat} {r : Reach} {v : Value} {d : DataW H} {p : List MemPlace}
    (hv : Value.okWide Tryz.prog W r b0 24 v) (h : DataW.Trod enc Tryz.prog W 0 (fun _ => true) true 24 v d p) : ∃ o : OpV, v = o.val ∧ o.ok := by
  obtain ⟨v0, v1, v2, v3, v4, v5, y0, y1, y2, y3, y4, y5, n, rfl, _, _, t0, t1, t2, t3, t4, t5⟩ := open_agg6 Tryz.underlying24 (by kernel_rfl) (by kernel_rfl) hv h
  obtain ⟨n0, e0, _, g0⟩ := DataW.trod_int Tryz.underlying5 t0
  obtain ⟨n1, e1, _, g1⟩ := DataW.trod_int Tryz.underlying2 t1
  obtain ⟨n2, e2, _, g2⟩ := DataW.trod_int Tryz.underlying2 t2
  obtain ⟨n3, e3, _, g3⟩ := DataW.trod_int Tryz.underlying2 t3
  obtain ⟨n4, e4, _, g4⟩ := DataW.trod_int Tryz.underlying2 t4
  obtain ⟨n5, e5, _, g5⟩ := DataW.trod_int Tryz.underlying22 t5
  simp only [List.cons.injEq, and_true] at e0 e1 e2 e3 e4 e5
  subst e0 e1 e2 e3 e4 e5
  obtain ⟨o, ho, hcells⟩ := opV_of g0 g1 g2 g3 g4 g5
  exact ⟨o, by rw [OpV.val, hcells], ho⟩
theorem bytesCells : Tryz.prog.cellsOf 5 = 1 := by kernel_rfl
set_option maxRecDepth 100000 in
/-- A slice of bytes, opened: bytes in memory. -/
theorem open_bytesR_sl {H : Type} {enc : TypeId × Value → H} {W : World} {a0 : Option Addr} {len0 cap0 : Nat} {d : DataW H} {p : List MemPlace}
    (h : DataW.Trod enc Tryz.prog W 0 (fun _ => true) true 26 (.slice a0 len0 cap0) d p) :
    ∃ (l : List Nat) (A : Option Addr) (cap : Nat), Value.slice a0 len0 cap0 = .slice A l.length cap ∧ RecRow W bcell 1 A l ∧ l.length ≤ cap ∧ cap ≤ maxLen ∧ ∀ x ∈ l, x < 256 := by
  obtain ⟨fuel, hf⟩ := h
  rcases open_ints Tryz.underlying26 Tryz.underlying5 bytesCells hf with ⟨hcs, hx⟩ | ⟨a, len', cap', zs, hcs, _, hl, hm, hz, hx, hcell, hwz⟩
  · simp only [Value.cells, List.cons.injEq, and_true, Value.slice.injEq] at hcs
    obtain ⟨rfl, rfl, rfl⟩ := hcs
    exact ⟨[], none, 0, rfl, .inl rfl, Nat.le_refl _, Nat.zero_le _, by simp⟩
  · simp only [Value.cells, List.cons.injEq, and_true, Value.slice.injEq] at hcs
    obtain ⟨rfl, rfl, rfl⟩ := hcs
    simp only [if_true] at hz
    have hlen : ((zs.take len0).map Int.toNat).length = len0 := by rw [List.length_map, List.length_take]; omega
    have hnn : ∀ n ∈ zs, 0 ≤ n ∧ n < 256 := fun n hn => by
      have := hwz n hn
      simp only [Lit.wf, Bool.and_eq_true, decide_eq_true_eq] at this
      exact ⟨this.1, Int.lt_of_le_of_lt this.2 (by decide)⟩
    refine ⟨(zs.take len0).map Int.toNat, some a, cap0, by rw [hlen], ?_, by rw [hlen]; exact hl, hm, ?_⟩
    · rcases Nat.eq_zero_or_pos len0 with h0 | h0
      · left; subst h0; simp
      · have hc0 := hcell 0 (by omega)
        obtain ⟨b, off, sp⟩ := a
        have hsp : sp = none := by
          cases sp with
          | none => rfl
          | some x =>
            unfold World.cell? Addr.add at hc0
            simp only [if_true, Option.isSome_some] at hc0
            split at hc0 <;> simp at hc0
        subst hsp
        have hbl : b < W.heap.size := by
          have h1 : W.cell? ⟨b, off, none⟩ = some (.int .u8 (zs.getD 0 0)) := by
            have : (⟨b, off, none⟩ : Addr).add 0 = ⟨b, off, none⟩ := by simp [Addr.add]
            rw [← this]; exact hc0
          exact World.block_lt_of_cell? _ _ h1
        refine .inr ⟨b, off, rfl, hbl, fun i x hx' j hj => ?_⟩
        obtain rfl : j = 0 := by omega
        have hi' : i < len0 := by have := (List.getElem?_eq_some_iff.1 hx').1; rwa [hlen] at this
        rw [List.getElem?_map, List.getElem?_take_of_lt hi', List.getElem?_eq_getElem (by omega)] at hx'
        obtain rfl : zs[i].toNat = x := by simpa using hx'
        have h1 := hcell i (by omega)
        have h2 : zs.getD i 0 = zs[i] := by simp [List.getD, List.getElem?_eq_getElem (show i < zs.length by omega)]
        have h3 := hnn zs[i] (List.getElem_mem _)
        rw [h2] at h1
        show W.cell? ⟨b, off + i * 1 + 0, none⟩ = some (.int .u8 (zs[i].toNat : Int))
        rw [Int.toNat_of_nonneg h3.1, ← h1, Nat.mul_one, Nat.add_zero]
        unfold Addr.add
        split
        · rename_i hz'; rw [hz', Nat.add_zero]
        · rfl
    · intro x hx'
      obtain ⟨n, hn, rfl⟩ := List.mem_map.1 hx'
      have := hnn n (List.mem_of_mem_take hn)
      omega
set_option maxRecDepth 100000 in
theorem open_bytesR {H : Type} {enc : TypeId × Value → H} {W : World} {b0 : Nat} {r : Reach} {v : Value} {d : DataW H} {p : List MemPlace}
    (hv : Value.okWide Tryz.prog W r b0 26 v) (h : DataW.Trod enc Tryz.prog W 0 (fun _ => true) true 26 v d p) :
    ∃ (l : List Nat) (A : Option Addr) (cap : Nat), v = .slice A l.length cap ∧ RecRow W bcell 1 A l ∧ l.length ≤ cap ∧ cap ≤ maxLen ∧ ∀ x ∈ l, x < 256 := by
  obtain ⟨a0, len0, cap0, rfl⟩ := okWide_slice Tryz.underlying26 hv
  exact open_bytesR_sl h
end Go.Proofs.YtokpgopdkimmmaaGreatDoor
/- An argument that holds operations, bytes, a line, a reply, opened. -/
namespace Go.Proofs.YtokpgopdkimmmaaGreatDoor
open Go.ChangeShapes Go.WideShapes Go.Deep
set_option linter.unusedVariables false

theorem idsCells : Tryz.prog.cellsOf 22 = 1 := by kernel_rfl
set_option maxRecDepth 100000 in
theorem open_idsR_sl {H : Type} {enc : TypeId × Value → H} {W : World} {a0 : Option Addr} {len0 cap0 : Nat} {d : DataW H} {p : List MemPlace}
    (h : DataW.Trod enc Tryz.prog W 0 (fun _ => true) true 28 (.slice a0 len0 cap0) d p) :
    ∃ (l : List Nat) (A : Option Addr) (cap : Nat), Value.slice a0 len0 cap0 = .slice A l.length cap ∧ RecRow W ucell 1 A l ∧ l.length ≤ cap ∧ cap ≤ maxLen ∧ ∀ x ∈ l, x < 4294967296 := by
  obtain ⟨fuel, hf⟩ := h
  rcases open_ints Tryz.underlying28 Tryz.underlying22 idsCells hf with ⟨hcs, hx⟩ | ⟨a, len', cap', zs, hcs, _, hl, hm, hz, hx, hcell, hwz⟩
  · simp only [Value.cells, List.cons.injEq, and_true, Value.slice.injEq] at hcs
    obtain ⟨rfl, rfl, rfl⟩ := hcs
    exact ⟨[], none, 0, rfl, .inl rfl, Nat.le_refl _, Nat.zero_le _, by simp⟩
  · simp only [Value.cells, List.cons.injEq, and_true, Value.slice.injEq] at hcs
    obtain ⟨rfl, rfl, rfl⟩ := hcs
    simp only [if_true] at hz
    have hlen : ((zs.take len0).map Int.toNat).length = len0 := by rw [List.length_map, List.length_take]; omega
    have hnn : ∀ n ∈ zs, 0 ≤ n ∧ n < 4294967296 := fun n hn => by
      have := hwz n hn
      simp only [Lit.wf, Bool.and_eq_true, decide_eq_true_eq] at this
      exact ⟨this.1, Int.lt_of_le_of_lt this.2 (by decide)⟩
    refine ⟨(zs.take len0).map Int.toNat, some a, cap0, by rw [hlen], ?_, by rw [hlen]; exact hl, hm, ?_⟩
    · rcases Nat.eq_zero_or_pos len0 with h0 | h0
      · left; subst h0; simp
      · have hc0 := hcell 0 (by omega)
        obtain ⟨b, off, sp⟩ := a
        have hsp : sp = none := by
          cases sp with
          | none => rfl
          | some x =>
            unfold World.cell? Addr.add at hc0
            simp only [if_true, Option.isSome_some] at hc0
            split at hc0 <;> simp at hc0
        subst hsp
        have hbl : b < W.heap.size := by
          have h1 : W.cell? ⟨b, off, none⟩ = some (.int .u32 (zs.getD 0 0)) := by
            have : (⟨b, off, none⟩ : Addr).add 0 = ⟨b, off, none⟩ := by simp [Addr.add]
            rw [← this]; exact hc0
          exact World.block_lt_of_cell? _ _ h1
        refine .inr ⟨b, off, rfl, hbl, fun i x hx' j hj => ?_⟩
        obtain rfl : j = 0 := by omega
        have hi' : i < len0 := by have := (List.getElem?_eq_some_iff.1 hx').1; rwa [hlen] at this
        rw [List.getElem?_map, List.getElem?_take_of_lt hi', List.getElem?_eq_getElem (by omega)] at hx'
        obtain rfl : zs[i].toNat = x := by simpa using hx'
        have h1 := hcell i (by omega)
        have h2 : zs.getD i 0 = zs[i] := by simp [List.getD, List.getElem?_eq_getElem (show i < zs.length by omega)]
        have h3 := hnn zs[i] (List.getElem_mem _)
        rw [h2] at h1
        show W.cell? ⟨b, off + i * 1 + 0, none⟩ = some (.int .u32 (zs[i].toNat : Int))
        rw [Int.toNat_of_nonneg h3.1, ← h1, Nat.mul_one, Nat.add_zero]
        unfold Addr.add
        split
        · rename_i hz'; rw [hz', Nat.add_zero]
        · rfl
    · intro x hx'
      obtain ⟨n, hn, rfl⟩ := List.mem_map.1 hx'
      have := hnn n (List.mem_of_mem_take hn)
      omega

theorem slice_shape {H : Type} {enc : TypeId × Value → H} {P : Program} {w : World} {t e : TypeId} {fuel : Nat} {v : Value} {x : DataW H × List MemPlace} (ht : P.underlying t = some (.slice e)) (h : DataW.trod enc P w 0 (fun _ => true) true fuel t [v] = some x) : ∃ a n c, v = .slice a n c ∧ DataW.Trod enc P w 0 (fun _ => true) true t (.slice a n c) x.1 x.2 := by
  rcases open_slice ht h with ⟨h0, _⟩ | ⟨a, len, cap, m, n, D, Pl, hcs, _⟩
  · obtain rfl : v = .slice none 0 0 := by simpa using h0
    exact ⟨_, _, _, rfl, fuel, h⟩
  · obtain rfl : v = .slice (some a) len cap := by simpa using hcs
    exact ⟨_, _, _, rfl, fuel, h⟩
theorem u64_wf {n : Int} (h : (Lit.int .u64 n).wf = true) : 0 ≤ n ∧ n < 18446744073709551616 := by
  simp only [Lit.wf, Bool.and_eq_true, decide_eq_true_eq] at h
  exact ⟨h.1, Int.lt_of_le_of_lt h.2 (by decide)⟩
set_option maxRecDepth 100000 in
set_option maxHeartbeats 1000000 in
theorem open_asked {H : Type} {enc : TypeId × Value → H} {W : World} {b0 : Nat} {rr : Reach} {v : Value} {d : DataW H} {p : List MemPlace}
    (hv : Value.okWide Tryz.prog W rr b0 35 v) (h : DataW.Trod enc Tryz.prog W 0 (fun _ => true) true 35 v d p) :
    ∃ (L : List OpV) (LA : Option Addr) (lc : Nat) (B : List Nat) (BA : Option Addr) (bc : Nat) (s : ByteArray) (r : RepV) (IA : Option Addr) (ic : Nat),
      v = .agg #[.slice LA L.length lc, .slice BA B.length bc, .string s, .int .i64 r.err, .slice IA r.ids.length ic, .int .i64 r.cnt, .bool r.yes, .int .u64 ((r.wide / 18446744073709551616 : Nat) : Int), .int .u64 ((r.wide % 18446744073709551616 : Nat) : Int)] ∧
      OpRow W LA L ∧ (∀ x ∈ L, x.ok) ∧ L.length ≤ 9223372036854775807 ∧ RecRow W bcell 1 BA B ∧ B.length ≤ bc ∧ bc ≤ maxLen ∧ (∀ x ∈ B, x < 256) ∧ s.size ≤ maxLen ∧ RecRow W ucell 1 IA r.ids ∧ r.ids.length ≤ 9223372036854775807 ∧ r.ok := by
  obtain ⟨cs, rfl, hsz⟩ := okWide_struct Tryz.underlying35 hv
  obtain ⟨l⟩ := cs
  have hC : Tryz.prog.cellsOf 35 = 9 := by kernel_rfl
  match l, hsz.trans hC with
  | [c0, c1, c2, c3, c4, c5, c6, c7, c8], _ =>
    obtain ⟨fuel, hf⟩ := h
    obtain ⟨xs, n, _, hx, _, hlen, hg⟩ := DataW.trod_struct Tryz.underlying35 hf
    match xs, hlen with
    | [y0, y1, y2, y3], _ =>
      have g0 : DataW.trod enc Tryz.prog W 0 (fun _ => true) true n 25 [c0] = some y0 := hg 0 _ rfl
      have g1 : DataW.trod enc Tryz.prog W 0 (fun _ => true) true n 26 [c1] = some y1 := hg 1 _ rfl
      have g2 : DataW.trod enc Tryz.prog W 0 (fun _ => true) true n 9 [c2] = some y2 := hg 2 _ rfl
      have g3 : DataW.trod enc Tryz.prog W 0 (fun _ => true) true n 33 [c3, c4, c5, c6, c7, c8] = some y3 := hg 3 _ rfl
      obtain ⟨zs, m, _, hz, _, hlen2, hk⟩ := DataW.trod_struct Tryz.underlying33 g3
      match zs, hlen2 with
      | [z0, z1, z2, z3, z4], _ =>
        have k0 : DataW.trod enc Tryz.prog W 0 (fun _ => true) true m 27 [c3] = some z0 := hk 0 _ rfl
        have k1 : DataW.trod enc Tryz.prog W 0 (fun _ => true) true m 28 [c4] = some z1 := hk 1 _ rfl
        have k2 : DataW.trod enc Tryz.prog W 0 (fun _ => true) true m 3 [c5] = some z2 := hk 2 _ rfl
        have k3 : DataW.trod enc Tryz.prog W 0 (fun _ => true) true m 4 [c6] = some z3 := hk 3 _ rfl
        have k4 : DataW.trod enc Tryz.prog W 0 (fun _ => true) true m 31 [c7, c8] = some z4 := hk 4 _ rfl
        obtain ⟨us, q, _, hu, _, hlen3, hw⟩ := DataW.trod_struct Tryz.underlying31 k4
        match us, hlen3 with
        | [u0, u1], _ =>
          have w0 : DataW.trod enc Tryz.prog W 0 (fun _ => true) true q 29 [c7] = some u0 := hw 0 _ rfl
          have w1 : DataW.trod enc Tryz.prog W 0 (fun _ => true) true q 29 [c8] = some u1 := hw 1 _ rfl
          obtain ⟨a0, n0, p0, rfl, t0⟩ := slice_shape Tryz.underlying25 g0
          obtain ⟨a1, n1, p1, rfl, t1⟩ := slice_shape Tryz.underlying26 g1
          obtain ⟨a4, n4, p4, rfl, t4⟩ := slice_shape Tryz.underlying28 k1
          obtain ⟨L, LA, lc, e0, rL, lcL, mxL, okL, _⟩ := open_ops_sl t0
          obtain ⟨B, BA, bc, e1, rB, lcB, mxB, okB⟩ := open_bytesR_sl t1
          obtain ⟨I, IA, ic, e4, rI, lcI, mxI, okI⟩ := open_idsR_sl t4
          obtain ⟨s, e2, _, hs⟩ := DataW.trod_string Tryz.underlying9 g2
          obtain ⟨ne, e3, _, we⟩ := DataW.trod_int Tryz.underlying27 k0
          obtain ⟨nc, e5, _, wc⟩ := DataW.trod_int Tryz.underlying3 k2
          obtain ⟨nb, e6, _⟩ := DataW.trod_bool Tryz.underlying4 k3
          obtain ⟨nh, e7, _, wh⟩ := DataW.trod_int Tryz.underlying29 w0
          obtain ⟨nl, e8, _, wl⟩ := DataW.trod_int Tryz.underlying29 w1
          simp only [List.cons.injEq, and_true] at e2 e3 e5 e6 e7 e8
          subst e2 e3 e5 e6 e7 e8
          have hh := u64_wf wh
          have hl := u64_wf wl
          have d1 : ((nh.toNat * 18446744073709551616 + nl.toNat : Nat) / 18446744073709551616 : Nat) = nh.toNat := by omega
          have d2 : ((nh.toNat * 18446744073709551616 + nl.toNat : Nat) % 18446744073709551616 : Nat) = nl.toNat := by omega
          refine ⟨L, LA, lc, B, BA, bc, s, ⟨ne, I, nc, nb, nh.toNat * 18446744073709551616 + nl.toNat⟩, IA, ic, ?_, rL, okL, ?_, rB, lcB, mxB, okB, hs, rI, ?_, ⟨in64_wf we, in64_wf wc, okI, ?_⟩⟩
          · simp only
            rw [e0, e1, e4, d1, d2, Int.toNat_of_nonneg hh.1, Int.toNat_of_nonneg hl.1]
          · unfold maxLen at mxL; omega
          · unfold maxLen at mxI; simp only; omega
          · show nh.toNat * 18446744073709551616 + nl.toNat < 340282366920938463463374607431768211456
            have := hh.2
            have := hl.2
            omega
end Go.Proofs.YtokpgopdkimmmaaGreatDoor
