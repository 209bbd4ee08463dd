/- ARGUMENTS, opened: an act, a slice of acts (layer 5). -/
import Derived.Test.YtlikggeceeennaaK6
import Derived.Test.YtlikggeceeennaaProg
import Derived.Test.YtlikggeceeennaaChecked
set_option linter.unusedVariables false
set_option linter.unusedSimpArgs false
namespace Go.Proofs.Ytlikggeceeennaa
open Go Go.RowKit Go.ChangeShapes Go.WideShapes Go.ChangeAt Go.Deep Go.Joins Hach

structure ActV where
  kind : Int
  page : Int
  seed : UInt8
  short : Bool
def actCells (a : ActV) : List Value := [.int .i64 a.kind, .int .i64 a.page, .int .u8 (n8 a.seed), .bool a.short]
def ActWf (a : ActV) : Prop := (Lit.int .i64 a.kind).wf = true ∧ (Lit.int .i64 a.page).wf = true
theorem actCells_length (a : ActV) : (actCells a).length = 4 := rfl
theorem c5_int : Try.prog.cellsOf 3 = 1 := by kernel_rfl
theorem c5_u8 : Try.prog.cellsOf 5 = 1 := by kernel_rfl
theorem c5_bool : Try.prog.cellsOf 4 = 1 := by kernel_rfl
theorem c5_act : Try.prog.cellsOf 51 = 4 := by kernel_rfl
section
variable {H : Type} {enc : TypeId × Value → H} {W : World} {base : Nat} {sp : Nat → Bool} {held : Bool}
set_option maxRecDepth 100000 in
theorem trod_act5 {fuel : Nat} {cs : List Value} {x : DataW H × List MemPlace} (h : DataW.trod enc Try.prog W base sp held fuel 51 cs = some x) :
    ∃ a : ActV, cs = actCells a ∧ ActWf a := by
  obtain ⟨y0, y1, y2, y3, n, _, hl, h0, h1, h2, h3⟩ := trod_struct4 Try.underlying51 h
  rw [c5_act] at hl
  match cs, hl with
  | [a, b, c, d], _ =>
    simp only [c5_int, c5_u8, c5_bool, List.drop_zero, List.take_succ_cons, List.take_zero, List.drop_succ_cons] at h0 h1 h2 h3
    obtain ⟨p, e0, _, w0⟩ := DataW.trod_int Try.underlying3 h0
    obtain ⟨q, e1, _, w1⟩ := DataW.trod_int Try.underlying3 h1
    obtain ⟨r, e2, _, w2⟩ := DataW.trod_int Try.underlying5 h2
    obtain ⟨s, e3, _⟩ := DataW.trod_bool Try.underlying4 h3
    obtain ⟨bt, rfl⟩ := n8_of w2
    injection e0 with e0; injection e1 with e1; injection e2 with e2; injection e3 with e3
    subst e0; subst e1; subst e2; subst e3
    exact ⟨⟨p, q, bt, s⟩, rfl, w0, w1⟩
set_option maxRecDepth 100000 in
theorem open_act5 {b0 : Nat} {v : Value} {d : DataW H} {ps : List MemPlace} (hok : Value.okWide Try.prog W .any b0 51 v) (h : DataW.Trod enc Try.prog W base sp held 51 v d ps) :
    ∃ a : ActV, v = .agg #[.int .i64 a.kind, .int .i64 a.page, .int .u8 (n8 a.seed), .bool a.short] ∧ ActWf a := by
  obtain ⟨cs, rfl, _⟩ := okWide_struct Try.underlying51 hok
  obtain ⟨fuel, hf⟩ := h
  obtain ⟨a, e, hw⟩ := trod_act5 hf
  refine ⟨a, ?_, hw⟩
  cases cs
  simp only [Value.cells] at e
  rw [e]; rfl
set_option maxRecDepth 100000 in
theorem open_acts5 {b0 : Nat} {v : Value} {d : DataW H} {ps : List MemPlace} (hok : Value.okWide Try.prog W .any b0 49 v) (h : DataW.Trod enc Try.prog W base sp held 49 v d ps) :
    ∃ (A : Option Addr) (l : List ActV) (c : Nat), v = .slice A l.length c ∧ l.length ≤ 9223372036854775807 ∧ Rd W A (l.flatMap actCells) ∧ l.length ≤ c ∧ ∀ a ∈ l, ActWf a :=
  open_rows actCells ActWf 4 actCells_length (by decide) Try.underlying49 c5_act (fun h => trod_act5 h) hok h
end
end Go.Proofs.Ytlikggeceeennaa
