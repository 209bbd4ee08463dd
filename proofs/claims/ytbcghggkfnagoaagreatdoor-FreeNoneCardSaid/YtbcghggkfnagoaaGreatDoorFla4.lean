/- ARGUMENTS, opened: an act of layer 8. -/
import Derived.Test.YtbcghggkfnagoaaGreatDoorFla3
import Derived.Test.YtbcghggkfnagoaaGreatDoorK2
set_option linter.unusedVariables false
set_option linter.unusedSimpArgs false
namespace Go.Proofs.YtbcghggkfnagoaaGreatDoor
open Go Go.RowKit Go.ChangeShapes Go.WideShapes Go.ChangeAt Go.Deep Go.Joins Hach

theorem c8_int : Tryz.prog.cellsOf 3 = 1 := by kernel_rfl
theorem c8_act : Tryz.prog.cellsOf 101 = 3 := by kernel_rfl
section
variable {H : Type} {enc : TypeId × Value → H} {W : World} {base : Nat} {sp : Nat → Bool} {held : Bool}
theorem trod_struct3 {t : TypeId} {f0 f1 f2 : Field} {fuel : Nat} {cs : List Value} {x : DataW H × List MemPlace} (ht : Tryz.prog.underlying t = some (.struct #[f0, f1, f2])) (h : DataW.trod enc Tryz.prog W base sp held fuel t cs = some x) :
    ∃ y0 y1 y2 n, cs.length = Tryz.prog.cellsOf t ∧ DataW.trod enc Tryz.prog W base sp held n f0.type ((cs.drop f0.offset).take (Tryz.prog.cellsOf f0.type)) = some y0 ∧ DataW.trod enc Tryz.prog W base sp held n f1.type ((cs.drop f1.offset).take (Tryz.prog.cellsOf f1.type)) = some y1 ∧ DataW.trod enc Tryz.prog W base sp held n f2.type ((cs.drop f2.offset).take (Tryz.prog.cellsOf f2.type)) = some y2 := by
  obtain ⟨xs, n, _, rfl, hl, hlen, hf⟩ := DataW.trod_struct ht h
  match xs, hlen with
  | [y0, y1, y2], _ => exact ⟨y0, y1, y2, n, hl, by simpa using hf 0 f0 rfl, by simpa using hf 1 f1 rfl, by simpa using hf 2 f2 rfl⟩
set_option maxRecDepth 100000 in
theorem trod_act8 {fuel : Nat} {cs : List Value} {x : DataW H × List MemPlace} (h : DataW.trod enc Tryz.prog W base sp held fuel 101 cs = some x) : ∃ a b c : Int, cs = [.int .i64 a, .int .i64 b, .int .i64 c] := by
  obtain ⟨y0, y1, y2, n, hl, h0, h1, h2⟩ := trod_struct3 Tryz.underlying101 h
  rw [c8_act] at hl
  match cs, hl with
  | [a, b, c], _ =>
    simp only [c8_int, List.drop_zero, List.take_succ_cons, List.take_zero, List.drop_succ_cons] at h0 h1 h2
    obtain ⟨p0, e0, _, w0⟩ := DataW.trod_int Tryz.underlying3 h0
    obtain ⟨p1, e1, _, w1⟩ := DataW.trod_int Tryz.underlying3 h1
    obtain ⟨p2, e2, _, w2⟩ := DataW.trod_int Tryz.underlying3 h2
    injection e0 with e0; injection e1 with e1; injection e2 with e2
    subst e0; subst e1; subst e2
    exact ⟨p0, p1, p2, rfl⟩
set_option maxRecDepth 100000 in
theorem open_act8 {b0 : Nat} {v : Value} {d : DataW H} {ps : List MemPlace} (hok : Value.okWide Tryz.prog W .any b0 101 v) (h : DataW.Trod enc Tryz.prog W base sp held 101 v d ps) :
    ∃ a b c : Int, v = .agg #[.int .i64 a, .int .i64 b, .int .i64 c] := by
  obtain ⟨cs, rfl, _⟩ := okWide_struct Tryz.underlying101 hok
  obtain ⟨fuel, hf⟩ := h
  obtain ⟨a, b, c, e⟩ := trod_act8 hf
  refine ⟨a, b, c, ?_⟩
  cases cs
  simp only [Value.cells] at e
  rw [e]
end
end Go.Proofs.YtbcghggkfnagoaaGreatDoor
