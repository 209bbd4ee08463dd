/- ARGUMENTS, opened: a slice of uint16. -/
import Derived.Test.YtbcghggkfnagoaaGreatDoorK6
import Derived.Test.YtbcghggkfnagoaaGreatDoorProg
import Derived.Test.YtbcghggkfnagoaaGreatDoorChecked
set_option linter.unusedVariables false
set_option linter.unusedSimpArgs false
namespace Go.Proofs.YtbcghggkfnagoaaGreatDoor
open Go Go.RowKit Go.ChangeShapes Go.WideShapes Go.ChangeAt Go.Deep Go.Joins Hach

def u16Cell (x : Nat) : List Value := [.int .u16 (x : Int)]
theorem c16_u16 : Tryz.prog.cellsOf 22 = 1 := by kernel_rfl
section
variable {H : Type} {enc : TypeId × Value → H} {W : World} {base : Nat} {sp : Nat → Bool} {held : Bool}
set_option maxRecDepth 100000 in
theorem trod_u16 {fuel : Nat} {cs : List Value} {x : DataW H × List MemPlace} (h : DataW.trod enc Tryz.prog W base sp held fuel 22 cs = some x) : ∃ a : Nat, cs = u16Cell a ∧ a < 65536 := by
  obtain ⟨p, e, _, w⟩ := DataW.trod_int Tryz.underlying22 h
  have := bounds_u16 w
  obtain ⟨a, rfl⟩ := Int.eq_ofNat_of_zero_le this.1
  exact ⟨a, e, by omega⟩
set_option maxRecDepth 100000 in
theorem open_u16s {b0 : Nat} {v : Value} {d : DataW H} {ps : List MemPlace} (hok : Value.okWide Tryz.prog W .any b0 23 v) (h : DataW.Trod enc Tryz.prog W base sp held 23 v d ps) :
    ∃ (A : Option Addr) (l : List Nat) (c : Nat), v = .slice A l.length c ∧ l.length ≤ 9223372036854775807 ∧ Rd W A (l.flatMap u16Cell) ∧ l.length ≤ c ∧ ∀ a ∈ l, a < 65536 :=
  open_rows u16Cell (fun a => a < 65536) 1 (fun _ => rfl) (by decide) Tryz.underlying23 c16_u16 (fun h => trod_u16 h) hok h
end
end Go.Proofs.YtbcghggkfnagoaaGreatDoor
