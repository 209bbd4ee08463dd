/- WORDS: bytes as a string. -/
import Derived.Test.YtbcghggkfnagoaaGreatDoorK1
import Derived.WalkKit
import Derived.Test.YtbcghggkfnagoaaGreatDoorProg
import Derived.Test.YtbcghggkfnagoaaGreatDoorChecked
set_option linter.unusedVariables false
set_option linter.unusedSimpArgs false
namespace Go.Proofs.YtbcghggkfnagoaaGreatDoor
open Go Go.RowKit Hach
def str (xs : List UInt8) : ByteArray := ⟨xs.toArray⟩
theorem str_toList (xs : List UInt8) : (str xs).toList = xs := by rw [ByteArray.toList_eq]; rfl
set_option maxRecDepth 100000 in
theorem run_conv (w : World) (A : Option Addr) (xs : List UInt8) (c : Nat) (hl : xs.length ≤ 1099511627776) (h : Bytes w A xs) : (convert 64 9 (.slice A xs.length c)).run Tryz.prog w = .ok (.string (str xs)) w := by
  cases xs with
  | nil =>
    cases A with
    | none => exact run_convert_bytes_nil (P := Tryz.prog) w 64 5 Tryz.underlying64 Tryz.underlying5 0 c 9 Tryz.underlying9
    | some a =>
      rw [run_convert_bytes_string w 64 9 5 _ _ c Tryz.underlying64 Tryz.underlying5 Tryz.underlying9]
      simp [Conv.bytesToString, loadCells, loadCellsFrom, str]
      rfl
  | cons x xs =>
    obtain ⟨b, off, rfl, _⟩ := h 0 (by simp)
    have := run_convert_bytes_arg (P := Tryz.prog) w 64 5 Tryz.underlying64 Tryz.underlying5 b off (x :: xs).length c ((x :: xs).map n8) (by simp) (by
      intro i hi
      obtain ⟨b', off', e, hc⟩ := h i hi
      injection e with e
      injection e with e1 e2 _
      subst e1; subst e2
      rw [hc, List.getD_eq_getElem?_getD, List.getElem?_map, List.getElem?_eq_getElem hi]; rfl) 9 Tryz.underlying9
    rw [this]
    congr 2
    unfold strOfNums str
    congr 1
    rw [List.map_map]
    congr 1
    conv => rhs; rw [← List.map_id (x :: xs)]
    apply List.map_congr_left
    intro y _
    unfold n8
    simp

theorem conv_n (w : World) {A : Option Addr} {X : List UInt8} {n c : Nat} (hn : Hid (X.length = n)) (hl : Hid (n ≤ 1099511627776)) (h : Hid (Bytes w A X)) : (convert 64 9 (.slice A n c)).run Tryz.prog w = .ok (.string (str X)) w := by
  have e := hn.out
  subst e
  exact run_conv w A X c hl.out h.out
theorem str_eq (X : List UInt8) : ((str X).toList == (str X).toList) = true := beq_self_eq_true _
end Go.Proofs.YtbcghggkfnagoaaGreatDoor
