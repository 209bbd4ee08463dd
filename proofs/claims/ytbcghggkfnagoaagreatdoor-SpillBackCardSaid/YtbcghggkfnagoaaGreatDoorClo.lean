/- THE WALK of slices.Clone at bytes. -/
import Derived.Test.YtbcghggkfnagoaaGreatDoorRows
import Derived.Test.YtbcghggkfnagoaaGreatDoorK1
import Derived.WalkKit
import Derived.Test.YtbcghggkfnagoaaGreatDoorProg
import Derived.Test.YtbcghggkfnagoaaGreatDoorChecked
import Derived.Lib.SliceRun
set_option linter.unusedVariables false
set_option linter.unusedSimpArgs false
namespace Go.Proofs.YtbcghggkfnagoaaGreatDoor
open Go.RowKit Hach

theorem elemB : Elem Tryz.prog 64 5 (.int .u8 0) 1 1 := ⟨Tryz.underlying64, by kernel_rfl, rfl, by decide⟩

/-- A row of bytes of the call's own. -/
def OwnB (w : World) (base : Nat) (A : Option Addr) (c : Nat) (xs : List UInt8) : Prop := w.ownsRow base 5 1 (.slice A xs.length c) xs.length (xs.map byteCell)
theorem OwnB.bytes {w : World} {base : Nat} {A : Option Addr} {c : Nat} {xs : List UInt8} (h : OwnB w base A c xs) : Bytes w A xs := Rd.bytes (Rd.own h)
/-- New bytes are handed back; nothing old has turned. -/
def RetB (w : World) (xs : List UInt8) (e : Ending) (w' : World) : Prop := ∃ A c, e = .returned (.slice A xs.length c) ∧ OwnB w' w.heap.size A c xs ∧ Below w.heap.size w w'

set_option maxHeartbeats 400000 in
theorem clone_calls (w : World) (A : Option Addr) (xs : List UInt8) (c : Nat) (hl : xs.length ≤ 1099511627776) (hc : Hid (Bytes w A xs)) :
    Calls Tryz.prog 117 #[.slice A xs.length c] w (RetB w xs) := by
  have heq := fun (w : World) (a : Option Addr) (n c n' c' : Nat) => Lib.run_eql_slice_nil (P := Tryz.prog) w 64 5 a n c n' c' Tryz.underlying64
  cases A with
  | none =>
    have h0 : xs = [] := by
      cases xs with
      | nil => rfl
      | cons x xs => obtain ⟨b, off, h, _⟩ := hc.out 0 (by simp); cases h
    subst h0
    go_enter Tryz.func117, Tryz.ntmps117
    go_wp2
    go_ret
    exact ⟨none, 0, rfl, own_nil _ _ _ _, Below.refl _ _⟩
  | some a =>
    go_enter Tryz.func117, Tryz.ntmps117
    go_wp2_with (at_builtin; refine hold ?_)
    have b1 : Below w.heap.size w (w.alloc (.cells #[] 5)) := (Below.refl _ _).alloc (Nat.le_refl _) _
    have oL := own_lit w w.heap.size 5 0 [] (Nat.le_refl _) (by decide) rfl
    refine hid (wl_append elemB rfl (.tmp 5) (.tmp 6) rfl rfl oL rfl ((hc.out.grown b1).rd) (by simp) (byteCells_one _) (by simp only [maxLen]; omega) (by omega) (by simp) ?_)
    intro A1 k1 w1 o1 g1 _
    have b2 := below_append b1 (Nat.le_refl _) (by simp) oL g1
    clear b1 g1 oL
    simp only [Nat.zero_add, List.nil_append] at o1
    rw [Nat.zero_add]
    have O1 := hid o1
    have B2 := hid b2
    clear o1 b2 heq
    go_wp2
    go_ret
    exact ⟨A1, k1, rfl, O1.out, B2.out⟩
end Go.Proofs.YtbcghggkfnagoaaGreatDoor
