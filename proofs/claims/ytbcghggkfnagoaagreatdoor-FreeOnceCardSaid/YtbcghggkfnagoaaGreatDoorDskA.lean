/- THE WALKS of the disk's look, Sectors, Dirty. -/
import Derived.Test.YtbcghggkfnagoaaGreatDoorDsk9
set_option linter.unusedVariables false
set_option linter.unusedSimpArgs false
namespace Go.Proofs.YtbcghggkfnagoaaGreatDoor
open Go Go.RowKit Go.Maps Hach

section
variable (w : World) (base d : Nat) (D : DiskV)
theorem look0_calls (h : Hid (DiskM w base d D)) : Calls Tryz.prog 103 #[.pointer (some ⟨d, 0, none⟩), .int .i64 0] w fun en w' => en = .returned (.pointer (some ⟨d, 1, none⟩)) ∧ w' = w := by
  obtain ⟨p, h⟩ := h.out
  have e0 := h.reads.1
  have HR := hid h.room.1
  clear h
  go_enter Tryz.func103, Tryz.ntmps103
  go_wp2_with (go_at_call 111; refine (dmade_calls _ d _ e0 HR).mono ?_; rintro e w' ⟨rfl, rfl⟩)
  go_ret
  exact ⟨rfl, rfl⟩
theorem look1_calls (h : Hid (DiskM w base d D)) : Calls Tryz.prog 103 #[.pointer (some ⟨d, 0, none⟩), .int .i64 1] w fun en w' => en = .returned (.pointer (some ⟨d, 4, none⟩)) ∧ w' = w := by
  obtain ⟨p, h⟩ := h.out
  have e0 := h.reads.1
  have HR := hid h.room.1
  clear h
  go_enter Tryz.func103, Tryz.ntmps103
  go_wp2_with (go_at_call 111; refine (dmade_calls _ d _ e0 HR).mono ?_; rintro e w' ⟨rfl, rfl⟩)
  go_ret
  exact ⟨rfl, rfl⟩
theorem lookNo_calls (h : Hid (DiskM w base d D)) (i : Int) (hi : i < 0 ∨ 2 ≤ i) : Calls Tryz.prog 103 #[.pointer (some ⟨d, 0, none⟩), .int .i64 i] w fun en w' => en = .returned (.pointer none) ∧ w' = w := by
  obtain ⟨p, h⟩ := h.out
  have e0 := h.reads.1
  have HR := hid h.room.1
  clear h
  by_cases h0 : i < 0
  · clear hi
    go_enter Tryz.func103, Tryz.ntmps103
    go_wp2_with (go_at_call 111; refine (dmade_calls _ d _ e0 HR).mono ?_; rintro e w' ⟨rfl, rfl⟩)
    go_ret
    exact ⟨rfl, rfl⟩
  · have h1 : 2 ≤ i := hi.resolve_left h0
    clear hi
    go_enter Tryz.func103, Tryz.ntmps103
    go_wp2_with (go_at_call 111; refine (dmade_calls _ d _ e0 HR).mono ?_; rintro e w' ⟨rfl, rfl⟩)
    go_ret
    exact ⟨rfl, rfl⟩
theorem sec0_calls (h : Hid (DiskM w base d D)) : Calls Tryz.prog 29 #[.pointer (some ⟨d, 0, none⟩), .int .i64 0] w fun en w' => en = .returned (.int .i64 (D.f0.now.length : Int)) ∧ w' = w := by
  have H := h
  obtain ⟨p, h⟩ := h.out
  obtain ⟨_, a1, a2, _, a4, a5, _, _, _, _, _, _⟩ := h.reads
  generalize D.f0.now.length = n at *
  clear h
  go_enter Tryz.func29, Tryz.ntmps29
  go_wp2_with (go_at_call 103; refine (look0_calls _ base d D H).mono ?_; rintro e w' ⟨rfl, rfl⟩)
  go_ret
  exact ⟨rfl, rfl⟩
theorem sec1_calls (h : Hid (DiskM w base d D)) : Calls Tryz.prog 29 #[.pointer (some ⟨d, 0, none⟩), .int .i64 1] w fun en w' => en = .returned (.int .i64 (D.f1.now.length : Int)) ∧ w' = w := by
  have H := h
  obtain ⟨p, h⟩ := h.out
  obtain ⟨_, a1, a2, _, a4, a5, _, _, _, _, _, _⟩ := h.reads
  generalize D.f1.now.length = n at *
  clear h
  go_enter Tryz.func29, Tryz.ntmps29
  go_wp2_with (go_at_call 103; refine (look1_calls _ base d D H).mono ?_; rintro e w' ⟨rfl, rfl⟩)
  go_ret
  exact ⟨rfl, rfl⟩
end
end Go.Proofs.YtbcghggkfnagoaaGreatDoor
