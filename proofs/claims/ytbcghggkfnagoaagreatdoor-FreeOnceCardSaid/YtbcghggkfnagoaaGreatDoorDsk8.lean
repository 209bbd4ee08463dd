/- THE WALKS of the disk's file, look, On, Ops, Room, Sectors, Dirty, Start. -/
import Derived.Test.YtbcghggkfnagoaaGreatDoorDsk7
set_option linter.unusedVariables false
set_option linter.unusedSimpArgs false
namespace Go.Proofs.YtbcghggkfnagoaaGreatDoor
open Go Go.RowKit Go.Maps Hach

section
variable (w : World) (base d : Nat) (D : DiskV)
/-- The cells that a walk reads. -/
theorem DiskAt.reads {w : World} {base d : Nat} {p : DiskP} {D : DiskV} (h : DiskAt w base d p D) :
    w.cell? ⟨d, 0, none⟩ = some (.int .i64 D.room) ∧ w.cell? ⟨d, 1, none⟩ = some (.slice p.A0 D.f0.now.length p.c0) ∧ w.cell? ⟨d, 2, none⟩ = some (.map (some p.m0)) ∧ w.cell? ⟨d, 3, none⟩ = some (.int .i64 D.f0.sure) ∧
    w.cell? ⟨d, 4, none⟩ = some (.slice p.A1 D.f1.now.length p.c1) ∧ w.cell? ⟨d, 5, none⟩ = some (.map (some p.m1)) ∧ w.cell? ⟨d, 6, none⟩ = some (.int .i64 D.f1.sure) ∧
    w.cell? ⟨d, 7, none⟩ = some (.bool D.on) ∧ w.cell? ⟨d, 8, none⟩ = some (.int .i64 D.ops) ∧ w.cell? ⟨d, 9, none⟩ = some (.int .i64 D.armed) ∧ w.cell? ⟨d, 10, none⟩ = some (.slice p.KA D.keep.length p.kc) ∧ w.cell? ⟨d, 11, none⟩ = some (.int .i64 D.torn) :=
  ⟨h.cell rfl, h.cell rfl, h.cell rfl, h.cell rfl, h.cell rfl, h.cell rfl, h.cell rfl, h.cell rfl, h.cell rfl, h.cell rfl, h.cell rfl, h.cell rfl⟩
theorem fileOff_calls (h : Hid (DiskM w base d D)) (i : Int) (ho : D.on = false) : Calls Tryz.prog 161 #[.pointer (some ⟨d, 0, none⟩), .int .i64 i] w fun en w' => en = .returned (.tuple #[.pointer none, .int .i64 4]) ∧ w' = w := by
  obtain ⟨p, h⟩ := h.out
  obtain ⟨e0, _, _, _, _, _, _, e7, _, _, _, _⟩ := h.reads
  rw [ho] at e7
  have HR := hid h.room.1
  clear h ho
  go_enter Tryz.func161, Tryz.ntmps161
  go_wp2_with (go_at_call 111; refine (dmade_calls _ d _ e0 HR).mono ?_; rintro e w' ⟨rfl, rfl⟩)
  go_ret2
  exact ⟨rfl, rfl⟩
theorem fileNo_calls (h : Hid (DiskM w base d D)) (i : Int) (ho : D.on = true) (hi : i < 0 ∨ 2 ≤ i) : Calls Tryz.prog 161 #[.pointer (some ⟨d, 0, none⟩), .int .i64 i] w fun en w' => en = .returned (.tuple #[.pointer none, .int .i64 11]) ∧ w' = w := by
  obtain ⟨p, h⟩ := h.out
  obtain ⟨e0, _, _, _, _, _, _, e7, _, _, _, _⟩ := h.reads
  rw [ho] at e7
  have HR := hid h.room.1
  clear h ho
  by_cases h0 : i < 0
  · clear hi
    go_enter Tryz.func161, Tryz.ntmps161
    go_wp2_with (go_at_call 111; refine (dmade_calls _ d _ e0 HR).mono ?_; rintro e w' ⟨rfl, rfl⟩)
    go_ret2
    exact ⟨rfl, rfl⟩
  · have h1 : 2 ≤ i := hi.resolve_left h0
    clear hi
    go_enter Tryz.func161, Tryz.ntmps161
    go_wp2_with (go_at_call 111; refine (dmade_calls _ d _ e0 HR).mono ?_; rintro e w' ⟨rfl, rfl⟩)
    go_ret2
    exact ⟨rfl, rfl⟩
theorem file0_calls (h : Hid (DiskM w base d D)) (ho : D.on = true) : Calls Tryz.prog 161 #[.pointer (some ⟨d, 0, none⟩), .int .i64 0] w fun en w' => en = .returned (.tuple #[.pointer (some ⟨d, 1, none⟩), .int .i64 0]) ∧ w' = w := by
  obtain ⟨p, h⟩ := h.out
  obtain ⟨e0, _, _, _, _, _, _, e7, _, _, _, _⟩ := h.reads
  rw [ho] at e7
  have HR := hid h.room.1
  clear h ho
  go_enter Tryz.func161, Tryz.ntmps161
  go_wp2_with (go_at_call 111; refine (dmade_calls _ d _ e0 HR).mono ?_; rintro e w' ⟨rfl, rfl⟩)
  go_ret2
  exact ⟨rfl, rfl⟩
theorem file1_calls (h : Hid (DiskM w base d D)) (ho : D.on = true) : Calls Tryz.prog 161 #[.pointer (some ⟨d, 0, none⟩), .int .i64 1] w fun en w' => en = .returned (.tuple #[.pointer (some ⟨d, 4, none⟩), .int .i64 0]) ∧ w' = w := by
  obtain ⟨p, h⟩ := h.out
  obtain ⟨e0, _, _, _, _, _, _, e7, _, _, _, _⟩ := h.reads
  rw [ho] at e7
  have HR := hid h.room.1
  clear h ho
  go_enter Tryz.func161, Tryz.ntmps161
  go_wp2_with (go_at_call 111; refine (dmade_calls _ d _ e0 HR).mono ?_; rintro e w' ⟨rfl, rfl⟩)
  go_ret2
  exact ⟨rfl, rfl⟩
theorem don_calls (h : Hid (DiskM w base d D)) : Calls Tryz.prog 40 #[.pointer (some ⟨d, 0, none⟩)] w fun en w' => en = .returned (.bool D.on) ∧ w' = w := by
  obtain ⟨p, h⟩ := h.out
  obtain ⟨e0, _, _, _, _, _, _, e7, _, _, _, _⟩ := h.reads
  have HR := hid h.room.1
  clear h
  go_enter Tryz.func40, Tryz.ntmps40
  go_wp2_with (go_at_call 111; refine (dmade_calls _ d _ e0 HR).mono ?_; rintro e w' ⟨rfl, rfl⟩)
  go_ret
  exact ⟨rfl, rfl⟩
theorem dops_calls (h : Hid (DiskM w base d D)) : Calls Tryz.prog 88 #[.pointer (some ⟨d, 0, none⟩)] w fun en w' => en = .returned (.int .i64 D.ops) ∧ w' = w := by
  obtain ⟨p, h⟩ := h.out
  obtain ⟨e0, _, _, _, _, _, _, _, e8, _, _, _⟩ := h.reads
  have HR := hid h.room.1
  clear h
  go_enter Tryz.func88, Tryz.ntmps88
  go_wp2_with (go_at_call 111; refine (dmade_calls _ d _ e0 HR).mono ?_; rintro e w' ⟨rfl, rfl⟩)
  go_ret
  exact ⟨rfl, rfl⟩
theorem droom_calls (h : Hid (DiskM w base d D)) : Calls Tryz.prog 73 #[.pointer (some ⟨d, 0, none⟩)] w fun en w' => en = .returned (.int .i64 D.room) ∧ w' = w := by
  obtain ⟨p, h⟩ := h.out
  obtain ⟨e0, _, _, _, _, _, _, _, _, _, _, _⟩ := h.reads
  have HR := hid h.room.1
  clear h
  go_enter Tryz.func73, Tryz.ntmps73
  go_wp2_with (go_at_call 111; refine (dmade_calls _ d _ e0 HR).mono ?_; rintro e w' ⟨rfl, rfl⟩)
  go_ret
  exact ⟨rfl, rfl⟩
end
end Go.Proofs.YtbcghggkfnagoaaGreatDoor
