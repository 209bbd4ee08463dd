/- THE WALKS of the disk's look, Sectors, Dirty, Start. THE WALKS of the disk's look, Sectors, Dirty. -/
import Derived.Test.YtbcghggkfnagoaaGreatDoorDsk7
set_option linter.unusedVariables false
set_option linter.unusedSimpArgs false
namespace Go.Proofs.YtbcghggkfnagoaaGreatDoor
open Go Go.RowKit Go.Maps Hach

theorem row_blk {w : World} {base d n c : Nat} {A : Option Addr} {cs : Array Value} {t e : TypeId} {size : Nat} {xs : List Value} (ho : w.ownsRow base e size (.slice A n c) n xs) (hd : w.heap[d]? = some (.cells cs t (0, 0))) (hne : e ≠ t) : ∀ k, (Value.slice A n c).ownBlock = some k → k ≠ d := by
  intro k hk e'
  subst e'
  rcases ho.2 with ⟨hv, _⟩ | ⟨g, cap, cur, hv, _, hg, _⟩
  · rw [hv] at hk; cases hk
  · rw [hv] at hk
    obtain rfl : g = k := by simpa [Value.ownBlock] using hk
    rw [hd] at hg
    injection hg with hg; injection hg with _ h2 _
    exact hne h2.symm
/-- Other numbers in the disk's own block. -/
theorem DiskAt.nums {w w' : World} {base d : Nat} {p : DiskP} {D D' : DiskV} (h : DiskAt w base d p D) (hf : Fr (fun k => k = d) w w') (ho : w'.heap[d]? = some (.cells (diskCs p D') 87 (0, 0))) (e0 : D'.f0 = D.f0) (e1 : D'.f1 = D.f1) (ek : D'.keep = D.keep) (er : D'.room = D.room) : DiskAt w' base d p D' := by
  obtain ⟨room, f0, f1, on, ops, armed, keep, torn⟩ := D'
  simp only at e0 e1 ek er
  subst e0; subst e1; subst ek; subst er
  have n0 := h.file0.ne
  have n1 := h.file1.ne
  exact ⟨ho, hf.own h.row0 (fun k hk e => (n0.2 k hk).1 e), hf.own h.row1 (fun k hk e => (n1.2 k hk).1 e), h.map0.kept hf (fun e => n0.1 e.symm), h.map1.kept hf (fun e => n1.1 e.symm), h.maps, h.rows,
    hf.own h.keepR (fun k hk e => row_blk h.keepR h.own (by decide) k hk e), h.ok0, h.ok1, h.low, h.room⟩
def StepD (w : World) (base d : Nat) (D : DiskV) (v : Value) (en : Ending) (w' : World) : Prop := en = .returned v ∧ Hid (DiskM w' base d D ∧ Below base w w')
theorem dstart_calls (w : World) (base d : Nat) (D : DiskV) (h : Hid (DiskM w base d D)) :
    Calls Tryz.prog 42 #[.pointer (some ⟨d, 0, none⟩)] w (StepD w base d { D with on := true, armed := 0 } (.int .i64 0)) := by
  obtain ⟨p, h⟩ := h.out
  obtain ⟨e0, _, _, _, _, _, _, e7, _, e9, _, _⟩ := h.reads
  have f7 := h.free 7
  have f9 := h.free 9
  have H := hid h
  have HR := hid h.room.1
  clear h
  go_enter Tryz.func42, Tryz.ntmps42
  go_wp2_with (go_at_call 111; refine (dmade_calls _ d _ e0 HR).mono ?_; rintro e w' ⟨rfl, rfl⟩)
  go_ret
  have k1 := heap_setCell_same w' d 7 (diskCs p D) _ (.bool true) H.out.own
  have k2 := heap_setCell_same _ d 9 _ _ (.int .i64 0) k1
  have hf : Fr (fun k => k = d) w' ((w'.setCell ⟨d, 7, none⟩ (.bool true)).setCell ⟨d, 9, none⟩ (.int .i64 0)) := ((Fr.refl (fun k => k = d) w').setCell (p := ⟨d, 7, none⟩) (fun _ => rfl) _).setCell (p := ⟨d, 9, none⟩) (fun _ => rfl) _
  have hb : Below base w' ((w'.setCell ⟨d, 7, none⟩ (.bool true)).setCell ⟨d, 9, none⟩ (.int .i64 0)) := ((Below.refl base w').setCell (p := ⟨d, 7, none⟩) H.out.low.1 _).setCell (p := ⟨d, 9, none⟩) H.out.low.1 _
  exact ⟨rfl, hid ⟨⟨p, H.out.nums hf k2 rfl rfl rfl rfl⟩, hb⟩⟩
end Go.Proofs.YtbcghggkfnagoaaGreatDoor

namespace Go.Proofs.YtbcghggkfnagoaaGreatDoor
open Go Go.RowKit Go.Maps Hach

section
variable (w : World) (base d : Nat) (D : DiskV)
theorem look0_calls (h : Hid (DiskM w base d D)) : Calls Tryz.prog 103 #[.pointer (some ⟨d, 0, none⟩), .int .i64 0] w fun en w' => en = .returned (.pointer (some ⟨d, 1, none⟩)) ∧ w' = w := by
  obtain ⟨p, h⟩ := h.out
  have e0 := h.reads.1
  have HR := hid h.room.1
  clear h
  go_enter Tryz.func103, Tryz.ntmps103
  go_wp2_with (go_at_call 111; refine (dmade_calls _ d _ e0 HR).mono ?_; rintro e w' ⟨rfl, rfl⟩)
  go_ret
  exact ⟨rfl, rfl⟩
theorem look1_calls (h : Hid (DiskM w base d D)) : Calls Tryz.prog 103 #[.pointer (some ⟨d, 0, none⟩), .int .i64 1] w fun en w' => en = .returned (.pointer (some ⟨d, 4, none⟩)) ∧ w' = w := by
  obtain ⟨p, h⟩ := h.out
  have e0 := h.reads.1
  have HR := hid h.room.1
  clear h
  go_enter Tryz.func103, Tryz.ntmps103
  go_wp2_with (go_at_call 111; refine (dmade_calls _ d _ e0 HR).mono ?_; rintro e w' ⟨rfl, rfl⟩)
  go_ret
  exact ⟨rfl, rfl⟩
theorem lookNo_calls (h : Hid (DiskM w base d D)) (i : Int) (hi : i < 0 ∨ 2 ≤ i) : Calls Tryz.prog 103 #[.pointer (some ⟨d, 0, none⟩), .int .i64 i] w fun en w' => en = .returned (.pointer none) ∧ w' = w := by
  obtain ⟨p, h⟩ := h.out
  have e0 := h.reads.1
  have HR := hid h.room.1
  clear h
  by_cases h0 : i < 0
  · clear hi
    go_enter Tryz.func103, Tryz.ntmps103
    go_wp2_with (go_at_call 111; refine (dmade_calls _ d _ e0 HR).mono ?_; rintro e w' ⟨rfl, rfl⟩)
    go_ret
    exact ⟨rfl, rfl⟩
  · have h1 : 2 ≤ i := hi.resolve_left h0
    clear hi
    go_enter Tryz.func103, Tryz.ntmps103
    go_wp2_with (go_at_call 111; refine (dmade_calls _ d _ e0 HR).mono ?_; rintro e w' ⟨rfl, rfl⟩)
    go_ret
    exact ⟨rfl, rfl⟩
theorem sec0_calls (h : Hid (DiskM w base d D)) : Calls Tryz.prog 29 #[.pointer (some ⟨d, 0, none⟩), .int .i64 0] w fun en w' => en = .returned (.int .i64 (D.f0.now.length : Int)) ∧ w' = w := by
  have H := h
  obtain ⟨p, h⟩ := h.out
  obtain ⟨_, a1, a2, _, a4, a5, _, _, _, _, _, _⟩ := h.reads
  generalize D.f0.now.length = n at *
  clear h
  go_enter Tryz.func29, Tryz.ntmps29
  go_wp2_with (go_at_call 103; refine (look0_calls _ base d D H).mono ?_; rintro e w' ⟨rfl, rfl⟩)
  go_ret
  exact ⟨rfl, rfl⟩
theorem sec1_calls (h : Hid (DiskM w base d D)) : Calls Tryz.prog 29 #[.pointer (some ⟨d, 0, none⟩), .int .i64 1] w fun en w' => en = .returned (.int .i64 (D.f1.now.length : Int)) ∧ w' = w := by
  have H := h
  obtain ⟨p, h⟩ := h.out
  obtain ⟨_, a1, a2, _, a4, a5, _, _, _, _, _, _⟩ := h.reads
  generalize D.f1.now.length = n at *
  clear h
  go_enter Tryz.func29, Tryz.ntmps29
  go_wp2_with (go_at_call 103; refine (look1_calls _ base d D H).mono ?_; rintro e w' ⟨rfl, rfl⟩)
  go_ret
  exact ⟨rfl, rfl⟩
end
end Go.Proofs.YtbcghggkfnagoaaGreatDoor
