/- THE WALK of Write. -/
import Derived.Test.YtlikggeceeennaaDskR
set_option linter.unusedVariables false
set_option linter.unusedSimpArgs false
namespace Go.Proofs.Ytlikggeceeennaa
open Go Go.RowKit Go.Maps Hach

/-- The boxes of Write's parameters. -/
def wb1 (w : World) (d : Nat) : World := w.alloc (.cells #[.pointer (some ⟨d, 0, none⟩)] 79)
def wb2 (w : World) (d : Nat) (i : Int) : World := (wb1 w d).alloc (.cells #[.int .i64 i] 3)
def wb3 (w : World) (d : Nat) (i a : Int) : World := (wb2 w d i).alloc (.cells #[.int .i64 a] 3)
def wb4 (w : World) (d : Nat) (i a : Int) (v : Value) : World := (wb3 w d i a).alloc (.cells #[v] 25)
def wb5 (w : World) (d : Nat) (i a : Int) (v f : Value) : World := (wb4 w d i a v).alloc (.cells #[f] 131)
section
variable (w : World) (d : Nat) (i a : Int) (v f : Value)
theorem wb_sizes : (wb1 w d).heap.size = w.heap.size + 1 ∧ (wb2 w d i).heap.size = w.heap.size + 1 + 1 ∧ (wb3 w d i a).heap.size = w.heap.size + 1 + 1 + 1 ∧ (wb4 w d i a v).heap.size = w.heap.size + 1 + 1 + 1 + 1 ∧ (wb5 w d i a v f).heap.size = w.heap.size + 1 + 1 + 1 + 1 + 1 := by
  unfold wb5 wb4 wb3 wb2 wb1
  simp
theorem wb_up4 : Up w (wb4 w d i a v) := by
  have u1 : Up w (wb1 w d) := upAlD (Up.refl w) _
  have u2 : Up (wb1 w d) (wb2 w d i) := upAlD (Up.refl _) _
  have u3 : Up (wb2 w d i) (wb3 w d i a) := upAlD (Up.refl _) _
  have u4 : Up (wb3 w d i a) (wb4 w d i a v) := upAlD (Up.refl _) _
  exact ((u1.t u2).t u3).t u4
theorem wb_up5 : Up w (wb5 w d i a v f) := (wb_up4 w d i a v).t (upAlD (Up.refl _) _)
theorem wb_boxes : (wb5 w d i a v f).heap[w.heap.size]? = some (.cells #[.pointer (some ⟨d, 0, none⟩)] 79 (0, 0)) ∧ (wb5 w d i a v f).heap[w.heap.size + 1]? = some (.cells #[.int .i64 i] 3 (0, 0)) ∧
    (wb5 w d i a v f).heap[w.heap.size + 1 + 1]? = some (.cells #[.int .i64 a] 3 (0, 0)) ∧ (wb5 w d i a v f).heap[w.heap.size + 1 + 1 + 1]? = some (.cells #[v] 25 (0, 0)) ∧ (wb5 w d i a v f).heap[w.heap.size + 1 + 1 + 1 + 1]? = some (.cells #[f] 131 (0, 0)) := by
  obtain ⟨s1, s2, s3, s4, s5⟩ := wb_sizes w d i a v f
  have u2 : Up (wb1 w d) (wb2 w d i) := upAlD (Up.refl _) _
  have u3 : Up (wb2 w d i) (wb3 w d i a) := upAlD (Up.refl _) _
  have u4 : Up (wb3 w d i a) (wb4 w d i a v) := upAlD (Up.refl _) _
  have u5 : Up (wb4 w d i a v) (wb5 w d i a v f) := upAlD (Up.refl _) _
  have k1 : (wb1 w d).heap[w.heap.size]? = _ := heap_alloc_new w _
  have k2 : (wb2 w d i).heap[(wb1 w d).heap.size]? = _ := heap_alloc_new _ _
  have k3 : (wb3 w d i a).heap[(wb2 w d i).heap.size]? = _ := heap_alloc_new _ _
  have k4 : (wb4 w d i a v).heap[(wb3 w d i a).heap.size]? = _ := heap_alloc_new _ _
  have k5 : (wb5 w d i a v f).heap[(wb4 w d i a v).heap.size]? = _ := heap_alloc_new _ _
  rw [s1] at k2; rw [s2] at k3; rw [s3] at k4; rw [s4] at k5
  refine ⟨?_, ?_, ?_, ?_, k5⟩
  · exact (u5.block _ (by omega)).trans ((u4.block _ (by omega)).trans ((u3.block _ (by omega)).trans ((u2.block _ (by omega)).trans k1)))
  · exact (u5.block _ (by omega)).trans ((u4.block _ (by omega)).trans ((u3.block _ (by omega)).trans k2))
  · exact (u5.block _ (by omega)).trans ((u4.block _ (by omega)).trans k3)
  · exact (u5.block _ (by omega)).trans k4
end
set_option maxRecDepth 100000 in
set_option maxHeartbeats 2000000 in
/-- Write, where there is no such file. -/
theorem writeE_calls (w : World) (d : Nat) (i a : Int) (A : Option Addr) (n cap : Nat) (e : Int) (he : ¬ e = 0) (CF : Calls Try.prog 100 #[.pointer (some ⟨d, 0, none⟩), .int .i64 i] (wb4 w d i a (.slice A n cap)) fun en w' => en = .returned (.tuple #[.pointer none, .int .i64 e]) ∧ w' = wb4 w d i a (.slice A n cap)) :
    Calls Try.prog 45 #[.pointer (some ⟨d, 0, none⟩), .int .i64 i, .int .i64 a, .slice A n cap] w (fun en w' => en = .returned (.int .i64 e) ∧ Hid (Up w w')) := by
  have UU := hid (wb_up5 w d i a (.slice A n cap) (.pointer none))
  obtain ⟨b1, b2, b3, b4, b5⟩ := wb_boxes w d i a (.slice A n cap) (.pointer none)
  have c1 := (upAlD (Up.refl _) _ : Up (wb4 w d i a (.slice A n cap)) (wb5 w d i a (.slice A n cap) (.pointer none)))
  unfold wb4 wb3 wb2 wb1 at CF
  unfold wb5 wb4 wb3 wb2 wb1 at UU
  clear b1 b2 b3 b4 b5 c1
  go_enter Try.func45, Try.ntmps45
  go_wp2_with (go_at_call 100; refine CF.mono ?_; rintro e w' ⟨rfl, rfl⟩)
  go_ret
  exact ⟨rfl, UU⟩
set_option maxRecDepth 100000 in
set_option maxHeartbeats 2000000 in
/-- Write, behind the refusals of the file: the boxes' facts. -/
theorem writeR_calls (w : World) (base d : Nat) (p : DiskP) (D : DiskV) (b : Bool) (a : Int) (A : Option Addr) (n cap : Nat) (h : Hid (DiskAt w base d p D)) (ho : Hid (D.on = true)) (hn : Hid (n < 100000000)) (r : Int)
    (hr : Hid ((a < 0 ∨ ((D.fl b).now.length : Int) < a) ∧ r = 11 ∨ ((0 ≤ a ∧ a ≤ ((D.fl b).now.length : Int)) ∧ n = 0 ∧ r = 2))) :
    Calls Try.prog 45 #[.pointer (some ⟨d, 0, none⟩), .int .i64 (idx b), .int .i64 a, .slice A n cap] w (fun en w' => en = .returned (.int .i64 r) ∧ Hid (Up w w')) := by
  obtain ⟨o, hoo⟩ : ∃ o, off b = o := ⟨_, rfl⟩
  have CF := fileB_calls (wb4 w d (idx b) a (.slice A n cap)) base d D b (hid ⟨p, h.out.up (wb_up4 w d (idx b) a (.slice A n cap))⟩) ho.out
  rw [hoo] at CF
  have F0 := (h.out.up (wb_up5 w d (idx b) a (.slice A n cap) (.pointer (some ⟨d, o, none⟩)))).fileB b
  rw [hoo] at F0
  have e0 := F0.cell0.1
  obtain ⟨len, hlen⟩ : ∃ z, (D.fl b).now.length = z := ⟨_, rfl⟩
  rw [hlen] at e0
  have HLEN := hid hlen
  obtain ⟨b1, b2, b3, b4, b5⟩ := wb_boxes w d (idx b) a (.slice A n cap) (.pointer (some ⟨d, o, none⟩))
  have a3 := box_cell b3
  have a4 := box_cell b4
  have a5 := box_cell b5
  have UU := hid (wb_up5 w d (idx b) a (.slice A n cap) (.pointer (some ⟨d, o, none⟩)))
  clear b1 b2 b3 b4 b5 F0 hoo hlen
  generalize idx b = ib at *
  have CF' := CF
  clear CF
  unfold wb4 wb3 wb2 wb1 at CF'
  have E0 := hid e0
  have A3 := hid a3
  have A4 := hid a4
  have A5 := hid a5
  clear e0 a3 a4 a5
  go_enter Try.func45, Try.ntmps45
  go_wp2_with (go_at_call 100; refine CF'.mono ?_; rintro e w' ⟨rfl, rfl⟩)
  clear CF'
  change Code.wp Try.prog _ _ _ (wb5 w d ib a (.slice A n cap) (.pointer (some ⟨d, o, none⟩)))
  have e0 := E0.out
  have a3 := A3.out
  have a4 := A4.out
  have a5 := A5.out
  generalize wb5 w d ib a (.slice A n cap) (.pointer (some ⟨d, o, none⟩)) = w5 at *
  generalize w.heap.size = z at *
  have e0' : w5.drew.cell? ⟨d, o, none⟩ = _ := e0
  have a3' : w5.drew.cell? ⟨z + 1 + 1, 0, none⟩ = _ := a3
  have a4' : w5.drew.cell? ⟨z + 1 + 1 + 1, 0, none⟩ = _ := a4
  have a5' : w5.drew.cell? ⟨z + 1 + 1 + 1 + 1, 0, none⟩ = _ := a5
  clear E0 A3 A4 A5
  have UF := hid (UU.out.t (Up.drew _))
  rcases hr.out with ⟨h1 | h1, rfl⟩ | ⟨⟨h1, h2⟩, rfl, rfl⟩
  · have t0 : a < 0 := h1
    go_region
    all_goals
      go_wp2
      go_ret
      exact ⟨rfl, UF⟩
  · rw [HLEN.out] at h1
    have t0 : ¬ a < 0 := by omega
    have t1 : (len : Int) < a := h1
    go_region
    all_goals
      go_wp2
      go_ret
      exact ⟨rfl, UF⟩
  · rw [HLEN.out] at h2
    have t0 : ¬ a < 0 := by omega
    have t1 : ¬ (len : Int) < a := by omega
    go_region
    all_goals
      go_wp2
      go_ret
      exact ⟨rfl, UF⟩
end Go.Proofs.Ytlikggeceeennaa
