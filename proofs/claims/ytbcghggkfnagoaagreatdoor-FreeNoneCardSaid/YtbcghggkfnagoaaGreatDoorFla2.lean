/- AN UNMADE HEAP, an unmade pager: each method that FreeNone calls. -/
import Derived.Test.YtbcghggkfnagoaaGreatDoorFla1
import Derived.WalkMore
set_option linter.unusedVariables false
set_option linter.unusedSimpArgs false
namespace Go.Proofs.YtbcghggkfnagoaaGreatDoor
open Go Go.RowKit Go.Maps Hach

def NoHeap (w : World) (v : Value) : Prop := v = .pointer none ∨ ∃ b, v = .pointer (some ⟨b, 0, none⟩) ∧ w.cell? ⟨b, 0, none⟩ = some (.pointer none)
theorem NoHeap.up {w w' : World} {v : Value} (h : NoHeap w v) (hu : Up w w') : NoHeap w' v := by
  rcases h with h | ⟨b, h, hc⟩
  · exact .inl h
  · exact .inr ⟨b, h, hu.c hc⟩
theorem hmadeU_calls (w : World) (v : Value) (h : Hid (NoHeap w v)) : Calls Tryz.prog 110 #[v] w fun en w' => en = .returned (.bool false) ∧ w' = w := by
  rcases h.out with rfl | ⟨b, rfl, hc⟩
  · go_enter Tryz.func110, Tryz.ntmps110
    go_wp2
    go_ret
    exact ⟨rfl, rfl⟩
  · go_enter Tryz.func110, Tryz.ntmps110
    go_wp2
    go_ret
    exact ⟨rfl, rfl⟩
set_option maxRecDepth 100000 in
set_option maxHeartbeats 2000000 in
theorem hrootU_calls (w : World) (v : Value) (h : Hid (NoHeap w v)) : Calls Tryz.prog 66 #[v] w (fun en w' => en = .returned (.tuple #[.slice none 0 0, .int .i64 1]) ∧ w' = w) := by
  go_enter Tryz.func66, Tryz.ntmps66
  go_wp2_with (go_at_call 110; refine (hmadeU_calls _ v h).mono ?_; rintro en w9 ⟨rfl, hw⟩; obtain rfl := hw.symm)
  go_ret2
  exact ⟨rfl, rfl⟩
set_option maxRecDepth 100000 in
set_option maxHeartbeats 2000000 in
theorem hpagerU_calls (w : World) (v : Value) (h : Hid (NoHeap w v)) : Calls Tryz.prog 37 #[v] w (fun en w' => en = .returned (.pointer none) ∧ w' = w) := by
  go_enter Tryz.func37, Tryz.ntmps37
  go_wp2_with (go_at_call 110; refine (hmadeU_calls _ v h).mono ?_; rintro en w9 ⟨rfl, hw⟩; obtain rfl := hw.symm)
  go_ret
  exact ⟨rfl, rfl⟩
set_option maxRecDepth 100000 in
set_option maxHeartbeats 2000000 in
theorem htakeU_calls (w : World) (v : Value) (h : Hid (NoHeap w v)) : Calls Tryz.prog 15 #[v] w (fun en w' => en = .returned (.tuple #[.int .i64 0, .int .i64 1]) ∧ w' = w) := by
  go_enter Tryz.func15, Tryz.ntmps15
  go_wp2_with (go_at_call 66; refine (hrootU_calls _ v h).mono ?_; rintro en w9 ⟨rfl, hw⟩; obtain rfl := hw.symm)
  go_ret2
  exact ⟨rfl, rfl⟩
set_option maxRecDepth 100000 in
set_option maxHeartbeats 2000000 in
theorem hallU_calls (w : World) (v : Value) (h : Hid (NoHeap w v)) : Calls Tryz.prog 17 #[v] w (fun en w' => en = .returned (.tuple #[.slice none 0 0, .int .i64 1]) ∧ w' = w) := by
  go_enter Tryz.func17, Tryz.ntmps17
  go_wp2_with fail
  go_step3
  go_wp2_with (go_at_call 66; refine (hrootU_calls _ v h).mono ?_; rintro en w9 ⟨rfl, hw⟩; obtain rfl := hw.symm)
  rw [Exit.noGoto_ret]
  go_ret2
  exact ⟨rfl, rfl⟩
set_option maxRecDepth 100000 in
set_option maxHeartbeats 2000000 in
theorem hcountU_calls (w : World) (v : Value) (h : Hid (NoHeap w v)) : Calls Tryz.prog 56 #[v] w (fun en w' => en = .returned (.tuple #[.int .i64 0, .int .i64 1]) ∧ w' = w) := by
  go_enter Tryz.func56, Tryz.ntmps56
  go_wp2_with (go_at_call 66; refine (hrootU_calls _ v h).mono ?_; rintro en w9 ⟨rfl, hw⟩; obtain rfl := hw.symm)
  go_ret2
  exact ⟨rfl, rfl⟩
set_option maxRecDepth 100000 in
set_option maxHeartbeats 2000000 in
theorem hwordU_calls (w : World) (v : Value) (i : Int) (h : Hid (NoHeap w v)) : Calls Tryz.prog 61 #[v, .int .i64 i] w (fun en w' => en = .returned (.tuple #[.int .i64 0, .int .i64 1]) ∧ w' = w) := by
  go_enter Tryz.func61, Tryz.ntmps61
  go_wp2_with (go_at_call 66; refine (hrootU_calls _ v h).mono ?_; rintro en w9 ⟨rfl, hw⟩; obtain rfl := hw.symm)
  go_ret2
  exact ⟨rfl, rfl⟩
set_option maxRecDepth 100000 in
set_option maxHeartbeats 2000000 in
theorem hgiveU_calls (w : World) (v : Value) (i : Int) (h : Hid (NoHeap w v)) : Calls Tryz.prog 16 #[v, .int .i64 i] w (fun en w' => en = .returned (.int .i64 1) ∧ w' = w) := by
  go_enter Tryz.func16, Tryz.ntmps16
  go_wp2_with (go_at_call 66; refine (hrootU_calls _ v h).mono ?_; rintro en w9 ⟨rfl, hw⟩; obtain rfl := hw.symm)
  go_ret
  exact ⟨rfl, rfl⟩
set_option maxRecDepth 100000 in
set_option maxHeartbeats 2000000 in
theorem hsetU_calls (w : World) (v : Value) (i n : Int) (h : Hid (NoHeap w v)) : Calls Tryz.prog 62 #[v, .int .i64 i, .int .i64 n] w (fun en w' => en = .returned (.int .i64 1) ∧ w' = w) := by
  go_enter Tryz.func62, Tryz.ntmps62
  go_wp2_with (go_at_call 66; refine (hrootU_calls _ v h).mono ?_; rintro en w9 ⟨rfl, hw⟩; obtain rfl := hw.symm)
  go_ret
  exact ⟨rfl, rfl⟩
set_option maxRecDepth 100000 in
set_option maxHeartbeats 2000000 in
theorem htrimU_calls (w : World) (v : Value) (i : Int) (h : Hid (NoHeap w v)) : Calls Tryz.prog 63 #[v, .int .i64 i] w (fun en w' => en = .returned (.int .i64 1) ∧ w' = w) := by
  go_enter Tryz.func63, Tryz.ntmps63
  go_wp2_with (go_at_call 17; refine (hallU_calls _ v h).mono ?_; rintro en w9 ⟨rfl, hw⟩; obtain rfl := hw.symm)
  go_ret
  exact ⟨rfl, rfl⟩
theorem pmade0_calls (w : World) : Calls Tryz.prog 130 #[.pointer none] w fun en w' => en = .returned (.bool false) ∧ w' = w := by
  go_enter Tryz.func130, Tryz.ntmps130
  go_wp2
  go_ret
  exact ⟨rfl, rfl⟩
set_option maxRecDepth 100000 in
set_option maxHeartbeats 2000000 in
theorem pready0_calls (w : World) : Calls Tryz.prog 116 #[.pointer none] w (fun en w' => en = .returned (.int .i64 1) ∧ w' = w) := by
  go_enter Tryz.func116, Tryz.ntmps116
  go_wp2_with (go_at_call 130; refine (pmade0_calls _).mono ?_; rintro en w9 ⟨rfl, hw⟩; obtain rfl := hw.symm)
  go_ret
  exact ⟨rfl, rfl⟩
set_option maxRecDepth 100000 in
set_option maxHeartbeats 2000000 in
theorem palive0_calls (w : World) : Calls Tryz.prog 71 #[.pointer none] w (fun en w' => en = .returned (.bool false) ∧ w' = w) := by
  go_enter Tryz.func71, Tryz.ntmps71
  go_wp2_with (go_at_call 130; refine (pmade0_calls _).mono ?_; rintro en w9 ⟨rfl, hw⟩; obtain rfl := hw.symm)
  go_ret
  exact ⟨rfl, rfl⟩
set_option maxRecDepth 100000 in
set_option maxHeartbeats 2000000 in
theorem pwithin0_calls (w : World) : Calls Tryz.prog 86 #[.pointer none] w (fun en w' => en = .returned (.int .i64 1) ∧ w' = w) := by
  go_enter Tryz.func86, Tryz.ntmps86
  go_wp2_with (go_at_call 116; refine (pready0_calls _).mono ?_; rintro en w9 ⟨rfl, hw⟩; obtain rfl := hw.symm)
  go_ret
  exact ⟨rfl, rfl⟩
set_option maxRecDepth 100000 in
set_option maxHeartbeats 2000000 in
theorem ppages0_calls (w : World) : Calls Tryz.prog 18 #[.pointer none] w (fun en w' => en = .returned (.int .i64 0) ∧ w' = w) := by
  go_enter Tryz.func18, Tryz.ntmps18
  go_wp2_with (go_at_call 71; refine (palive0_calls _).mono ?_; rintro en w9 ⟨rfl, hw⟩; obtain rfl := hw.symm)
  go_ret
  exact ⟨rfl, rfl⟩
set_option maxRecDepth 100000 in
set_option maxHeartbeats 2000000 in
theorem pgrow0_calls (w : World) : Calls Tryz.prog 45 #[.pointer none] w (fun en w' => en = .returned (.tuple #[.int .i64 0, .int .i64 1]) ∧ w' = w) := by
  go_enter Tryz.func45, Tryz.ntmps45
  go_wp2_with (go_at_call 86; refine (pwithin0_calls _).mono ?_; rintro en w9 ⟨rfl, hw⟩; obtain rfl := hw.symm)
  go_ret2
  exact ⟨rfl, rfl⟩
set_option maxRecDepth 100000 in
set_option maxHeartbeats 2000000 in
theorem pget0_calls (w : World) (i : Int) : Calls Tryz.prog 44 #[.pointer none, .int .i64 i] w (fun en w' => en = .returned (.tuple #[.slice none 0 0, .int .i64 1]) ∧ w' = w) := by
  go_enter Tryz.func44, Tryz.ntmps44
  go_wp2_with (go_at_call 116; refine (pready0_calls _).mono ?_; rintro en w9 ⟨rfl, hw⟩; obtain rfl := hw.symm)
  go_ret2
  exact ⟨rfl, rfl⟩
set_option maxRecDepth 100000 in
set_option maxHeartbeats 2000000 in
theorem fopen0_calls (w : World) : Calls Tryz.prog 59 #[.pointer none] w (fun en w' => en = .returned (.tuple #[.pointer none, .int .i64 1]) ∧ w' = w) := by
  go_enter Tryz.func59, Tryz.ntmps59
  go_wp2_with (go_at_call 44; refine (pget0_calls _ 1).mono ?_; rintro en w9 ⟨rfl, hw⟩; obtain rfl := hw.symm)
  go_ret2
  exact ⟨rfl, rfl⟩
set_option maxRecDepth 100000 in
set_option maxHeartbeats 2000000 in
theorem fmake0_calls (w : World) : Calls Tryz.prog 60 #[.pointer none] w (fun en w' => en = .returned (.tuple #[.pointer none, .int .i64 1]) ∧ w' = w) := by
  go_enter Tryz.func60, Tryz.ntmps60
  go_wp2_with (first | (go_at_call 18; refine (ppages0_calls _).mono ?_; rintro en w9 ⟨rfl, hw⟩; obtain rfl := hw.symm) | (go_at_call 45; refine (pgrow0_calls _).mono ?_; rintro en w9 ⟨rfl, hw⟩; obtain rfl := hw.symm))
  go_ret2
  exact ⟨rfl, rfl⟩
/-! ### a pager over a new disk, outside a transaction -/
section
variable (w : World) (p : Nat) (q : PgN)
set_option maxRecDepth 100000 in
set_option maxHeartbeats 2000000 in
theorem ppagesN_calls (h : Hid (PagerAt w p q (.pointer none) false)) (hq : Hid (q.count = 0)) : Calls Tryz.prog 18 #[.pointer (some ⟨p, 0, none⟩)] w (fun en w' => en = .returned (.int .i64 0) ∧ w' = w) := by
  obtain ⟨_, _, e2, e3, _⟩ := h.out.cells
  rw [hq.out] at e2
  go_enter Tryz.func18, Tryz.ntmps18
  go_wp2_with (go_at_call 71; refine (palive_calls w p q _ false h).mono ?_; rintro e w' ⟨rfl, hw⟩; obtain rfl := hw.symm)
  go_ret
  exact ⟨rfl, rfl⟩
set_option maxRecDepth 100000 in
set_option maxHeartbeats 2000000 in
theorem pgetN_calls (h : Hid (PagerAt w p q (.pointer none) false)) (hq : Hid (q.count = 0)) : Calls Tryz.prog 44 #[.pointer (some ⟨p, 0, none⟩), .int .i64 1] w (fun en w' => en = .returned (.tuple #[.slice none 0 0, .int .i64 11]) ∧ w' = w) := by
  go_enter Tryz.func44, Tryz.ntmps44
  go_wp2_with (first | (go_at_call 116; refine (pready_calls w p q _ false h).mono ?_; rintro e w' ⟨rfl, hw⟩; obtain rfl := hw.symm) | (go_at_call 18; refine (ppagesN_calls w p q h hq).mono ?_; rintro e w' ⟨rfl, hw⟩; obtain rfl := hw.symm))
  go_ret2
  exact ⟨rfl, rfl⟩
set_option maxRecDepth 100000 in
set_option maxHeartbeats 2000000 in
theorem fopenN_calls (h : Hid (PagerAt w p q (.pointer none) false)) (hq : Hid (q.count = 0)) : Calls Tryz.prog 59 #[.pointer (some ⟨p, 0, none⟩)] w (fun en w' => en = .returned (.tuple #[.pointer none, .int .i64 9]) ∧ w' = w) := by
  go_enter Tryz.func59, Tryz.ntmps59
  go_wp2_with (go_at_call 44; refine (pgetN_calls w p q h hq).mono ?_; rintro e w' ⟨rfl, hw⟩; obtain rfl := hw.symm)
  go_ret2
  exact ⟨rfl, rfl⟩
end
end Go.Proofs.YtbcghggkfnagoaaGreatDoor
