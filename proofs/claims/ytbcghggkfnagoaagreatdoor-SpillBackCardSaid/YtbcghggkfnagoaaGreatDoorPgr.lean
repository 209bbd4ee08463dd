/- THE PAGER is opened over a new disk. -/
import Derived.Test.YtbcghggkfnagoaaGreatDoorPgp
import Derived.Test.YtbcghggkfnagoaaGreatDoorPgs
import Derived.Test.YtbcghggkfnagoaaGreatDoorDskE
set_option linter.unusedVariables false
set_option linter.unusedSimpArgs false
namespace Go.Proofs.YtbcghggkfnagoaaGreatDoor
open Go Go.RowKit Go.Maps Hach

def NewCRet (w : World) (en : Ending) (w' : World) : Prop := ∃ g, en = .returned (.pointer (some ⟨g, 0, none⟩)) ∧ Hid (Up w w')
set_option maxHeartbeats 1000000 in
theorem newC_calls (w : World) (room : Int) (h1 : 1 ≤ room) (h2 : room ≤ 4096) :
    Calls Tryz.prog 72 #[.int .i64 room] w (NewCRet w) := by
  have hmm := @run_makeMap Tryz.prog
  have d1 : ¬ room < 1 := by omega
  have d2 : ¬ (4096 : Int) < room := by omega
  have u1 := upAlD (Up.refl w) (.cells #[.int .i64 0, .slice none 0 0, .int .i64 0, .bool false, .pointer (some ⟨w.heap.size, 0, none⟩), .pointer (some ⟨w.heap.size, 0, none⟩)] 192)
  have u2 := u1.t (upAlD (Up.refl _) (.map #[] 0))
  have u3 := hid (u2.t (upAlD (Up.refl _) (.cells #[.int .i64 room, .map (some (w.heap.size + 1)), .pointer (some ⟨w.heap.size, 0, none⟩), .int .i64 0, .int .i64 0] 195)))
  clear h1 h2 u1 u2
  go_enter Tryz.func72, Tryz.ntmps72
  go_wp2
  go_ret
  exact ⟨_, rfl, u3⟩
set_option maxRecDepth 100000 in
set_option maxHeartbeats 2000000 in
theorem hot0_calls (w : World) (A : Option Addr) (c : Nat) : Calls Tryz.prog 132 #[.slice A 0 c] w fun en w' => en = .returned (.bool false) ∧ Hid (Up w w') := by
  have CR : Calls Tryz.prog 162 #[.slice A 0 c] w fun en w' => en = .returned (.tuple #[.agg #[.int .i64 0, .int .i64 0, .int .u64 0], .int .i64 8]) ∧ Up w w' := by
    go_enter Tryz.func162, Tryz.ntmps162
    go_wp2
    exact bodyPost_ret (v := .tuple #[.agg #[.int .i64 0, .int .i64 0, .int .u64 0], .int .i64 8]) (by simp [results, Tryz.results162, go_sem]) rfl ⟨rfl, (Below.refl _ _).alloc (Nat.le_refl _) _⟩
  go_enter Tryz.func132, Tryz.ntmps132
  go_wp2_with (go_at_call 162; refine CR.mono ?_; rintro e w' ⟨rfl, u⟩)
  go_ret
  exact ⟨rfl, hid (u.t (upAlD (Up.refl _) _))⟩
section
variable (w : World) (p : Nat) (q : PgN) (base : Nat) (D : DiskV)
theorem clean0_calls (h : Hid (PagerAt w p q (.pointer none) false)) (hd : Hid (DiskM w base q.d D)) (hj : Hid (D.f1.now.length = 0)) : Calls Tryz.prog 76 #[.pointer (some ⟨p, 0, none⟩)] w fun en w' => en = .returned (.int .i64 0) ∧ w' = w := by
  obtain ⟨e0, _⟩ := h.out.cells
  have CS := sec1_calls w base q.d D hd
  rw [hj.out] at CS
  go_enter Tryz.func76, Tryz.ntmps76
  go_wp2_with (go_at_call 29; refine CS.mono ?_; rintro e w' ⟨rfl, hw⟩; obtain rfl := hw.symm)
  go_ret
  exact ⟨rfl, rfl⟩
set_option maxRecDepth 100000 in
set_option maxHeartbeats 2000000 in
theorem whole0_calls (h : Hid (PagerAt w p q (.pointer none) false)) (hd : Hid (DiskM w base q.d D)) (hj : Hid (D.f0.now.length = 0)) : Calls Tryz.prog 77 #[.pointer (some ⟨p, 0, none⟩)] w fun en w' => en = .returned (.int .i64 0) ∧ Hid (PagerAt w' p { q with count := 0 } (.pointer none) false ∧ Fr (fun k => k = p) w w') := by
  obtain ⟨e0, _, e2, _⟩ := h.out.cells
  have f2 := h.out.free 2
  have CS := sec0_calls w base q.d D hd
  rw [hj.out] at CS
  have k1 : Hid (PagerAt (w.setCell ⟨p, 2, none⟩ (.int .i64 0)) p { q with count := 0 } (.pointer none) false) := hid (heap_setCell_same _ p 2 _ _ (.int .i64 0) h.out)
  have hf : Hid (Fr (fun k => k = p) w (w.setCell ⟨p, 2, none⟩ (.int .i64 0))) := hid ((Fr.refl (fun k => k = p) w).setCell (p := ⟨p, 2, none⟩) (fun _ => rfl) _)
  go_enter Tryz.func77, Tryz.ntmps77
  go_wp2_with (go_at_call 29; refine CS.mono ?_; rintro e w' ⟨rfl, hw⟩; obtain rfl := hw.symm)
  go_ret
  exact ⟨rfl, hid ⟨k1.out, hf.out⟩⟩
set_option maxRecDepth 100000 in
set_option maxHeartbeats 2000000 in
theorem recover0_calls (h : Hid (PagerAt w p q (.pointer none) false)) (hd : Hid (DiskM w base q.d D)) (ho : Hid (D.on = true)) (hj : Hid (D.f1.now.length = 0)) : Calls Tryz.prog 75 #[.pointer (some ⟨p, 0, none⟩)] w fun en w' => en = .returned (.int .i64 0) ∧ Hid (Up w w') := by
  obtain ⟨e0, _⟩ := h.out.cells
  have CS := fun w' (hu : Up w w') => sec1_calls w' base q.d D (hid (hd.out.up hu))
  have RC := fun w' (hu : Up w w') => read_calls w' base q.d D true (hid (hd.out.up hu)) ho 0 0 (hid ⟨Nat.zero_le _, by show (D.f1.now).length < _; rw [hj.out]; decide⟩)
  have hp0 : part (D.fl true).now 0 0 = [] := by unfold part; simp
  rw [hp0] at RC
  simp only [hj.out] at CS
  go_enter Tryz.func75, Tryz.ntmps75
  go_wp2_with fail
  refine any_start (by kernel_rfl) ?_
  refine any_take 0 (some 8) (v := ?_) rfl rfl (by kernel_rfl) (by kernel_rfl) (by kernel_rfl) (fun _ _ _ h => h) (by rfl) (fun w9 hS => ?_) ?_
  rotate_left
  · go_simp <;> with_reducible rfl
  try simp only [Act.put, List.setIfInBounds_toArray, List.set_cons_zero, List.set_cons_succ]
  refine any_take 1 (some 9) (v := ?_) rfl rfl (by kernel_rfl) (by kernel_rfl) (by kernel_rfl) (fun _ _ _ h => h) (by rfl) (fun w9 hS => ?_) ?_
  rotate_left
  · go_simp <;> with_reducible rfl
  try simp only [Act.put, List.setIfInBounds_toArray, List.set_cons_zero, List.set_cons_succ]
  refine any_take 2 (some 10) (v := ?_) rfl rfl (by kernel_rfl) (by kernel_rfl) (by kernel_rfl) (fun _ _ _ h => h) (by rfl) (fun w9 hS => ?_) ?_
  rotate_left
  · go_simp <;> with_reducible rfl
  try simp only [Act.put, List.setIfInBounds_toArray, List.set_cons_zero, List.set_cons_succ]
  refine any_take 3 (some 11) (v := ?_) rfl rfl (by kernel_rfl) (by kernel_rfl) (by kernel_rfl) (fun _ _ _ h => h) (by rfl) (fun w9 hS => ?_) ?_
  rotate_left
  · have c0 := hS.c e0; go_simp <;> with_reducible rfl
  try simp only [Act.put, List.setIfInBounds_toArray, List.set_cons_zero, List.set_cons_succ]
  refine any_take 4 (some 12) (v := ?_) rfl rfl (by kernel_rfl) (by kernel_rfl) (by kernel_rfl) (fun _ _ _ h => h) (by rfl) (fun w9 hS => ?_) ?_
  rotate_left
  · go_simp <;> with_reducible rfl
  try simp only [Act.put, List.setIfInBounds_toArray, List.set_cons_zero, List.set_cons_succ]
  refine any_take 5 (some 13) (v := ?_) rfl rfl (by kernel_rfl) (by kernel_rfl) (by kernel_rfl) (fun _ _ _ h => h) (by rfl) (fun w9 hS => ?_) ?_
  rotate_left
  · go_simp <;> with_reducible rfl
  try simp only [Act.put, List.setIfInBounds_toArray, List.set_cons_zero, List.set_cons_succ]
  refine any_take 6 (some 14) (v := ?_) rfl rfl (by kernel_rfl) (by kernel_rfl) (by kernel_rfl) (fun _ _ _ h => h) (by rfl) (fun w9 hS => ?_) ?_
  rotate_left
  · go_simp <;> with_reducible rfl
  try simp only [Act.put, List.setIfInBounds_toArray, List.set_cons_zero, List.set_cons_succ]
  refine any_take 7 (some 15) (v := ?_) rfl rfl (by kernel_rfl) (by kernel_rfl) (by kernel_rfl) (fun _ _ _ h => h) (by rfl) (fun w9 hS => ?_) ?_
  rotate_left
  · have c0 := hS.c e0; go_simp <;> with_reducible rfl
  try simp only [Act.put, List.setIfInBounds_toArray, List.set_cons_zero, List.set_cons_succ]
  refine any_call 8 (by kernel_rfl) rfl (by rfl) (fun K9 hK9 => ?_)
  go_simp
  go_at_call 29
  refine (CS _ (Up.drew w)).mono ?_
  rintro en w2 ⟨rfl, hw⟩
  obtain rfl := hw.symm
  clear hw
  refine hK9.out _ _ (Up.refl _) ?_
  clear hK9 K9
  try simp only [Act.put, List.setIfInBounds_toArray, List.set_cons_zero, List.set_cons_succ]
  refine any_call 9 (by kernel_rfl) rfl (by rfl) (fun K9 hK9 => ?_)
  go_simp
  go_at_call 131
  refine (RC _ (Up.drew w)).mono ?_
  rintro en w3 ⟨A3, c3, rfl, hh⟩
  have U3 : Hid (Up w w3) := hid ((Up.drew w).t hh.out.1)
  refine hK9.out _ _ hh.out.1 ?_
  clear hh
  clear hK9 K9
  try simp only [Act.put, List.setIfInBounds_toArray, List.set_cons_zero, List.set_cons_succ]
  refine any_take 10 (some 7) (v := ?_) rfl rfl (by kernel_rfl) (by kernel_rfl) (by kernel_rfl) (fun _ _ _ h => h) (by rfl) (fun w9 hS => ?_) ?_
  rotate_left
  · go_simp <;> with_reducible rfl
  try simp only [Act.put, List.setIfInBounds_toArray, List.set_cons_zero, List.set_cons_succ]
  refine any_take 11 (some 18) (v := ?_) rfl rfl (by kernel_rfl) (by kernel_rfl) (by kernel_rfl) (fun _ _ _ h => h) (by rfl) (fun w9 hS => ?_) ?_
  rotate_left
  · go_simp <;> with_reducible rfl
  try simp only [Act.put, List.setIfInBounds_toArray, List.set_cons_zero, List.set_cons_succ]
  refine any_take 12 (some 19) (v := ?_) rfl rfl (by kernel_rfl) (by kernel_rfl) (by kernel_rfl) (fun _ _ _ h => h) (by rfl) (fun w9 hS => ?_) ?_
  rotate_left
  · go_simp <;> with_reducible rfl
  try simp only [Act.put, List.setIfInBounds_toArray, List.set_cons_zero, List.set_cons_succ]
  refine any_take 13 (some 3) (v := ?_) rfl rfl (by kernel_rfl) (by kernel_rfl) (by kernel_rfl) (fun _ _ _ h => h) (by rfl) (fun w9 hS => ?_) ?_
  rotate_left
  · go_simp <;> with_reducible rfl
  try simp only [Act.put, List.setIfInBounds_toArray, List.set_cons_zero, List.set_cons_succ]
  refine any_take 14 (some 4) (v := ?_) rfl rfl (by kernel_rfl) (by kernel_rfl) (by kernel_rfl) (fun _ _ _ h => h) (by rfl) (fun w9 hS => ?_) ?_
  rotate_left
  · go_simp <;> with_reducible rfl
  try simp only [Act.put, List.setIfInBounds_toArray, List.set_cons_zero, List.set_cons_succ]
  refine any_done (by kernel_rfl) ?_
  first | (rename_i K1 h1; refine h1 _ _ ?_; clear h1 K1) | skip
  go_wp2_with (go_at_call 132; refine (hot0_calls _ A3 c3).mono ?_; rintro e w4 ⟨rfl, u4⟩)
  go_ret
  exact ⟨rfl, hid (U3.out.t u4.out)⟩
end
end Go.Proofs.YtbcghggkfnagoaaGreatDoor
