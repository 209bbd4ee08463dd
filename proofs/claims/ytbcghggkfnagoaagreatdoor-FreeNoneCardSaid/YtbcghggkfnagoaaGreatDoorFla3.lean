/- THE WALK of FreeNone. -/
import Derived.Test.YtbcghggkfnagoaaGreatDoorFla2
set_option linter.unusedVariables false
set_option linter.unusedSimpArgs false
namespace Go.Proofs.YtbcghggkfnagoaaGreatDoor
open Go Go.RowKit Go.Maps Hach

def Box8 (w : World) (x : Nat) (kd i n : Int) : Prop := w.heap[x]? = some (.cells #[.int .i64 kd, .int .i64 i, .int .i64 n] 101 (0, 0))
theorem Box8.cells {w : World} {x : Nat} {kd i n : Int} (h : Box8 w x kd i n) : w.cell? ⟨x, 1, none⟩ = some (.int .i64 i) ∧ w.cell? ⟨x, 2, none⟩ = some (.int .i64 n) := ⟨by rw [cell_of_row _ _ _ _ _ _ h]; rfl, by rw [cell_of_row _ _ _ _ _ _ h]; rfl⟩
theorem Box8.up {w w' : World} {x : Nat} {kd i n : Int} (h : Box8 w x kd i n) (hu : Up w w') : Box8 w' x kd i n := (hu.block x (Array.getElem?_eq_some_iff.1 h).1).trans h
theorem hidx0 (g : Nat) (w : World) : (Instr.index 111 (.agg #[.pointer none, .pointer (some ⟨g, 0, none⟩)]) (.int .i64 0)).run Tryz.prog w = .ok (.pointer none) w := by kernel_rfl
theorem hidx1 (g : Nat) (w : World) : (Instr.index 111 (.agg #[.pointer none, .pointer (some ⟨g, 0, none⟩)]) (.int .i64 1)).run Tryz.prog w = .ok (.pointer (some ⟨g, 0, none⟩)) w := by kernel_rfl
theorem eidx0 (w : World) : (Instr.index 114 (.agg #[.int .i64 1, .int .i64 1, .int .i64 1, .int .i64 1, .int .i64 1, .int .i64 1, .int .i64 1]) (.int .i64 0)).run Tryz.prog w = .ok (.int .i64 1) w := by kernel_rfl
theorem eidx1 (w : World) : (Instr.index 114 (.agg #[.int .i64 1, .int .i64 1, .int .i64 1, .int .i64 1, .int .i64 1, .int .i64 1, .int .i64 1]) (.int .i64 1)).run Tryz.prog w = .ok (.int .i64 1) w := by kernel_rfl
theorem eidx2 (w : World) : (Instr.index 114 (.agg #[.int .i64 1, .int .i64 1, .int .i64 1, .int .i64 1, .int .i64 1, .int .i64 1, .int .i64 1]) (.int .i64 2)).run Tryz.prog w = .ok (.int .i64 1) w := by kernel_rfl
theorem eidx3 (w : World) : (Instr.index 114 (.agg #[.int .i64 1, .int .i64 1, .int .i64 1, .int .i64 1, .int .i64 1, .int .i64 1, .int .i64 1]) (.int .i64 3)).run Tryz.prog w = .ok (.int .i64 1) w := by kernel_rfl
theorem eidx4 (w : World) : (Instr.index 114 (.agg #[.int .i64 1, .int .i64 1, .int .i64 1, .int .i64 1, .int .i64 1, .int .i64 1, .int .i64 1]) (.int .i64 4)).run Tryz.prog w = .ok (.int .i64 1) w := by kernel_rfl
theorem eidx5 (w : World) : (Instr.index 114 (.agg #[.int .i64 1, .int .i64 1, .int .i64 1, .int .i64 1, .int .i64 1, .int .i64 1, .int .i64 1]) (.int .i64 5)).run Tryz.prog w = .ok (.int .i64 1) w := by kernel_rfl
theorem eidx6 (w : World) : (Instr.index 114 (.agg #[.int .i64 1, .int .i64 1, .int .i64 1, .int .i64 1, .int .i64 1, .int .i64 1, .int .i64 1]) (.int .i64 6)).run Tryz.prog w = .ok (.int .i64 1) w := by kernel_rfl
set_option maxRecDepth 100000 in
set_option maxHeartbeats 2000000 in
theorem freeNone_walk (w : World) (kd i n : Int) : Calls Tryz.prog 10 #[.agg #[.int .i64 kd, .int .i64 i, .int .i64 n]] w fun en w' => en = .returned (.bool true) ∧ Below w.heap.size w w' := by
  obtain ⟨W0, hW0⟩ : ∃ x, w.alloc (.cells #[.int .i64 kd, .int .i64 i, .int .i64 n] 101) = x := ⟨_, rfl⟩
  have U0 : Hid (Up w W0) := hid (by rw [← hW0]; exact upAlD (Up.refl w) _)
  have B0 : Hid (Box8 W0 w.heap.size kd i n) := hid (by rw [← hW0]; exact heap_alloc_new w _)
  have HW0 := hid hW0
  clear hW0
  go_enter Tryz.func10, Tryz.ntmps10
  go_wp2_with fail
  rw [HW0.out]
  refine (dnew_calls W0 100 (by decide) (by decide)).mono ?_
  rintro en w1 ⟨d, rfl, h1⟩
  go_wp2_with fail
  refine (open0_calls w1 W0.heap.size d (newD 100) 8 (hid h1.out.1) (hid rfl) (hid ⟨rfl, rfl⟩) (hid ⟨by decide, by decide⟩)).mono ?_
  rintro en w2 ⟨p, q, rfl, h2⟩
  have U2 : Hid (Up W0 w2) := hid (h1.out.2.t h2.out.2.2.1)
  have P2 := hid h2.out.1
  have Q0 : Hid (q.count = 0) := hid h2.out.2.1.1
  have Q2 : Hid (q.count = ((0 : Nat) : Int)) := hid h2.out.2.1.1
  have PB : Hid (W0.heap.size ≤ p) := hid (by have := h1.out.2.size; have := h2.out.2.2.2; omega)
  clear h1 h2
  go_wp2_with fail
  refine (fopenN_calls w2 p q P2 Q0).mono ?_
  rintro en w' ⟨rfl, hw⟩
  obtain rfl := hw.symm
  clear hw
  go_wp2_with fail
  refine (pbegin_calls w2 p q 0 P2 Q2).mono ?_
  rintro en w3 ⟨rfl, t, m, h3⟩
  have U3 : Hid (Up W0 w3) := hid (U2.out.trans (h3.out.2.1.below U2.out.size (fun k hk e => by have := PB.out; omega)))
  clear h3 U2 P2
  go_wp2_with fail
  refine (fmake0_calls w3).mono ?_
  rintro en w' ⟨rfl, hw⟩
  obtain rfl := hw.symm
  clear hw
  go_wp2_with fail
  refine (fopen0_calls w3).mono ?_
  rintro en w' ⟨rfl, hw⟩
  obtain rfl := hw.symm
  clear hw
  have i0 := hidx0 w3.heap.size
  have i1 := hidx1 w3.heap.size
  go_wp2_with fail
  refine wp_loop_rounds 3 ?_
  obtain ⟨W1, hW1⟩ : ∃ x, w3.alloc (.cells #[.pointer none] 110) = x := ⟨_, rfl⟩
  have U1 : Hid (Up W0 W1) := hid (by rw [← hW1]; exact U3.out.t (upAlD (Up.refl w3) _))
  have B1 : Hid (Box8 W1 w.heap.size kd i n) := hid (B0.out.up U1.out)
  have N1 : Hid (NoHeap W1 (.pointer (some ⟨w3.heap.size, 0, none⟩))) := hid (.inr ⟨_, rfl, by rw [← hW1, cell_of_row _ _ _ _ _ _ (heap_alloc_new w3 _)]; rfl⟩)
  have N0 : Hid (NoHeap W1 (.pointer none)) := hid (.inl rfl)
  have HW1 := hid hW1
  clear hW1
  rw [rounds_succ, HW1.out]
  have V1 : Hid (Up W1 W1) := hid (Up.refl W1)
  have NN : Hid (NoHeap W1 (.pointer none)) := hid (N0.out.up V1.out)
  obtain ⟨x1, x2⟩ := (B1.out.up V1.out).cells
  go_wp2_with fail
  refine (htakeU_calls W1 (.pointer none) NN).mono ?_
  rintro en w' ⟨rfl, hw⟩
  obtain rfl := hw.symm
  clear hw
  go_wp2_with fail
  refine (hallU_calls W1 (.pointer none) NN).mono ?_
  rintro en w' ⟨rfl, hw⟩
  obtain rfl := hw.symm
  clear hw
  go_wp2_with fail
  refine (hcountU_calls W1 (.pointer none) NN).mono ?_
  rintro en w' ⟨rfl, hw⟩
  obtain rfl := hw.symm
  clear hw
  go_wp2_with fail
  refine (hwordU_calls W1 (.pointer none) i NN).mono ?_
  rintro en w' ⟨rfl, hw⟩
  obtain rfl := hw.symm
  clear hw
  have BW : Hid (Box8 W1.drew w.heap.size kd i n) := hid ((B1.out.up V1.out).up (Up.drew _))
  have NW : Hid (NoHeap W1.drew (.pointer none)) := hid (NN.out.up (Up.drew _))
  go_wp2_with fail
  refine any_start (by kernel_rfl) ?_
  refine any_take 0 (some 80) (v := ?_) rfl rfl (by kernel_rfl) (by kernel_rfl) (by kernel_rfl) (fun _ _ _ h => h) (by rfl) (fun w9 hS => ?_) ?_
  rotate_left
  · go_simp <;> with_reducible rfl
  try simp only [Act.put, List.setIfInBounds_toArray, List.set_cons_zero, List.set_cons_succ]
  refine any_take 1 (some 81) (v := ?_) rfl rfl (by kernel_rfl) (by kernel_rfl) (by kernel_rfl) (fun _ _ _ h => h) (by rfl) (fun w9 hS => ?_) ?_
  rotate_left
  · go_simp <;> with_reducible rfl
  try simp only [Act.put, List.setIfInBounds_toArray, List.set_cons_zero, List.set_cons_succ]
  refine any_take 2 (some 82) (v := ?_) rfl rfl (by kernel_rfl) (by kernel_rfl) (by kernel_rfl) (fun _ _ _ h => h) (by rfl) (fun w9 hS => ?_) ?_
  rotate_left
  · go_simp <;> with_reducible rfl
  try simp only [Act.put, List.setIfInBounds_toArray, List.set_cons_zero, List.set_cons_succ]
  refine any_take 3 (some 83) (v := ?_) rfl rfl (by kernel_rfl) (by kernel_rfl) (by kernel_rfl) (fun _ _ _ h => h) (by rfl) (fun w9 hS => ?_) ?_
  rotate_left
  · go_simp <;> with_reducible rfl
  try simp only [Act.put, List.setIfInBounds_toArray, List.set_cons_zero, List.set_cons_succ]
  refine any_take 4 (some 84) (v := ?_) rfl rfl (by kernel_rfl) (by kernel_rfl) (by kernel_rfl) (fun _ _ _ h => h) (by rfl) (fun w9 hS => ?_) ?_
  rotate_left
  · go_simp <;> with_reducible rfl
  try simp only [Act.put, List.setIfInBounds_toArray, List.set_cons_zero, List.set_cons_succ]
  refine any_take 5 (some 85) (v := ?_) rfl rfl (by kernel_rfl) (by kernel_rfl) (by kernel_rfl) (fun _ _ _ h => h) (by rfl) (fun w9 hS => ?_) ?_
  rotate_left
  · go_simp <;> with_reducible rfl
  try simp only [Act.put, List.setIfInBounds_toArray, List.set_cons_zero, List.set_cons_succ]
  refine any_take 6 (some 86) (v := ?_) rfl rfl (by kernel_rfl) (by kernel_rfl) (by kernel_rfl) (fun _ _ _ h => h) (by rfl) (fun w9 hS => ?_) ?_
  rotate_left
  · obtain ⟨y1, y2⟩ := Box8.cells (BW.out.up hS); go_simp <;> with_reducible rfl
  try simp only [Act.put, List.setIfInBounds_toArray, List.set_cons_zero, List.set_cons_succ]
  refine any_take 8 (some 88) (v := ?_) rfl rfl (by kernel_rfl) (by kernel_rfl) (by kernel_rfl) (fun _ _ _ h => h) (by rfl) (fun w9 hS => ?_) ?_
  rotate_left
  · go_simp <;> with_reducible rfl
  try simp only [Act.put, List.setIfInBounds_toArray, List.set_cons_zero, List.set_cons_succ]
  refine any_take 9 (some 89) (v := ?_) rfl rfl (by kernel_rfl) (by kernel_rfl) (by kernel_rfl) (fun _ _ _ h => h) (by rfl) (fun w9 hS => ?_) ?_
  rotate_left
  · go_simp <;> with_reducible rfl
  try simp only [Act.put, List.setIfInBounds_toArray, List.set_cons_zero, List.set_cons_succ]
  refine any_take 10 (some 90) (v := ?_) rfl rfl (by kernel_rfl) (by kernel_rfl) (by kernel_rfl) (fun _ _ _ h => h) (by rfl) (fun w9 hS => ?_) ?_
  rotate_left
  · obtain ⟨y1, y2⟩ := Box8.cells (BW.out.up hS); go_simp <;> with_reducible rfl
  try simp only [Act.put, List.setIfInBounds_toArray, List.set_cons_zero, List.set_cons_succ]
  refine any_take 11 (some 91) (v := ?_) rfl rfl (by kernel_rfl) (by kernel_rfl) (by kernel_rfl) (fun _ _ _ h => h) (by rfl) (fun w9 hS => ?_) ?_
  rotate_left
  · go_simp <;> with_reducible rfl
  try simp only [Act.put, List.setIfInBounds_toArray, List.set_cons_zero, List.set_cons_succ]
  refine any_take 12 (some 92) (v := ?_) rfl rfl (by kernel_rfl) (by kernel_rfl) (by kernel_rfl) (fun _ _ _ h => h) (by rfl) (fun w9 hS => ?_) ?_
  rotate_left
  · obtain ⟨y1, y2⟩ := Box8.cells (BW.out.up hS); go_simp <;> with_reducible rfl
  try simp only [Act.put, List.setIfInBounds_toArray, List.set_cons_zero, List.set_cons_succ]
  refine any_take 14 (some 94) (v := ?_) rfl rfl (by kernel_rfl) (by kernel_rfl) (by kernel_rfl) (fun _ _ _ h => h) (by rfl) (fun w9 hS => ?_) ?_
  rotate_left
  · go_simp <;> with_reducible rfl
  try simp only [Act.put, List.setIfInBounds_toArray, List.set_cons_zero, List.set_cons_succ]
  refine any_take 15 (some 95) (v := ?_) rfl rfl (by kernel_rfl) (by kernel_rfl) (by kernel_rfl) (fun _ _ _ h => h) (by rfl) (fun w9 hS => ?_) ?_
  rotate_left
  · go_simp <;> with_reducible rfl
  try simp only [Act.put, List.setIfInBounds_toArray, List.set_cons_zero, List.set_cons_succ]
  refine any_take 16 (some 96) (v := ?_) rfl rfl (by kernel_rfl) (by kernel_rfl) (by kernel_rfl) (fun _ _ _ h => h) (by rfl) (fun w9 hS => ?_) ?_
  rotate_left
  · obtain ⟨y1, y2⟩ := Box8.cells (BW.out.up hS); go_simp <;> with_reducible rfl
  try simp only [Act.put, List.setIfInBounds_toArray, List.set_cons_zero, List.set_cons_succ]
  refine any_take 19 (some 99) (v := ?_) rfl rfl (by kernel_rfl) (by kernel_rfl) (by kernel_rfl) (fun _ _ _ h => h) (by rfl) (fun w9 hS => ?_) ?_
  rotate_left
  · go_simp <;> with_reducible rfl
  try simp only [Act.put, List.setIfInBounds_toArray, List.set_cons_zero, List.set_cons_succ]
  refine any_call 7 (by kernel_rfl) rfl (by rfl) (fun K9 hK9 => ?_)
  go_simp
  refine (hgiveU_calls _ (.pointer none) i NW).mono ?_
  rintro en w9x ⟨rfl, hw⟩
  obtain rfl := hw.symm
  clear hw
  refine hK9.out _ _ (Up.refl _) ?_
  clear hK9 K9
  try simp only [Act.put, List.setIfInBounds_toArray, List.set_cons_zero, List.set_cons_succ]
  refine any_call 13 (by kernel_rfl) rfl (by rfl) (fun K9 hK9 => ?_)
  go_simp
  refine (hsetU_calls _ (.pointer none) i n NW).mono ?_
  rintro en w9x ⟨rfl, hw⟩
  obtain rfl := hw.symm
  clear hw
  refine hK9.out _ _ (Up.refl _) ?_
  clear hK9 K9
  try simp only [Act.put, List.setIfInBounds_toArray, List.set_cons_zero, List.set_cons_succ]
  refine any_call 17 (by kernel_rfl) rfl (by rfl) (fun K9 hK9 => ?_)
  go_simp
  refine (htrimU_calls _ (.pointer none) i NW).mono ?_
  rintro en w9x ⟨rfl, hw⟩
  obtain rfl := hw.symm
  clear hw
  refine hK9.out _ _ (Up.refl _) ?_
  clear hK9 K9
  try simp only [Act.put, List.setIfInBounds_toArray, List.set_cons_zero, List.set_cons_succ]
  refine any_take 18 (some 98) (v := ?_) rfl rfl (by kernel_rfl) (by kernel_rfl) (by kernel_rfl) (fun _ _ _ h => h) (by rfl) (fun w9 hS => ?_) ?_
  rotate_left
  · go_simp <;> with_reducible rfl
  try simp only [Act.put, List.setIfInBounds_toArray, List.set_cons_zero, List.set_cons_succ]
  refine any_done (by kernel_rfl) ?_
  first | (rename_i K1 h1; refine h1 _ _ ?_; clear h1 K1) | skip
  have j0 := eidx0
  have j1 := eidx1
  have j2 := eidx2
  have j3 := eidx3
  have j4 := eidx4
  have j5 := eidx5
  have j6 := eidx6
  go_wp2_with fail
  refine wp_loop_rounds 8 ?_
  rw [rounds_succ]
  go_wp2_with fail
  rw [rounds_succ]
  go_wp2_with fail
  rw [rounds_succ]
  go_wp2_with fail
  rw [rounds_succ]
  go_wp2_with fail
  rw [rounds_succ]
  go_wp2_with fail
  rw [rounds_succ]
  go_wp2_with fail
  rw [rounds_succ]
  go_wp2_with fail
  rw [rounds_succ]
  go_wp2_with fail
  refine (hpagerU_calls _ (.pointer none) NW).mono ?_
  rintro en w' ⟨rfl, hw⟩
  obtain rfl := hw.symm
  clear hw
  have V2 : Hid (Up W1 W1.drew) := hid (V1.out.t (Up.drew _))
  clear BW NW NN x1 x2 V1
  go_wp2_with fail
  obtain ⟨W2, hW2⟩ : ∃ x, W1.drew = x := ⟨_, rfl⟩
  rw [hW2] at V2 ⊢
  clear hW2
  have V1 := V2
  clear V2
  rw [rounds_succ]
  have NN : Hid (NoHeap W2 (.pointer (some ⟨w3.heap.size, 0, none⟩))) := hid (N1.out.up V1.out)
  obtain ⟨x1, x2⟩ := (B1.out.up V1.out).cells
  go_wp2_with fail
  refine (htakeU_calls W2 (.pointer (some ⟨w3.heap.size, 0, none⟩)) NN).mono ?_
  rintro en w' ⟨rfl, hw⟩
  obtain rfl := hw.symm
  clear hw
  go_wp2_with fail
  refine (hallU_calls W2 (.pointer (some ⟨w3.heap.size, 0, none⟩)) NN).mono ?_
  rintro en w' ⟨rfl, hw⟩
  obtain rfl := hw.symm
  clear hw
  go_wp2_with fail
  refine (hcountU_calls W2 (.pointer (some ⟨w3.heap.size, 0, none⟩)) NN).mono ?_
  rintro en w' ⟨rfl, hw⟩
  obtain rfl := hw.symm
  clear hw
  go_wp2_with fail
  refine (hwordU_calls W2 (.pointer (some ⟨w3.heap.size, 0, none⟩)) i NN).mono ?_
  rintro en w' ⟨rfl, hw⟩
  obtain rfl := hw.symm
  clear hw
  have BW : Hid (Box8 W2.drew w.heap.size kd i n) := hid ((B1.out.up V1.out).up (Up.drew _))
  have NW : Hid (NoHeap W2.drew (.pointer (some ⟨w3.heap.size, 0, none⟩))) := hid (NN.out.up (Up.drew _))
  go_wp2_with fail
  refine any_start (by kernel_rfl) ?_
  refine any_take 0 (some 80) (v := ?_) rfl rfl (by kernel_rfl) (by kernel_rfl) (by kernel_rfl) (fun _ _ _ h => h) (by rfl) (fun w9 hS => ?_) ?_
  rotate_left
  · go_simp <;> with_reducible rfl
  try simp only [Act.put, List.setIfInBounds_toArray, List.set_cons_zero, List.set_cons_succ]
  refine any_take 1 (some 81) (v := ?_) rfl rfl (by kernel_rfl) (by kernel_rfl) (by kernel_rfl) (fun _ _ _ h => h) (by rfl) (fun w9 hS => ?_) ?_
  rotate_left
  · go_simp <;> with_reducible rfl
  try simp only [Act.put, List.setIfInBounds_toArray, List.set_cons_zero, List.set_cons_succ]
  refine any_take 2 (some 82) (v := ?_) rfl rfl (by kernel_rfl) (by kernel_rfl) (by kernel_rfl) (fun _ _ _ h => h) (by rfl) (fun w9 hS => ?_) ?_
  rotate_left
  · go_simp <;> with_reducible rfl
  try simp only [Act.put, List.setIfInBounds_toArray, List.set_cons_zero, List.set_cons_succ]
  refine any_take 3 (some 83) (v := ?_) rfl rfl (by kernel_rfl) (by kernel_rfl) (by kernel_rfl) (fun _ _ _ h => h) (by rfl) (fun w9 hS => ?_) ?_
  rotate_left
  · go_simp <;> with_reducible rfl
  try simp only [Act.put, List.setIfInBounds_toArray, List.set_cons_zero, List.set_cons_succ]
  refine any_take 4 (some 84) (v := ?_) rfl rfl (by kernel_rfl) (by kernel_rfl) (by kernel_rfl) (fun _ _ _ h => h) (by rfl) (fun w9 hS => ?_) ?_
  rotate_left
  · go_simp <;> with_reducible rfl
  try simp only [Act.put, List.setIfInBounds_toArray, List.set_cons_zero, List.set_cons_succ]
  refine any_take 5 (some 85) (v := ?_) rfl rfl (by kernel_rfl) (by kernel_rfl) (by kernel_rfl) (fun _ _ _ h => h) (by rfl) (fun w9 hS => ?_) ?_
  rotate_left
  · go_simp <;> with_reducible rfl
  try simp only [Act.put, List.setIfInBounds_toArray, List.set_cons_zero, List.set_cons_succ]
  refine any_take 6 (some 86) (v := ?_) rfl rfl (by kernel_rfl) (by kernel_rfl) (by kernel_rfl) (fun _ _ _ h => h) (by rfl) (fun w9 hS => ?_) ?_
  rotate_left
  · obtain ⟨y1, y2⟩ := Box8.cells (BW.out.up hS); go_simp <;> with_reducible rfl
  try simp only [Act.put, List.setIfInBounds_toArray, List.set_cons_zero, List.set_cons_succ]
  refine any_take 8 (some 88) (v := ?_) rfl rfl (by kernel_rfl) (by kernel_rfl) (by kernel_rfl) (fun _ _ _ h => h) (by rfl) (fun w9 hS => ?_) ?_
  rotate_left
  · go_simp <;> with_reducible rfl
  try simp only [Act.put, List.setIfInBounds_toArray, List.set_cons_zero, List.set_cons_succ]
  refine any_take 9 (some 89) (v := ?_) rfl rfl (by kernel_rfl) (by kernel_rfl) (by kernel_rfl) (fun _ _ _ h => h) (by rfl) (fun w9 hS => ?_) ?_
  rotate_left
  · go_simp <;> with_reducible rfl
  try simp only [Act.put, List.setIfInBounds_toArray, List.set_cons_zero, List.set_cons_succ]
  refine any_take 10 (some 90) (v := ?_) rfl rfl (by kernel_rfl) (by kernel_rfl) (by kernel_rfl) (fun _ _ _ h => h) (by rfl) (fun w9 hS => ?_) ?_
  rotate_left
  · obtain ⟨y1, y2⟩ := Box8.cells (BW.out.up hS); go_simp <;> with_reducible rfl
  try simp only [Act.put, List.setIfInBounds_toArray, List.set_cons_zero, List.set_cons_succ]
  refine any_take 11 (some 91) (v := ?_) rfl rfl (by kernel_rfl) (by kernel_rfl) (by kernel_rfl) (fun _ _ _ h => h) (by rfl) (fun w9 hS => ?_) ?_
  rotate_left
  · go_simp <;> with_reducible rfl
  try simp only [Act.put, List.setIfInBounds_toArray, List.set_cons_zero, List.set_cons_succ]
  refine any_take 12 (some 92) (v := ?_) rfl rfl (by kernel_rfl) (by kernel_rfl) (by kernel_rfl) (fun _ _ _ h => h) (by rfl) (fun w9 hS => ?_) ?_
  rotate_left
  · obtain ⟨y1, y2⟩ := Box8.cells (BW.out.up hS); go_simp <;> with_reducible rfl
  try simp only [Act.put, List.setIfInBounds_toArray, List.set_cons_zero, List.set_cons_succ]
  refine any_take 14 (some 94) (v := ?_) rfl rfl (by kernel_rfl) (by kernel_rfl) (by kernel_rfl) (fun _ _ _ h => h) (by rfl) (fun w9 hS => ?_) ?_
  rotate_left
  · go_simp <;> with_reducible rfl
  try simp only [Act.put, List.setIfInBounds_toArray, List.set_cons_zero, List.set_cons_succ]
  refine any_take 15 (some 95) (v := ?_) rfl rfl (by kernel_rfl) (by kernel_rfl) (by kernel_rfl) (fun _ _ _ h => h) (by rfl) (fun w9 hS => ?_) ?_
  rotate_left
  · go_simp <;> with_reducible rfl
  try simp only [Act.put, List.setIfInBounds_toArray, List.set_cons_zero, List.set_cons_succ]
  refine any_take 16 (some 96) (v := ?_) rfl rfl (by kernel_rfl) (by kernel_rfl) (by kernel_rfl) (fun _ _ _ h => h) (by rfl) (fun w9 hS => ?_) ?_
  rotate_left
  · obtain ⟨y1, y2⟩ := Box8.cells (BW.out.up hS); go_simp <;> with_reducible rfl
  try simp only [Act.put, List.setIfInBounds_toArray, List.set_cons_zero, List.set_cons_succ]
  refine any_take 19 (some 99) (v := ?_) rfl rfl (by kernel_rfl) (by kernel_rfl) (by kernel_rfl) (fun _ _ _ h => h) (by rfl) (fun w9 hS => ?_) ?_
  rotate_left
  · go_simp <;> with_reducible rfl
  try simp only [Act.put, List.setIfInBounds_toArray, List.set_cons_zero, List.set_cons_succ]
  refine any_call 7 (by kernel_rfl) rfl (by rfl) (fun K9 hK9 => ?_)
  go_simp
  refine (hgiveU_calls _ (.pointer (some ⟨w3.heap.size, 0, none⟩)) i NW).mono ?_
  rintro en w9x ⟨rfl, hw⟩
  obtain rfl := hw.symm
  clear hw
  refine hK9.out _ _ (Up.refl _) ?_
  clear hK9 K9
  try simp only [Act.put, List.setIfInBounds_toArray, List.set_cons_zero, List.set_cons_succ]
  refine any_call 13 (by kernel_rfl) rfl (by rfl) (fun K9 hK9 => ?_)
  go_simp
  refine (hsetU_calls _ (.pointer (some ⟨w3.heap.size, 0, none⟩)) i n NW).mono ?_
  rintro en w9x ⟨rfl, hw⟩
  obtain rfl := hw.symm
  clear hw
  refine hK9.out _ _ (Up.refl _) ?_
  clear hK9 K9
  try simp only [Act.put, List.setIfInBounds_toArray, List.set_cons_zero, List.set_cons_succ]
  refine any_call 17 (by kernel_rfl) rfl (by rfl) (fun K9 hK9 => ?_)
  go_simp
  refine (htrimU_calls _ (.pointer (some ⟨w3.heap.size, 0, none⟩)) i NW).mono ?_
  rintro en w9x ⟨rfl, hw⟩
  obtain rfl := hw.symm
  clear hw
  refine hK9.out _ _ (Up.refl _) ?_
  clear hK9 K9
  try simp only [Act.put, List.setIfInBounds_toArray, List.set_cons_zero, List.set_cons_succ]
  refine any_take 18 (some 98) (v := ?_) rfl rfl (by kernel_rfl) (by kernel_rfl) (by kernel_rfl) (fun _ _ _ h => h) (by rfl) (fun w9 hS => ?_) ?_
  rotate_left
  · go_simp <;> with_reducible rfl
  try simp only [Act.put, List.setIfInBounds_toArray, List.set_cons_zero, List.set_cons_succ]
  refine any_done (by kernel_rfl) ?_
  first | (rename_i K1 h1; refine h1 _ _ ?_; clear h1 K1) | skip
  have j0 := eidx0
  have j1 := eidx1
  have j2 := eidx2
  have j3 := eidx3
  have j4 := eidx4
  have j5 := eidx5
  have j6 := eidx6
  go_wp2_with fail
  refine wp_loop_rounds 8 ?_
  rw [rounds_succ]
  go_wp2_with fail
  rw [rounds_succ]
  go_wp2_with fail
  rw [rounds_succ]
  go_wp2_with fail
  rw [rounds_succ]
  go_wp2_with fail
  rw [rounds_succ]
  go_wp2_with fail
  rw [rounds_succ]
  go_wp2_with fail
  rw [rounds_succ]
  go_wp2_with fail
  rw [rounds_succ]
  go_wp2_with fail
  refine (hpagerU_calls _ (.pointer (some ⟨w3.heap.size, 0, none⟩)) NW).mono ?_
  rintro en w' ⟨rfl, hw⟩
  obtain rfl := hw.symm
  clear hw
  have V2 : Hid (Up W1 W2.drew) := hid (V1.out.t (Up.drew _))
  clear BW NW NN x1 x2 V1
  go_wp2_with fail
  rw [rounds_succ]
  go_wp2_with fail
  refine (lives8_calls _).mono ?_
  rintro en wz ⟨rfl, uz⟩
  go_wp2
  go_ret
  exact ⟨rfl, ((U0.out.t U1.out).t V2.out).t uz⟩
end Go.Proofs.YtbcghggkfnagoaaGreatDoor
