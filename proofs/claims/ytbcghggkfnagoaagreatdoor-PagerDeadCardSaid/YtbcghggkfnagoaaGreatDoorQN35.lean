/- PARTS OF A PROOF, one behind the other: THE WALK of PagerNone. THE WALK of PagerDead. ARGUMENTS, opened: an act, a slice of acts (layer 7). CONDITIONS: none of this text's own. -/
import Derived.Test.YtbcghggkfnagoaaGreatDoorQN34
import Derived.Test.YtbcghggkfnagoaaGreatDoorQN26
import Derived.Test.YtbcghggkfnagoaaGreatDoorQN8
import Derived.Test.YtbcghggkfnagoaaGreatDoorProg
import Derived.Test.YtbcghggkfnagoaaGreatDoorChecked
set_option linter.unusedVariables false
set_option linter.unusedSimpArgs false
namespace Go.Proofs.YtbcghggkfnagoaaGreatDoor
open Go Go.RowKit Go.Maps Hach

def act7V (a : ActV7) : Value := .agg #[.int .i64 a.kind, .int .i64 a.n, .int .u8 (n8 a.seed), .bool a.short]
structure Box7 (w : World) (x : Nat) (a : ActV7) : Prop where
  row : w.heap[x]? = some (.cells #[.int .i64 a.kind, .int .i64 a.n, .int .u8 (n8 a.seed), .bool a.short] 51 (0, 0))
theorem Box7.cells {w : World} {x : Nat} {a : ActV7} (h : Box7 w x a) : w.cell? ⟨x, 0, none⟩ = some (.int .i64 a.kind) ∧ w.cell? ⟨x, 1, none⟩ = some (.int .i64 a.n) ∧ w.cell? ⟨x, 2, none⟩ = some (.int .u8 (n8 a.seed)) ∧ w.cell? ⟨x, 3, none⟩ = some (.bool a.short) := ⟨by rw [cell_of_row _ _ _ _ _ _ h.row]; rfl, by rw [cell_of_row _ _ _ _ _ _ h.row]; rfl, by rw [cell_of_row _ _ _ _ _ _ h.row]; rfl, by rw [cell_of_row _ _ _ _ _ _ h.row]; rfl⟩
theorem Box7.up {w w' : World} {x : Nat} {a : ActV7} (h : Box7 w x a) (hu : Up w w') : Box7 w' x a := ⟨(hu.block x (Array.getElem?_eq_some_iff.1 h.row).1).trans h.row⟩
theorem Box7.qp {w w' : World} {x base : Nat} {a : ActV7} (h : Box7 w x a) (hq : Qp base w w') : Box7 w' x a := ⟨hq.keep x _ _ _ (by unfold pgTy; decide) h.row⟩
theorem pidx0 (g : Nat) (w : World) : (Instr.index 88 (.agg #[.pointer none, .pointer (some ⟨g, 0, none⟩)]) (.int .i64 0)).run Tryz.prog w = .ok (.pointer none) w := by kernel_rfl
theorem pidx1 (g : Nat) (w : World) : (Instr.index 88 (.agg #[.pointer none, .pointer (some ⟨g, 0, none⟩)]) (.int .i64 1)).run Tryz.prog w = .ok (.pointer (some ⟨g, 0, none⟩)) w := by kernel_rfl
theorem nidx0 (e : Int) (w : World) : (Instr.index 92 (.agg #[.int .i64 e, .int .i64 e, .int .i64 e, .int .i64 e, .int .i64 e, .int .i64 e, .int .i64 e, .int .i64 e, .int .i64 e]) (.int .i64 0)).run Tryz.prog w = .ok (.int .i64 e) w := by kernel_rfl
theorem nidx1 (e : Int) (w : World) : (Instr.index 92 (.agg #[.int .i64 e, .int .i64 e, .int .i64 e, .int .i64 e, .int .i64 e, .int .i64 e, .int .i64 e, .int .i64 e, .int .i64 e]) (.int .i64 1)).run Tryz.prog w = .ok (.int .i64 e) w := by kernel_rfl
theorem nidx2 (e : Int) (w : World) : (Instr.index 92 (.agg #[.int .i64 e, .int .i64 e, .int .i64 e, .int .i64 e, .int .i64 e, .int .i64 e, .int .i64 e, .int .i64 e, .int .i64 e]) (.int .i64 2)).run Tryz.prog w = .ok (.int .i64 e) w := by kernel_rfl
theorem nidx3 (e : Int) (w : World) : (Instr.index 92 (.agg #[.int .i64 e, .int .i64 e, .int .i64 e, .int .i64 e, .int .i64 e, .int .i64 e, .int .i64 e, .int .i64 e, .int .i64 e]) (.int .i64 3)).run Tryz.prog w = .ok (.int .i64 e) w := by kernel_rfl
theorem nidx4 (e : Int) (w : World) : (Instr.index 92 (.agg #[.int .i64 e, .int .i64 e, .int .i64 e, .int .i64 e, .int .i64 e, .int .i64 e, .int .i64 e, .int .i64 e, .int .i64 e]) (.int .i64 4)).run Tryz.prog w = .ok (.int .i64 e) w := by kernel_rfl
theorem nidx5 (e : Int) (w : World) : (Instr.index 92 (.agg #[.int .i64 e, .int .i64 e, .int .i64 e, .int .i64 e, .int .i64 e, .int .i64 e, .int .i64 e, .int .i64 e, .int .i64 e]) (.int .i64 5)).run Tryz.prog w = .ok (.int .i64 e) w := by kernel_rfl
theorem nidx6 (e : Int) (w : World) : (Instr.index 92 (.agg #[.int .i64 e, .int .i64 e, .int .i64 e, .int .i64 e, .int .i64 e, .int .i64 e, .int .i64 e, .int .i64 e, .int .i64 e]) (.int .i64 6)).run Tryz.prog w = .ok (.int .i64 e) w := by kernel_rfl
theorem nidx7 (e : Int) (w : World) : (Instr.index 92 (.agg #[.int .i64 e, .int .i64 e, .int .i64 e, .int .i64 e, .int .i64 e, .int .i64 e, .int .i64 e, .int .i64 e, .int .i64 e]) (.int .i64 7)).run Tryz.prog w = .ok (.int .i64 e) w := by kernel_rfl
theorem nidx8 (e : Int) (w : World) : (Instr.index 92 (.agg #[.int .i64 e, .int .i64 e, .int .i64 e, .int .i64 e, .int .i64 e, .int .i64 e, .int .i64 e, .int .i64 e, .int .i64 e]) (.int .i64 8)).run Tryz.prog w = .ok (.int .i64 e) w := by kernel_rfl
set_option maxRecDepth 100000 in
set_option maxHeartbeats 4000000 in
theorem pagerNone_walk (w : World) (ht : Hid (TabOk w)) (k0 n0 : Int) (s0 : UInt8) (h0 : Bool) (room : Int) : Calls Tryz.prog 7 #[.agg #[.int .i64 k0, .int .i64 n0, .int .u8 (n8 s0), .bool h0], .int .i64 room] w fun en w' => en = .returned (.bool true) ∧ Below w.heap.size w w' := by
  obtain ⟨W0, hW0⟩ : ∃ x, w.alloc (.cells #[.int .i64 k0, .int .i64 n0, .int .u8 (n8 s0), .bool h0] 51) = x := ⟨_, rfl⟩
  have U0 : Hid (Up w W0) := hid (by rw [← hW0]; exact upAlD (Up.refl w) _)
  have B0 : Hid (Box7 W0 w.heap.size ⟨k0, n0, s0, h0⟩) := hid ⟨by rw [← hW0]; exact heap_alloc_new w _⟩
  have HW0 := hid hW0
  clear hW0
  go_enter Tryz.func7, Tryz.ntmps7
  go_wp2_with fail
  rw [HW0.out]
  obtain ⟨W1, hW1⟩ : ∃ x, ((W0.alloc (.cells #[.pointer none, .pointer none, .int .i64 0, .pointer none, .bool false, .int .i64 0, .int .i64 0] 80)).alloc (.cells #[.int .i64 0, .slice none 0 0, .map none, .int .i64 0, .slice none 0 0, .map none, .int .i64 0, .bool false, .int .i64 0, .int .i64 0, .slice none 0 0, .int .i64 0] 87)) = x := ⟨_, rfl⟩
  have U1 : Hid (Up W0 W1) := hid (by rw [← hW1]; exact upAlD (upAlD (Up.refl W0) _) _)
  have B1 : Hid (Box7 W1 w.heap.size ⟨k0, n0, s0, h0⟩) := hid (B0.out.up U1.out)
  have z0 : W0.heap.size = w.heap.size + 1 := by rw [← HW0.out]; simp
  have N1 : Hid (StopP W1 (.pointer (some ⟨w.heap.size + 1, 0, none⟩)) 1) := hid (.inl ⟨rfl, .inr ⟨_, rfl, by
    rw [← hW1, ← z0]
    refine (upAlD (Up.refl _) _).c ?_
    rw [cell_of_row _ _ _ _ _ _ (heap_alloc_new W0 _)]; rfl⟩⟩)
  have N0 : Hid (StopP W1 (.pointer none) 1) := hid (.inl ⟨rfl, .inl rfl⟩)
  have D1 : Hid (NoDk W1 (.pointer (some ⟨w.heap.size + 1 + 1, 0, none⟩))) := hid (.inr ⟨_, rfl, by
    rw [← hW1, ← z0, show W0.heap.size + 1 = (W0.alloc (.cells #[.pointer none, .pointer none, .int .i64 0, .pointer none, .bool false, .int .i64 0, .int .i64 0] 80)).heap.size by simp]
    rw [cell_of_row _ _ _ _ _ _ (heap_alloc_new _ _)]; rfl⟩)
  rw [hW1]
  clear hW1 z0
  refine (popenU_calls W1 _ 8 D1).mono ?_
  rintro en W2 ⟨rfl, h2⟩
  have U2 : Hid (Up W1 W2) := hid h2.out
  clear h2
  go_wp2_with fail
  refine (popenU_calls W2 (.pointer none) room (hid (.inl rfl))).mono ?_
  rintro en W3 ⟨rfl, h3⟩
  have U3 : Hid (Up W1 W3) := hid (U2.out.t h3.out)
  clear h3 U2 D1
  have i0 := pidx0 (w.heap.size + 1)
  have i1 := pidx1 (w.heap.size + 1)
  go_wp2_with fail
  refine wp_loop_rounds 3 ?_
  --ROUNDS
  rw [rounds_succ]
  have NN : Hid (StopP W3 (.pointer none) 1) := hid (N0.out.up U3.out)
  obtain ⟨x0, x1, x2, x3⟩ := (B1.out.up U3.out).cells
  go_wp2_with fail
  refine (pgetX_calls W3 (.pointer none) 1 n0 NN).mono ?_
  rintro en a1 ⟨rfl, g1⟩
  have VB : Hid (Up W1 a1) := hid (U3.out.t g1.out)
  clear g1 x0 x1 x2 x3 U3 NN
  have NN : Hid (StopP a1 (.pointer none) 1) := hid (N0.out.up VB.out)
  go_wp2_with fail
  refine (pgrowX_calls a1 (.pointer none) 1 NN).mono ?_
  rintro en a2 ⟨rfl, g2⟩
  have VC : Hid (Up W1 a2) := hid (VB.out.t g2.out)
  clear g2 VB NN
  have NN : Hid (StopP a2 (.pointer none) 1) := hid (N0.out.up VC.out)
  go_wp2_with fail
  refine (pmarkX_calls a2 (.pointer none) 1 NN).mono ?_
  rintro en a3 ⟨rfl, g3⟩
  have VD : Hid (Up W1 a3.drew) := hid ((VC.out.t g3.out).t (Up.drew a3))
  clear NN
  have NN : Hid (StopP a3.drew (.pointer none) 1) := hid (N0.out.up VD.out)
  have BD : Hid (Box7 a3.drew w.heap.size ⟨k0, n0, s0, h0⟩) := hid (B1.out.up VD.out)
  clear g3 VC
  go_wp2_with fail
  have US : a3.drew.cell? ⟨w.heap.size, 0, none⟩ = some (.int .i64 k0) ∧ a3.drew.cell? ⟨w.heap.size, 1, none⟩ = some (.int .i64 n0) ∧ a3.drew.cell? ⟨w.heap.size, 2, none⟩ = some (.int .u8 (n8 s0)) ∧ a3.drew.cell? ⟨w.heap.size, 3, none⟩ = some (.bool h0) := BD.out.cells
  refine s_start (fun w9 => w9.cell? ⟨w.heap.size, 0, none⟩ = some (.int .i64 k0) ∧ w9.cell? ⟨w.heap.size, 1, none⟩ = some (.int .i64 n0) ∧ w9.cell? ⟨w.heap.size, 2, none⟩ = some (.int .u8 (n8 s0)) ∧ w9.cell? ⟨w.heap.size, 3, none⟩ = some (.bool h0)) (by kernel_rfl) ?_
  refine s_tk 0 65 (v := ?_) US (fun w9 hS => ?_) ?_; rotate_left
  · go_simp <;> with_reducible rfl
  try simp only [Act.put, List.setIfInBounds_toArray, List.set_cons_zero, List.set_cons_succ]
  refine s_tk 1 66 (v := ?_) US (fun w9 hS => ?_) ?_; rotate_left
  · go_simp <;> with_reducible rfl
  try simp only [Act.put, List.setIfInBounds_toArray, List.set_cons_zero, List.set_cons_succ]
  refine s_tk 2 67 (v := ?_) US (fun w9 hS => ?_) ?_; rotate_left
  · go_simp <;> with_reducible rfl
  try simp only [Act.put, List.setIfInBounds_toArray, List.set_cons_zero, List.set_cons_succ]
  refine s_tk 3 68 (v := ?_) US (fun w9 hS => ?_) ?_; rotate_left
  · go_simp <;> with_reducible rfl
  try simp only [Act.put, List.setIfInBounds_toArray, List.set_cons_zero, List.set_cons_succ]
  refine s_tk 5 70 (v := ?_) US (fun w9 hS => ?_) ?_; rotate_left
  · go_simp <;> with_reducible rfl
  try simp only [Act.put, List.setIfInBounds_toArray, List.set_cons_zero, List.set_cons_succ]
  refine s_tk 6 71 (v := ?_) US (fun w9 hS => ?_) ?_; rotate_left
  · go_simp <;> with_reducible rfl
  try simp only [Act.put, List.setIfInBounds_toArray, List.set_cons_zero, List.set_cons_succ]
  refine s_tk 7 72 (v := ?_) US (fun w9 hS => ?_) ?_; rotate_left
  · obtain ⟨c0, c1, c2, c3⟩ := hS; go_simp <;> with_reducible rfl
  try simp only [Act.put, List.setIfInBounds_toArray, List.set_cons_zero, List.set_cons_succ]
  refine s_tk 8 73 (v := ?_) US (fun w9 hS => ?_) ?_; rotate_left
  · obtain ⟨c0, c1, c2, c3⟩ := hS; go_simp <;> with_reducible rfl
  try simp only [Act.put, List.setIfInBounds_toArray, List.set_cons_zero, List.set_cons_succ]
  refine s_tk 11 76 (v := ?_) US (fun w9 hS => ?_) ?_; rotate_left
  · go_simp <;> with_reducible rfl
  try simp only [Act.put, List.setIfInBounds_toArray, List.set_cons_zero, List.set_cons_succ]
  refine s_tk 12 77 (v := ?_) US (fun w9 hS => ?_) ?_; rotate_left
  · go_simp <;> with_reducible rfl
  try simp only [Act.put, List.setIfInBounds_toArray, List.set_cons_zero, List.set_cons_succ]
  refine s_tk 13 78 (v := ?_) US (fun w9 hS => ?_) ?_; rotate_left
  · obtain ⟨c0, c1, c2, c3⟩ := hS; go_simp <;> with_reducible rfl
  try simp only [Act.put, List.setIfInBounds_toArray, List.set_cons_zero, List.set_cons_succ]
  refine s_tk 15 80 (v := ?_) US (fun w9 hS => ?_) ?_; rotate_left
  · go_simp <;> with_reducible rfl
  try simp only [Act.put, List.setIfInBounds_toArray, List.set_cons_zero, List.set_cons_succ]
  refine s_tk 16 81 (v := ?_) US (fun w9 hS => ?_) ?_; rotate_left
  · go_simp <;> with_reducible rfl
  try simp only [Act.put, List.setIfInBounds_toArray, List.set_cons_zero, List.set_cons_succ]
  refine s_tk 17 82 (v := ?_) US (fun w9 hS => ?_) ?_; rotate_left
  · obtain ⟨c0, c1, c2, c3⟩ := hS; go_simp <;> with_reducible rfl
  try simp only [Act.put, List.setIfInBounds_toArray, List.set_cons_zero, List.set_cons_succ]
  refine s_tk 19 84 (v := ?_) US (fun w9 hS => ?_) ?_; rotate_left
  · go_simp <;> with_reducible rfl
  try simp only [Act.put, List.setIfInBounds_toArray, List.set_cons_zero, List.set_cons_succ]
  refine s_tk 21 86 (v := ?_) US (fun w9 hS => ?_) ?_; rotate_left
  · go_simp <;> with_reducible rfl
  try simp only [Act.put, List.setIfInBounds_toArray, List.set_cons_zero, List.set_cons_succ]
  refine s_tk 24 89 (v := ?_) US (fun w9 hS => ?_) ?_; rotate_left
  · go_simp <;> with_reducible rfl
  try simp only [Act.put, List.setIfInBounds_toArray, List.set_cons_zero, List.set_cons_succ]
  refine s_ca 4 (fun K9 hK9 => ?_)
  go_simp
  go_at_call 47
  refine (pbeginX_calls a3.drew (.pointer none) 1 NN).mono ?_
  rintro en z1 ⟨rfl, g⟩
  have Z1 : Hid (Up a3.drew z1) := hid (g.out)
  clear g
  have US : z1.cell? ⟨w.heap.size, 0, none⟩ = some (.int .i64 k0) ∧ z1.cell? ⟨w.heap.size, 1, none⟩ = some (.int .i64 n0) ∧ z1.cell? ⟨w.heap.size, 2, none⟩ = some (.int .u8 (n8 s0)) ∧ z1.cell? ⟨w.heap.size, 3, none⟩ = some (.bool h0) := (BD.out.up Z1.out).cells
  refine hK9.out _ _ US ?_
  clear hK9 K9
  try simp only [Act.put, List.setIfInBounds_toArray, List.set_cons_zero, List.set_cons_succ]
  refine s_ca 9 (fun K9 hK9 => ?_)
  go_simp
  go_at_call 49
  refine (bytes7_calls z1 ⟨k0, n0, s0, h0⟩).mono ?_
  rintro en z2 ⟨Ab, cb, rfl, g⟩
  have Z2 : Hid (Up a3.drew z2) := hid (Z1.out.t (g.out.2))
  clear g
  have US : z2.cell? ⟨w.heap.size, 0, none⟩ = some (.int .i64 k0) ∧ z2.cell? ⟨w.heap.size, 1, none⟩ = some (.int .i64 n0) ∧ z2.cell? ⟨w.heap.size, 2, none⟩ = some (.int .u8 (n8 s0)) ∧ z2.cell? ⟨w.heap.size, 3, none⟩ = some (.bool h0) := (BD.out.up Z2.out).cells
  clear Z1
  refine hK9.out _ _ US ?_
  clear hK9 K9
  try simp only [Act.put, List.setIfInBounds_toArray, List.set_cons_zero, List.set_cons_succ]
  refine s_ca 10 (fun K9 hK9 => ?_)
  go_simp
  go_at_call 48
  refine (pputX_calls z2 (.pointer none) 1 n0 Ab _ cb (hid (NN.out.up Z2.out))).mono ?_
  rintro en z3 ⟨rfl, g⟩
  have Z3 : Hid (Up a3.drew z3) := hid (Z2.out.t (g.out))
  clear g
  have US : z3.cell? ⟨w.heap.size, 0, none⟩ = some (.int .i64 k0) ∧ z3.cell? ⟨w.heap.size, 1, none⟩ = some (.int .i64 n0) ∧ z3.cell? ⟨w.heap.size, 2, none⟩ = some (.int .u8 (n8 s0)) ∧ z3.cell? ⟨w.heap.size, 3, none⟩ = some (.bool h0) := (BD.out.up Z3.out).cells
  clear Z2
  refine hK9.out _ _ US ?_
  clear hK9 K9
  try simp only [Act.put, List.setIfInBounds_toArray, List.set_cons_zero, List.set_cons_succ]
  refine s_ca 14 (fun K9 hK9 => ?_)
  go_simp
  go_at_call 50
  refine (pshrinkX_calls z3 (.pointer none) 1 n0 (hid (NN.out.up Z3.out))).mono ?_
  rintro en z4 ⟨rfl, g⟩
  have Z4 : Hid (Up a3.drew z4) := hid (Z3.out.t (g.out))
  clear g
  have US : z4.cell? ⟨w.heap.size, 0, none⟩ = some (.int .i64 k0) ∧ z4.cell? ⟨w.heap.size, 1, none⟩ = some (.int .i64 n0) ∧ z4.cell? ⟨w.heap.size, 2, none⟩ = some (.int .u8 (n8 s0)) ∧ z4.cell? ⟨w.heap.size, 3, none⟩ = some (.bool h0) := (BD.out.up Z4.out).cells
  clear Z3
  refine hK9.out _ _ US ?_
  clear hK9 K9
  try simp only [Act.put, List.setIfInBounds_toArray, List.set_cons_zero, List.set_cons_succ]
  refine s_ca 18 (fun K9 hK9 => ?_)
  go_simp
  go_at_call 51
  refine (pundoX_calls z4 (.pointer none) 1 n0 (hid (NN.out.up Z4.out))).mono ?_
  rintro en z5 ⟨rfl, g⟩
  have Z5 : Hid (Up a3.drew z5) := hid (Z4.out.t (g.out))
  clear g
  have US : z5.cell? ⟨w.heap.size, 0, none⟩ = some (.int .i64 k0) ∧ z5.cell? ⟨w.heap.size, 1, none⟩ = some (.int .i64 n0) ∧ z5.cell? ⟨w.heap.size, 2, none⟩ = some (.int .u8 (n8 s0)) ∧ z5.cell? ⟨w.heap.size, 3, none⟩ = some (.bool h0) := (BD.out.up Z5.out).cells
  clear Z4
  refine hK9.out _ _ US ?_
  clear hK9 K9
  try simp only [Act.put, List.setIfInBounds_toArray, List.set_cons_zero, List.set_cons_succ]
  refine s_ca 20 (fun K9 hK9 => ?_)
  go_simp
  go_at_call 52
  refine (prollX_calls z5 (.pointer none) 1 (hid (NN.out.up Z5.out))).mono ?_
  rintro en z6 ⟨rfl, g⟩
  have Z6 : Hid (Up a3.drew z6) := hid (Z5.out.t (g.out))
  clear g
  have US : z6.cell? ⟨w.heap.size, 0, none⟩ = some (.int .i64 k0) ∧ z6.cell? ⟨w.heap.size, 1, none⟩ = some (.int .i64 n0) ∧ z6.cell? ⟨w.heap.size, 2, none⟩ = some (.int .u8 (n8 s0)) ∧ z6.cell? ⟨w.heap.size, 3, none⟩ = some (.bool h0) := (BD.out.up Z6.out).cells
  clear Z5
  refine hK9.out _ _ US ?_
  clear hK9 K9
  try simp only [Act.put, List.setIfInBounds_toArray, List.set_cons_zero, List.set_cons_succ]
  refine s_ca 22 (fun K9 hK9 => ?_)
  go_simp
  go_at_call 23
  refine (pcommitX_calls z6 (.pointer none) 1 (hid (NN.out.up Z6.out))).mono ?_
  rintro en z7 ⟨rfl, g⟩
  have Z7 : Hid (Up a3.drew z7) := hid (Z6.out.t (g.out))
  clear g
  have US : z7.cell? ⟨w.heap.size, 0, none⟩ = some (.int .i64 k0) ∧ z7.cell? ⟨w.heap.size, 1, none⟩ = some (.int .i64 n0) ∧ z7.cell? ⟨w.heap.size, 2, none⟩ = some (.int .u8 (n8 s0)) ∧ z7.cell? ⟨w.heap.size, 3, none⟩ = some (.bool h0) := (BD.out.up Z7.out).cells
  clear Z6
  refine hK9.out _ _ US ?_
  clear hK9 K9
  try simp only [Act.put, List.setIfInBounds_toArray, List.set_cons_zero, List.set_cons_succ]
  refine s_tk 23 88 (v := ?_) US (fun w9 hS => ?_) ?_; rotate_left
  · go_simp <;> with_reducible rfl
  try simp only [Act.put, List.setIfInBounds_toArray, List.set_cons_zero, List.set_cons_succ]
  refine s_done (by kernel_rfl) ?_
  clear US
  first | (rename_i K1 h1; refine h1 _ _ ?_; clear h1 K1) | skip
  have VE : Hid (Up W1 z7) := hid (VD.out.t Z7.out)
  clear Z7 VD BD NN
  have NN : Hid (StopP z7 (.pointer none) 1) := hid (N0.out.up VE.out)
  have j0 := nidx0 1
  have j1 := nidx1 1
  have j2 := nidx2 1
  have j3 := nidx3 1
  have j4 := nidx4 1
  have j5 := nidx5 1
  have j6 := nidx6 1
  have j7 := nidx7 1
  have j8 := nidx8 1
  go_wp2_with fail
  refine wp_loop_rounds 10 ?_
  rw [rounds_succ]
  go_wp2_with fail
  rw [rounds_succ]
  go_wp2_with fail
  rw [rounds_succ]
  go_wp2_with fail
  rw [rounds_succ]
  go_wp2_with fail
  rw [rounds_succ]
  go_wp2_with fail
  rw [rounds_succ]
  go_wp2_with fail
  rw [rounds_succ]
  go_wp2_with fail
  rw [rounds_succ]
  go_wp2_with fail
  rw [rounds_succ]
  go_wp2_with fail
  rw [rounds_succ]
  go_wp2_with fail
  refine (ppagesX_calls z7 (.pointer none) 1 NN).mono ?_
  rintro en a4 ⟨rfl, g⟩
  have VF : Hid (Up W1 a4) := hid (VE.out.t g.out)
  clear g VE NN j0 j1 j2 j3 j4 j5 j6 j7 j8
  have NN : Hid (StopP a4 (.pointer none) 1) := hid (N0.out.up VF.out)
  go_wp2_with fail
  refine (pchangedX_calls a4 (.pointer none) 1 NN).mono ?_
  rintro en a5 ⟨rfl, g⟩
  have VG : Hid (Up W1 a5) := hid (VF.out.t g.out)
  clear g VF NN
  have VF := VG
  clear VG
  have NN : Hid (StopP a5 (.pointer none) 1) := hid (N0.out.up VF.out)
  go_wp2_with fail
  refine (pcachedX_calls a5 (.pointer none) 1 NN).mono ?_
  rintro en a6 ⟨rfl, g⟩
  have VG : Hid (Up W1 a6) := hid (VF.out.t g.out)
  clear g VF NN
  have VF := VG
  clear VG
  have NN : Hid (StopP a6 (.pointer none) 1) := hid (N0.out.up VF.out)
  go_wp2_with fail
  refine (pcommitsX_calls a6 (.pointer none) 1 NN).mono ?_
  rintro en a7 ⟨rfl, g⟩
  have VG : Hid (Up W1 a7) := hid (VF.out.t g.out)
  clear g VF NN
  have VF := VG
  clear VG
  have NN : Hid (StopP a7 (.pointer none) 1) := hid (N0.out.up VF.out)
  go_wp2_with fail
  refine (preplX_calls a7 (.pointer none) 1 NN).mono ?_
  rintro en a8 ⟨rfl, g⟩
  have VG : Hid (Up W1 a8) := hid (VF.out.t g.out)
  clear g VF NN
  have VF := VG
  clear VG
  have NN : Hid (StopP a8 (.pointer none) 1) := hid (N0.out.up VF.out)
  go_wp2_with fail
  refine (pbusyX_calls a8 (.pointer none) 1 NN).mono ?_
  rintro en w9 ⟨rfl, hw⟩
  obtain rfl := hw.symm
  clear hw NN
  have U3 := VF
  clear VF
  go_wp2_with fail
  rw [rounds_succ]
  have NN : Hid (StopP a8 (.pointer (some ⟨w.heap.size + 1, 0, none⟩)) 1) := hid (N1.out.up U3.out)
  obtain ⟨x0, x1, x2, x3⟩ := (B1.out.up U3.out).cells
  go_wp2_with fail
  refine (pgetX_calls a8 (.pointer (some ⟨w.heap.size + 1, 0, none⟩)) 1 n0 NN).mono ?_
  rintro en b1 ⟨rfl, g1⟩
  have VB : Hid (Up W1 b1) := hid (U3.out.t g1.out)
  clear g1 x0 x1 x2 x3 U3 NN
  have NN : Hid (StopP b1 (.pointer (some ⟨w.heap.size + 1, 0, none⟩)) 1) := hid (N1.out.up VB.out)
  go_wp2_with fail
  refine (pgrowX_calls b1 (.pointer (some ⟨w.heap.size + 1, 0, none⟩)) 1 NN).mono ?_
  rintro en b2 ⟨rfl, g2⟩
  have VC : Hid (Up W1 b2) := hid (VB.out.t g2.out)
  clear g2 VB NN
  have NN : Hid (StopP b2 (.pointer (some ⟨w.heap.size + 1, 0, none⟩)) 1) := hid (N1.out.up VC.out)
  go_wp2_with fail
  refine (pmarkX_calls b2 (.pointer (some ⟨w.heap.size + 1, 0, none⟩)) 1 NN).mono ?_
  rintro en b3 ⟨rfl, g3⟩
  have VD : Hid (Up W1 b3.drew) := hid ((VC.out.t g3.out).t (Up.drew b3))
  clear NN
  have NN : Hid (StopP b3.drew (.pointer (some ⟨w.heap.size + 1, 0, none⟩)) 1) := hid (N1.out.up VD.out)
  have BD : Hid (Box7 b3.drew w.heap.size ⟨k0, n0, s0, h0⟩) := hid (B1.out.up VD.out)
  clear g3 VC
  go_wp2_with fail
  have US : b3.drew.cell? ⟨w.heap.size, 0, none⟩ = some (.int .i64 k0) ∧ b3.drew.cell? ⟨w.heap.size, 1, none⟩ = some (.int .i64 n0) ∧ b3.drew.cell? ⟨w.heap.size, 2, none⟩ = some (.int .u8 (n8 s0)) ∧ b3.drew.cell? ⟨w.heap.size, 3, none⟩ = some (.bool h0) := BD.out.cells
  refine s_start (fun w9 => w9.cell? ⟨w.heap.size, 0, none⟩ = some (.int .i64 k0) ∧ w9.cell? ⟨w.heap.size, 1, none⟩ = some (.int .i64 n0) ∧ w9.cell? ⟨w.heap.size, 2, none⟩ = some (.int .u8 (n8 s0)) ∧ w9.cell? ⟨w.heap.size, 3, none⟩ = some (.bool h0)) (by kernel_rfl) ?_
  refine s_tk 0 65 (v := ?_) US (fun w9 hS => ?_) ?_; rotate_left
  · go_simp <;> with_reducible rfl
  try simp only [Act.put, List.setIfInBounds_toArray, List.set_cons_zero, List.set_cons_succ]
  refine s_tk 1 66 (v := ?_) US (fun w9 hS => ?_) ?_; rotate_left
  · go_simp <;> with_reducible rfl
  try simp only [Act.put, List.setIfInBounds_toArray, List.set_cons_zero, List.set_cons_succ]
  refine s_tk 2 67 (v := ?_) US (fun w9 hS => ?_) ?_; rotate_left
  · go_simp <;> with_reducible rfl
  try simp only [Act.put, List.setIfInBounds_toArray, List.set_cons_zero, List.set_cons_succ]
  refine s_tk 3 68 (v := ?_) US (fun w9 hS => ?_) ?_; rotate_left
  · go_simp <;> with_reducible rfl
  try simp only [Act.put, List.setIfInBounds_toArray, List.set_cons_zero, List.set_cons_succ]
  refine s_tk 5 70 (v := ?_) US (fun w9 hS => ?_) ?_; rotate_left
  · go_simp <;> with_reducible rfl
  try simp only [Act.put, List.setIfInBounds_toArray, List.set_cons_zero, List.set_cons_succ]
  refine s_tk 6 71 (v := ?_) US (fun w9 hS => ?_) ?_; rotate_left
  · go_simp <;> with_reducible rfl
  try simp only [Act.put, List.setIfInBounds_toArray, List.set_cons_zero, List.set_cons_succ]
  refine s_tk 7 72 (v := ?_) US (fun w9 hS => ?_) ?_; rotate_left
  · obtain ⟨c0, c1, c2, c3⟩ := hS; go_simp <;> with_reducible rfl
  try simp only [Act.put, List.setIfInBounds_toArray, List.set_cons_zero, List.set_cons_succ]
  refine s_tk 8 73 (v := ?_) US (fun w9 hS => ?_) ?_; rotate_left
  · obtain ⟨c0, c1, c2, c3⟩ := hS; go_simp <;> with_reducible rfl
  try simp only [Act.put, List.setIfInBounds_toArray, List.set_cons_zero, List.set_cons_succ]
  refine s_tk 11 76 (v := ?_) US (fun w9 hS => ?_) ?_; rotate_left
  · go_simp <;> with_reducible rfl
  try simp only [Act.put, List.setIfInBounds_toArray, List.set_cons_zero, List.set_cons_succ]
  refine s_tk 12 77 (v := ?_) US (fun w9 hS => ?_) ?_; rotate_left
  · go_simp <;> with_reducible rfl
  try simp only [Act.put, List.setIfInBounds_toArray, List.set_cons_zero, List.set_cons_succ]
  refine s_tk 13 78 (v := ?_) US (fun w9 hS => ?_) ?_; rotate_left
  · obtain ⟨c0, c1, c2, c3⟩ := hS; go_simp <;> with_reducible rfl
  try simp only [Act.put, List.setIfInBounds_toArray, List.set_cons_zero, List.set_cons_succ]
  refine s_tk 15 80 (v := ?_) US (fun w9 hS => ?_) ?_; rotate_left
  · go_simp <;> with_reducible rfl
  try simp only [Act.put, List.setIfInBounds_toArray, List.set_cons_zero, List.set_cons_succ]
  refine s_tk 16 81 (v := ?_) US (fun w9 hS => ?_) ?_; rotate_left
  · go_simp <;> with_reducible rfl
  try simp only [Act.put, List.setIfInBounds_toArray, List.set_cons_zero, List.set_cons_succ]
  refine s_tk 17 82 (v := ?_) US (fun w9 hS => ?_) ?_; rotate_left
  · obtain ⟨c0, c1, c2, c3⟩ := hS; go_simp <;> with_reducible rfl
  try simp only [Act.put, List.setIfInBounds_toArray, List.set_cons_zero, List.set_cons_succ]
  refine s_tk 19 84 (v := ?_) US (fun w9 hS => ?_) ?_; rotate_left
  · go_simp <;> with_reducible rfl
  try simp only [Act.put, List.setIfInBounds_toArray, List.set_cons_zero, List.set_cons_succ]
  refine s_tk 21 86 (v := ?_) US (fun w9 hS => ?_) ?_; rotate_left
  · go_simp <;> with_reducible rfl
  try simp only [Act.put, List.setIfInBounds_toArray, List.set_cons_zero, List.set_cons_succ]
  refine s_tk 24 89 (v := ?_) US (fun w9 hS => ?_) ?_; rotate_left
  · go_simp <;> with_reducible rfl
  try simp only [Act.put, List.setIfInBounds_toArray, List.set_cons_zero, List.set_cons_succ]
  refine s_ca 4 (fun K9 hK9 => ?_)
  go_simp
  go_at_call 47
  refine (pbeginX_calls b3.drew (.pointer (some ⟨w.heap.size + 1, 0, none⟩)) 1 NN).mono ?_
  rintro en z1 ⟨rfl, g⟩
  have Z1 : Hid (Up b3.drew z1) := hid (g.out)
  clear g
  have US : z1.cell? ⟨w.heap.size, 0, none⟩ = some (.int .i64 k0) ∧ z1.cell? ⟨w.heap.size, 1, none⟩ = some (.int .i64 n0) ∧ z1.cell? ⟨w.heap.size, 2, none⟩ = some (.int .u8 (n8 s0)) ∧ z1.cell? ⟨w.heap.size, 3, none⟩ = some (.bool h0) := (BD.out.up Z1.out).cells
  refine hK9.out _ _ US ?_
  clear hK9 K9
  try simp only [Act.put, List.setIfInBounds_toArray, List.set_cons_zero, List.set_cons_succ]
  refine s_ca 9 (fun K9 hK9 => ?_)
  go_simp
  go_at_call 49
  refine (bytes7_calls z1 ⟨k0, n0, s0, h0⟩).mono ?_
  rintro en z2 ⟨Ab, cb, rfl, g⟩
  have Z2 : Hid (Up b3.drew z2) := hid (Z1.out.t (g.out.2))
  clear g
  have US : z2.cell? ⟨w.heap.size, 0, none⟩ = some (.int .i64 k0) ∧ z2.cell? ⟨w.heap.size, 1, none⟩ = some (.int .i64 n0) ∧ z2.cell? ⟨w.heap.size, 2, none⟩ = some (.int .u8 (n8 s0)) ∧ z2.cell? ⟨w.heap.size, 3, none⟩ = some (.bool h0) := (BD.out.up Z2.out).cells
  clear Z1
  refine hK9.out _ _ US ?_
  clear hK9 K9
  try simp only [Act.put, List.setIfInBounds_toArray, List.set_cons_zero, List.set_cons_succ]
  refine s_ca 10 (fun K9 hK9 => ?_)
  go_simp
  go_at_call 48
  refine (pputX_calls z2 (.pointer (some ⟨w.heap.size + 1, 0, none⟩)) 1 n0 Ab _ cb (hid (NN.out.up Z2.out))).mono ?_
  rintro en z3 ⟨rfl, g⟩
  have Z3 : Hid (Up b3.drew z3) := hid (Z2.out.t (g.out))
  clear g
  have US : z3.cell? ⟨w.heap.size, 0, none⟩ = some (.int .i64 k0) ∧ z3.cell? ⟨w.heap.size, 1, none⟩ = some (.int .i64 n0) ∧ z3.cell? ⟨w.heap.size, 2, none⟩ = some (.int .u8 (n8 s0)) ∧ z3.cell? ⟨w.heap.size, 3, none⟩ = some (.bool h0) := (BD.out.up Z3.out).cells
  clear Z2
  refine hK9.out _ _ US ?_
  clear hK9 K9
  try simp only [Act.put, List.setIfInBounds_toArray, List.set_cons_zero, List.set_cons_succ]
  refine s_ca 14 (fun K9 hK9 => ?_)
  go_simp
  go_at_call 50
  refine (pshrinkX_calls z3 (.pointer (some ⟨w.heap.size + 1, 0, none⟩)) 1 n0 (hid (NN.out.up Z3.out))).mono ?_
  rintro en z4 ⟨rfl, g⟩
  have Z4 : Hid (Up b3.drew z4) := hid (Z3.out.t (g.out))
  clear g
  have US : z4.cell? ⟨w.heap.size, 0, none⟩ = some (.int .i64 k0) ∧ z4.cell? ⟨w.heap.size, 1, none⟩ = some (.int .i64 n0) ∧ z4.cell? ⟨w.heap.size, 2, none⟩ = some (.int .u8 (n8 s0)) ∧ z4.cell? ⟨w.heap.size, 3, none⟩ = some (.bool h0) := (BD.out.up Z4.out).cells
  clear Z3
  refine hK9.out _ _ US ?_
  clear hK9 K9
  try simp only [Act.put, List.setIfInBounds_toArray, List.set_cons_zero, List.set_cons_succ]
  refine s_ca 18 (fun K9 hK9 => ?_)
  go_simp
  go_at_call 51
  refine (pundoX_calls z4 (.pointer (some ⟨w.heap.size + 1, 0, none⟩)) 1 n0 (hid (NN.out.up Z4.out))).mono ?_
  rintro en z5 ⟨rfl, g⟩
  have Z5 : Hid (Up b3.drew z5) := hid (Z4.out.t (g.out))
  clear g
  have US : z5.cell? ⟨w.heap.size, 0, none⟩ = some (.int .i64 k0) ∧ z5.cell? ⟨w.heap.size, 1, none⟩ = some (.int .i64 n0) ∧ z5.cell? ⟨w.heap.size, 2, none⟩ = some (.int .u8 (n8 s0)) ∧ z5.cell? ⟨w.heap.size, 3, none⟩ = some (.bool h0) := (BD.out.up Z5.out).cells
  clear Z4
  refine hK9.out _ _ US ?_
  clear hK9 K9
  try simp only [Act.put, List.setIfInBounds_toArray, List.set_cons_zero, List.set_cons_succ]
  refine s_ca 20 (fun K9 hK9 => ?_)
  go_simp
  go_at_call 52
  refine (prollX_calls z5 (.pointer (some ⟨w.heap.size + 1, 0, none⟩)) 1 (hid (NN.out.up Z5.out))).mono ?_
  rintro en z6 ⟨rfl, g⟩
  have Z6 : Hid (Up b3.drew z6) := hid (Z5.out.t (g.out))
  clear g
  have US : z6.cell? ⟨w.heap.size, 0, none⟩ = some (.int .i64 k0) ∧ z6.cell? ⟨w.heap.size, 1, none⟩ = some (.int .i64 n0) ∧ z6.cell? ⟨w.heap.size, 2, none⟩ = some (.int .u8 (n8 s0)) ∧ z6.cell? ⟨w.heap.size, 3, none⟩ = some (.bool h0) := (BD.out.up Z6.out).cells
  clear Z5
  refine hK9.out _ _ US ?_
  clear hK9 K9
  try simp only [Act.put, List.setIfInBounds_toArray, List.set_cons_zero, List.set_cons_succ]
  refine s_ca 22 (fun K9 hK9 => ?_)
  go_simp
  go_at_call 23
  refine (pcommitX_calls z6 (.pointer (some ⟨w.heap.size + 1, 0, none⟩)) 1 (hid (NN.out.up Z6.out))).mono ?_
  rintro en z7 ⟨rfl, g⟩
  have Z7 : Hid (Up b3.drew z7) := hid (Z6.out.t (g.out))
  clear g
  have US : z7.cell? ⟨w.heap.size, 0, none⟩ = some (.int .i64 k0) ∧ z7.cell? ⟨w.heap.size, 1, none⟩ = some (.int .i64 n0) ∧ z7.cell? ⟨w.heap.size, 2, none⟩ = some (.int .u8 (n8 s0)) ∧ z7.cell? ⟨w.heap.size, 3, none⟩ = some (.bool h0) := (BD.out.up Z7.out).cells
  clear Z6
  refine hK9.out _ _ US ?_
  clear hK9 K9
  try simp only [Act.put, List.setIfInBounds_toArray, List.set_cons_zero, List.set_cons_succ]
  refine s_tk 23 88 (v := ?_) US (fun w9 hS => ?_) ?_; rotate_left
  · go_simp <;> with_reducible rfl
  try simp only [Act.put, List.setIfInBounds_toArray, List.set_cons_zero, List.set_cons_succ]
  refine s_done (by kernel_rfl) ?_
  clear US
  first | (rename_i K1 h1; refine h1 _ _ ?_; clear h1 K1) | skip
  have VE : Hid (Up W1 z7) := hid (VD.out.t Z7.out)
  clear Z7 VD BD NN
  have NN : Hid (StopP z7 (.pointer (some ⟨w.heap.size + 1, 0, none⟩)) 1) := hid (N1.out.up VE.out)
  have j0 := nidx0 1
  have j1 := nidx1 1
  have j2 := nidx2 1
  have j3 := nidx3 1
  have j4 := nidx4 1
  have j5 := nidx5 1
  have j6 := nidx6 1
  have j7 := nidx7 1
  have j8 := nidx8 1
  go_wp2_with fail
  refine wp_loop_rounds 10 ?_
  rw [rounds_succ]
  go_wp2_with fail
  rw [rounds_succ]
  go_wp2_with fail
  rw [rounds_succ]
  go_wp2_with fail
  rw [rounds_succ]
  go_wp2_with fail
  rw [rounds_succ]
  go_wp2_with fail
  rw [rounds_succ]
  go_wp2_with fail
  rw [rounds_succ]
  go_wp2_with fail
  rw [rounds_succ]
  go_wp2_with fail
  rw [rounds_succ]
  go_wp2_with fail
  rw [rounds_succ]
  go_wp2_with fail
  refine (ppagesX_calls z7 (.pointer (some ⟨w.heap.size + 1, 0, none⟩)) 1 NN).mono ?_
  rintro en b4 ⟨rfl, g⟩
  have VF : Hid (Up W1 b4) := hid (VE.out.t g.out)
  clear g VE NN j0 j1 j2 j3 j4 j5 j6 j7 j8
  have NN : Hid (StopP b4 (.pointer (some ⟨w.heap.size + 1, 0, none⟩)) 1) := hid (N1.out.up VF.out)
  go_wp2_with fail
  refine (pchangedX_calls b4 (.pointer (some ⟨w.heap.size + 1, 0, none⟩)) 1 NN).mono ?_
  rintro en b5 ⟨rfl, g⟩
  have VG : Hid (Up W1 b5) := hid (VF.out.t g.out)
  clear g VF NN
  have VF := VG
  clear VG
  have NN : Hid (StopP b5 (.pointer (some ⟨w.heap.size + 1, 0, none⟩)) 1) := hid (N1.out.up VF.out)
  go_wp2_with fail
  refine (pcachedX_calls b5 (.pointer (some ⟨w.heap.size + 1, 0, none⟩)) 1 NN).mono ?_
  rintro en b6 ⟨rfl, g⟩
  have VG : Hid (Up W1 b6) := hid (VF.out.t g.out)
  clear g VF NN
  have VF := VG
  clear VG
  have NN : Hid (StopP b6 (.pointer (some ⟨w.heap.size + 1, 0, none⟩)) 1) := hid (N1.out.up VF.out)
  go_wp2_with fail
  refine (pcommitsX_calls b6 (.pointer (some ⟨w.heap.size + 1, 0, none⟩)) 1 NN).mono ?_
  rintro en b7 ⟨rfl, g⟩
  have VG : Hid (Up W1 b7) := hid (VF.out.t g.out)
  clear g VF NN
  have VF := VG
  clear VG
  have NN : Hid (StopP b7 (.pointer (some ⟨w.heap.size + 1, 0, none⟩)) 1) := hid (N1.out.up VF.out)
  go_wp2_with fail
  refine (preplX_calls b7 (.pointer (some ⟨w.heap.size + 1, 0, none⟩)) 1 NN).mono ?_
  rintro en b8 ⟨rfl, g⟩
  have VG : Hid (Up W1 b8) := hid (VF.out.t g.out)
  clear g VF NN
  have VF := VG
  clear VG
  have NN : Hid (StopP b8 (.pointer (some ⟨w.heap.size + 1, 0, none⟩)) 1) := hid (N1.out.up VF.out)
  go_wp2_with fail
  refine (pbusyX_calls b8 (.pointer (some ⟨w.heap.size + 1, 0, none⟩)) 1 NN).mono ?_
  rintro en w9 ⟨rfl, hw⟩
  obtain rfl := hw.symm
  clear hw NN
  have U3 := VF
  clear VF
  go_wp2_with fail
  rw [rounds_succ]
  go_wp2_with fail
  refine (lives7_calls _ (hid (ht.out.below' ((U0.out.t U1.out).t U3.out)))).mono ?_
  rintro en wz ⟨rfl, uz⟩
  have RES : Hid (Below w.heap.size w wz) := hid (((U0.out.t U1.out).t U3.out).t uz)
  clear uz
  go_wp2
  go_ret
  exact ⟨rfl, RES.out⟩
end Go.Proofs.YtbcghggkfnagoaaGreatDoor

namespace Go.Proofs.YtbcghggkfnagoaaGreatDoor
open Go Go.RowKit Go.Maps Hach

set_option maxRecDepth 100000 in
set_option maxHeartbeats 4000000 in
theorem pagerDead_walk (w : World) (ht : Hid (TabOk w)) (k0 n0 : Int) (s0 : UInt8) (h0 : Bool) (s1 : UInt8) : Calls Tryz.prog 9 #[.agg #[.int .i64 k0, .int .i64 n0, .int .u8 (n8 s0), .bool h0], .int .u8 (n8 s1)] w fun en w' => en = .returned (.bool true) ∧ Below w.heap.size w w' := by
  obtain ⟨W0, hW0⟩ : ∃ x, w.alloc (.cells #[.int .i64 k0, .int .i64 n0, .int .u8 (n8 s0), .bool h0] 51) = x := ⟨_, rfl⟩
  have U0 : Hid (Up w W0) := hid (by rw [← hW0]; exact upAlD (Up.refl w) _)
  have B0 : Hid (Box7 W0 w.heap.size ⟨k0, n0, s0, h0⟩) := hid ⟨by rw [← hW0]; exact heap_alloc_new w _⟩
  have HW0 := hid hW0
  clear hW0
  go_enter Tryz.func9, Tryz.ntmps9
  go_wp2_with fail
  rw [HW0.out]
  refine (dnew_calls W0 100 (by decide) (by decide)).mono ?_
  rintro e w1 ⟨d, rfl, h1⟩
  have U1 : Hid (Up W0 w1) := hid h1.out.2
  have T0 : Hid (Tab W0.heap.size w1) := hid ⟨(ht.out.below' U0.out).below' U1.out, tab_lt (ht.out.below' U0.out)⟩
  go_wp2_with fail
  refine (openP_calls w1 W0.heap.size d (newD 100) 8 [] 1000 (hid h1.out.1) (hid U1.out.size) T0 (hid rfl) (hid (by show 0 < 1000000; decide)) (hid (new_rec 100)) (hid (by decide)) (hid ⟨(new_fit 100 (by decide)).less (by decide), by decide⟩) (hid ⟨by decide, by decide⟩)).mono ?_
  clear h1
  rintro en w2 hO
  rcases hO with ⟨p, rfl, hO⟩ | ⟨rfl, hO⟩
  rotate_left
  · exact absurd (by rw [new_open]) hO.out.1
  have P2 : Hid (∃ B rp, PgAt w2 W0.heap.size p d B ⟨newD 100, ⟨8, 0, 0, []⟩, 0, none, false, 0, rp⟩) := hid (by obtain ⟨_, _, _, B, rp, h, _⟩ := hO.out; rw [new_open] at h; exact ⟨B, rp, h⟩)
  have Q2 : Hid (Qp W0.heap.size w1 w2) := hid hO.out.2.1
  clear hO
  obtain ⟨B, rp, P2⟩ := P2.out
  have P2 := hid P2
  go_wp2_with fail
  refine (beginP_calls w2 W0.heap.size p d B _ 0 P2 (hid rfl) (hid rfl) (hid rfl)).mono ?_
  rintro e w3 ⟨rfl, h3⟩
  obtain ⟨B3, P3, L3, Q3⟩ := h3.out
  have P3 := hid P3
  have L3 := hid L3
  have Q3 : Hid (Qp W0.heap.size w1 w3) := hid (Q2.out.trans Q3)
  clear h3 Q2
  go_wp2_with fail
  refine (growP_calls w3 W0.heap.size p d B3 _ ⟨0, [], [], 0⟩ 0 P3 (hid rfl) (hid rfl) (hid ⟨rfl, by decide⟩) (hid (by rw [L3.out]; decide))).mono ?_
  rintro e w4 ⟨rfl, h4⟩
  obtain ⟨g4, c4, P4, Q4⟩ := h4.out
  have L4 : Hid ((gput B3.L ((0 + 1 : Nat) : Int) ⟨g4, c4, noPage⟩).length < 1000000) := hid (by rw [L3.out]; exact (show 1 < 1000000 by decide))
  have P4 := hid P4
  have Q4 : Hid (Qp W0.heap.size w1 w4) := hid (Q3.out.trans Q4)
  clear h4 Q3 P3
  go_wp2_with fail
  refine (page7_calls w4 s1).mono ?_
  rintro e w5 ⟨A, c, rfl, h5⟩
  have U5 : Hid (Up w4 w5) := hid h5.out.2
  have B5 : Hid (Bytes w5 A (page7 512 s1)) := hid h5.out.1.bytes
  have P5 := hid (P4.out.up U5.out)
  have Q5 : Hid (Qp W0.heap.size w1 w5) := hid (Q4.out.trans (Qp.up U5.out P4.out.bs))
  clear h5 Q4 P4
  go_wp2_with fail
  rw [page7_len]
  refine (putP_calls w5 W0.heap.size p d { B3 with L := gput B3.L ((0 + 1 : Nat) : Int) ⟨g4, c4, noPage⟩ } _ ⟨1, gput [] ((0 + 1 : Nat) : Int) noPage, [], 0⟩ 1 P5 (hid rfl) (hid rfl) (hid rfl) 1 (hid ⟨by decide, by decide, by decide⟩) L4 A (page7 512 s1) c (hid (page7_len _ _)) B5).mono ?_
  rintro e w6 ⟨rfl, h6⟩
  obtain ⟨g6, c6, P6, Q6⟩ := h6.out
  have P6 := hid P6
  have Q6 : Hid (Qp W0.heap.size w1 w6) := hid (Q5.out.trans Q6)
  clear h6 Q5 P5
  go_wp2_with fail
  refine (crash_calls w6 _ W0.heap.size d (newD 100) (hid ⟨_, P6.out.disk, fun k h => h⟩) (hid rfl) (hid (by show (0 : Int) ≤ 100; decide)) none [] 0 0 (hid (by decide)) (hid fun w' _ => fun j u hj => by simp at hj)).mono ?_
  rintro en w7 ⟨rfl, h7⟩
  obtain ⟨DC, hDC⟩ : ∃ D, crashV [] 0 (newD 100) = D := ⟨_, rfl⟩
  have CD : Hid (CrashD (newD 100) DC) := hid (by rw [← hDC]; exact crashV_of [] 0 no_ok no_ok)
  rw [hDC] at h7
  clear hDC
  obtain ⟨pd7, P7, Q7⟩ := P6.out.diskStep h7.out
  have P7 := hid P7
  have Q7 : Hid (Qp W0.heap.size w1 w7) := hid (Q6.out.trans Q7)
  clear h7 Q6 P6
  have CC := commit1_calls w7 W0.heap.size p d _ _ (page7 512 s1) 0 P7 (hid rfl) (hid rfl) (hid (page7_len _ _)) (hid rfl) (hid (fun v hv => (by cases hv))) (hid (T0.out.qp Q7.out)) (hid CD.out.ops) (hid (((new_fit 100 (by decide)).less (by decide)).crash CD.out))
  rw [off_commit _ _ _ _ _ _ CD.out.on] at CC
  go_wp2_with fail
  refine CC.mono ?_
  rintro e w8 ⟨rfl, h8⟩
  have P8 : Hid (∃ B S, S.dead = true ∧ PgAt w8 W0.heap.size p d B S) := hid (by
    obtain ⟨q, pd, C, ⟨e, _⟩ | ⟨_, h, _⟩⟩ := h8.out
    · exact absurd e (by decide : ¬ (4 : Int) = 0)
    · exact ⟨_, _, rfl, h⟩)
  have Q8 : Hid (Qp W0.heap.size w1 w8) := hid (Q7.out.trans h8.out.1)
  clear h8 Q7 P7 CC
  obtain ⟨B8, S8, D8, P8⟩ := P8.out
  have D8 := hid D8
  have P8 := hid P8
  go_wp2_with fail
  refine (start_calls w8 W0.heap.size d _ S8.D (hid P8.out.disk)).mono ?_
  rintro en w9 ⟨rfl, h9⟩
  obtain ⟨pd9, P9, Q9⟩ := P8.out.diskStep h9.out
  have Q9 : Hid (Qp W0.heap.size w1 w9) := hid (Q8.out.trans Q9)
  have N1 : Hid (StopP w9 (.pointer (some ⟨p, 0, none⟩)) 4) := hid (.inr ⟨rfl, p, _, _, rfl, by have := P9.own; rw [show ({ S8 with D := { S8.D with on := true, armed := 0 } } : PgV).dead = true from D8.out] at this; exact this⟩)
  have B1 : Hid (Box7 w9 w.heap.size ⟨k0, n0, s0, h0⟩) := hid ((B0.out.up U1.out).qp Q9.out)
  have V9 : Hid (Up w w9) := hid (U0.out.t (U1.out.trans Q9.out.low))
  clear P9 h9 Q8 P8 D8 CD P2 Q9 B5 L4 L3 U5 U1 U0 B0 T0
  --DEAD
  have NN := N1
  obtain ⟨x0, x1, x2, x3⟩ := B1.out.cells
  go_wp2_with fail
  refine (pgetX_calls w9 (.pointer (some ⟨p, 0, none⟩)) 4 n0 NN).mono ?_
  rintro en a1 ⟨rfl, g1⟩
  have VB : Hid (Up w9 a1) := g1
  clear g1 x0 x1 x2 x3 NN
  have NN : Hid (StopP a1 (.pointer (some ⟨p, 0, none⟩)) 4) := hid (N1.out.up VB.out)
  go_wp2_with fail
  refine (pgrowX_calls a1 (.pointer (some ⟨p, 0, none⟩)) 4 NN).mono ?_
  rintro en a2 ⟨rfl, g2⟩
  have VC : Hid (Up w9 a2) := hid (VB.out.t g2.out)
  clear g2 VB NN
  have NN : Hid (StopP a2 (.pointer (some ⟨p, 0, none⟩)) 4) := hid (N1.out.up VC.out)
  go_wp2_with fail
  refine (pmarkX_calls a2 (.pointer (some ⟨p, 0, none⟩)) 4 NN).mono ?_
  rintro en a3 ⟨rfl, g3⟩
  have VD : Hid (Up w9 a3.drew) := hid ((VC.out.t g3.out).t (Up.drew a3))
  clear NN
  have NN : Hid (StopP a3.drew (.pointer (some ⟨p, 0, none⟩)) 4) := hid (N1.out.up VD.out)
  have BD : Hid (Box7 a3.drew w.heap.size ⟨k0, n0, s0, h0⟩) := hid (B1.out.up VD.out)
  clear g3 VC
  go_wp2_with fail
  --REGION15
  have US : a3.drew.cell? ⟨w.heap.size, 0, none⟩ = some (.int .i64 k0) ∧ a3.drew.cell? ⟨w.heap.size, 1, none⟩ = some (.int .i64 n0) ∧ a3.drew.cell? ⟨w.heap.size, 2, none⟩ = some (.int .u8 (n8 s0)) ∧ a3.drew.cell? ⟨w.heap.size, 3, none⟩ = some (.bool h0) := BD.out.cells
  refine s_start (fun w9 => w9.cell? ⟨w.heap.size, 0, none⟩ = some (.int .i64 k0) ∧ w9.cell? ⟨w.heap.size, 1, none⟩ = some (.int .i64 n0) ∧ w9.cell? ⟨w.heap.size, 2, none⟩ = some (.int .u8 (n8 s0)) ∧ w9.cell? ⟨w.heap.size, 3, none⟩ = some (.bool h0)) (by kernel_rfl) ?_
  refine s_tk 0 57 (v := ?_) US (fun w9 hS => ?_) ?_; rotate_left
  · go_simp <;> with_reducible rfl
  try simp only [Act.put, List.setIfInBounds_toArray, List.set_cons_zero, List.set_cons_succ]
  refine s_tk 1 58 (v := ?_) US (fun w9 hS => ?_) ?_; rotate_left
  · go_simp <;> with_reducible rfl
  try simp only [Act.put, List.setIfInBounds_toArray, List.set_cons_zero, List.set_cons_succ]
  refine s_tk 2 59 (v := ?_) US (fun w9 hS => ?_) ?_; rotate_left
  · go_simp <;> with_reducible rfl
  try simp only [Act.put, List.setIfInBounds_toArray, List.set_cons_zero, List.set_cons_succ]
  refine s_tk 3 60 (v := ?_) US (fun w9 hS => ?_) ?_; rotate_left
  · go_simp <;> with_reducible rfl
  try simp only [Act.put, List.setIfInBounds_toArray, List.set_cons_zero, List.set_cons_succ]
  refine s_tk 5 62 (v := ?_) US (fun w9 hS => ?_) ?_; rotate_left
  · go_simp <;> with_reducible rfl
  try simp only [Act.put, List.setIfInBounds_toArray, List.set_cons_zero, List.set_cons_succ]
  refine s_tk 6 63 (v := ?_) US (fun w9 hS => ?_) ?_; rotate_left
  · go_simp <;> with_reducible rfl
  try simp only [Act.put, List.setIfInBounds_toArray, List.set_cons_zero, List.set_cons_succ]
  refine s_tk 7 64 (v := ?_) US (fun w9 hS => ?_) ?_; rotate_left
  · obtain ⟨c0, c1, c2, c3⟩ := hS; go_simp <;> with_reducible rfl
  try simp only [Act.put, List.setIfInBounds_toArray, List.set_cons_zero, List.set_cons_succ]
  refine s_tk 8 65 (v := ?_) US (fun w9 hS => ?_) ?_; rotate_left
  · obtain ⟨c0, c1, c2, c3⟩ := hS; go_simp <;> with_reducible rfl
  try simp only [Act.put, List.setIfInBounds_toArray, List.set_cons_zero, List.set_cons_succ]
  refine s_tk 11 68 (v := ?_) US (fun w9 hS => ?_) ?_; rotate_left
  · go_simp <;> with_reducible rfl
  try simp only [Act.put, List.setIfInBounds_toArray, List.set_cons_zero, List.set_cons_succ]
  refine s_tk 12 69 (v := ?_) US (fun w9 hS => ?_) ?_; rotate_left
  · go_simp <;> with_reducible rfl
  try simp only [Act.put, List.setIfInBounds_toArray, List.set_cons_zero, List.set_cons_succ]
  refine s_tk 13 70 (v := ?_) US (fun w9 hS => ?_) ?_; rotate_left
  · obtain ⟨c0, c1, c2, c3⟩ := hS; go_simp <;> with_reducible rfl
  try simp only [Act.put, List.setIfInBounds_toArray, List.set_cons_zero, List.set_cons_succ]
  refine s_tk 15 72 (v := ?_) US (fun w9 hS => ?_) ?_; rotate_left
  · go_simp <;> with_reducible rfl
  try simp only [Act.put, List.setIfInBounds_toArray, List.set_cons_zero, List.set_cons_succ]
  refine s_tk 16 73 (v := ?_) US (fun w9 hS => ?_) ?_; rotate_left
  · go_simp <;> with_reducible rfl
  try simp only [Act.put, List.setIfInBounds_toArray, List.set_cons_zero, List.set_cons_succ]
  refine s_tk 17 74 (v := ?_) US (fun w9 hS => ?_) ?_; rotate_left
  · obtain ⟨c0, c1, c2, c3⟩ := hS; go_simp <;> with_reducible rfl
  try simp only [Act.put, List.setIfInBounds_toArray, List.set_cons_zero, List.set_cons_succ]
  refine s_tk 19 76 (v := ?_) US (fun w9 hS => ?_) ?_; rotate_left
  · go_simp <;> with_reducible rfl
  try simp only [Act.put, List.setIfInBounds_toArray, List.set_cons_zero, List.set_cons_succ]
  refine s_tk 21 78 (v := ?_) US (fun w9 hS => ?_) ?_; rotate_left
  · go_simp <;> with_reducible rfl
  try simp only [Act.put, List.setIfInBounds_toArray, List.set_cons_zero, List.set_cons_succ]
  refine s_tk 24 81 (v := ?_) US (fun w9 hS => ?_) ?_; rotate_left
  · go_simp <;> with_reducible rfl
  try simp only [Act.put, List.setIfInBounds_toArray, List.set_cons_zero, List.set_cons_succ]
  refine s_ca 4 (fun K9 hK9 => ?_)
  go_simp
  go_at_call 47
  refine (pbeginX_calls a3.drew (.pointer (some ⟨p, 0, none⟩)) 4 NN).mono ?_
  rintro en z1 ⟨rfl, g⟩
  have Z1 : Hid (Up a3.drew z1) := hid (g.out)
  clear g
  have US : z1.cell? ⟨w.heap.size, 0, none⟩ = some (.int .i64 k0) ∧ z1.cell? ⟨w.heap.size, 1, none⟩ = some (.int .i64 n0) ∧ z1.cell? ⟨w.heap.size, 2, none⟩ = some (.int .u8 (n8 s0)) ∧ z1.cell? ⟨w.heap.size, 3, none⟩ = some (.bool h0) := (BD.out.up Z1.out).cells
  refine hK9.out _ _ US ?_
  clear hK9 K9
  try simp only [Act.put, List.setIfInBounds_toArray, List.set_cons_zero, List.set_cons_succ]
  refine s_ca 9 (fun K9 hK9 => ?_)
  go_simp
  go_at_call 49
  refine (bytes7_calls z1 ⟨k0, n0, s0, h0⟩).mono ?_
  rintro en z2 ⟨Ab, cb, rfl, g⟩
  have Z2 : Hid (Up a3.drew z2) := hid (Z1.out.t (g.out.2))
  clear g
  have US : z2.cell? ⟨w.heap.size, 0, none⟩ = some (.int .i64 k0) ∧ z2.cell? ⟨w.heap.size, 1, none⟩ = some (.int .i64 n0) ∧ z2.cell? ⟨w.heap.size, 2, none⟩ = some (.int .u8 (n8 s0)) ∧ z2.cell? ⟨w.heap.size, 3, none⟩ = some (.bool h0) := (BD.out.up Z2.out).cells
  clear Z1
  refine hK9.out _ _ US ?_
  clear hK9 K9
  try simp only [Act.put, List.setIfInBounds_toArray, List.set_cons_zero, List.set_cons_succ]
  refine s_ca 10 (fun K9 hK9 => ?_)
  go_simp
  go_at_call 48
  refine (pputX_calls z2 (.pointer (some ⟨p, 0, none⟩)) 4 n0 Ab _ cb (hid (NN.out.up Z2.out))).mono ?_
  rintro en z3 ⟨rfl, g⟩
  have Z3 : Hid (Up a3.drew z3) := hid (Z2.out.t (g.out))
  clear g
  have US : z3.cell? ⟨w.heap.size, 0, none⟩ = some (.int .i64 k0) ∧ z3.cell? ⟨w.heap.size, 1, none⟩ = some (.int .i64 n0) ∧ z3.cell? ⟨w.heap.size, 2, none⟩ = some (.int .u8 (n8 s0)) ∧ z3.cell? ⟨w.heap.size, 3, none⟩ = some (.bool h0) := (BD.out.up Z3.out).cells
  clear Z2
  refine hK9.out _ _ US ?_
  clear hK9 K9
  try simp only [Act.put, List.setIfInBounds_toArray, List.set_cons_zero, List.set_cons_succ]
  refine s_ca 14 (fun K9 hK9 => ?_)
  go_simp
  go_at_call 50
  refine (pshrinkX_calls z3 (.pointer (some ⟨p, 0, none⟩)) 4 n0 (hid (NN.out.up Z3.out))).mono ?_
  rintro en z4 ⟨rfl, g⟩
  have Z4 : Hid (Up a3.drew z4) := hid (Z3.out.t (g.out))
  clear g
  have US : z4.cell? ⟨w.heap.size, 0, none⟩ = some (.int .i64 k0) ∧ z4.cell? ⟨w.heap.size, 1, none⟩ = some (.int .i64 n0) ∧ z4.cell? ⟨w.heap.size, 2, none⟩ = some (.int .u8 (n8 s0)) ∧ z4.cell? ⟨w.heap.size, 3, none⟩ = some (.bool h0) := (BD.out.up Z4.out).cells
  clear Z3
  refine hK9.out _ _ US ?_
  clear hK9 K9
  try simp only [Act.put, List.setIfInBounds_toArray, List.set_cons_zero, List.set_cons_succ]
  refine s_ca 18 (fun K9 hK9 => ?_)
  go_simp
  go_at_call 51
  refine (pundoX_calls z4 (.pointer (some ⟨p, 0, none⟩)) 4 n0 (hid (NN.out.up Z4.out))).mono ?_
  rintro en z5 ⟨rfl, g⟩
  have Z5 : Hid (Up a3.drew z5) := hid (Z4.out.t (g.out))
  clear g
  have US : z5.cell? ⟨w.heap.size, 0, none⟩ = some (.int .i64 k0) ∧ z5.cell? ⟨w.heap.size, 1, none⟩ = some (.int .i64 n0) ∧ z5.cell? ⟨w.heap.size, 2, none⟩ = some (.int .u8 (n8 s0)) ∧ z5.cell? ⟨w.heap.size, 3, none⟩ = some (.bool h0) := (BD.out.up Z5.out).cells
  clear Z4
  refine hK9.out _ _ US ?_
  clear hK9 K9
  try simp only [Act.put, List.setIfInBounds_toArray, List.set_cons_zero, List.set_cons_succ]
  refine s_ca 20 (fun K9 hK9 => ?_)
  go_simp
  go_at_call 52
  refine (prollX_calls z5 (.pointer (some ⟨p, 0, none⟩)) 4 (hid (NN.out.up Z5.out))).mono ?_
  rintro en z6 ⟨rfl, g⟩
  have Z6 : Hid (Up a3.drew z6) := hid (Z5.out.t (g.out))
  clear g
  have US : z6.cell? ⟨w.heap.size, 0, none⟩ = some (.int .i64 k0) ∧ z6.cell? ⟨w.heap.size, 1, none⟩ = some (.int .i64 n0) ∧ z6.cell? ⟨w.heap.size, 2, none⟩ = some (.int .u8 (n8 s0)) ∧ z6.cell? ⟨w.heap.size, 3, none⟩ = some (.bool h0) := (BD.out.up Z6.out).cells
  clear Z5
  refine hK9.out _ _ US ?_
  clear hK9 K9
  try simp only [Act.put, List.setIfInBounds_toArray, List.set_cons_zero, List.set_cons_succ]
  refine s_ca 22 (fun K9 hK9 => ?_)
  go_simp
  go_at_call 23
  refine (pcommitX_calls z6 (.pointer (some ⟨p, 0, none⟩)) 4 (hid (NN.out.up Z6.out))).mono ?_
  rintro en z7 ⟨rfl, g⟩
  have Z7 : Hid (Up a3.drew z7) := hid (Z6.out.t (g.out))
  clear g
  have US : z7.cell? ⟨w.heap.size, 0, none⟩ = some (.int .i64 k0) ∧ z7.cell? ⟨w.heap.size, 1, none⟩ = some (.int .i64 n0) ∧ z7.cell? ⟨w.heap.size, 2, none⟩ = some (.int .u8 (n8 s0)) ∧ z7.cell? ⟨w.heap.size, 3, none⟩ = some (.bool h0) := (BD.out.up Z7.out).cells
  clear Z6
  refine hK9.out _ _ US ?_
  clear hK9 K9
  try simp only [Act.put, List.setIfInBounds_toArray, List.set_cons_zero, List.set_cons_succ]
  refine s_tk 23 80 (v := ?_) US (fun w9 hS => ?_) ?_; rotate_left
  · go_simp <;> with_reducible rfl
  try simp only [Act.put, List.setIfInBounds_toArray, List.set_cons_zero, List.set_cons_succ]
  refine s_done (by kernel_rfl) ?_
  clear US
  first | (rename_i K1 h1; refine h1 _ _ ?_; clear h1 K1) | skip
  have VE : Hid (Up w9 z7) := hid (VD.out.t Z7.out)
  clear Z7 VD BD NN
  have NN : Hid (StopP z7 (.pointer (some ⟨p, 0, none⟩)) 4) := hid (N1.out.up VE.out)
  have j0 := nidx0 4
  have j1 := nidx1 4
  have j2 := nidx2 4
  have j3 := nidx3 4
  have j4 := nidx4 4
  have j5 := nidx5 4
  have j6 := nidx6 4
  have j7 := nidx7 4
  have j8 := nidx8 4
  go_wp2_with fail
  refine wp_loop_rounds 10 ?_
  rw [rounds_succ]
  go_wp2_with fail
  rw [rounds_succ]
  go_wp2_with fail
  rw [rounds_succ]
  go_wp2_with fail
  rw [rounds_succ]
  go_wp2_with fail
  rw [rounds_succ]
  go_wp2_with fail
  rw [rounds_succ]
  go_wp2_with fail
  rw [rounds_succ]
  go_wp2_with fail
  rw [rounds_succ]
  go_wp2_with fail
  rw [rounds_succ]
  go_wp2_with fail
  rw [rounds_succ]
  go_wp2_with fail
  refine (ppagesX_calls z7 (.pointer (some ⟨p, 0, none⟩)) 4 NN).mono ?_
  rintro en b0 ⟨rfl, g⟩
  have VG : Hid (Up w9 b0) := hid (VE.out.t g.out)
  clear g VE NN
  have VE := VG
  clear VG
  have NN : Hid (StopP b0 (.pointer (some ⟨p, 0, none⟩)) 4) := hid (N1.out.up VE.out)
  go_wp2_with fail
  refine (pchangedX_calls b0 (.pointer (some ⟨p, 0, none⟩)) 4 NN).mono ?_
  rintro en b1 ⟨rfl, g⟩
  have VG : Hid (Up w9 b1) := hid (VE.out.t g.out)
  clear g VE NN
  have VE := VG
  clear VG
  have NN : Hid (StopP b1 (.pointer (some ⟨p, 0, none⟩)) 4) := hid (N1.out.up VE.out)
  go_wp2_with fail
  refine (pcachedX_calls b1 (.pointer (some ⟨p, 0, none⟩)) 4 NN).mono ?_
  rintro en b2 ⟨rfl, g⟩
  have VG : Hid (Up w9 b2) := hid (VE.out.t g.out)
  clear g VE NN
  have VE := VG
  clear VG
  have NN : Hid (StopP b2 (.pointer (some ⟨p, 0, none⟩)) 4) := hid (N1.out.up VE.out)
  go_wp2_with fail
  refine (pcommitsX_calls b2 (.pointer (some ⟨p, 0, none⟩)) 4 NN).mono ?_
  rintro en b3 ⟨rfl, g⟩
  have VG : Hid (Up w9 b3) := hid (VE.out.t g.out)
  clear g VE NN
  have VE := VG
  clear VG
  have NN : Hid (StopP b3 (.pointer (some ⟨p, 0, none⟩)) 4) := hid (N1.out.up VE.out)
  go_wp2_with fail
  refine (preplX_calls b3 (.pointer (some ⟨p, 0, none⟩)) 4 NN).mono ?_
  rintro en b4 ⟨rfl, g⟩
  have VG : Hid (Up w9 b4) := hid (VE.out.t g.out)
  clear g VE NN
  have VE := VG
  clear VG
  have NN : Hid (StopP b4 (.pointer (some ⟨p, 0, none⟩)) 4) := hid (N1.out.up VE.out)
  go_wp2_with fail
  refine (pbusyX_calls b4 (.pointer (some ⟨p, 0, none⟩)) 4 NN).mono ?_
  rintro en wx ⟨rfl, hw⟩
  obtain rfl := hw.symm
  clear hw NN
  have VZ : Hid (Up w b4) := hid (V9.out.t VE.out)
  go_wp2_with fail
  refine (lives7_calls _ (hid (ht.out.below' VZ.out))).mono ?_
  rintro en wz ⟨rfl, uz⟩
  have RES : Hid (Below w.heap.size w wz) := hid (VZ.out.t uz)
  clear uz
  go_wp2
  go_ret
  exact ⟨rfl, RES.out⟩
end Go.Proofs.YtbcghggkfnagoaaGreatDoor

namespace Go.Proofs.YtbcghggkfnagoaaGreatDoor
open Go Go.RowKit Go.ChangeShapes Go.WideShapes Go.ChangeAt Go.Deep Go.Joins Hach

def act7C (a : ActV7) : List Value := [.int .i64 a.kind, .int .i64 a.n, .int .u8 (n8 a.seed), .bool a.short]
def Act7Wf (a : ActV7) : Prop := (Lit.int .i64 a.kind).wf = true ∧ (Lit.int .i64 a.n).wf = true
theorem act7C_length (a : ActV7) : (act7C a).length = 4 := rfl
theorem c7_int : Tryz.prog.cellsOf 3 = 1 := by kernel_rfl
theorem c7_u8 : Tryz.prog.cellsOf 5 = 1 := by kernel_rfl
theorem c7_bool : Tryz.prog.cellsOf 4 = 1 := by kernel_rfl
theorem c7_act : Tryz.prog.cellsOf 51 = 4 := by kernel_rfl
section
variable {H : Type} {enc : TypeId × Value → H} {W : World} {base : Nat} {sp : Nat → Bool} {held : Bool}
set_option maxRecDepth 100000 in
theorem trod_act7 {fuel : Nat} {cs : List Value} {x : DataW H × List MemPlace} (h : DataW.trod enc Tryz.prog W base sp held fuel 51 cs = some x) :
    ∃ a : ActV7, cs = act7C a ∧ Act7Wf a := by
  obtain ⟨y0, y1, y2, y3, n, _, hl, h0, h1, h2, h3⟩ := trod_struct4 Tryz.underlying51 h
  rw [c7_act] at hl
  match cs, hl with
  | [a, b, c, d], _ =>
    simp only [c7_int, c7_u8, c7_bool, List.drop_zero, List.take_succ_cons, List.take_zero, List.drop_succ_cons] at h0 h1 h2 h3
    obtain ⟨p, e0, _, w0⟩ := DataW.trod_int Tryz.underlying3 h0
    obtain ⟨q, e1, _, w1⟩ := DataW.trod_int Tryz.underlying3 h1
    obtain ⟨r, e2, _, w2⟩ := DataW.trod_int Tryz.underlying5 h2
    obtain ⟨s, e3, _⟩ := DataW.trod_bool Tryz.underlying4 h3
    obtain ⟨bt, rfl⟩ := n8_of w2
    injection e0 with e0; injection e1 with e1; injection e2 with e2; injection e3 with e3
    subst e0; subst e1; subst e2; subst e3
    exact ⟨⟨p, q, bt, s⟩, rfl, w0, w1⟩
set_option maxRecDepth 100000 in
theorem open_act7 {b0 : Nat} {v : Value} {d : DataW H} {ps : List MemPlace} (hok : Value.okWide Tryz.prog W .any b0 51 v) (h : DataW.Trod enc Tryz.prog W base sp held 51 v d ps) :
    ∃ a : ActV7, v = .agg #[.int .i64 a.kind, .int .i64 a.n, .int .u8 (n8 a.seed), .bool a.short] ∧ Act7Wf a := by
  obtain ⟨cs, rfl, _⟩ := okWide_struct Tryz.underlying51 hok
  obtain ⟨fuel, hf⟩ := h
  obtain ⟨a, e, hw⟩ := trod_act7 hf
  refine ⟨a, ?_, hw⟩
  cases cs
  simp only [Value.cells] at e
  rw [e]; rfl
set_option maxRecDepth 100000 in
theorem open_acts7 {b0 : Nat} {v : Value} {d : DataW H} {ps : List MemPlace} (hok : Value.okWide Tryz.prog W .any b0 39 v) (h : DataW.Trod enc Tryz.prog W base sp held 39 v d ps) :
    ∃ (A : Option Addr) (l : List ActV7) (c : Nat), v = .slice A l.length c ∧ l.length ≤ 9223372036854775807 ∧ Rd W A (l.flatMap act7C) ∧ l.length ≤ c ∧ ∀ a ∈ l, Act7Wf a :=
  open_rows act7C Act7Wf 4 act7C_length (by decide) Tryz.underlying39 c7_act (fun h => trod_act7 h) hok h
end
end Go.Proofs.YtbcghggkfnagoaaGreatDoor
