/- THE WALK of SpillNone. -/
import Derived.Test.YtlikggeceeennaaSpl1
set_option linter.unusedVariables false
set_option linter.unusedSimpArgs false
namespace Go.Proofs.Ytlikggeceeennaa
open Go Go.RowKit Hach

theorem spillLives_calls (w : World) : Calls Try.prog 14 #[] w fun en w' => en = .returned (.bool true) ∧ Up w w' := by
  go_enter Try.func14, Try.ntmps14
  go_wp2
  go_ret
  exact ⟨rfl, by repeat (first | exact Below.refl _ _ | apply Below.drew)⟩

theorem idx0 (g : Nat) (w : World) : (Instr.index 38 (.agg #[.pointer none, .pointer (some ⟨g, 0, none⟩)]) (.int .i64 0)).run Try.prog w = .ok (.pointer none) w := by kernel_rfl
theorem idx1 (g : Nat) (w : World) : (Instr.index 38 (.agg #[.pointer none, .pointer (some ⟨g, 0, none⟩)]) (.int .i64 1)).run Try.prog w = .ok (.pointer (some ⟨g, 0, none⟩)) w := by kernel_rfl

set_option maxRecDepth 100000 in
set_option maxHeartbeats 1000000 in
theorem spillNone_walk (w : World) (p n : Int) : Calls Try.prog 5 #[.int .i64 p, .int .i64 n] w fun en w' => en = .returned (.bool true) ∧ Below w.heap.size w w' := by
  have U1 : Hid (Up w (w.alloc (.cells #[.pointer none] 36))) := hid ((Below.refl _ _).alloc (Nat.le_refl _) _)
  have H1 : Hid (NoHeap (w.alloc (.cells #[.pointer none] 36)) (.pointer (some ⟨w.heap.size, 0, none⟩))) := hid (.inr ⟨_, rfl, by go_simp⟩)
  generalize hW : w.alloc (.cells #[.pointer none] 36) = W1 at *
  have HW := hid hW
  have N1 : ∀ w', NoHeap w' (.pointer none) := fun _ => .inl rfl
  have N2 := hid N1
  clear N1
  go_enter Try.func5, Try.ntmps5
  go_wp2
  have i0 := idx0 w.heap.size
  have i1 := idx1 w.heap.size
  have V0 : Hid (Up W1 W1) := hid (Up.refl W1)
  refine wp_loop_rounds 3 ?_
  rw [rounds_succ]
  go_wp2_with fail
  refine (spillBytes_calls W1).mono ?_
  rintro en w0a ⟨A0, c0, rfl, u0a⟩
  have U0a := hid (V0.out.t u0a)
  go_wp2_with fail
  refine (spillWrite_calls w0a (.pointer none) A0 3 c0 (hid ((N2.out W1).up U0a.out))).mono ?_
  rintro en w0b ⟨rfl, u0b⟩
  have U0b := hid (U0a.out.t u0b)
  go_wp2_with fail
  refine (spillRead_calls w0b (.pointer none) p n (hid ((N2.out W1).up U0b.out))).mono ?_
  rintro en w0c ⟨rfl, u0c⟩
  have U0c := hid (U0b.out.t u0c)
  go_wp2_with fail
  refine (spillPages_calls w0c (.pointer none) p n (hid ((N2.out W1).up U0c.out))).mono ?_
  rintro en w0d ⟨rfl, u0d⟩
  have U0d := hid (U0c.out.t u0d)
  go_wp2_with fail
  refine (spillFree_calls w0d (.pointer none) p n (hid ((N2.out W1).up U0d.out))).mono ?_
  rintro en w0e ⟨rfl, u0e⟩
  have V1 := hid (U0d.out.t u0e)
  clear u0a u0b u0c u0d u0e U0a U0b U0c U0d
  go_wp2
  rw [rounds_succ]
  go_wp2_with fail
  refine (spillBytes_calls w0e).mono ?_
  rintro en w1a ⟨A1, c1, rfl, u1a⟩
  have U1a := hid (V1.out.t u1a)
  go_wp2_with fail
  refine (spillWrite_calls w1a (.pointer (some ⟨w.heap.size, 0, none⟩)) A1 3 c1 (hid (H1.out.up U1a.out))).mono ?_
  rintro en w1b ⟨rfl, u1b⟩
  have U1b := hid (U1a.out.t u1b)
  go_wp2_with fail
  refine (spillRead_calls w1b (.pointer (some ⟨w.heap.size, 0, none⟩)) p n (hid (H1.out.up U1b.out))).mono ?_
  rintro en w1c ⟨rfl, u1c⟩
  have U1c := hid (U1b.out.t u1c)
  go_wp2_with fail
  refine (spillPages_calls w1c (.pointer (some ⟨w.heap.size, 0, none⟩)) p n (hid (H1.out.up U1c.out))).mono ?_
  rintro en w1d ⟨rfl, u1d⟩
  have U1d := hid (U1c.out.t u1d)
  go_wp2_with fail
  refine (spillFree_calls w1d (.pointer (some ⟨w.heap.size, 0, none⟩)) p n (hid (H1.out.up U1d.out))).mono ?_
  rintro en w1e ⟨rfl, u1e⟩
  have V2 := hid (U1d.out.t u1e)
  clear u1a u1b u1c u1d u1e U1a U1b U1c U1d
  go_wp2
  rw [rounds_succ]
  go_wp2_with fail
  refine (spillLives_calls _).mono ?_
  rintro en wz ⟨rfl, uz⟩
  go_wp2
  go_ret
  exact ⟨rfl, (U1.out.t V2.out).t uz⟩
end Go.Proofs.Ytlikggeceeennaa
