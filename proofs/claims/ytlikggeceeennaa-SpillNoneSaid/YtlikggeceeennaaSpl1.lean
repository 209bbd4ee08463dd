/- THE WALKS of spill's functions at a heap that no call made. -/
import Derived.Test.YtlikggeceeennaaClo
import Derived.Test.YtlikggeceeennaaK4
import Derived.Test.YtlikggeceeennaaK2
import Derived.Handy
set_option linter.unusedVariables false
set_option linter.unusedSimpArgs false
namespace Go.Proofs.Ytlikggeceeennaa
open Go Go.RowKit Hach

/-- A pointer to a heap that no call made. -/
def NoHeap (w : World) (v : Value) : Prop := v = .pointer none ∨ ∃ b, v = .pointer (some ⟨b, 0, none⟩) ∧ w.cell? ⟨b, 0, none⟩ = some (.pointer none)
theorem NoHeap.up {w w' : World} {v : Value} (h : NoHeap w v) (hu : Up w w') : NoHeap w' v := by
  rcases h with h | ⟨b, h1, h2⟩
  · exact .inl h
  · exact .inr ⟨b, h1, hu.c h2⟩

theorem pager_calls (w : World) (v : Value) (h : NoHeap w v) : Calls Try.prog 67 #[v] w fun en w' => en = .returned (.pointer none) ∧ w = w' := by
  rcases h with rfl | ⟨b, rfl, h⟩
  · go_enter Try.func67, Try.ntmps67
    go_wp2
    go_ret
    exact ⟨rfl, rfl⟩
  · go_enter Try.func67, Try.ntmps67
    go_wp2
    go_ret
    exact ⟨rfl, rfl⟩

set_option maxRecDepth 100000 in
set_option maxHeartbeats 1000000 in
theorem spillAll_calls (w : World) (v : Value) (p n : Int) (h : NoHeap w v) : Calls Try.prog 73 #[v, .int .i64 p, .int .i64 n] w fun en w' => en = .returned (.tuple #[.slice none 0 0, .int .i64 1]) ∧ Up w w' := by
  have u : Up w ((w.alloc (.cells #[.slice none 0 0] 115)).alloc (.cells #[.int .i64 0] 28)) := ((Below.refl _ _).alloc (Nat.le_refl _) _).alloc (by simp) _
  have H := hid (h.up u)
  go_enter Try.func73, Try.ntmps73
  go_wp2_with (go_at_call 67; refine (pager_calls _ v H.out).mono ?_; rintro en w2 ⟨rfl, rfl⟩)
  go_returns
  exact ⟨rfl, ((Below.refl _ _).alloc (Nat.le_refl _) _).alloc (by simp) _⟩

theorem spillRead_calls (w : World) (v : Value) (p n : Int) (h : Hid (NoHeap w v)) : Calls Try.prog 22 #[v, .int .i64 p, .int .i64 n] w fun en w' => en = .returned (.tuple #[.slice none 0 0, .int .i64 1]) ∧ Up w w' := by
  go_enter Try.func22, Try.ntmps22
  go_wp2_with (go_at_call 73; refine (spillAll_calls _ v p n h.out).mono ?_; rintro en w2 ⟨rfl, u⟩)
  go_returns
  exact ⟨rfl, u⟩
set_option maxRecDepth 100000 in
set_option maxHeartbeats 1000000 in
theorem spillPages_calls (w : World) (v : Value) (p n : Int) (h : Hid (NoHeap w v)) : Calls Try.prog 23 #[v, .int .i64 p, .int .i64 n] w fun en w' => en = .returned (.tuple #[.slice none 0 0, .int .i64 1]) ∧ Up w w' := by
  go_enter Try.func23, Try.ntmps23
  go_wp2_with (go_at_call 73; refine (spillAll_calls _ v p n h.out).mono ?_; rintro en w2 ⟨rfl, u⟩)
  go_rounds 1
  go_returns
  exact ⟨rfl, u⟩
set_option maxRecDepth 100000 in
set_option maxHeartbeats 1000000 in
theorem spillFree_calls (w : World) (v : Value) (p n : Int) (h : Hid (NoHeap w v)) : Calls Try.prog 24 #[v, .int .i64 p, .int .i64 n] w fun en w' => en = .returned (.int .i64 1) ∧ Up w w' := by
  go_enter Try.func24, Try.ntmps24
  go_wp2_with (go_at_call 73; refine (spillAll_calls _ v p n h.out).mono ?_; rintro en w2 ⟨rfl, u⟩)
  go_rounds 1
  go_returns
  exact ⟨rfl, u⟩
set_option maxRecDepth 100000 in
set_option maxHeartbeats 1000000 in
theorem spillWrite_calls (w : World) (v : Value) (A : Option Addr) (m c : Nat) (h : Hid (NoHeap w v)) : Calls Try.prog 20 #[v, .slice A m c] w fun en w' => en = .returned (.tuple #[.int .i64 0, .int .i64 1]) ∧ Up w w' := by
  have hv : ∃ p, v = .pointer p := by rcases h.out with h | ⟨b, h, _⟩; exact ⟨_, h⟩; exact ⟨_, h⟩
  obtain ⟨p, rfl⟩ := hv
  have u : Up w (((w.alloc (.cells #[.pointer p] 37)).alloc (.cells #[.int .i64 0] 3)).alloc (.cells #[.int .i64 0] 28)) := (((Below.refl _ _).alloc (Nat.le_refl _) _).alloc (by simp) _).alloc (by simp; omega) _
  have H := hid (h.out.up u)
  go_enter Try.func20, Try.ntmps20
  go_wp2_with (go_at_call 67; refine (pager_calls _ (.pointer p) H.out).mono ?_; rintro en w2 ⟨rfl, rfl⟩)
  go_returns
  exact ⟨rfl, (((Below.refl _ _).alloc (Nat.le_refl _) _).alloc (by simp) _).alloc (by simp; omega) _⟩

def SlRet (w : World) (n : Nat) (en : Ending) (w' : World) : Prop := ∃ A c, en = .returned (.slice A n c) ∧ Up w w'
set_option maxRecDepth 100000 in
set_option maxHeartbeats 1000000 in
theorem spillBytes_calls (w : World) : Calls Try.prog 21 #[.int .i64 3, .int .i64 1] w (SlRet w 3) := by
  go_enter Try.func21, Try.ntmps21
  go_wp2_with (at_make; refine hold ?_)
  refine hid (wl_make elemB rfl (.tmp 7) (.tmp 7) rfl w.heap.size 3 rfl rfl rfl rfl (by decide) (by decide) (Nat.le_refl _) ?_)
  intro w2 o2 b2 z2
  have F0 : Hid (Up w w2 ∧ ∃ xs : List Value, w2.ownsRow w.heap.size 5 1 (.slice (some ⟨w.heap.size, 0, none⟩) 3 3) 3 xs) := hid ⟨b2, _, o2⟩
  clear o2 b2 z2
  go_wp2
  go_loopw [11] (fun i wr => ∃ k : Nat, k ≤ 3 ∧ i = .int .i64 k ∧ Hid (Up w wr ∧ ∃ xs : List Value, wr.ownsRow w.heap.size 5 1 (.slice (some ⟨w.heap.size, 0, none⟩) 3 3) 3 xs)) (fun i _ => 3 - (intOf i).toNat)
  case atStart => exact ⟨0, by omega, rfl, F0⟩
  case round =>
    obtain ⟨k, hk, rfl, iv⟩ := hrel
    by_cases hlt : (k : Int) < 3
    · obtain ⟨u, xs, o⟩ := iv.out
      have hl : xs.length = 3 := o.1
      have e0 := o.cellAt k (by omega)
      rw [List.getElem?_eq_getElem (show k < xs.length by omega)] at e0
      have f0 := o.frozenAt k
      have O := hid o
      have U := hid u
      clear o u iv
      go_wp2
      go_roundw
      case rel => exact ⟨k + 1, by omega, rfl, hid ⟨U.out.setCell (p := ⟨w.heap.size, k, none⟩) (Nat.le_refl _) _, _, (O.out.stored k _).1⟩⟩
      case measure => simp only [intOf]; omega
    · obtain rfl : k = 3 := by omega
      go_wp2
      go_returns
      exact ⟨_, _, rfl, iv.out.1⟩
end Go.Proofs.Ytlikggeceeennaa
