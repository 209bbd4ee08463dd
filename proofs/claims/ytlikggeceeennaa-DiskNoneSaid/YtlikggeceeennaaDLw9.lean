/- AN UNMADE DISK: each method. -/
import Derived.Test.YtlikggeceeennaaDLw3
import Derived.Test.YtlikggeceeennaaK4
set_option linter.unusedVariables false
set_option linter.unusedSimpArgs false
namespace Go.Proofs.Ytlikggeceeennaa
open Go Go.RowKit Go.Maps Hach

def NoDisk (w : World) (v : Value) : Prop := v = .pointer none ∨ ∃ b, v = .pointer (some ⟨b, 0, none⟩) ∧ w.cell? ⟨b, 0, none⟩ = some (.int .i64 0)
theorem NoDisk.up {w w' : World} {v : Value} (h : NoDisk w v) (hu : Up w w') : NoDisk w' v := by
  rcases h with h | ⟨b, h, hc⟩
  · exact .inl h
  · exact .inr ⟨b, h, hu.c hc⟩
def NoRetD (w : World) (x : Value) (en : Ending) (w' : World) : Prop := en = .returned x ∧ Hid (Up w w')
theorem madeU_calls (w : World) (v : Value) (h : Hid (NoDisk w v)) : Calls Try.prog 107 #[v] w fun en w' => en = .returned (.bool false) ∧ w' = w := by
  rcases h.out with rfl | ⟨b, rfl, hc⟩
  · go_enter Try.func107, Try.ntmps107
    go_wp2
    go_ret
    exact ⟨rfl, rfl⟩
  · go_enter Try.func107, Try.ntmps107
    go_wp2
    go_ret
    exact ⟨rfl, rfl⟩
set_option maxRecDepth 100000 in
set_option maxHeartbeats 2000000 in
theorem fileU_calls (w : World) (v : Value) (i : Int) (h : Hid (NoDisk w v)) : Calls Try.prog 100 #[v, .int .i64 i] w (fun en w' => en = .returned (.tuple #[.pointer none, .int .i64 1]) ∧ w' = w) := by
  go_enter Try.func100, Try.ntmps100
  go_wp2_with (go_at_call 107; refine (madeU_calls _ v h).mono ?_; rintro en w9 ⟨rfl, hw⟩; obtain rfl := hw.symm)
  go_ret2
  exact ⟨rfl, rfl⟩
set_option maxRecDepth 100000 in
set_option maxHeartbeats 2000000 in
theorem lookU_calls (w : World) (v : Value) (i : Int) (h : Hid (NoDisk w v)) : Calls Try.prog 106 #[v, .int .i64 i] w (fun en w' => en = .returned (.pointer none) ∧ w' = w) := by
  go_enter Try.func106, Try.ntmps106
  go_wp2_with (go_at_call 107; refine (madeU_calls _ v h).mono ?_; rintro en w9 ⟨rfl, hw⟩; obtain rfl := hw.symm)
  go_ret
  exact ⟨rfl, rfl⟩
set_option maxRecDepth 100000 in
set_option maxHeartbeats 2000000 in
theorem readU_calls (w : World) (v : Value) (i a n : Int) (h : Hid (NoDisk w v)) : Calls Try.prog 48 #[v, .int .i64 i, .int .i64 a, .int .i64 n] w (NoRetD w (.tuple #[.slice none 0 0, .int .i64 1])) := by
  go_enter Try.func48, Try.ntmps48
  go_wp2_with (go_at_call 100; refine (fileU_calls _ v i h).mono ?_; rintro en w9 ⟨rfl, hw⟩; obtain rfl := hw.symm)
  go_ret2
  exact ⟨rfl, hid (Up.refl _)⟩
set_option maxRecDepth 100000 in
set_option maxHeartbeats 2000000 in
theorem syncU_calls (w : World) (v : Value) (i : Int) (h : Hid (NoDisk w v)) : Calls Try.prog 47 #[v, .int .i64 i] w (NoRetD w (.int .i64 1)) := by
  go_enter Try.func47, Try.ntmps47
  go_wp2_with (go_at_call 100; refine (fileU_calls _ v i h).mono ?_; rintro en w9 ⟨rfl, hw⟩; obtain rfl := hw.symm)
  go_ret
  exact ⟨rfl, hid (upAlD (Up.refl _) _)⟩
set_option maxRecDepth 100000 in
set_option maxHeartbeats 2000000 in
theorem cutU_calls (w : World) (v : Value) (i k : Int) (h : Hid (NoDisk w v)) : Calls Try.prog 55 #[v, .int .i64 i, .int .i64 k] w (NoRetD w (.int .i64 1)) := by
  have uX := upAlD (Up.refl w) (.cells #[.int .i64 k] 3)
  have HX := hid (h.out.up uX)
  go_enter Try.func55, Try.ntmps55
  go_wp2_with (go_at_call 100; refine (fileU_calls _ v i HX).mono ?_; rintro en w9 ⟨rfl, hw⟩; obtain rfl := hw.symm)
  go_ret
  exact ⟨rfl, hid (uX.t (upAlD (Up.refl _) _))⟩
set_option maxRecDepth 100000 in
set_option maxHeartbeats 2000000 in
theorem armU_calls (w : World) (v : Value) (n : Int) (KA : Option Addr) (kn kc : Nat) (torn : Int) (h : Hid (NoDisk w v)) : Calls Try.prog 54 #[v, .int .i64 n, .agg #[.slice KA kn kc, .int .i64 torn]] w (NoRetD w (.int .i64 1)) := by
  have uX := upAlD (Up.refl w) (.cells #[.slice KA kn kc, .int .i64 torn] 77)
  have HX := hid (h.out.up uX)
  go_enter Try.func54, Try.ntmps54
  go_wp2_with (go_at_call 107; refine (madeU_calls _ v HX).mono ?_; rintro en w9 ⟨rfl, hw⟩; obtain rfl := hw.symm)
  go_ret
  exact ⟨rfl, hid uX⟩
set_option maxRecDepth 100000 in
set_option maxHeartbeats 2000000 in
theorem crashU_calls (w : World) (v : Value) (KA : Option Addr) (kn kc : Nat) (torn : Int) (h : Hid (NoDisk w v)) : Calls Try.prog 51 #[v, .agg #[.slice KA kn kc, .int .i64 torn]] w (NoRetD w (.bool false)) := by
  have uX := upAlD (Up.refl w) (.cells #[.slice KA kn kc, .int .i64 torn] 77)
  have HX := hid (h.out.up uX)
  go_enter Try.func51, Try.ntmps51
  go_wp2_with (go_at_call 107; refine (madeU_calls _ v HX).mono ?_; rintro en w9 ⟨rfl, hw⟩; obtain rfl := hw.symm)
  go_ret
  exact ⟨rfl, hid uX⟩
set_option maxRecDepth 100000 in
set_option maxHeartbeats 2000000 in
theorem startU_calls (w : World) (v : Value) (h : Hid (NoDisk w v)) : Calls Try.prog 52 #[v] w (NoRetD w (.int .i64 1)) := by
  go_enter Try.func52, Try.ntmps52
  go_wp2_with (go_at_call 107; refine (madeU_calls _ v h).mono ?_; rintro en w9 ⟨rfl, hw⟩; obtain rfl := hw.symm)
  go_ret
  exact ⟨rfl, hid (Up.refl _)⟩
set_option maxRecDepth 100000 in
set_option maxHeartbeats 2000000 in
theorem onU_calls (w : World) (v : Value) (h : Hid (NoDisk w v)) : Calls Try.prog 57 #[v] w (NoRetD w (.bool false)) := by
  go_enter Try.func57, Try.ntmps57
  go_wp2_with (go_at_call 107; refine (madeU_calls _ v h).mono ?_; rintro en w9 ⟨rfl, hw⟩; obtain rfl := hw.symm)
  go_ret
  exact ⟨rfl, hid (Up.refl _)⟩
set_option maxRecDepth 100000 in
set_option maxHeartbeats 2000000 in
theorem opsU_calls (w : World) (v : Value) (h : Hid (NoDisk w v)) : Calls Try.prog 56 #[v] w (NoRetD w (.int .i64 0)) := by
  go_enter Try.func56, Try.ntmps56
  go_wp2_with (go_at_call 107; refine (madeU_calls _ v h).mono ?_; rintro en w9 ⟨rfl, hw⟩; obtain rfl := hw.symm)
  go_ret
  exact ⟨rfl, hid (Up.refl _)⟩
set_option maxRecDepth 100000 in
set_option maxHeartbeats 2000000 in
theorem roomU_calls (w : World) (v : Value) (h : Hid (NoDisk w v)) : Calls Try.prog 58 #[v] w (NoRetD w (.int .i64 0)) := by
  go_enter Try.func58, Try.ntmps58
  go_wp2_with (go_at_call 107; refine (madeU_calls _ v h).mono ?_; rintro en w9 ⟨rfl, hw⟩; obtain rfl := hw.symm)
  go_ret
  exact ⟨rfl, hid (Up.refl _)⟩
set_option maxRecDepth 100000 in
set_option maxHeartbeats 2000000 in
theorem copyU_calls (w : World) (v : Value) (h : Hid (NoDisk w v)) : Calls Try.prog 50 #[v] w (NoRetD w (.pointer none)) := by
  go_enter Try.func50, Try.ntmps50
  go_wp2_with (go_at_call 107; refine (madeU_calls _ v h).mono ?_; rintro en w9 ⟨rfl, hw⟩; obtain rfl := hw.symm)
  go_ret
  exact ⟨rfl, hid (Up.refl _)⟩
set_option maxRecDepth 100000 in
set_option maxHeartbeats 2000000 in
theorem secU_calls (w : World) (v : Value) (i : Int) (h : Hid (NoDisk w v)) : Calls Try.prog 49 #[v, .int .i64 i] w (NoRetD w (.int .i64 0)) := by
  go_enter Try.func49, Try.ntmps49
  go_wp2_with (go_at_call 106; refine (lookU_calls _ v i h).mono ?_; rintro en w9 ⟨rfl, hw⟩; obtain rfl := hw.symm)
  go_ret
  exact ⟨rfl, hid (Up.refl _)⟩
set_option maxRecDepth 100000 in
set_option maxHeartbeats 2000000 in
theorem dirU_calls (w : World) (v : Value) (i : Int) (h : Hid (NoDisk w v)) : Calls Try.prog 53 #[v, .int .i64 i] w (NoRetD w (.int .i64 0)) := by
  go_enter Try.func53, Try.ntmps53
  go_wp2_with (go_at_call 106; refine (lookU_calls _ v i h).mono ?_; rintro en w9 ⟨rfl, hw⟩; obtain rfl := hw.symm)
  go_ret
  exact ⟨rfl, hid (Up.refl _)⟩
set_option maxRecDepth 100000 in
set_option maxHeartbeats 2000000 in
theorem writeU0_calls (w : World) (i a : Int) (A : Option Addr) (n cap : Nat) : Calls Try.prog 45 #[.pointer none, .int .i64 i, .int .i64 a, .slice A n cap] w (NoRetD w (.int .i64 1)) := by
  have UU := hid ((((((Up.refl w).t (upAlD (Up.refl _) (.cells #[.pointer none] 79))).t (upAlD (Up.refl _) (.cells #[.int .i64 i] 3))).t (upAlD (Up.refl _) (.cells #[.int .i64 a] 3))).t (upAlD (Up.refl _) (.cells #[.slice A n cap] 25))).t (upAlD (Up.refl _) (.cells #[.pointer none] 131)))
  go_enter Try.func45, Try.ntmps45
  go_wp2_with (go_at_call 100; refine (fileU_calls _ (.pointer none) i (hid (.inl rfl))).mono ?_; rintro en w9 ⟨rfl, rfl⟩)
  go_ret
  exact ⟨rfl, UU⟩
theorem writeU_calls (w : World) (v : Value) (i a : Int) (A : Option Addr) (n cap : Nat) (h : Hid (NoDisk w v)) : Calls Try.prog 45 #[v, .int .i64 i, .int .i64 a, .slice A n cap] w (NoRetD w (.int .i64 1)) := by
  rcases h.out with rfl | ⟨b, rfl, hc⟩
  · exact writeU0_calls w i a A n cap
  · exact writeE_calls w b i a A n cap 1 (by decide) (fileU_calls _ _ i (hid (h.out.up (wb_up4 w b i a _))))
end Go.Proofs.Ytlikggeceeennaa
