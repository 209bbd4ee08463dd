/- THE WALKS of the cache's functions at a cache that no call made. -/
import Derived.Test.YtlikggeceeennaaCac13
import Derived.Handy
set_option linter.unusedVariables false
set_option linter.unusedSimpArgs false
namespace Go.Proofs.Ytlikggeceeennaa
open Go Go.RowKit Hach

/-- A pointer to a cache that no call made. -/
def NoCache (w : World) (v : Value) : Prop := v = .pointer none ∨ ∃ b, v = .pointer (some ⟨b, 0, none⟩) ∧ w.cell? ⟨b, 2, none⟩ = some (.pointer none)
theorem NoCache.up {w w' : World} {v : Value} (h : NoCache w v) (hu : Up w w') : NoCache w' v := by
  rcases h with h | ⟨b, h1, h2⟩
  · exact .inl h
  · exact .inr ⟨b, h1, hu.c h2⟩
theorem NoCache.ptr {w : World} {v : Value} (h : NoCache w v) : ∃ p, v = .pointer p := by rcases h with h | ⟨b, h, _⟩; exact ⟨_, h⟩; exact ⟨_, h⟩
theorem upAlloc {w w' : World} (h : Up w w') (o : Obj) : Up w (w'.alloc o) := Below.alloc h h.size o

theorem madeNone_calls (w : World) (v : Value) (h : NoCache w v) : Calls Try.prog 60 #[v] w fun en w' => en = .returned (.bool false) ∧ w = w' := by
  rcases h with rfl | ⟨b, rfl, h⟩
  · go_enter Try.func60, Try.ntmps60
    go_wp2
    go_ret
    exact ⟨rfl, rfl⟩
  · go_enter Try.func60, Try.ntmps60
    go_wp2
    go_ret
    exact ⟨rfl, rfl⟩

def NoRet (w : World) (v : Value) (en : Ending) (w' : World) : Prop := en = .returned v ∧ Up w w'

theorem withNone_calls (w : World) (v : Value) (p : Int) (f : Value) (h : Hid (NoCache w v)) : Calls Try.prog 81 #[v, .int .i64 p, f] w (NoRet w (.int .i64 1)) := by
  go_enter Try.func81, Try.ntmps81
  go_wp2_with (go_at_call 60; refine (madeNone_calls _ v h.out).mono ?_; rintro en w2 ⟨rfl, rfl⟩)
  go_returns
  exact ⟨rfl, Up.refl _⟩
theorem pinNone_calls (w : World) (v : Value) (p : Int) (h : Hid (NoCache w v)) : Calls Try.prog 37 #[v, .int .i64 p] w (NoRet w (.int .i64 1)) := by
  go_enter Try.func37, Try.ntmps37
  go_wp2_with (go_at_call 81; refine (withNone_calls _ v p _ h).mono ?_; rintro en w2 ⟨rfl, u2⟩)
  go_returns
  exact ⟨rfl, u2⟩
theorem freeNone_calls (w : World) (v : Value) (p : Int) (h : Hid (NoCache w v)) : Calls Try.prog 38 #[v, .int .i64 p] w (NoRet w (.int .i64 1)) := by
  go_enter Try.func38, Try.ntmps38
  go_wp2_with (go_at_call 81; refine (withNone_calls _ v p _ h).mono ?_; rintro en w2 ⟨rfl, u2⟩)
  go_returns
  exact ⟨rfl, u2⟩
theorem markNone_calls (w : World) (v : Value) (p : Int) (d : Bool) (h : Hid (NoCache w v)) : Calls Try.prog 39 #[v, .int .i64 p, .bool d] w (NoRet w (.int .i64 1)) := by
  have u1 : Up w (w.alloc (.cells #[.bool d] 4)) := upAlloc (Up.refl w) _
  have H1 := hid (h.out.up u1)
  go_enter Try.func39, Try.ntmps39
  go_wp2_with (go_at_call 81; refine (withNone_calls _ v p _ H1).mono ?_; rintro en w2 ⟨rfl, u2⟩)
  go_returns
  exact ⟨rfl, u1.t u2⟩
theorem dropNone_calls (w : World) (v : Value) (p : Int) (h : Hid (NoCache w v)) : Calls Try.prog 40 #[v, .int .i64 p] w (NoRet w (.int .i64 1)) := by
  obtain ⟨q, rfl⟩ := h.out.ptr
  have u1 : Up w (w.alloc (.cells #[.pointer q] 26)) := upAlloc (Up.refl w) _
  have H1 := hid (h.out.up u1)
  go_enter Try.func40, Try.ntmps40
  go_wp2_with (go_at_call 81; refine (withNone_calls _ (.pointer q) p _ H1).mono ?_; rintro en w2 ⟨rfl, u2⟩)
  go_returns
  exact ⟨rfl, u1.t u2⟩
theorem pinsNone_calls (w : World) (v : Value) (p : Int) (h : Hid (NoCache w v)) : Calls Try.prog 27 #[v, .int .i64 p] w (NoRet w (.int .i64 0)) := by
  have u1 : Up w (w.alloc (.cells #[.int .i64 0] 3)) := upAlloc (Up.refl w) _
  have c1 : (w.alloc (.cells #[.int .i64 0] 3)).cell? ⟨w.heap.size, 0, none⟩ = some (.int .i64 0) := by go_simp
  have H1 := hid (h.out.up u1)
  go_enter Try.func27, Try.ntmps27
  go_wp2_with (go_at_call 81; refine (withNone_calls _ v p _ H1).mono ?_; rintro en w2 ⟨rfl, u2⟩; have c2 := u2.c c1)
  go_returns
  exact ⟨rfl, u1.t u2⟩
theorem getNone_calls (w : World) (v : Value) (p : Int) (h : Hid (NoCache w v)) : Calls Try.prog 35 #[v, .int .i64 p] w (NoRet w (.tuple #[.slice none 0 0, .bool false])) := by
  go_enter Try.func35, Try.ntmps35
  go_wp2_with (go_at_call 60; refine (madeNone_calls _ v h.out).mono ?_; rintro en w2 ⟨rfl, rfl⟩)
  go_returns
  exact ⟨rfl, Up.refl _⟩
theorem peekNone_calls (w : World) (v : Value) (p : Int) (h : Hid (NoCache w v)) : Calls Try.prog 19 #[v, .int .i64 p] w (NoRet w (.tuple #[.slice none 0 0, .bool false])) := by
  go_enter Try.func19, Try.ntmps19
  go_wp2_with (go_at_call 60; refine (madeNone_calls _ v h.out).mono ?_; rintro en w2 ⟨rfl, rfl⟩)
  go_returns
  exact ⟨rfl, Up.refl _⟩
theorem hitsNone_calls (w : World) (v : Value) (h : Hid (NoCache w v)) : Calls Try.prog 36 #[v] w (NoRet w (.tuple #[.int .i64 0, .int .i64 0])) := by
  go_enter Try.func36, Try.ntmps36
  go_wp2_with (go_at_call 60; refine (madeNone_calls _ v h.out).mono ?_; rintro en w2 ⟨rfl, rfl⟩)
  go_returns
  exact ⟨rfl, Up.refl _⟩
theorem lenNone_calls (w : World) (v : Value) (h : Hid (NoCache w v)) : Calls Try.prog 31 #[v] w (NoRet w (.int .i64 0)) := by
  go_enter Try.func31, Try.ntmps31
  go_wp2_with (go_at_call 60; refine (madeNone_calls _ v h.out).mono ?_; rintro en w2 ⟨rfl, rfl⟩)
  go_returns
  exact ⟨rfl, Up.refl _⟩
theorem copyNone_calls (w : World) (v : Value) (h : Hid (NoCache w v)) : Calls Try.prog 33 #[v] w (NoRet w (.pointer none)) := by
  go_enter Try.func33, Try.ntmps33
  go_wp2_with (go_at_call 60; refine (madeNone_calls _ v h.out).mono ?_; rintro en w2 ⟨rfl, rfl⟩)
  go_returns
  exact ⟨rfl, Up.refl _⟩
theorem clearNone_calls (w : World) (v : Value) (h : Hid (NoCache w v)) : Calls Try.prog 41 #[v] w (NoRet w (.int .i64 0)) := by
  obtain ⟨q, rfl⟩ := h.out.ptr
  have u1 : Up w ((w.alloc (.cells #[.pointer q] 26)).alloc (.cells #[.int .i64 0] 3)) := upAlloc (upAlloc (Up.refl w) _) _
  have H1 := hid (h.out.up u1)
  go_enter Try.func41, Try.ntmps41
  go_wp2_with (go_at_call 60; refine (madeNone_calls _ (.pointer q) H1.out).mono ?_; rintro en w2 ⟨rfl, rfl⟩)
  go_returns
  exact ⟨rfl, upAlloc (upAlloc (Up.refl w) _) _⟩
theorem someNone_calls (w : World) (v : Value) (f : FuncId) (h : Hid (NoCache w v)) : Calls Try.prog 77 #[v, .func (.func f) #[] #[]] w (NoRet w (.slice none 0 0)) := by
  obtain ⟨q, rfl⟩ := h.out.ptr
  have u1 : Up w ((w.alloc (.cells #[.func (.func f) #[] #[]] 107)).alloc (.cells #[.slice none 0 0] 44)) := upAlloc (upAlloc (Up.refl w) _) _
  have H1 := hid (h.out.up u1)
  go_enter Try.func77, Try.ntmps77
  go_wp2_with (go_at_call 60; refine (madeNone_calls _ (.pointer q) H1.out).mono ?_; rintro en w2 ⟨rfl, rfl⟩)
  go_returns
  exact ⟨rfl, u1⟩
theorem orderNone_calls (w : World) (v : Value) (h : Hid (NoCache w v)) : Calls Try.prog 26 #[v] w (NoRet w (.slice none 0 0)) := by
  go_enter Try.func26, Try.ntmps26
  go_wp2_with (go_at_call 77; refine (someNone_calls _ v _ h).mono ?_; rintro en w2 ⟨rfl, u2⟩)
  go_returns
  exact ⟨rfl, u2⟩
theorem putNone_calls (w : World) (v : Value) (p : Int) (A : Option Addr) (n c : Nat) (h : Hid (NoCache w v)) : Calls Try.prog 17 #[v, .int .i64 p, .slice A n c] w (NoRet w (.int .i64 1)) := by
  obtain ⟨q, rfl⟩ := h.out.ptr
  have u1 : Up w ((w.alloc (.cells #[.pointer q] 26)).alloc (.cells #[.pointer none] 65)) := upAlloc (upAlloc (Up.refl w) _) _
  have H1 := hid (h.out.up u1)
  have u0 : Up w (w.alloc (.cells #[.pointer q] 26)) := upAlloc (Up.refl w) _
  have H0 := hid (h.out.up u0)
  go_enter Try.func17, Try.ntmps17
  go_wp2_with (go_at_call 60; first | (refine (madeNone_calls _ (.pointer q) H1.out).mono ?_) | (refine (madeNone_calls _ (.pointer q) H0.out).mono ?_); rintro en w2 ⟨rfl, rfl⟩)
  go_returns
  exact ⟨rfl, by first | exact u0 | exact u1⟩
end Go.Proofs.Ytlikggeceeennaa
