/- TWO DISKS AND AN ACT'S BOX in one world: each method of either. -/
import Derived.Test.YtlikggeceeennaaDLw6
set_option linter.unusedVariables false
set_option linter.unusedSimpArgs false
namespace Go.Proofs.Ytlikggeceeennaa
open Go Go.RowKit Go.Maps Hach

structure TwoB (wN w : World) (d b2 e : Nat) (D E : DiskV) (x : Nat) (a : ActD) (kd : Int) : Prop where
  box : BoxD w x a kd
  up : Up wN w
  le : wN.heap.size ≤ b2
  two : ∃ p q, DiskAt w wN.heap.size d p D ∧ DiskAt w b2 e q E ∧ (∀ k, foot d p D k → ¬ foot e q E k) ∧ (∀ k, foot d p D k → k ≠ x) ∧ (∀ k, foot e q E k → k ≠ x)
section
variable {wN w w' : World} {d b2 e x : Nat} {D E D1 E1 : DiskV} {a : ActD} {kd : Int}
theorem TwoB.grow (h : TwoB wN w d b2 e D E x a kd) (hu : Up w w') : TwoB wN w' d b2 e D E x a kd := by
  obtain ⟨p, q, h1, h2, h3, h4, h5⟩ := h.two
  exact ⟨h.box.up hu, h.up.t hu, h.le, p, q, h1.up hu, h2.up hu, h3, h4, h5⟩
theorem TwoB.swap2 (h : TwoB wN w d b2 e D E x a kd) : Two w wN.heap.size d b2 e D E := by
  obtain ⟨p, q, h1, h2, h3, _⟩ := h.two; exact ⟨p, q, h1, h2, h3⟩
theorem TwoB.left (h : TwoB wN w d b2 e D E x a kd) : ∃ p, DiskAt w wN.heap.size d p D ∧ ∀ D1 w', Goes w (foot d p D) wN.heap.size d D1 w' → TwoB wN w' d b2 e D1 E x a kd := by
  obtain ⟨p, q, h1, h2, h3, h4, h5⟩ := h.two
  refine ⟨p, h1, fun D1 w' hg => ?_⟩
  have hx : x < w.heap.size := (Array.getElem?_eq_some_iff.1 h.box).1
  refine ⟨h.box.fr hg.2 (fun hk => h4 x hk rfl), h.up.trans (Goes.step h1 hg).2, h.le, ?_⟩
  obtain ⟨p', hp', hf'⟩ := hg.1
  refine ⟨p', q, hp', h2.keep hg.2 (fun k hk e9 => h3 k e9 hk) (keep_apart h2 h1), fun k hk e9 => ?_, fun k hk => ?_, h5⟩
  · rcases hf' k hk with e | e
    · exact h3 k e e9
    · have := foot_lt h2 e9; omega
  · rcases hf' k hk with e | e
    · exact h4 k e
    · omega
theorem TwoB.right (h : TwoB wN w d b2 e D E x a kd) : ∃ q, DiskAt w b2 e q E ∧ ∀ E1 w', Goes w (foot e q E) b2 e E1 w' → TwoB wN w' d b2 e D E1 x a kd := by
  obtain ⟨p, q, h1, h2, h3, h4, h5⟩ := h.two
  refine ⟨q, h2, fun E1 w' hg => ?_⟩
  have hx : x < w.heap.size := (Array.getElem?_eq_some_iff.1 h.box).1
  refine ⟨h.box.fr hg.2 (fun hk => h5 x hk rfl), h.up.trans ((Goes.step h2 hg).2.mono h.le), h.le, ?_⟩
  obtain ⟨q', hq', hf'⟩ := hg.1
  refine ⟨p, q', h1.keep hg.2 (fun k hk e9 => h3 k hk e9) (keep_apart h1 h2), hq', fun k hk e9 => ?_, h4, fun k hk => ?_⟩
  · rcases hf' k e9 with e | e
    · exact h3 k hk e
    · have := foot_lt h1 hk; omega
  · rcases hf' k hk with e | e
    · exact h5 k e
    · omega
end
def RetL (wN : World) (d b2 e : Nat) (D E : DiskV) (x : Nat) (a : ActD) (kd : Int) (v : Value) (en : Ending) (w' : World) : Prop := en = .returned v ∧ Hid (TwoB wN w' d b2 e D E x a kd)
section
variable (wN w : World) (d b2 e : Nat) (D E : DiskV) (x : Nat) (a : ActD) (kd : Int)
theorem writeL_calls (h : Hid (TwoB wN w d b2 e D E x a kd)) (hok : Hid (DiskOk D)) (i t : Int) (A : Option Addr) (n cap : Nat) (ss : List Sec) (hs : Hid (SecBytes w A n cap ss ∧ ss.length < 100000)) :
    Calls Try.prog 45 #[.pointer (some ⟨d, 0, none⟩), .int .i64 i, .int .i64 t, .slice A n cap] w (RetL wN d b2 e (writeR D i t ss).1 E x a kd (.int .i64 (writeR D i t ss).2)) := by
  obtain ⟨p, hp, hx⟩ := h.out.left
  exact (write_calls w _ d p D i t A n cap ss (hid hp) hok hs).mono fun en w' k => ⟨k.1, hid (hx _ _ k.2.out)⟩
theorem writeQ_calls (h : Hid (TwoB wN w d b2 e D E x a kd)) (hok : Hid (DiskOk E)) (i t : Int) (A : Option Addr) (n cap : Nat) (ss : List Sec) (hs : Hid (SecBytes w A n cap ss ∧ ss.length < 100000)) :
    Calls Try.prog 45 #[.pointer (some ⟨e, 0, none⟩), .int .i64 i, .int .i64 t, .slice A n cap] w (RetL wN d b2 e D (writeR E i t ss).1 x a kd (.int .i64 (writeR E i t ss).2)) := by
  obtain ⟨p, hp, hx⟩ := h.out.right
  exact (write_calls w _ e p E i t A n cap ss (hid hp) hok hs).mono fun en w' k => ⟨k.1, hid (hx _ _ k.2.out)⟩
theorem syncL_calls (h : Hid (TwoB wN w d b2 e D E x a kd)) (hok : Hid (DiskOk D)) (i : Int) :
    Calls Try.prog 47 #[.pointer (some ⟨d, 0, none⟩), .int .i64 i] w (RetL wN d b2 e (syncR D i).1 E x a kd (.int .i64 (syncR D i).2)) := by
  obtain ⟨p, hp, hx⟩ := h.out.left
  exact (sync_all w _ d p D i (hid hp) hok).mono fun en w' k => ⟨k.1, hid (hx _ _ k.2.out)⟩
theorem syncQ_calls (h : Hid (TwoB wN w d b2 e D E x a kd)) (hok : Hid (DiskOk E)) (i : Int) :
    Calls Try.prog 47 #[.pointer (some ⟨e, 0, none⟩), .int .i64 i] w (RetL wN d b2 e D (syncR E i).1 x a kd (.int .i64 (syncR E i).2)) := by
  obtain ⟨p, hp, hx⟩ := h.out.right
  exact (sync_all w _ e p E i (hid hp) hok).mono fun en w' k => ⟨k.1, hid (hx _ _ k.2.out)⟩
theorem cutL_calls (h : Hid (TwoB wN w d b2 e D E x a kd)) (hok : Hid (DiskOk D)) (i t : Int) :
    Calls Try.prog 55 #[.pointer (some ⟨d, 0, none⟩), .int .i64 i, .int .i64 t] w (RetL wN d b2 e (cutR D i t).1 E x a kd (.int .i64 (cutR D i t).2)) := by
  obtain ⟨p, hp, hx⟩ := h.out.left
  exact (cut_all w _ d p D i t (hid hp) hok).mono fun en w' k => ⟨k.1, hid (hx _ _ k.2.out)⟩
theorem cutQ_calls (h : Hid (TwoB wN w d b2 e D E x a kd)) (hok : Hid (DiskOk E)) (i t : Int) :
    Calls Try.prog 55 #[.pointer (some ⟨e, 0, none⟩), .int .i64 i, .int .i64 t] w (RetL wN d b2 e D (cutR E i t).1 x a kd (.int .i64 (cutR E i t).2)) := by
  obtain ⟨p, hp, hx⟩ := h.out.right
  exact (cut_all w _ e p E i t (hid hp) hok).mono fun en w' k => ⟨k.1, hid (hx _ _ k.2.out)⟩
end
theorem armM_calls (w0 w : World) (hu : Hid (Up w0 w)) (base d : Nat) (D : DiskV) (h : Hid (DiskM w0 base d D)) (n : Nat) (hn : Hid (n < 1000000)) (KA : Option Addr) (keep : List Bool) (kc : Nat) (torn : Int) (hk : Hid (Rd w KA (keep.map .bool))) (hkl : Hid (keep.length < 1000000)) :
    Calls Try.prog 54 #[.pointer (some ⟨d, 0, none⟩), .int .i64 n, .agg #[.slice KA keep.length kc, .int .i64 torn]] w (fun en w' => en = .returned (.int .i64 0) ∧ Hid (∃ p, DiskAt w0 base d p D ∧ Goes w (foot d p D) base d { D with armed := n, keep := keep, torn := torn } w')) := by
  obtain ⟨p, hp⟩ := h.out
  exact (arm_calls w (foot d p D) base d D (hid ⟨p, hp.up hu.out, fun k hk => hk⟩) n hn KA keep kc torn hk hkl).mono fun en w' k => ⟨k.1, hid ⟨p, hp, k.2.out⟩⟩
set_option maxRecDepth 100000 in
set_option maxHeartbeats 2000000 in
theorem readE_calls (w : World) (d : Nat) (i a n e : Int) (he : ¬ e = 0) (CF : Calls Try.prog 100 #[.pointer (some ⟨d, 0, none⟩), .int .i64 i] w fun en w' => en = .returned (.tuple #[.pointer none, .int .i64 e]) ∧ w' = w) :
    Calls Try.prog 48 #[.pointer (some ⟨d, 0, none⟩), .int .i64 i, .int .i64 a, .int .i64 n] w (fun en w' => en = .returned (.tuple #[.slice none 0 0, .int .i64 e]) ∧ w' = w) := by
  go_enter Try.func48, Try.ntmps48
  go_wp2_with (go_at_call 100; refine CF.mono ?_; rintro en w' ⟨rfl, hw⟩; obtain rfl := hw.symm)
  go_ret2
  exact ⟨rfl, rfl⟩
end Go.Proofs.Ytlikggeceeennaa
