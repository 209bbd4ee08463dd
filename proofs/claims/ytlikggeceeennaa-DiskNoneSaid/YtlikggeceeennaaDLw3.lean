/- The disk's methods for a disk that lies above a base; THE WALK of hachurelaw04.lives. -/
import Derived.Test.YtlikggeceeennaaDLw2
set_option linter.unusedVariables false
set_option linter.unusedSimpArgs false
namespace Go.Proofs.Ytlikggeceeennaa
open Go Go.RowKit Go.Maps Hach
section
variable {w w' : World} {base d : Nat} {p : DiskP} {D D' : DiskV}
theorem foot_base (h : DiskAt w base d p D) {k : Nat} (hk : foot d p D k) : base ≤ k := by
  rcases hk with e | e | e | e | e
  · subst e; exact h.low.1
  · subst e; exact h.low.2.1
  · subst e; exact h.low.2.2
  · exact (own_block h.row0 k e).1
  · exact (own_block h.row1 k e).1
theorem DiskAt.bs (h : DiskAt w base d p D) : base ≤ w.heap.size := Nat.le_trans h.low.1 (Nat.le_of_lt (Array.getElem?_eq_some_iff.1 h.own).1)
theorem DiskM.bs (h : DiskM w base d D) : base ≤ w.heap.size := by obtain ⟨p, h⟩ := h; exact h.bs
theorem Goes.step (h : DiskAt w base d p D) (hg : Goes w (foot d p D) base d D' w') : DiskM w' base d D' ∧ Below base w w' := ⟨hg.1.m, hg.below (fun k hk => foot_base h hk) h.bs⟩
theorem stepD {v : Value} {en : Ending} (h : DiskAt w base d p D) (hs : StepF w (foot d p D) base d D' v en w') : StepD w base d D' v en w' := ⟨hs.1, hid (Goes.step h hs.2.out)⟩
end
theorem writeM_calls (w : World) (base d : Nat) (D : DiskV) (i a : Int) (A : Option Addr) (n cap : Nat) (ss : List Sec) (h : Hid (DiskM w base d D)) (hok : Hid (DiskOk D)) (hs : Hid (SecBytes w A n cap ss ∧ ss.length < 100000)) :
    Calls Try.prog 45 #[.pointer (some ⟨d, 0, none⟩), .int .i64 i, .int .i64 a, .slice A n cap] w (StepD w base d (writeR D i a ss).1 (.int .i64 (writeR D i a ss).2)) := by
  obtain ⟨p, hp⟩ := h.out
  exact (write_calls w base d p D i a A n cap ss (hid hp) hok hs).mono fun en w' k => stepD hp k
theorem syncM_calls (w : World) (base d : Nat) (D : DiskV) (i : Int) (h : Hid (DiskM w base d D)) (hok : Hid (DiskOk D)) :
    Calls Try.prog 47 #[.pointer (some ⟨d, 0, none⟩), .int .i64 i] w (StepD w base d (syncR D i).1 (.int .i64 (syncR D i).2)) := by
  obtain ⟨p, hp⟩ := h.out
  exact (sync_all w base d p D i (hid hp) hok).mono fun en w' k => stepD hp k
theorem startM_calls (w : World) (base d : Nat) (D : DiskV) (h : Hid (DiskM w base d D)) :
    Calls Try.prog 52 #[.pointer (some ⟨d, 0, none⟩)] w (StepD w base d { D with on := true, armed := 0 } (.int .i64 0)) := by
  obtain ⟨p, hp⟩ := h.out
  exact (start_calls w base d p D (hid hp)).mono fun en w' k => stepD hp k
/-- Crash, its row new, or below the disk. -/
theorem crashM_calls (w0 w : World) (hu : Hid (Up w0 w)) (base d : Nat) (D : DiskV) (h : Hid (DiskM w0 base d D)) (ho : Hid (D.on = true)) (hn : Hid ((D.f0.now.length + D.f1.now.length : Int) ≤ D.room))
    (KA : Option Addr) (keep : List Bool) (kc : Nat) (torn : Int) (hkl : Hid (keep.length < 1000000)) (hk : Hid (Rd w KA (keep.map .bool) ∧ ∀ b off, KA = some ⟨b, off, none⟩ → b < base ∨ w0.heap.size ≤ b)) :
    Calls Try.prog 51 #[.pointer (some ⟨d, 0, none⟩), .agg #[.slice KA keep.length kc, .int .i64 torn]] w (StepD w base d (crashV keep torn D) (.bool true)) := by
  obtain ⟨p, hp⟩ := h.out
  have hp' := hp.up hu.out
  refine (crash_calls w (foot d p D) base d D (hid ⟨p, hp', fun k hk => hk⟩) ho hn KA keep kc torn hkl (hid fun w' hf => hk.out.1.fr hf fun b off e hb => ?_)).mono fun en w' k => stepD hp' k
  rcases hk.out.2 b off e with h1 | h1
  · have := foot_base hp hb; omega
  · have := foot_lt hp hb; omega
def livesD : DiskV := (writeR (newD 9) 0 0 (secsV 2 7)).1
def livesE : DiskV := { crashV [true, false] 5 livesD with on := true, armed := 0 }
theorem newD_ok (room : Int) (h : 0 ≤ room) : DiskOk (newD room) := ⟨⟨⟨Int.le_refl _, by show (0 : Int) < _; decide⟩, ⟨Int.le_refl _, by show (0 : Int) < _; decide⟩, h⟩, by show (0 : Int) + 1 < _; decide, by show (0 : Nat) < _; decide⟩
theorem bslB2 (w : World) : (Instr.buildSlice 75 2 #[(0, .bool true), (1, .bool false)]).run Try.prog w = .ok (.slice (some ⟨w.heap.size, 0, none⟩) 2 2) (w.alloc (.cells #[.bool true, .bool false] 4)) := by kernel_rfl
theorem livesR : part (livesE.fl false).now 0 2 = (fullB 1 7 ++ (List.replicate 5 8 ++ List.replicate 123 0)).map byteCell := by kernel_rfl
theorem livesC : (List.map byteCell (fullB 1 7 ++ (List.replicate 5 8 ++ List.replicate 123 0)))[127]? = some (.int .u8 7) ∧ (List.map byteCell (fullB 1 7 ++ (List.replicate 5 8 ++ List.replicate 123 0)))[132]? = some (.int .u8 8) ∧ (List.map byteCell (fullB 1 7 ++ (List.replicate 5 8 ++ List.replicate 123 0)))[133]? = some (.int .u8 0) := ⟨by kernel_rfl, by kernel_rfl, by kernel_rfl⟩
set_option maxRecDepth 100000 in
set_option maxHeartbeats 2000000 in
theorem lives4_calls (w : World) : Calls Try.prog 43 #[] w fun en w' => en = .returned (.bool true) ∧ Up w w' := by
  go_enter Try.func43, Try.ntmps43
  go_wp2_with (go_at_call 44; refine (dnew_calls w 9 (by decide) (by decide)).mono ?_; rintro e w1 ⟨d, rfl, h1⟩)
  go_wp2_with (go_at_call 46; refine (sectors_calls w1 2 7).mono ?_; rintro e w2 ⟨A, c, rfl, h2⟩)
  have H2 : Hid (DiskM w2 w.heap.size d (newD 9)) := hid (h1.out.1.up h2.out.1)
  have HS : Hid (SecBytes w2 A (cntV 2 * 128) c (secsV (cntV 2) 7) ∧ (secsV (cntV 2) 7).length < 100000) := hid ⟨h2.out.2.2, by decide⟩
  have B2 : Hid (Up w w2) := hid (h1.out.2.t h2.out.1)
  clear h1 h2
  refine (writeM_calls w2 w.heap.size d (newD 9) 0 0 A (cntV 2 * 128) c (secsV (cntV 2) 7) H2 (hid (newD_ok 9 (by decide))) HS).mono ?_
  rintro e w3 ⟨rfl, h3⟩
  have B3 : Hid (Up w w3) := hid (B2.out.trans h3.out.2)
  have H3 : Hid (DiskM w3 w.heap.size d livesD) := hid h3.out.1
  rw [show (writeR (newD 9) 0 0 (secsV (cntV 2) 7)).2 = 0 from by kernel_rfl]
  clear h3 H2 HS B2
  have hb := bslB2
  go_wp2_with (go_at_call 51; refine (crashM_calls w3 _ (hid (upAlD (Up.refl w3) _)) w.heap.size d livesD H3 (hid (by kernel_rfl)) (hid (by decide +kernel)) _ [true, false] _ 5 (hid (by decide)) (hid ⟨Rd.new w3 _ _ [.bool true, .bool false], fun b off e => .inr (by injection e with e; injection e with e; omega)⟩)).mono ?_; rintro e w4 ⟨rfl, h4⟩)
  have H4 : Hid (DiskM w4 w.heap.size d (crashV [true, false] 5 livesD)) := hid h4.out.1
  have B4 : Hid (Up w w4) := hid (B3.out.trans (Below.trans ((upAlD (Up.refl w3) _).mono B3.out.size) h4.out.2))
  clear h4 H3 B3 hb
  refine (startM_calls w4 w.heap.size d _ H4).mono ?_
  rintro e w5 ⟨rfl, h5⟩
  have H5 : Hid (DiskM w5 w.heap.size d livesE) := hid h5.out.1
  have B5 : Hid (Up w w5) := hid (B4.out.trans h5.out.2)
  clear h5 H4 B4
  go_wp2_with fail
  refine (read_calls w5 w.heap.size d livesE false H5 (hid rfl) 0 2 (hid (by decide +kernel))).mono ?_
  rintro e w6 ⟨A6, c6, rfl, h6⟩
  have e7 := livesR
  have hln : (part (livesE.fl false).now 0 2).length = 256 := by rw [livesR]; rfl
  have hrow := h6.out.2
  rw [hln] at hrow ⊢
  rw [e7] at hrow
  have B6 : Hid (Up w w6) := hid (B5.out.t h6.out.1)
  obtain ⟨g, cap, cur, hv, hgb, hg, hnc, hcm, hcs, ht⟩ := hrow.2.resolve_left (fun x => absurd x.2 (by decide))
  injection hv with e1 e2 e3
  subst e1; subst e3
  have c1 := (hrow.cellAt 127 (by decide)).trans livesC.1
  have c2 := (hrow.cellAt 132 (by decide)).trans livesC.2.1
  have c3 := (hrow.cellAt 133 (by decide)).trans livesC.2.2
  have l1 : (127 : Nat) < 256 := by decide
  clear hrow hg hcm hcs ht hln e7 h6 H5 B5 hgb hnc l1
  go_wp2
  go_ret
  exact ⟨rfl, B6.out⟩
end Go.Proofs.Ytlikggeceeennaa
