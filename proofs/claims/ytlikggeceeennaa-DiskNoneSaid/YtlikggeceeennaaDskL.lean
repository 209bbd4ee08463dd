/- THE WALKS of operation, and of a Crash whose disk is off. -/
import Derived.Test.YtlikggeceeennaaDskK
set_option linter.unusedVariables false
set_option linter.unusedSimpArgs false
namespace Go.Proofs.Ytlikggeceeennaa
open Go Go.RowKit Go.Maps Hach

theorem Goes.mono {w w' : World} {base d : Nat} {D : DiskV} {F G : Nat → Prop} (h : Goes w F base d D w') (hG : ∀ k, F k → G k) : Goes w G base d D w' :=
  ⟨h.1.mono (fun k hk => hk.imp (hG k) id), h.2.mono hG⟩
/-- One operation is counted. -/
def tick (D : DiskV) : DiskV := { D with ops := D.ops + 1, armed := if 0 < D.armed then D.armed - 1 else D.armed }
structure NumOk (D : DiskV) : Prop where
  ops : 0 ≤ D.ops ∧ D.ops < 1000000000
  armed : 0 ≤ D.armed ∧ D.armed < 1000000000
  size : (D.f0.now.length + D.f1.now.length : Int) ≤ D.room
set_option maxRecDepth 100000 in
set_option maxHeartbeats 2000000 in
theorem crashNo_calls (w : World) (base d : Nat) (D : DiskV) (h : Hid (DiskM w base d D)) (ho : Hid (D.on = false)) (KA : Option Addr) (kl kc : Nat) (torn : Int) :
    Calls Try.prog 51 #[.pointer (some ⟨d, 0, none⟩), .agg #[.slice KA kl kc, .int .i64 torn]] w (fun en w' => en = .returned (.bool false) ∧ Hid (Up w w')) := by
  obtain ⟨p, h⟩ := h.out
  have UA := upAlD (Up.refl w) (.cells #[.slice KA kl kc, .int .i64 torn] 77)
  have hA := h.up UA
  have E0 := hA.reads.1
  have E7 := hA.reads.2.2.2.2.2.2.2.1
  rw [ho.out] at E7
  have HR := hid h.room.1
  have UA := hid UA
  clear hA h
  go_enter Try.func51, Try.ntmps51
  go_wp2_with (go_at_call 107; refine (dmade_calls _ d _ E0 HR).mono ?_; rintro e w' ⟨rfl, rfl⟩)
  go_ret
  exact ⟨rfl, UA⟩
/-- Crash, power on: whatever the keeping row, as long as it stands. -/
theorem crash_calls (w : World) (F : Nat → Prop) (base d : Nat) (D : DiskV) (h : Hid (DiskF w F base d D)) (ho : Hid (D.on = true)) (hn : Hid ((D.f0.now.length + D.f1.now.length : Int) ≤ D.room))
    (KA : Option Addr) (keep : List Bool) (kc : Nat) (torn : Int) (hkl : Hid (keep.length < 1000000)) (hk : Hid (∀ w', Fr F w w' → Rd w' KA (keep.map .bool))) :
    Calls Try.prog 51 #[.pointer (some ⟨d, 0, none⟩), .agg #[.slice KA keep.length kc, .int .i64 torn]] w (StepF w F base d (crashV keep torn D) (.bool true)) := by
  obtain ⟨p, h, hf⟩ := h.out
  have := hn.out
  have := h.room
  exact (crashOn_calls w base d p D (hid h) ho (hid ⟨by omega, by omega⟩) KA keep kc torn hkl (hid fun w' hw => hk.out w' (hw.mono hf))).mono fun en w' g => ⟨g.1, hid (g.2.out.mono hf)⟩
set_option maxRecDepth 100000 in
set_option maxHeartbeats 2000000 in
theorem opFire_calls (w : World) (base d : Nat) (p : DiskP) (D : DiskV) (h : Hid (DiskAt w base d p D)) (ho : Hid (D.on = true)) (hn : Hid (NumOk D)) (ha : Hid (D.armed = 1)) (hkl : Hid (D.keep.length < 1000000)) (fv : Nat) (lb : Array Value) :
    Calls Try.prog 101 #[.pointer (some ⟨d, 0, none⟩), .func (.func fv) #[] lb] w (StepF w (foot d p D) base d (crashV D.keep D.torn (tick D)) (.int .i64 4)) := by
  have e8 := h.out.reads.2.2.2.2.2.2.2.2.1
  have e9 := h.out.reads.2.2.2.2.2.2.2.2.2.1
  have e10 := h.out.reads.2.2.2.2.2.2.2.2.2.2.1
  have e11 := h.out.reads.2.2.2.2.2.2.2.2.2.2.2
  have f8 := h.out.free 8
  have f9 := h.out.free 9
  rw [ha.out] at e9
  obtain ⟨ops, hops⟩ : ∃ z, D.ops = z := ⟨_, rfl⟩
  have HO2 := hid hops
  rw [hops] at e8
  have hw1 : wrap64 (ops + 1) = ops + 1 := by have := hn.out.ops; unfold wrap64; omega
  have k1 := heap_setCell_same _ d 8 (diskCs p D) _ (.int .i64 (ops + 1)) h.out.own
  have k2 := heap_setCell_same _ d 9 _ _ (.int .i64 0) k1
  have hf : Fr (fun k => k = d) w ((w.setCell ⟨d, 8, none⟩ (.int .i64 (ops + 1))).setCell ⟨d, 9, none⟩ (.int .i64 0)) := ((Fr.refl (fun k => k = d) _).setCell (p := ⟨d, 8, none⟩) (fun _ => rfl) _).setCell (p := ⟨d, 9, none⟩) (fun _ => rfl) _
  have D1 : Hid (DiskAt ((w.setCell ⟨d, 8, none⟩ (.int .i64 (ops + 1))).setCell ⟨d, 9, none⟩ (.int .i64 0)) base d p (tick D)) := hid (h.out.nums hf (by
    have e : tick D = { D with ops := ops + 1, armed := 0 } := by unfold tick; rw [ha.out, hops]; rfl
    rw [e]; exact k2) rfl rfl rfl rfl)
  have HF := hid hf
  have CR := crash_calls ((w.setCell ⟨d, 8, none⟩ (.int .i64 (ops + 1))).setCell ⟨d, 9, none⟩ (.int .i64 0)) (foot d p (tick D)) base d (tick D) (hid ⟨p, D1.out, fun k hk => hk⟩) ho (hid hn.out.size) p.KA D.keep p.kc D.torn hkl (hid fun w' hw => Rd.own (hw.own D1.out.keepR (fun k hk => keep_apart D1.out D1.out k hk)))
  obtain ⟨kl, hkl9⟩ : ∃ z, D.keep.length = z := ⟨_, rfl⟩
  rw [hkl9] at e10 CR
  generalize D.torn = torn at *
  clear k1 k2 hops hkl9
  go_enter Try.func101, Try.ntmps101
  go_wp2_with (go_at_call 51; refine CR.mono ?_; rintro e w' ⟨rfl, hh⟩)
  go_ret
  refine ⟨rfl, hid ?_⟩
  have g := hh.out
  exact ⟨g.1.mono (fun k hk => hk.imp id (fun h2 => by have := HF.out.size; omega)), (HF.out.mono (fun k e => .inl e)).trans' g.2⟩
set_option maxRecDepth 100000 in
set_option maxHeartbeats 2000000 in
theorem opDo_calls (w : World) (base d : Nat) (p : DiskP) (D : DiskV) (h : Hid (DiskAt w base d p D)) (hn : Hid (NumOk D)) (ha : Hid (D.armed ≠ 1)) (fv : Nat) (lb : Array Value) (hent : ∀ (args : Array Value) (w : World), (callFunc fv args).run Try.prog w = .ok (.enter fv args) w) (v : Value) (R : World → Prop)
    (hdo : Hid (∀ w1, DiskAt w1 base d p (tick D) → Fr (fun k => k = d) w w1 → Calls Try.prog fv lb w1 fun en w' => en = .returned v ∧ Hid (R w'))) :
    Calls Try.prog 101 #[.pointer (some ⟨d, 0, none⟩), .func (.func fv) #[] lb] w (fun en w' => en = .returned v ∧ Hid (R w')) := by
  have e8 := h.out.reads.2.2.2.2.2.2.2.2.1
  have e9 := h.out.reads.2.2.2.2.2.2.2.2.2.1
  have f8 := h.out.free 8
  have f9 := h.out.free 9
  obtain ⟨ops, hops⟩ : ∃ z, D.ops = z := ⟨_, rfl⟩
  obtain ⟨ar, har⟩ : ∃ z, D.armed = z := ⟨_, rfl⟩
  rw [hops] at e8
  rw [har] at e9
  have hw1 : wrap64 (ops + 1) = ops + 1 := by have := hn.out.ops; unfold wrap64; omega
  have k1 := heap_setCell_same _ d 8 (diskCs p D) _ (.int .i64 (ops + 1)) h.out.own
  have hf1 : Fr (fun k => k = d) w (w.setCell ⟨d, 8, none⟩ (.int .i64 (ops + 1))) := (Fr.refl (fun k => k = d) _).setCell (p := ⟨d, 8, none⟩) (fun _ => rfl) _
  by_cases h0 : 0 < ar
  · have h1 : ¬ ar = 1 := by have := ha.out; omega
    have hw2 : wrap64 (ar - 1) = ar - 1 := by have := hn.out.armed; unfold wrap64; omega
    have h2 : ¬ ar - 1 = 0 := by omega
    have k2 := heap_setCell_same _ d 9 _ _ (.int .i64 (ar - 1)) k1
    have hf : Fr (fun k => k = d) w ((w.setCell ⟨d, 8, none⟩ (.int .i64 (ops + 1))).setCell ⟨d, 9, none⟩ (.int .i64 (ar - 1))) := hf1.setCell (p := ⟨d, 9, none⟩) (fun _ => rfl) _
    have D1 : DiskAt ((w.setCell ⟨d, 8, none⟩ (.int .i64 (ops + 1))).setCell ⟨d, 9, none⟩ (.int .i64 (ar - 1))) base d p (tick D) := h.out.nums hf (by
      have e : tick D = { D with ops := ops + 1, armed := ar - 1 } := by unfold tick; rw [har, hops, if_pos h0]
      rw [e]; exact k2) rfl rfl rfl rfl
    have CR := hdo.out _ D1 hf
    clear k1 k2 hops har hf hf1 D1
    go_enter Try.func101, Try.ntmps101
    go_wp2_with fail
    refine CR.mono ?_
    rintro en w2 ⟨rfl, hh⟩
    go_wp2
    go_ret
    exact ⟨rfl, hh⟩
  · have D1 : DiskAt (w.setCell ⟨d, 8, none⟩ (.int .i64 (ops + 1))) base d p (tick D) := h.out.nums hf1 (by
      have e : tick D = { D with ops := ops + 1 } := by unfold tick; rw [har, hops, if_neg h0]
      rw [e]; exact k1) rfl rfl rfl rfl
    have CR := hdo.out _ D1 hf1
    clear k1 hops har hf1 D1
    go_enter Try.func101, Try.ntmps101
    go_wp2_with fail
    refine CR.mono ?_
    rintro en w2 ⟨rfl, hh⟩
    go_wp2
    go_ret
    exact ⟨rfl, hh⟩
end Go.Proofs.Ytlikggeceeennaa
