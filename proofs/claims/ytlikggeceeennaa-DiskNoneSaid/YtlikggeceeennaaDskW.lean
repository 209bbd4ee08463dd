/- THE DISK's methods, each by one law, whatever the file, the power and the numbers. -/
import Derived.Test.YtlikggeceeennaaDskV
set_option linter.unusedVariables false
set_option linter.unusedSimpArgs false
namespace Go.Proofs.Ytlikggeceeennaa
open Go Go.RowKit Go.Maps Hach

def fileNr (i : Int) : Option Bool := if i = 0 then some false else if i = 1 then some true else none
theorem fileNr_idx {i : Int} {b : Bool} (h : fileNr i = some b) : i = idx b := by
  unfold fileNr at h
  split at h
  · injection h with h; subst h; assumption
  · split at h
    · injection h with h; subst h; assumption
    · cases h
theorem fileNr_none {i : Int} (h : fileNr i = none) : i < 0 ∨ 2 ≤ i := by
  unfold fileNr at h
  split at h
  · cases h
  · split at h
    · cases h
    · omega
/-- What Write says and does. -/
def writeR (D : DiskV) (i a : Int) (ss : List Sec) : DiskV × Int :=
  if D.on = false then (D, 4) else
  match fileNr i with
  | none => (D, 11)
  | some b => if a < 0 ∨ ((D.fl b).now.length : Int) < a then (D, 11) else if ss = [] then (D, 2) else
    (opV D (writeV b a.toNat ss (tick D)), opR D (if isFull b a.toNat ss.length (tick D) then 3 else 0))
def syncR (D : DiskV) (i : Int) : DiskV × Int :=
  if D.on = false then (D, 4) else
  match fileNr i with
  | none => (D, 11)
  | some b => (opV D (syncV b (tick D)), opR D 0)
def cutR (D : DiskV) (i k : Int) : DiskV × Int :=
  if D.on = false then (D, 4) else
  match fileNr i with
  | none => (D, 11)
  | some b => if k < 0 ∨ ((D.fl b).now.length : Int) < k then (D, 11) else (opV D (cutV b k.toNat (tick D)), opR D 0)
/-- What a disk must bear to be walked. -/
structure DiskOk (D : DiskV) : Prop where
  num : NumOk D
  ops : D.ops + 1 < 1000000000
  keep : D.keep.length < 1000000
/-- Whole sectors, one behind the other, as bytes. -/
def SecBytes (w : World) (A : Option Addr) (n cap : Nat) (ss : List Sec) : Prop :=
  n = ss.length * 128 ∧ Whole ss ∧ (ss = [] ∨ ∃ bb bp, A = some ⟨bb, bp, none⟩ ∧ n ≤ cap ∧ ∀ j s, ss[j]? = some s → ByteRow w bb (bp + j * 128) s)
theorem StepF.same {w w' : World} {base d : Nat} {p : DiskP} {D : DiskV} (h : DiskAt w base d p D) (hu : Up w w') : Goes w (foot d p D) base d D w' := Goes.up ⟨p, h, fun k hk => hk⟩ hu
theorem write_calls (w : World) (base d : Nat) (p : DiskP) (D : DiskV) (i a : Int) (A : Option Addr) (n cap : Nat) (ss : List Sec) (h : Hid (DiskAt w base d p D)) (hok : Hid (DiskOk D)) (hs : Hid (SecBytes w A n cap ss ∧ ss.length < 100000)) :
    Calls Try.prog 45 #[.pointer (some ⟨d, 0, none⟩), .int .i64 i, .int .i64 a, .slice A n cap] w (StepF w (foot d p D) base d (writeR D i a ss).1 (.int .i64 (writeR D i a ss).2)) := by
  have hM : ∀ v, DiskM (wb4 w d i a v) base d D := fun v => ⟨p, h.out.up (wb_up4 w d i a v)⟩
  have refuse : ∀ e : Int, ¬ e = 0 → (Calls Try.prog 100 #[.pointer (some ⟨d, 0, none⟩), .int .i64 i] (wb4 w d i a (.slice A n cap)) fun en w' => en = .returned (.tuple #[.pointer none, .int .i64 e]) ∧ w' = wb4 w d i a (.slice A n cap)) →
      Calls Try.prog 45 #[.pointer (some ⟨d, 0, none⟩), .int .i64 i, .int .i64 a, .slice A n cap] w (StepF w (foot d p D) base d D (.int .i64 e)) := fun e he hc =>
    (writeE_calls w d i a A n cap e he hc).mono fun en w' k => ⟨k.1, hid (StepF.same h.out k.2.out)⟩
  unfold writeR
  by_cases hon : D.on = false
  · rw [if_pos hon]
    exact refuse 4 (by decide) (fileOff_calls _ base d D (hid (hM _)) i hon)
  · have hon' : D.on = true := by cases h9 : D.on; exact absurd h9 hon; rfl
    rw [if_neg hon]
    cases hf : fileNr i with
    | none => exact refuse 11 (by decide) (fileNo_calls _ base d D (hid (hM _)) i hon' (fileNr_none hf))
    | some b =>
      obtain rfl := fileNr_idx hf
      obtain ⟨hn, hW, hcase⟩ := hs.out.1
      simp only
      by_cases ha : a < 0 ∨ ((D.fl b).now.length : Int) < a
      · rw [if_pos ha]
        exact (writeR_calls w base d p D b a A n cap h (hid hon') (hid (by have := hs.out.2; omega)) 11 (hid (.inl ⟨ha, rfl⟩))).mono fun en w' k => ⟨k.1, hid (StepF.same h.out k.2.out)⟩
      · rw [if_neg ha]
        have ha1 : 0 ≤ a := by omega
        have ha2 : a ≤ ((D.fl b).now.length : Int) := by omega
        by_cases hss : ss = []
        · rw [if_pos hss]
          subst hss
          exact (writeR_calls w base d p D b a A n cap h (hid hon') (hid (by rw [hn]; decide)) 2 (hid (.inr ⟨⟨ha1, ha2⟩, hn, rfl⟩))).mono fun en w' k => ⟨k.1, hid (StepF.same h.out k.2.out)⟩
        · rw [if_neg hss]
          obtain ⟨bb, bp, rfl, hcap, hrow⟩ := hcase.resolve_left hss
          obtain ⟨an, rfl⟩ := Int.eq_ofNat_of_zero_le ha1
          subst hn
          have hl : 1 ≤ ss.length := by cases ss with | nil => exact absurd rfl hss | cons x r => simp
          exact writeO_calls w base d p D b an ss.length bb bp cap ss h (hid hon') (hid ⟨hok.out.num, hok.out.ops⟩) (hid hok.out.keep) (hid (by omega)) (hid ⟨hl, hs.out.2, hcap⟩) (hid ⟨rfl, hW, hrow⟩)
set_option maxRecDepth 100000 in
set_option maxHeartbeats 2000000 in
theorem syncE_calls (w : World) (d : Nat) (i e : Int) (he : ¬ e = 0) (CF : Calls Try.prog 100 #[.pointer (some ⟨d, 0, none⟩), .int .i64 i] w fun en w' => en = .returned (.tuple #[.pointer none, .int .i64 e]) ∧ w' = w) :
    Calls Try.prog 47 #[.pointer (some ⟨d, 0, none⟩), .int .i64 i] w (fun en w' => en = .returned (.int .i64 e) ∧ Hid (Up w w')) := by
  have UU := hid (upAlD (Up.refl w) (.cells #[.pointer none] 131))
  go_enter Try.func47, Try.ntmps47
  go_wp2_with (go_at_call 100; refine CF.mono ?_; rintro en w' ⟨rfl, hw⟩; obtain rfl := hw.symm)
  go_ret
  exact ⟨rfl, UU⟩
set_option maxRecDepth 100000 in
set_option maxHeartbeats 2000000 in
theorem cutE_calls (w : World) (d : Nat) (i k e : Int) (he : ¬ e = 0) (CF : Calls Try.prog 100 #[.pointer (some ⟨d, 0, none⟩), .int .i64 i] (w.alloc (.cells #[.int .i64 k] 3)) fun en w' => en = .returned (.tuple #[.pointer none, .int .i64 e]) ∧ w' = w.alloc (.cells #[.int .i64 k] 3)) :
    Calls Try.prog 55 #[.pointer (some ⟨d, 0, none⟩), .int .i64 i, .int .i64 k] w (fun en w' => en = .returned (.int .i64 e) ∧ Hid (Up w w')) := by
  have UU := hid ((upAlD (Up.refl w) (.cells #[.int .i64 k] 3)).t (upAlD (Up.refl _) (.cells #[.pointer none] 131)))
  go_enter Try.func55, Try.ntmps55
  go_wp2_with (go_at_call 100; refine CF.mono ?_; rintro en w' ⟨rfl, rfl⟩)
  go_ret
  exact ⟨rfl, UU⟩
set_option maxRecDepth 100000 in
set_option maxHeartbeats 2000000 in
theorem cutN_calls (w : World) (base d : Nat) (p : DiskP) (D : DiskV) (b : Bool) (k : Int) (h : Hid (DiskAt w base d p D)) (ho : Hid (D.on = true)) (hk : Hid (k < 0 ∨ ((D.fl b).now.length : Int) < k)) :
    Calls Try.prog 55 #[.pointer (some ⟨d, 0, none⟩), .int .i64 (idx b), .int .i64 k] w (fun en w' => en = .returned (.int .i64 11) ∧ Hid (Up w w')) := by
  obtain ⟨o, hoo⟩ : ∃ o, off b = o := ⟨_, rfl⟩
  have UA := upAlD (Up.refl w) (.cells #[.int .i64 k] 3)
  have UB := upAlD (Up.refl (w.alloc (.cells #[.int .i64 k] 3))) (.cells #[.pointer (some ⟨d, o, none⟩)] 131)
  have CF := fileB_calls (w.alloc (.cells #[.int .i64 k] 3)) base d D b (hid ⟨p, h.out.up UA⟩) ho.out
  rw [hoo] at CF
  have s1 : (w.alloc (.cells #[.int .i64 k] 3)).heap.size = w.heap.size + 1 := by simp
  have BA := UB.block w.heap.size (by omega) |>.trans (heap_alloc_new w (.cells #[.int .i64 k] 3))
  have BB := heap_alloc_new (w.alloc (.cells #[.int .i64 k] 3)) (.cells #[.pointer (some ⟨d, o, none⟩)] 131)
  rw [s1] at BB
  have UC := hid (UA.t UB)
  have F0 := (h.out.up UC.out).fileB b
  rw [hoo] at F0
  have e0 := F0.cell0.1
  obtain ⟨len, hlen⟩ : ∃ z, (D.fl b).now.length = z := ⟨_, rfl⟩
  rw [hlen] at e0
  have HLEN := hid hlen
  have A0 := hid (box_cell BA)
  have A1 := hid (box_cell BB)
  have E0 := hid e0
  clear BA BB e0 F0 hlen hoo s1 UA UB
  generalize idx b = ib at *
  go_enter Try.func55, Try.ntmps55
  go_wp2_with (go_at_call 100; refine CF.mono ?_; rintro en w' ⟨rfl, rfl⟩)
  have e0 := E0.out
  have a0 := A0.out
  have a1 := A1.out
  clear CF E0 A0 A1
  generalize (w.alloc (.cells #[.int .i64 k] 3)).alloc (.cells #[.pointer (some ⟨d, o, none⟩)] 131) = w5 at *
  generalize w.heap.size = z at *
  have UF := hid (UC.out.t (Up.drew _))
  have e0' : w5.drew.cell? ⟨d, o, none⟩ = _ := e0
  have a0' : w5.drew.cell? ⟨z, 0, none⟩ = _ := a0
  have a1' : w5.drew.cell? ⟨z + 1, 0, none⟩ = _ := a1
  by_cases h1 : k < 0
  · go_region
    all_goals
      go_wp2
      go_ret
      exact ⟨rfl, UF⟩
  · have h2 : (len : Int) < k := by have := hk.out; rw [HLEN.out] at this; omega
    go_region
    all_goals
      go_wp2
      go_ret
      exact ⟨rfl, UF⟩
theorem sync_all (w : World) (base d : Nat) (p : DiskP) (D : DiskV) (i : Int) (h : Hid (DiskAt w base d p D)) (hok : Hid (DiskOk D)) :
    Calls Try.prog 47 #[.pointer (some ⟨d, 0, none⟩), .int .i64 i] w (StepF w (foot d p D) base d (syncR D i).1 (.int .i64 (syncR D i).2)) := by
  unfold syncR
  by_cases hon : D.on = false
  · rw [if_pos hon]
    exact (syncE_calls w d i 4 (by decide) (fileOff_calls _ base d D (hid ⟨p, h.out⟩) i hon)).mono fun en w' k => ⟨k.1, hid (StepF.same h.out k.2.out)⟩
  · have hon' : D.on = true := by cases h9 : D.on; exact absurd h9 hon; rfl
    rw [if_neg hon]
    cases hf : fileNr i with
    | none => exact (syncE_calls w d i 11 (by decide) (fileNo_calls _ base d D (hid ⟨p, h.out⟩) i hon' (fileNr_none hf))).mono fun en w' k => ⟨k.1, hid (StepF.same h.out k.2.out)⟩
    | some b =>
      obtain rfl := fileNr_idx hf
      exact sync_calls w base d p D b h (hid hon') (hid hok.out.num) (hid hok.out.keep)
theorem cut_all (w : World) (base d : Nat) (p : DiskP) (D : DiskV) (i k : Int) (h : Hid (DiskAt w base d p D)) (hok : Hid (DiskOk D)) :
    Calls Try.prog 55 #[.pointer (some ⟨d, 0, none⟩), .int .i64 i, .int .i64 k] w (StepF w (foot d p D) base d (cutR D i k).1 (.int .i64 (cutR D i k).2)) := by
  have hM : DiskM (w.alloc (.cells #[.int .i64 k] 3)) base d D := ⟨p, h.out.up (upAlD (Up.refl w) _)⟩
  unfold cutR
  by_cases hon : D.on = false
  · rw [if_pos hon]
    exact (cutE_calls w d i k 4 (by decide) (fileOff_calls _ base d D (hid hM) i hon)).mono fun en w' k => ⟨k.1, hid (StepF.same h.out k.2.out)⟩
  · have hon' : D.on = true := by cases h9 : D.on; exact absurd h9 hon; rfl
    rw [if_neg hon]
    cases hf : fileNr i with
    | none => exact (cutE_calls w d i k 11 (by decide) (fileNo_calls _ base d D (hid hM) i hon' (fileNr_none hf))).mono fun en w' k => ⟨k.1, hid (StepF.same h.out k.2.out)⟩
    | some b =>
      obtain rfl := fileNr_idx hf
      simp only
      by_cases hk : k < 0 ∨ ((D.fl b).now.length : Int) < k
      · rw [if_pos hk]
        exact (cutN_calls w base d p D b k h (hid hon') (hid hk)).mono fun en w' k => ⟨k.1, hid (StepF.same h.out k.2.out)⟩
      · rw [if_neg hk]
        obtain ⟨kn, rfl⟩ := Int.eq_ofNat_of_zero_le (show 0 ≤ k by omega)
        exact cut_calls w base d p D b kn h (hid hon') (hid hok.out.num) (hid hok.out.keep) (hid (by omega))
/-- Start. -/
theorem start_calls (w : World) (base d : Nat) (p : DiskP) (D : DiskV) (h : Hid (DiskAt w base d p D)) :
    Calls Try.prog 52 #[.pointer (some ⟨d, 0, none⟩)] w (StepF w (foot d p D) base d { D with on := true, armed := 0 } (.int .i64 0)) := by
  obtain ⟨e0, _, _, _, _, _, _, e7, _, e9, _, _⟩ := h.out.reads
  have f7 := h.out.free 7
  have f9 := h.out.free 9
  have HR := hid h.out.room.1
  go_enter Try.func52, Try.ntmps52
  go_wp2_with (go_at_call 107; refine (dmade_calls _ d _ e0 HR).mono ?_; rintro e w' ⟨rfl, hw⟩; obtain rfl := hw.symm)
  go_ret
  have k1 := heap_setCell_same w d 7 (diskCs p D) _ (.bool true) h.out.own
  have k2 := heap_setCell_same _ d 9 _ _ (.int .i64 0) k1
  have hf : Fr (fun k => k = d) w ((w.setCell ⟨d, 7, none⟩ (.bool true)).setCell ⟨d, 9, none⟩ (.int .i64 0)) := ((Fr.refl (fun k => k = d) w).setCell (p := ⟨d, 7, none⟩) (fun _ => rfl) _).setCell (p := ⟨d, 9, none⟩) (fun _ => rfl) _
  exact ⟨rfl, hid ⟨⟨p, h.out.nums hf k2 rfl rfl rfl rfl, fun k hk => .inl hk⟩, hf.mono (fun k e => .inl e)⟩⟩
end Go.Proofs.Ytlikggeceeennaa
