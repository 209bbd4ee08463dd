/- THE WALK of Cut. -/
import Derived.Test.YtlikggeceeennaaDskN
set_option linter.unusedVariables false
set_option linter.unusedSimpArgs false
namespace Go.Proofs.Ytlikggeceeennaa
open Go Go.RowKit Go.Maps Hach

def cutF (k : Nat) (f : FileV) : FileV := ⟨f.now.take k, cutL f.old k, k⟩
def cutV (b : Bool) (k : Nat) (D : DiskV) : DiskV := D.setF b (cutF k (D.fl b))
theorem FileOk.cutOk {f : FileV} (h : FileOk f) {k : Nat} (hk : k ≤ f.now.length) : FileOk (cutF k f) := by
  refine ⟨fun s hs => h.now s (List.mem_of_mem_take hs), fun p hp => h.old p (List.mem_filter.1 hp).1, h.keys.sublist (List.filter_sublist.map _), fun p hp => ?_, ?_⟩
  · have h1 := List.mem_filter.1 hp
    have h2 := h.rng p h1.1
    have h3 : p.1 < (k : Int) := of_decide_eq_true h1.2
    refine ⟨h2.1, ?_⟩
    show p.1 < ((f.now.take k).length : Int)
    rw [List.length_take]; omega
  · show k ≤ (f.now.take k).length
    rw [List.length_take]; omega
section
variable {w : World} {base d o m c : Nat} {cs : Array Value} {t : TypeId} {A : Option Addr} {f : FileV}
/-- Another row, of fewer sectors. -/
theorem FileAt.rowed (h : FileAt w base d cs t o A c m f) {k : Nat} {A3 : Option Addr} {c3 : Nat} (hk : k ≤ f.now.length) (ho : w.ownsRow base 137 128 (.slice A3 k c3) k ((f.now.take k).flatMap secC)) :
    FileAt (w.setCell ⟨d, o, none⟩ (.slice A3 k c3)) base d (cs.setIfInBounds o (.slice A3 k c3)) t o A3 c3 m { f with now := f.now.take k } ∧ Fr (fun k => k = d) w (w.setCell ⟨d, o, none⟩ (.slice A3 k c3)) := by
  have hl : (f.now.take k).length = k := by rw [List.length_take]; omega
  have f2 : Fr (fun k => k = d) w (w.setCell ⟨d, o, none⟩ (.slice A3 k c3)) := (Fr.refl (fun k => k = d) w).setCell (p := ⟨d, o, none⟩) (fun _ => rfl) _
  have ne := h.ne
  have hlt := (Array.getElem?_eq_some_iff.1 h.c0).1
  refine ⟨⟨heap_setCell_same w d o cs t _ h.own, ?_, ?_, ?_, ?_, h.map.kept f2 (fun e => ne.1 e.symm), fun s hs => h.len s (List.mem_of_mem_take hs), h.low, h.ty⟩, f2⟩
  · rw [hl]; simp [hlt]
  · rw [Array.getElem?_setIfInBounds_ne (by omega)]; exact h.c1
  · rw [Array.getElem?_setIfInBounds_ne (by omega)]; exact h.c2
  · rw [hl]; exact f2.own ho (fun k9 hk9 e => row_blk ho h.own (fun e9 => h.ty.1 e9.symm) k9 hk9 e)
theorem FileAt.sured (h : FileAt w base d cs t o A c m f) (k : Nat) :
    FileAt (w.setCell ⟨d, o + 2, none⟩ (.int .i64 k)) base d (cs.setIfInBounds (o + 2) (.int .i64 k)) t o A c m { f with sure := k } ∧ Fr (fun k => k = d) w (w.setCell ⟨d, o + 2, none⟩ (.int .i64 k)) := by
  have f2 : Fr (fun k => k = d) w (w.setCell ⟨d, o + 2, none⟩ (.int .i64 k)) := (Fr.refl (fun k => k = d) w).setCell (p := ⟨d, o + 2, none⟩) (fun _ => rfl) _
  have ne := h.ne
  have hlt := (Array.getElem?_eq_some_iff.1 h.c2).1
  refine ⟨⟨heap_setCell_same w d (o + 2) cs t _ h.own, ?_, ?_, ?_, f2.own h.row (fun k hk e => (ne.2 k hk).1 e), h.map.kept f2 (fun e => ne.1 e.symm), h.len, h.low, h.ty⟩, f2⟩
  · rw [Array.getElem?_setIfInBounds_ne (by omega)]; exact h.c0
  · rw [Array.getElem?_setIfInBounds_ne (by omega)]; exact h.c1
  · simp [hlt]
end
theorem cut1_ent (args : Array Value) (w : World) : (callFunc 114 args).run Try.prog w = .ok (.enter 114 args) w := by go_simp
set_option maxRecDepth 100000 in
set_option maxHeartbeats 2000000 in
theorem cut1_calls (w : World) (base d : Nat) (p : DiskP) (D : DiskV) (b : Bool) (k bx by9 : Nat) (h : Hid (DiskAt w base d p D)) (hk : Hid (k ≤ (D.fl b).now.length ∧ k < 1000000)) (hb : w.heap[bx]? = some (.cells #[.pointer (some ⟨d, off b, none⟩)] 131 (0, 0))) (hb9 : w.heap[by9]? = some (.cells #[.int .i64 k] 3 (0, 0))) :
    Calls Try.prog 114 #[.pointer (some ⟨bx, 0, none⟩), .pointer (some ⟨by9, 0, none⟩)] w (StepF w (foot d p D) base d (cutV b k D) (.int .i64 0)) := by
  have F0 := hid (h.out.fileB b)
  have OK := hid (h.out.okB b)
  obtain ⟨f, hf⟩ : ∃ f, D.fl b = f := ⟨_, rfl⟩
  rw [hf] at F0 OK hk
  have HFL := hid hf
  obtain ⟨o, hoo⟩ : ∃ o, off b = o := ⟨_, rfl⟩
  rw [hoo] at F0 hb
  have HOO := hid hoo
  obtain ⟨A, hA⟩ : ∃ A, p.rA b = A := ⟨_, rfl⟩
  obtain ⟨c, hc⟩ : ∃ A, p.rc b = A := ⟨_, rfl⟩
  obtain ⟨m, hm⟩ : ∃ A, p.mm b = A := ⟨_, rfl⟩
  rw [hA, hc, hm] at F0
  have PA := hid (And.intro hA (And.intro hc hm))
  have HB := hid hb
  have HB9 := hid hb9
  obtain ⟨len, hlen⟩ : ∃ z, f.now.length = z := ⟨_, rfl⟩
  have HLEN := hid hlen
  have e0 := F0.out.cell0.1
  rw [hlen] at e0
  have b0 : w.cell? ⟨bx, 0, none⟩ = some (.pointer (some ⟨d, o, none⟩)) := by rw [cell_of_row _ _ _ _ _ _ hb]; rfl
  have b9 : w.cell? ⟨by9, 0, none⟩ = some (.int .i64 k) := by rw [cell_of_row _ _ _ _ _ _ hb9]; rfl
  have hkc : k ≤ c := by
    obtain ⟨A9, c9, e9, h9⟩ := own_form F0.out.row
    injection e9 with _ e1 e2
    have := hk.out
    omega
  have hkci : (k : Int) ≤ (c : Int) := by omega
  clear hf hoo hA hc hm hlen hb hb9
  go_enter Try.func114, Try.ntmps114
  go_wp2
  have US : w.drew.cell? ⟨bx, 0, none⟩ = some (.pointer (some ⟨d, o, none⟩)) ∧ w.drew.cell? ⟨by9, 0, none⟩ = some (.int .i64 k) ∧ w.drew.cell? ⟨d, o, none⟩ = some (.slice A len c) := ⟨b0, b9, e0⟩
  have HXL : Hid (((f.now.take k).flatMap secC).length = k * 128) := hid (by rw [flatS_length (fun s hs => F0.out.len s (List.mem_of_mem_take hs)), List.length_take]; have := hk.out; rw [Nat.min_eq_left (by omega)])
  have RD : Hid (Rd w.drew A ((f.now.take k).flatMap secC)) := hid ((by
    have := (Rd.own F0.out.row).take (k * 128)
    rw [flatS_take F0.out.len k (by have := hk.out; omega)] at this
    exact this : Rd w A ((f.now.take k).flatMap secC)).grown (Up.drew w))
  have NBD : Hid (bx ≠ d ∧ by9 ≠ d) := by
    refine hid ⟨?_, ?_⟩
    · rintro rfl
      have h1 := HB.out; have h2 := F0.out.own; rw [h2] at h1; injection h1 with h1; injection h1 with _ h1 _; revert h1; decide
    · rintro rfl
      have h1 := HB9.out; have h2 := F0.out.own; rw [h2] at h1; injection h1 with h1; injection h1 with _ h1 _; revert h1; decide
  have NBM : Hid (bx ≠ m ∧ by9 ≠ m) := by
    refine hid ⟨?_, ?_⟩
    · rintro rfl
      obtain ⟨es, clock, h2⟩ := F0.out.map.isMap
      rw [HB.out] at h2; cases h2
    · rintro rfl
      obtain ⟨es, clock, h2⟩ := F0.out.map.isMap
      rw [HB9.out] at h2; cases h2
  refine t_start (fun w9 => w9.cell? ⟨bx, 0, none⟩ = some (.pointer (some ⟨d, o, none⟩)) ∧ w9.cell? ⟨by9, 0, none⟩ = some (.int .i64 k) ∧ w9.cell? ⟨d, o, none⟩ = some (.slice A len c)) 10 (by kernel_rfl) ?_
  refine t_take 0 (some 3) (v := ?_) US rfl rfl (by kernel_rfl) (by kernel_rfl) (by kernel_rfl) (by kernel_rfl) (fun _ _ _ h => h) (by rfl) (fun w9 hS => ?_) ?_
  rotate_left
  · obtain ⟨s0, s1, s2⟩ := hS; go_simp <;> with_reducible rfl
  try simp only [Act.put, List.setIfInBounds_toArray, List.set_cons_zero, List.set_cons_succ]
  refine t_take 1 (some 4) (v := ?_) US rfl rfl (by kernel_rfl) (by kernel_rfl) (by kernel_rfl) (by kernel_rfl) (fun _ _ _ h => h) (by rfl) (fun w9 hS => ?_) ?_
  rotate_left
  · obtain ⟨s0, s1, s2⟩ := hS; go_simp <;> with_reducible rfl
  try simp only [Act.put, List.setIfInBounds_toArray, List.set_cons_zero, List.set_cons_succ]
  refine t_take 2 (some 5) (v := ?_) US rfl rfl (by kernel_rfl) (by kernel_rfl) (by kernel_rfl) (by kernel_rfl) (fun _ _ _ h => h) (by rfl) (fun w9 hS => ?_) ?_
  rotate_left
  · go_simp <;> with_reducible rfl
  try simp only [Act.put, List.setIfInBounds_toArray, List.set_cons_zero, List.set_cons_succ]
  refine t_take 3 (some 6) (v := ?_) US rfl rfl (by kernel_rfl) (by kernel_rfl) (by kernel_rfl) (by kernel_rfl) (fun _ _ _ h => h) (by rfl) (fun w9 hS => ?_) ?_
  rotate_left
  · go_simp <;> with_reducible rfl
  try simp only [Act.put, List.setIfInBounds_toArray, List.set_cons_zero, List.set_cons_succ]
  refine t_take 4 (some 7) (v := ?_) US rfl rfl (by kernel_rfl) (by kernel_rfl) (by kernel_rfl) (by kernel_rfl) (fun _ _ _ h => h) (by rfl) (fun w9 hS => ?_) ?_
  rotate_left
  · obtain ⟨s0, s1, s2⟩ := hS; go_simp <;> with_reducible rfl
  try simp only [Act.put, List.setIfInBounds_toArray, List.set_cons_zero, List.set_cons_succ]
  refine t_take 5 (some 8) (v := ?_) US rfl rfl (by kernel_rfl) (by kernel_rfl) (by kernel_rfl) (by kernel_rfl) (fun _ _ _ h => h) (by rfl) (fun w9 hS => ?_) ?_
  rotate_left
  · obtain ⟨s0, s1, s2⟩ := hS; go_simp <;> with_reducible rfl
  try simp only [Act.put, List.setIfInBounds_toArray, List.set_cons_zero, List.set_cons_succ]
  refine t_take 6 (some 9) (v := ?_) US rfl rfl (by kernel_rfl) (by kernel_rfl) (by kernel_rfl) (by kernel_rfl) (fun _ _ _ h => h) (by rfl) (fun w9 hS => ?_) ?_
  rotate_left
  · go_simp <;> with_reducible rfl
  try simp only [Act.put, List.setIfInBounds_toArray, List.set_cons_zero, List.set_cons_succ]
  refine t_op 7 (by kernel_rfl) rfl (by rfl) (fun K9 hK9 => ?_)
  go_simp
  go_at_call 108
  refine (cloneSec_calls _ A ((f.now.take k).flatMap secC) k c HXL.out (by have := hk.out; omega) (flatS_one _) RD).mono ?_
  rintro e w3 ⟨A3, c3, rfl, hh⟩
  have O3 := hid hh.out.1
  have U3 : Hid (Up w w3) := hid ((Up.drew w).t hh.out.2)
  clear hh
  replace US := (show w3.cell? ⟨bx, 0, none⟩ = some (.pointer (some ⟨d, o, none⟩)) ∧ w3.cell? ⟨by9, 0, none⟩ = some (.int .i64 k) ∧ w3.cell? ⟨d, o, none⟩ = some (.slice A len c) from ⟨U3.out.c US.1, U3.out.c US.2.1, U3.out.c US.2.2⟩)
  have F3 := hid (F0.out.up U3.out)
  have z0 := US.2.2
  have zf := F3.out.free o
  refine hK9.out _ _ US ?_
  clear hK9 K9
  try simp only [Act.put, List.setIfInBounds_toArray, List.set_cons_zero, List.set_cons_succ]
  refine t_op 8 (by kernel_rfl) rfl (by rfl) (fun K9 hK9 => ?_)
  go_simp
  refine hK9.out _ _ US ?_
  clear hK9 K9
  try simp only [Act.put, List.setIfInBounds_toArray, List.set_cons_zero, List.set_cons_succ]
  refine t_take 9 (some 12) (v := ?_) US rfl rfl (by kernel_rfl) (by kernel_rfl) (by kernel_rfl) (by kernel_rfl) (fun _ _ _ h => h) (by rfl) (fun w9 hS => ?_) ?_
  rotate_left
  · go_simp <;> with_reducible rfl
  try simp only [Act.put, List.setIfInBounds_toArray, List.set_cons_zero, List.set_cons_succ]
  refine t_last (by kernel_rfl) rfl (by rfl) (fun K9 hK9 => ?_)
  go_simp
  obtain ⟨r4, f4⟩ := F3.out.rowed (k := k) (A3 := A3) (c3 := c3) (by have := hk.out; omega) (own_base O3.out (Nat.le_trans F0.out.bs (Nat.le_refl _)))
  have R4 := hid r4
  have FR4 := hid f4
  clear r4 f4 z0 zf
  have B4 : Hid ((w3.setCell ⟨d, o, none⟩ (.slice A3 k c3)).cell? ⟨bx, 0, none⟩ = some (.pointer (some ⟨d, o, none⟩)) ∧ (w3.setCell ⟨d, o, none⟩ (.slice A3 k c3)).cell? ⟨by9, 0, none⟩ = some (.int .i64 k)) := hid ⟨FR4.out.cell US.1 NBD.out.1, FR4.out.cell US.2.1 NBD.out.2⟩
  have US9 := US
  clear US
  refine hK9.out _ _ ?_
  clear hK9 K9
  try simp only [Act.put, List.setIfInBounds_toArray, List.set_cons_zero, List.set_cons_succ]
  refine t_done (by kernel_rfl) ?_
  rename_i K1 h1
  first | (refine h1 _ _ ?_; clear h1 K1) | skip
  clear US9 e0 b0 b9
  generalize w3.setCell ⟨d, o, none⟩ (.slice A3 k c3) = w4 at *
  obtain ⟨b0, b9⟩ := B4.out
  have e1 := R4.out.cell0.2.1
  have DEL := delete_calls w4 m f.old k by9 (hid R4.out.map) (hid OK.out.old) b9
  go_wp2_with (go_at_call 115; refine DEL.mono ?_; clear DEL; rintro e w5 ⟨rfl, hh⟩; obtain ⟨r5, _, f5⟩ := R4.out.marked hh.out.1 hh.out.2; have R5 := hid r5; have FR5 := hid f5; have z2 := R5.out.cell0.2.2; have zf := R5.out.free (o + 2); replace b0 := FR5.out.cell b0 NBM.out.1; replace b9 := FR5.out.cell b9 NBM.out.2; clear r5 f5 e1 hh)
  go_ret
  obtain ⟨r6, f6⟩ := R5.out.sured k
  refine ⟨rfl, hid ?_⟩
  have FL := HFL.out
  have hkl : (f.now.take k).length = k := by rw [List.length_take]; have := hk.out; omega
  have G := h.out.goes (b := b) (A := A3) (c := c3) (f := cutF k f) (w' := w5.setCell ⟨d, o + 2, none⟩ (.int .i64 k)) (cs := ((diskCs p D).setIfInBounds o (.slice A3 k c3)).setIfInBounds (o + 2) (.int .i64 k))
    (by rw [PA.out.2.2, HOO.out]; exact r6)
    (by
      have := diskCs_set p D b A3 c3 (cutF k f)
      rw [HOO.out, show (cutF k f).now.length = k from hkl] at this
      exact this)
    (by
      rw [PA.out.1, PA.out.2.1, PA.out.2.2]
      exact ((((Fr.of_below U3.out).mono (fun _ e => e.elim)).trans' (FR4.out.mono (fun k9 e => .inl e))).trans' (FR5.out.mono (fun k9 e => .inr (.inl e)))).trans' (f6.mono (fun k9 e => .inl e)))
    (by
      rw [show (cutF k f).now.length = k from hkl]
      cases hob : (Value.slice A3 k c3).ownBlock with
      | none => exact .inr (.inl rfl)
      | some k9 => exact .inr (.inr ⟨k9, (own_block O3.out k9 hob).1, rfl⟩))
    (by have := OK.out.cutOk (k := k) (by have := hk.out; omega); exact this)
  unfold cutV
  rw [FL]
  exact G
end Go.Proofs.Ytlikggeceeennaa
