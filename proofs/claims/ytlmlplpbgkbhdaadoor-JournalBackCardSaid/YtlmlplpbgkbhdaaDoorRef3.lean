/- THE WALK of the document's RecordBytes. -/
import Derived.Test.YtlmlplpbgkbhdaaDoorRef2
import Derived.Deep.RegionHeld3
set_option linter.unusedVariables false
set_option linter.unusedSimpArgs false
namespace Go.Proofs.YtlmlplpbgkbhdaaDoor
open Go.RowKit Hach Hach.Crc

set_option maxRecDepth 100000 in
set_option maxHeartbeats 1000000 in
theorem refRec_bad (w : World) (page n : Int) (A : Option Addr) (k c : Nat) (h : Hid (¬ ((1 ≤ page ∧ page ≤ 4000) ∧ k = 512))) :
    Calls Tryd.prog 22 #[.agg #[.int .i64 page, .slice A k c], .int .u64 n] w (RetB w []) := by
  have hb : ∀ o, Below w.heap.size w (w.alloc o) := fun o => (Below.refl _ _).alloc (Nat.le_refl _) o
  by_cases h1 : page < 1
  · go_enter Tryd.func22, Tryd.ntmps22
    go_wp2
    go_ret
    exact RetB.nil _ (hb _)
  by_cases h2 : 4000 < page
  · go_enter Tryd.func22, Tryd.ntmps22
    go_wp2
    go_ret
    exact RetB.nil _ (hb _)
  have h3 : ((k : Int) == 512) = false := by
    rw [beq_eq_false_iff_ne]
    intro e
    exact h.out ⟨⟨by omega, by omega⟩, by omega⟩
  go_enter Tryd.func22, Tryd.ntmps22
  go_wp2
  go_ret
  exact RetB.nil _ (hb _)

set_option maxRecDepth 100000 in
set_option maxHeartbeats 1000000 in
theorem refRec_good (w : World) (pi : Int) (page n k : Nat) (A : Option Addr) (xs : List UInt8) (c : Nat) (hpi : Hid (pi = (page : Int))) (h1 : 1 ≤ page) (h2 : page ≤ 4000) (hk : Hid (xs.length = k)) (hl : k = 512) (hn : Hid ((n : Int) < 18446744073709551616)) (hc : Hid (Bytes w A xs)) :
    Calls Tryd.prog 22 #[.agg #[.int .i64 pi, .slice A k c], .int .u64 (n : Int)] w (RetB w (Jrn.recN page n xs)) := by
  generalize hX : Jrn.recN page n xs = X
  have HX := hid hX
  clear hX
  have c1 : ¬ pi < 1 := by have := hpi.out; omega
  have c2 : ¬ 4000 < pi := by have := hpi.out; omega
  subst hl
  have P1 := hid h1
  have P2 := hid h2
  clear h1 h2
  have hb : ∀ o, Below w.heap.size w (w.alloc o) := fun o => (Below.refl _ _).alloc (Nat.le_refl _) o
  obtain ⟨X2, hX2⟩ : ∃ X, ([] : List UInt8) ++ Oct.be page 4 = X := ⟨_, rfl⟩
  have l2 : X2.length = 4 := by rw [← hX2, List.length_append, Oct.be_length]; rfl
  have HX2 := hid hX2
  have L2 := hid l2
  clear hX2 l2
  go_enter Tryd.func22, Tryd.ntmps22
  go_wp2_with fail
  refine (refPut_callsX _ none [] X2 0 page 4 0 _ _ HX2 rfl hpi.out rfl (by have := P2.out; omega) (by omega) (by omega) (by decide) (hid (Bytes.nil _ _))).mono ?_
  rintro e w2 ⟨A2, c2', rfl, o2, b2⟩
  rw [L2.out]
  have z2 : w.heap.size < w2.heap.size := by have := b2.size; simp at this; omega
  have k2 : w2.cell? ⟨w.heap.size, 1, none⟩ = some (.slice A 512 c) := by rw [b2.cell (p := ⟨w.heap.size, 1, none⟩) (by simp)]; go_simp
  have B2 := hid ((hb (.cells #[.int .i64 pi, .slice A 512 c] 49)).trans (b2.mono (by simp)))
  have Y2 := hid (show Bytes w2.drew A2 X2 from o2.bytes)
  have D2 := hid (show Bytes w2.drew A xs from Bytes.grown (w' := w2) hc.out B2.out)
  have Y2' := hid o2.bytes
  clear o2 b2 hb
  obtain ⟨X3, hX3⟩ : ∃ X, X2 ++ Oct.be n 8 = X := ⟨_, rfl⟩
  have l3 : X3.length = 12 := by rw [← hX3, List.length_append, Oct.be_length, L2.out]
  have HX3 := hid hX3
  have L3 := hid l3
  clear hX3 l3
  have k2d : w2.drew.cell? ⟨w.heap.size, 1, none⟩ = some (.slice A 512 c) := k2
  go_wp2
  go_region_held3 (fun w' => w'.cell? ⟨w.heap.size, 1, none⟩ = some (.slice A 512 c))
    (first | exact q4 | exact q3 | exact k2d | go_keep)
    (first
      | (go_at_call 48; refine (refPut_callsX _ A2 X2 X3 c2' n 8 4 _ _ HX3 L2.out rfl rfl hn.out (by omega) (by omega) (by rw [L2.out]; decide) ?_).mono ?_; exact Y2; rintro e w3 ⟨A3, c3, rfl, o3, b3⟩; have q3 : w3.cell? ⟨w.heap.size, 1, none⟩ = some (.slice A 512 c) := (b3.cell (p := ⟨w.heap.size, 1, none⟩) z2).trans k2d)
      | (refine step_append elemB (by rfl) (.tmp 27) (.tmp 29) (by rfl) (by rfl) o3 (by rfl) (Bytes.rd (Bytes.grown (w := w2.drew) D2.out b3)) ?_ ?_ ?_ ?_ ?_ ?_; (simp; exact hk.out); (exact byteCells_one _); (have := L3.out; simp only [maxLen]; omega); (have := L3.out; omega); (exact b3.size); intro A4 c4 w4 o4 g4 d4; have q4 : w4.cell? ⟨w.heap.size, 1, none⟩ = some (.slice A 512 c) := g4.cell q3 (fun e => by have := (World.ownsRow.lt o3 _ e.symm).1; show False; simp at this; omega)))
  rename_i K1 h1 hHeld
  have r3 : ∀ k, (Value.slice A3 X3.length c3).ownBlock = some k → w2.heap.size ≤ k := fun k hk => (World.ownsRow.lt o3 k hk).1
  have b24 : Below w2.heap.size w2 w4 := ((Below.refl _ _).drew.trans b3).grown g4 b3.size r3
  have B4 := hid (B2.out.trans (b24.mono B2.out.size))
  have z4 : w.heap.size < w4.heap.size := by have := b24.size; omega
  have k4d : w4.drew.cell? ⟨w.heap.size, 1, none⟩ = some (.slice A 512 c) := q4
  have Y4 := hid (show Bytes w4.drew A2 X2 from Bytes.grown (w' := w4) Y2'.out b24)
  have D4 := hid (show Bytes w4.drew A xs from Bytes.grown (w' := w4) hc.out B4.out)
  have e524 : X3.length + 512 = 524 := by rw [L3.out]
  rw [e524, ← List.map_append] at o4
  rw [e524]
  obtain ⟨X6, hX6⟩ : ∃ X, X3 ++ xs = X := ⟨_, rfl⟩
  rw [hX6] at o4
  have M4 := hid (show Bytes w4.drew A4 X6 from Rd.bytes (Rd.own o4))
  have HX6 := hid hX6
  have L6 := hid (show X6.length = 524 by rw [← hX6, List.length_append, L3.out, hk.out])
  obtain ⟨X7, hX7⟩ : ∃ X, X2 ++ Oct.be (ofF X6).toNat 4 = X := ⟨_, rfl⟩
  have HX7 := hid hX7
  have L7 := hid (show X7.length = 8 by rw [← hX7, List.length_append, Oct.be_length, L2.out])
  obtain ⟨X8, hX8⟩ : ∃ X, X7 ++ List.replicate (128 - X7.length) 0 = X := ⟨_, rfl⟩
  have HX8 := hid hX8
  have L8 := hid (show X8.length = 128 by rw [← hX8, List.length_append, List.length_replicate, L7.out])
  clear hX6 hX7 hX8 o3 b3 g4 d4 o4 q3 q4 hHeld r3 b24 k2 k2d e524 z2
  show K1 _ _
  refine h1 _ _ ?_
  clear h1 K1
  go_wp2
  go_region_held3 (fun w' => w'.cell? ⟨w.heap.size, 1, none⟩ = some (.slice A 512 c))
    (first | exact q7 | exact q6 | exact q5 | exact k4d | go_keep)
    (first
      | (go_at_call 50; refine (refSum_callsX _ A2 A4 X2 X6 X7 c2' c4 4 524 L2 L6 (hid (by decide)) (hid (by decide)) HX7 ?_ ?_).mono ?_; exact Y4; exact M4; rintro e w5 ⟨A5, c5, rfl, o5, b5⟩; have q5 : w5.cell? ⟨w.heap.size, 1, none⟩ = some (.slice A 512 c) := (b5.cell (p := ⟨w.heap.size, 1, none⟩) z4).trans k4d)
      | (go_at_call 49; refine (refFill_callsX _ w4.heap.size A5 X7 X8 c5 X7.length 128 128 (hid rfl) (hid rfl) HX8 (hid (by rw [L7.out]; decide)) (hid (by decide)) ?_ ?_).mono ?_; exact b5.size; exact o5; rintro e w6 ⟨A6, c6, rfl, o6, g6⟩; have q6 : w6.cell? ⟨w.heap.size, 1, none⟩ = some (.slice A 512 c) := g6.cell q5 (fun e => by have := (World.ownsRow.lt o5 _ e.symm).1; show False; simp at this; omega))
      | (refine step_append elemB (by rfl) (.tmp 34) (.tmp 36) (by rfl) (by rfl) (show w6.ownsRow w4.heap.size 5 1 (.slice A6 128 c6) 128 (X8.map byteCell) by have := o6; unfold OwnB at this; rwa [L8.out] at this) (by rfl) (Bytes.rd (Bytes.grown (w := w4.drew) D4.out (b5.grown g6 b5.size (fun k hk => (World.ownsRow.lt o5 k hk).1)))) ?_ ?_ ?_ ?_ ?_ ?_; (simp; exact hk.out); (exact byteCells_one _); (simp only [maxLen]; omega); (omega); (exact Nat.le_trans b5.size g6.size); intro A7 c7 w7 o7 g7 d7; have q7 : w7.cell? ⟨w.heap.size, 1, none⟩ = some (.slice A 512 c) := g7.cell q6 (fun e => by have := (World.ownsRow.lt o6 _ (by rw [L8.out]; exact e.symm)).1; show False; simp at this; omega)))
  rename_i K1 h1 hHeld
  have b47 : Below w4.heap.size w4 w7 := (((Below.refl _ _).drew.trans b5).grown g6 b5.size (fun k hk => (World.ownsRow.lt o5 k hk).1)).grown g7 (Nat.le_trans b5.size g6.size) (fun k hk => (World.ownsRow.lt o6 k (by rw [L8.out]; exact hk)).1)
  have B7 := hid (B4.out.trans (b47.mono B4.out.size))
  have e640 : 128 + 512 = 640 := rfl
  rw [← List.map_append] at o7
  have O7 := hid (own_base o7 B4.out.size)
  have hx : X = X8 ++ xs := by
    rw [← HX.out, Jrn.recN_parts]
    unfold Jrn.recSum
    rw [← ofF_append, (show ofF ((Oct.be page 4 ++ Oct.be n 8) ++ xs) = ofF X6 by rw [← HX6.out, ← HX3.out, ← HX2.out, List.nil_append]), ← HX8.out, ← HX7.out, ← HX2.out, List.nil_append]
    simp [Oct.be_length]
  have lx : X.length = 640 := by rw [hx, List.length_append, L8.out, hk.out]
  have HXX := hid hx
  have LX := hid lx
  clear o5 o6 g6 g7 d7 o7 b5 b47 q5 q6 q7 hHeld k4d hx lx z4
  show K1 _ _
  refine h1 _ _ ?_
  clear h1 K1
  go_wp2
  go_ret
  refine ⟨A7, c7, by rw [LX.out]; rfl, ?_, B7.out⟩
  unfold OwnB
  rw [LX.out, HXX.out]
  exact O7.out

theorem refRec_calls (w : World) (page : Int) (n : Nat) (A : Option Addr) (xs : List UInt8) (c : Nat) (hn : Hid ((n : Int) < 18446744073709551616)) (hc : Hid (Bytes w A xs)) :
    Calls Tryd.prog 22 #[.agg #[.int .i64 page, .slice A xs.length c], .int .u64 (n : Int)] w (RetB w (Jrn.recB page n xs)) := by
  unfold Jrn.recB
  cases h : Jrn.recGood page xs with
  | false => exact refRec_bad w page n A xs.length c (hid (of_decide_eq_false h))
  | true =>
    have hg := of_decide_eq_true h
    exact refRec_good w page page.toNat n xs.length A xs c (hid (by omega)) (by omega) (by omega) (hid rfl) hg.2 hn hc
end Go.Proofs.YtlmlplpbgkbhdaaDoor
