/- THE WALKS of journal's Record.good and RecordBytes. -/
import Derived.Test.YtlmlplpbgkbhdaaDoorJrn2
import Derived.Deep.RegionHeld3
set_option linter.unusedVariables false
set_option linter.unusedSimpArgs false
namespace Go.Proofs.YtlmlplpbgkbhdaaDoor
open Go.RowKit Hach Hach.Crc

/-- A sector, in a row without spare room. -/
def RetS (w : World) (xs : List UInt8) (en : Ending) (w' : World) : Prop :=
  ∃ g, en = .returned (.slice (some ⟨g, 0, none⟩) 128 128) ∧ w'.ownsRow w.heap.size 90 1 (.slice (some ⟨g, 0, none⟩) 128 128) 128 (xs.map byteCell) ∧ Below w.heap.size w w'
theorem sector_callsX (w : World) (A : Option Addr) (xs X : List UInt8) (c : Nat) (hX : Hid (Jrn.sect xs = X)) (hl : xs.length ≤ 128) (hc : Hid (Bytes w A xs)) :
    Calls Tryd.prog 44 #[.slice A xs.length c] w (RetS w X) := by
  rw [← hX.out]
  exact sector_callsS w A xs c hl hc

set_option maxHeartbeats 1000000 in
theorem good_calls (w : World) (page : Int) (A : Option Addr) (n c : Nat) :
    Calls Tryd.prog 42 #[.agg #[.int .i64 page, .slice A n c]] w fun e w' => e = .returned (.bool (decide ((1 ≤ page ∧ page ≤ 4000) ∧ n = 512))) ∧ Below w.heap.size w w' := by
  have hb : ∀ o, Below w.heap.size w (w.alloc o) := fun o => (Below.refl _ _).alloc (Nat.le_refl _) o
  have d2 : ((n : Int) == 512) = decide (n = 512) := by
    by_cases h : n = 512
    · rw [decide_eq_true h, beq_iff_eq]; omega
    · rw [decide_eq_false h, beq_eq_false_iff_ne]; omega
  by_cases h0 : 1 ≤ page ∧ page ≤ 4000
  · obtain ⟨h0, h1⟩ := h0
    go_enter Tryd.func42, Tryd.ntmps42
    go_wp2
    go_ret
    exact ⟨by simp [h0, h1], hb _⟩
  · by_cases h1 : 1 ≤ page
    · have h2 : ¬ page ≤ 4000 := fun h => h0 ⟨h1, h⟩
      clear h0 d2
      go_enter Tryd.func42, Tryd.ntmps42
      go_wp2
      go_ret
      exact ⟨by rw [decide_eq_false (by omega)]; rfl, hb _⟩
    · clear h0 d2
      go_enter Tryd.func42, Tryd.ntmps42
      go_wp2
      go_ret
      exact ⟨by rw [decide_eq_false (by omega)]; rfl, hb _⟩

set_option maxHeartbeats 1000000 in
theorem recordBytes_bad (w : World) (page n : Int) (A : Option Addr) (xs : List UInt8) (c : Nat) (h : Jrn.recGood page xs = false) :
    Calls Tryd.prog 19 #[.agg #[.int .i64 page, .slice A xs.length c], .int .u64 n] w (RetB w []) := by
  have hb : ∀ o, Below w.heap.size w (w.alloc o) := fun o => (Below.refl _ _).alloc (Nat.le_refl _) o
  have H := hid h
  clear h
  go_enter Tryd.func19, Tryd.ntmps19
  go_wp2_with fail
  refine (good_calls _ page A xs.length c).mono ?_
  have e : decide ((1 ≤ page ∧ page ≤ 4000) ∧ xs.length = 512) = false := H.out
  rw [e]
  rintro e w1 ⟨rfl, b1⟩
  have B1 := hid ((hb (.cells #[.int .i64 page, .slice A xs.length c] 36)).trans (b1.mono (by simp)))
  clear b1 e hb
  go_wp2
  go_ret
  exact ⟨none, 0, rfl, own_nil _ _ _ _, B1.out⟩

attribute [local go_sem] n32_u64

set_option maxRecDepth 100000 in
set_option maxHeartbeats 1000000 in
theorem recordBytes_good (w : World) (ht : Hid (TabOk w)) (page n : Nat) (A : Option Addr) (xs : List UInt8) (c : Nat) (h1 : 1 ≤ page) (h2 : page ≤ 4000) (hl : xs.length = 512) (hn : Hid ((n : Int) < 18446744073709551616)) (hc : Hid (Bytes w A xs)) :
    Calls Tryd.prog 19 #[.agg #[.int .i64 (page : Int), .slice A xs.length c], .int .u64 (n : Int)] w (RetB w (Jrn.recN page n xs)) := by
  generalize hX : Jrn.recN page n xs = X
  have HX := hid hX
  clear hX
  have HL := hid hl
  clear hl
  have hb : ∀ o, Below w.heap.size w (w.alloc o) := fun o => (Below.refl _ _).alloc (Nat.le_refl _) o
  go_enter Tryd.func19, Tryd.ntmps19
  go_wp2_with fail
  refine (good_calls _ page A xs.length c).mono ?_
  have e : decide (((1 : Int) ≤ page ∧ (page : Int) ≤ 4000) ∧ xs.length = 512) = true := decide_eq_true (by have := HL.out; omega)
  rw [e]
  rintro e w1 ⟨rfl, b1⟩
  have z1 : w.heap.size < w1.heap.size := by have := b1.size; simp at this; omega
  have k0 : w1.cell? ⟨w.heap.size, 0, none⟩ = some (.int .i64 (page : Int)) := by rw [b1.cell (p := ⟨w.heap.size, 0, none⟩) (by simp)]; go_simp
  have k1 : w1.cell? ⟨w.heap.size, 1, none⟩ = some (.slice A xs.length c) := by rw [b1.cell (p := ⟨w.heap.size, 1, none⟩) (by simp)]; go_simp
  have B1 := hid ((hb (.cells #[.int .i64 (page : Int), .slice A xs.length c] 36)).trans (b1.mono (by simp)))
  clear b1 e hb
  go_wp2_with fail
  refine (put_calls' _ none [] 0 page 4 _ _ rfl rfl (by omega) (by omega) (by omega) (by decide) (Bytes.nil _ _)).mono ?_
  rintro e w2 ⟨A2, c2, rfl, o2, b2⟩
  have B2 := hid (B1.out.trans (b2.mono B1.out.size))
  have z2 : w.heap.size < w2.heap.size := by have := b2.size; omega
  have k2 : w2.cell? ⟨w.heap.size, 1, none⟩ = some (.slice A xs.length c) := by rw [b2.cell (p := ⟨w.heap.size, 1, none⟩) z1]; exact k1
  rw [List.nil_append] at o2 ⊢
  have Y2 := hid o2.bytes
  clear o2 b2 k0 k1 B1
  generalize hX2 : Oct.be page 4 = X2 at Y2
  have l2 : X2.length = 4 := by rw [← hX2, Oct.be_length]
  have HX2 := hid hX2
  have L2 := hid l2
  clear hX2 l2
  have T2 := hid (ht.out.below' B2.out)
  have D2 := hid (hc.out.grown B2.out)
  obtain ⟨X3, hX3⟩ : ∃ X, X2 ++ Oct.be n 8 = X := ⟨_, rfl⟩
  have l3 : X3.length = 12 := by rw [← hX3, List.length_append, Oct.be_length, L2.out]
  have HX3 := hid hX3
  have L3 := hid l3
  clear hX3 l3
  go_wp2
  go_region_held3 (fun w' => w'.cell? ⟨w.heap.size, 1, none⟩ = some (.slice A xs.length c))
    (first | go_keep | (rw [b3.cell (p := ⟨w.heap.size, 1, none⟩) (by simp; omega)]; go_simp))
    (first
      | (go_at_call 43; refine (put_callsX _ A2 X2 X3 c2 n 8 _ _ HX3 rfl rfl hn.out (by omega) (by omega) (by rw [L2.out]; decide) ?_).mono ?_; exact (Bytes.grown Y2.out (Below.drew (Below.refl _ _))); rintro e w3 ⟨A3, c3, rfl, o3, b3⟩)
      | (go_at_call 12; refine (of_calls _ ?_ A3 X3 c3 ?_ ?_).mono ?_; exact (show TabOk w2.drew from T2.out).below' b3; (rw [L3.out]; decide); exact o3.bytes; rintro e w' ⟨rfl, rfl⟩)
      | (go_at_call 14; refine (add_calls _ _ ?_ A xs c ?_ ?_).mono ?_; exact (show TabOk w2.drew from T2.out).below' b3; (rw [HL.out]; decide); exact Bytes.grown (w := w2.drew) D2.out b3; rintro e w' ⟨rfl, rfl⟩))
  have B3 := hid (B2.out.trans (Below.mono (show Below w2.heap.size w2 w3 from (Below.refl _ _).drew.trans b3) B2.out.size))
  have z3 : w.heap.size < w3.heap.size := by have := b3.size; simp at this; omega
  have k3 : w3.cell? ⟨w.heap.size, 1, none⟩ = some (.slice A xs.length c) := by rw [b3.cell (p := ⟨w.heap.size, 1, none⟩) (by simp; omega)]; exact k2
  have D3 := hid (hc.out.grown B3.out)
  have Y3 := hid (Bytes.grown (w := w2.drew) Y2.out b3)
  clear o3 b3 k2 Y2 B2 D2 T2
  have hsum : addF (ofF X3) xs = Jrn.recSum page n xs := by unfold Jrn.recSum; rw [HX2.out, HX3.out]
  rw [hsum]
  generalize hS : Jrn.recSum page n xs = S
  have HS := hid hS
  obtain ⟨X4, hX4⟩ : ∃ X, X2 ++ Oct.be S.toNat 4 = X := ⟨_, rfl⟩
  have l4 : X4.length = 8 := by rw [← hX4, List.length_append, Oct.be_length, L2.out]
  have HX4 := hid hX4
  have L4 := hid l4
  clear hX4 l4 hS hsum
  obtain ⟨X5, hX5⟩ : ∃ X, Jrn.sect X4 = X := ⟨_, rfl⟩
  have l5 : X5.length = 128 := by rw [← hX5]; unfold Jrn.sect; rw [List.length_append, List.length_replicate, L4.out]
  have HX5 := hid hX5
  have L5 := hid l5
  clear hX5 l5
  go_wp2
  go_region_held3 (fun w' => w'.cell? ⟨w.heap.size, 1, none⟩ = some (.slice A xs.length c))
    (first | exact q6 | exact q5 | exact q4 | go_keep)
    (first
      | (go_at_call 43; refine (put_callsX _ A2 X2 X4 c2 S.toNat 4 _ _ HX4 rfl rfl (by have := S.isLt; omega) (by omega) (by omega) (by rw [L2.out]; decide) ?_).mono ?_; exact (Bytes.grown Y3.out (Below.drew (Below.refl _ _))); rintro e w4 ⟨A4, c4, rfl, o4, b4⟩; have q4 : w4.cell? ⟨w.heap.size, 1, none⟩ = some (.slice A xs.length c) := (b4.cell (p := ⟨w.heap.size, 1, none⟩) z3).trans k3)
      | (go_at_call 44; refine (sector_callsX _ A4 X4 X5 c4 HX5 ?_ ?_).mono ?_; (rw [L4.out]; decide); exact o4.bytes; rintro e w5 ⟨g5, rfl, o5, b5⟩; have q5 : w5.cell? ⟨w.heap.size, 1, none⟩ = some (.slice A xs.length c) := (b5.cell (p := ⟨w.heap.size, 1, none⟩) (World.block_lt_of_cell? _ _ q4)).trans q4)
      | (refine step_append_full elemB (by rfl) (.tmp 25) (.tmp 27) (by rfl) (by rfl) (Rd.own o5) ?_ ?_ (by rfl) (Bytes.rd (Bytes.grown (Bytes.grown (w := w3.drew) D3.out b4) b5)) ?_ ?_ ?_ ?_ ?_ ?_; (simp [L5.out]); decide; (simp); (rw [HL.out]; decide); (rw [HL.out]; decide); (rw [HL.out]; decide); (rw [HL.out]; decide); intro A6 c6 w6 o6 b6; have q6 : w6.cell? ⟨w.heap.size, 1, none⟩ = some (.slice A xs.length c) := (b6.cell (p := ⟨w.heap.size, 1, none⟩) (World.block_lt_of_cell? _ _ q5)).trans q5))
  go_wp2
  go_ret
  have hx : X = X5 ++ xs := by
    rw [← HX.out]; unfold Jrn.recN
    rw [HS.out, HX2.out, HX4.out, HX5.out]
  have s4 : w3.heap.size ≤ w4.heap.size := b4.size
  have e34 : Below w.heap.size w w4 := B3.out.trans ((show Below w3.heap.size w3 w4 from (Below.refl _ _).drew.trans b4).mono B3.out.size)
  have e35 : Below w.heap.size w w5 := e34.trans (b5.mono e34.size)
  have e36 : Below w.heap.size w w6 := e35.trans (b6.mono e35.size)
  have hlen : (X5 ++ xs).length = 128 + xs.length := by rw [List.length_append, L5.out]
  rw [hx]
  refine ⟨A6, c6, by rw [hlen]; rfl, ?_, e36⟩
  unfold OwnB
  rw [hlen, List.map_append]
  exact own_base o6 e35.size
end Go.Proofs.YtlmlplpbgkbhdaaDoor
