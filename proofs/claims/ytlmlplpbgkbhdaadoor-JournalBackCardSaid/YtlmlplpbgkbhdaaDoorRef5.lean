/- THE WALK of the document's Bytes. -/
import Derived.Test.YtlmlplpbgkbhdaaDoorRef4
set_option linter.unusedVariables false
set_option linter.unusedSimpArgs false
namespace Go.Proofs.YtlmlplpbgkbhdaaDoor
open Go.RowKit Hach

theorem refRec_callsX (w : World) (page : Int) (n k : Nat) (A : Option Addr) (xs R : List UInt8) (c : Nat) (hk : Hid (xs.length = k)) (hR : Hid (Jrn.recB page n xs = R)) (hn : Hid ((n : Int) < 18446744073709551616)) (hc : Hid (Bytes w A xs)) :
    Calls Tryd.prog 22 #[.agg #[.int .i64 page, .slice A k c], .int .u64 (n : Int)] w (RetB w R) := by
  have := refRec_calls w page n A xs c hn hc
  rwa [hk.out, hR.out] at this

/-- What Bytes has behind k records: a row of the call's own. -/
def RefInv (wr : World) (base : Nat) (X : List UInt8) (n : Nat) (l : List (Int × List UInt8)) (k m : Nat) (A' : Option Addr) (c' : Nat) : Prop :=
  ∃ Y, Y = X ++ Jrn.recsB n (l.take k) ∧ (Y.length = m ∧ m = 128 + 640 * k) ∧ m ≤ c' ∧ wr.ownsRow base 5 1 (.slice A' m c') m (Y.map byteCell)

set_option maxRecDepth 100000 in
set_option maxHeartbeats 1000000 in
theorem refBytes_calls (w : World) (c p : Int) (n : Nat) (b : Bool) (A : Option Addr) (l : List (Int × List UInt8)) (cap : Nat) (hl : Hid (l.length ≤ 1000000)) (hn : Hid ((n : Int) < 18446744073709551616)) (hr : Hid (RecsRd w A l)) :
    Calls Tryd.prog 27 #[.agg #[.int .i64 c, .int .i64 p, .int .u64 (n : Int)], .slice A l.length cap, .bool b] w (RetRd w (Jrn.bytesJ c p n l b)) := by
  obtain ⟨G, hG⟩ : ∃ G, Jrn.goodJ c p l = G := ⟨_, rfl⟩
  obtain ⟨Z, hZ⟩ : ∃ Z, Jrn.bytesJ c p n l b = Z := ⟨_, rfl⟩
  rw [hZ]
  unfold Jrn.bytesJ at hZ
  rw [hG] at hZ
  have HG := hid hG
  have HZ := hid hZ
  clear hG hZ
  have hb : ∀ o, Below w.heap.size w (w.alloc o) := fun o => (Below.refl _ _).alloc (Nat.le_refl _) o
  go_enter Tryd.func27, Tryd.ntmps27
  go_wp2_with fail
  refine (refGood_calls _ c p n A l cap hl (hid (hr.out.grown (hb _)))).mono ?_
  rw [HG.out]
  rintro e w1 ⟨rfl, b1⟩
  have k0 : w1.cell? ⟨w.heap.size, 0, none⟩ = some (.int .i64 c) := by rw [b1.cell (p := ⟨w.heap.size, 0, none⟩) (by simp)]; go_simp
  have k1 : w1.cell? ⟨w.heap.size, 1, none⟩ = some (.int .i64 p) := by rw [b1.cell (p := ⟨w.heap.size, 1, none⟩) (by simp)]; go_simp
  have k2 : w1.cell? ⟨w.heap.size, 2, none⟩ = some (.int .u64 (n : Int)) := by rw [b1.cell (p := ⟨w.heap.size, 2, none⟩) (by simp)]; go_simp
  have B1 := hid ((hb (.cells #[.int .i64 c, .int .i64 p, .int .u64 (n : Int)] 47)).trans (b1.mono (by simp)))
  have z1 : w.heap.size < w1.heap.size := by have := b1.size; simp at this; omega
  clear b1 hb
  cases G with
  | false =>
    simp only [Bool.not_false, Bool.not_true]
    go_wp2
    go_ret
    have hz : Z = [] := HZ.out.symm
    rw [hz]
    exact ⟨none, 0, rfl, Nat.le_refl _, Bytes.nil _ _, B1.out⟩
  | true =>
    simp only [Bool.not_false, Bool.not_true]
    have hz : Jrn.headB c p n b ++ Jrn.recsB n l = Z := HZ.out
    have hgj := HG.out
    unfold Jrn.goodJ at hgj
    simp only [Bool.and_eq_true, decide_eq_true_eq] at hgj
    obtain ⟨⟨⟨hcl, hc⟩, hp⟩, hgl⟩ := hgj
    clear hcl
    have hall := Jrn.goodL_all hgl
    have HALL := hid hall
    have lH := Jrn.headB_length (c := c) (p := p) (n := n) (b := b) hc hp
    obtain ⟨X, hX⟩ : ∃ X, Jrn.headB c p n b = X := ⟨_, rfl⟩
    rw [hX] at lH hz
    have HZ2 := hid hz
    have HX := hid hX
    have LH := hid lH
    clear hX lH hall hgl hc hp HG HZ hz
    go_wp2_with fail
    refine (refHead_calls w1 c p n b hn).mono ?_
    rw [HX.out]
    rintro e w2 ⟨A2, c2, rfl, o2, b2⟩
    unfold OwnB at o2
    rw [LH.out] at o2 ⊢
    have hc2 : 128 ≤ c2 := by
      obtain ⟨_, _, he, hle⟩ := own_form o2
      injection he with _ _ he
      omega
    have R1 := hid (hr.out.grown B1.out)
    have Y2 := hid (show RefInv w2 w1.heap.size X n l 0 128 A2 c2 from ⟨X, by simp [Jrn.recsB], ⟨LH.out, rfl⟩, hc2, o2⟩)
    have BA := hid b2
    clear o2 b2 k0 k1 hc2
    go_wp2
    go_loopw [7, 19] (fun v i wr => ∃ (k m : Nat) (A' : Option Addr) (c' : Nat), k ≤ l.length ∧ v = .slice A' m c' ∧ i = .int .i64 k ∧ Hid (RefInv wr w1.heap.size X n l k m A' c') ∧ Hid (Below w1.heap.size w1 wr)) (fun _ i _ => l.length - (intOf i).toNat)
    case atStart => exact ⟨0, 128, A2, c2, Nat.zero_le _, rfl, rfl, Y2, BA⟩
    case round =>
      obtain ⟨k, m, A', c', hk, rfl, rfl, iv, bw⟩ := hrel
      by_cases hlt : (k : Int) < l.length
      · have hkl : k < l.length := by omega
        obtain ⟨b0, off, Ai, ci, rfl, r1, r2, hB⟩ := (R1.out.grown bw.out) k hkl
        have r3 : wr.cell? ⟨w.heap.size, 2, none⟩ = some (.int .u64 (n : Int)) := (bw.out.cell (p := ⟨w.heap.size, 2, none⟩) z1).trans k2
        have hgk := HALL.out l[k] (List.getElem_mem hkl)
        have hts : l.take (k + 1) = l.take k ++ [l[k]] := List.take_succ_eq_append_getElem hkl
        generalize l[k] = r at *
        obtain ⟨pg, D⟩ := r
        simp only at r1 r2 hB hgk
        have HT := hid hts
        have lR := Jrn.recB_length_good (n := n) hgk
        obtain ⟨R, hR⟩ : ∃ R, Jrn.recB pg n D = R := ⟨_, rfl⟩
        rw [hR] at lR
        have HR := hid hR
        have LR := hid lR
        have HK := hid hkl
        have sz := bw.out.size
        have hb0 : Below wr.heap.size wr (wr.alloc (.cells #[.int .i64 pg, .slice Ai D.length ci] 49)) := (Below.refl _ _).alloc (Nat.le_refl _) _
        have HB := hid (hB.grown hb0)
        have HW := hid hb0
        clear hts hgk lR hR hB hkl hb0
        go_wp2_with (with_reducible refine hold_at 24 ?_)
        have f0 : (wr.alloc (.cells #[.int .i64 pg, .slice Ai D.length ci] 49)).cell? ⟨wr.heap.size, 0, none⟩ = some (.int .i64 pg) := by go_simp
        have f1 : (wr.alloc (.cells #[.int .i64 pg, .slice Ai D.length ci] 49)).cell? ⟨wr.heap.size, 1, none⟩ = some (.slice Ai D.length ci) := by go_simp
        have f2 : (wr.alloc (.cells #[.int .i64 pg, .slice Ai D.length ci] 49)).cell? ⟨w.heap.size, 2, none⟩ = some (.int .u64 (n : Int)) := (HW.out.cell (p := ⟨w.heap.size, 2, none⟩) (by show w.heap.size < wr.heap.size; omega)).trans r3
        have fz := HW.out.size
        generalize wr.alloc (.cells #[.int .i64 pg, .slice Ai D.length ci] 49) = W1 at *
        generalize hdl : D.length = dl at *
        have HDL := hid hdl
        clear r1 r2 r3 hlt hk hdl
        refine hid ?_
        go_wp2_with fail
        refine (refRec_callsX _ pg n dl Ai D R ci HDL HR hn HB).mono ?_
        rintro e w3 ⟨A3, c3, rfl, o3, b3⟩
        unfold OwnB at o3
        rw [LR.out] at o3 ⊢
        have O3 := hid o3
        have B3 := hid (HW.out.trans (b3.mono HW.out.size))
        have z3 := B3.out.size
        obtain ⟨Y, e1, e2, e3, oY⟩ := iv.out
        have E2 := hid e2
        have BW := hid bw.out
        have EX : Hid (Y ++ R = X ++ Jrn.recsB n (l.take (k + 1))) := hid (by
          rw [e1, HT.out, Jrn.recsB, Jrn.recsB, List.flatMap_append, List.append_assoc]
          congr 2
          rw [List.flatMap_cons, List.flatMap_nil, List.append_nil]; exact HR.out.symm)
        have oY3 := Fr.own (Fr.of_below B3.out) oY (fun _ _ => id)
        have OY := hid oY3
        clear e1 e2 e3 oY oY3 iv bw o3 b3 f0 f1 f2 HB HW
        go_wp2_with (at_builtin; refine hold ?_)
        refine hid (wl_append elemB rfl (.tmp 23) (.tmp 27) rfl rfl OY.out rfl (Rd.own O3.out) (by rw [List.length_map]; exact LR.out) (byteCells_one _) (by have := hl.out; have := HK.out; have := E2.out.2; simp only [maxLen]; omega) (by have := hl.out; have := HK.out; have := E2.out.2; omega) (by omega) ?_)
        intro A4 c4 w4 o4 g4 _
        have NI : Hid (RefInv w4 w1.heap.size X n l (k + 1) (m + 640) A4 c4) := by
          have hm : (Y ++ R).map byteCell = Y.map byteCell ++ R.map byteCell := List.map_append
          have o4' : w4.ownsRow w1.heap.size 5 1 (.slice A4 (m + 640) c4) (m + 640) ((Y ++ R).map byteCell) := by rw [hm]; exact o4
          obtain ⟨_, _, he, hle⟩ := own_form o4'
          injection he with _ _ he
          refine hid ⟨Y ++ R, EX.out, ⟨by rw [List.length_append, E2.out.1, LR.out], by have := E2.out.2; omega⟩, by omega, o4'⟩
        have BN := hid (below_append (BW.out.trans (B3.out.mono sz)) (Nat.le_refl _) (by omega) OY.out g4)
        clear o4 g4 OY B3 O3 BW
        go_wp2
        go_roundw
        case rel => exact ⟨k + 1, m + 640, A4, c4, HK.out, rfl, (by have := hl.out; have := HK.out; rw [show wrap64 ((k : Int) + 1) = ((k + 1 : Nat) : Int) by unfold wrap64; omega]), NI, BN⟩
        case measure => have := hl.out; have := HK.out; rw [show wrap64 ((k : Int) + 1) = ((k + 1 : Nat) : Int) by unfold wrap64; omega]; simp only [intOf]; omega
      · obtain rfl : k = l.length := by omega
        obtain ⟨Y, e1, e2, e3, e4⟩ := iv.out
        have hz : Z = Y := by rw [← HZ2.out, e1, List.take_length]
        subst hz
        have E2 := hid e2.1
        have E3 := hid e3
        have E4 := hid (Rd.bytes (Rd.own e4))
        clear e1 e2 e3 e4 iv
        go_wp2
        go_ret
        exact ⟨A', c', by rw [E2.out]; rfl, by rw [E2.out]; exact E3.out, E4.out, B1.out.trans (bw.out.mono B1.out.size)⟩
end Go.Proofs.YtlmlplpbgkbhdaaDoor
