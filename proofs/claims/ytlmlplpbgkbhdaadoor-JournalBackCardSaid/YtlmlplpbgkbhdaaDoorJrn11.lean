/- THE WALK of journal.Bytes. -/
import Derived.Test.YtlmlplpbgkbhdaaDoorJrn10
import Derived.Test.YtlmlplpbgkbhdaaDoorJrnQ
set_option linter.unusedVariables false
set_option linter.unusedSimpArgs false
namespace Hach.Jrn
def recsB (n : Nat) (l : List (Int × List UInt8)) : List UInt8 := l.flatMap fun r => recB r.1 n r.2
def bytesJ (c p : Int) (n : Nat) (l : List (Int × List UInt8)) (b : Bool) : List UInt8 := if goodJ c p l then headB c p n b ++ recsB n l else []
theorem goodL_all {p x : Int} {l : List (Int × List UInt8)} (h : goodL p x l = true) : ∀ r ∈ l, recGood r.1 r.2 = true := by
  induction l generalizing x with
  | nil => intro r hr; simp at hr
  | cons a l ih =>
    obtain ⟨q, D⟩ := a
    simp only [goodL, Bool.and_eq_true] at h
    intro r hr
    rcases List.mem_cons.1 hr with rfl | hr
    · exact h.1.1.1
    · exact ih h.2 r hr
theorem recB_length_good {p : Int} {n : Nat} {D : List UInt8} (h : recGood p D = true) : (recB p n D).length = 640 := by
  unfold recB
  rw [h, if_pos rfl]
  exact (recN_isR p.toNat n D (of_decide_eq_true h).2).1
theorem headB_length {c p : Int} {n : Nat} {b : Bool} (hc : 0 ≤ c ∧ c ≤ 4000) (hp : 0 ≤ p ∧ p ≤ 4000) : (headB c p n b).length = 128 := by
  have h : (headN c.toNat p.toNat n).length = 128 := by
    unfold headN sect
    rw [List.length_append, List.length_replicate]
    have : (headW c.toNat p.toNat n ++ Oct.be (Crc.ofF (headW c.toNat p.toNat n)).toNat 4).length = 26 := by
      unfold headW; simp only [List.length_append, Oct.be_length]; rfl
    omega
  unfold headB
  rw [if_pos ⟨hc, hp⟩]
  split
  · rw [List.length_set]; exact h
  · exact h
end Hach.Jrn
namespace Go.Proofs.YtlmlplpbgkbhdaaDoor
open Go.RowKit Hach

/-- Bytes, handed back to be read. -/
def RetRd (w : World) (X : List UInt8) (en : Ending) (w' : World) : Prop := ∃ A c, en = .returned (.slice A X.length c) ∧ X.length ≤ c ∧ Bytes w' A X ∧ Below w.heap.size w w'

theorem headBytes_calls (w : World) (ht : Hid (TabOk w)) (c p : Int) (n : Nat) (b : Bool) (hn : Hid ((n : Int) < 18446744073709551616)) :
    Calls Tryd.prog 24 #[.agg #[.int .i64 c, .int .i64 p, .int .u64 (n : Int)], .bool b] w (RetE 90 w (Jrn.headB c p n b)) := by
  unfold Jrn.headB
  by_cases h : (0 ≤ c ∧ c ≤ 4000) ∧ (0 ≤ p ∧ p ≤ 4000)
  · rw [if_pos h]
    have := headBytes_good w ht c.toNat p.toNat n b (by omega) (by omega) hn
    rwa [Int.toNat_of_nonneg h.1.1, Int.toNat_of_nonneg h.2.1] at this
  · rw [if_neg h]
    exact headBytes_bad w c p n b h

/-- What Bytes has behind k records: a head alone in a full row, or a row of the call's own. -/
def BytesInv (w2 wr : World) (X : List UInt8) (n : Nat) (l : List (Int × List UInt8)) (k m : Nat) (A' : Option Addr) (c' : Nat) : Prop :=
  ∃ Y, Y = X ++ Jrn.recsB n (l.take k) ∧ (Y.length = m ∧ m = 128 + 640 * k) ∧ m ≤ c' ∧ Bytes wr A' Y ∧ ((m = 128 ∧ c' = 128) ∨ wr.ownsRow w2.heap.size 5 1 (.slice A' m c') m (Y.map byteCell))

set_option maxRecDepth 100000 in
set_option maxHeartbeats 1000000 in
theorem bytes_calls (w : World) (ht : Hid (TabOk w)) (c p : Int) (n : Nat) (b : Bool) (A : Option Addr) (l : List (Int × List UInt8)) (cap : Nat) (hl : Hid (l.length ≤ 1000000)) (hn : Hid ((n : Int) < 18446744073709551616)) (hr : Hid (RecsRd w A l)) :
    Calls Tryd.prog 26 #[.agg #[.int .i64 c, .int .i64 p, .int .u64 (n : Int)], .slice A l.length cap, .bool b] w (RetRd w (Jrn.bytesJ c p n l b)) := by
  obtain ⟨G, hG⟩ : ∃ G, Jrn.goodJ c p l = G := ⟨_, rfl⟩
  obtain ⟨Z, hZ⟩ : ∃ Z, Jrn.bytesJ c p n l b = Z := ⟨_, rfl⟩
  rw [hZ]
  unfold Jrn.bytesJ at hZ
  rw [hG] at hZ
  have HG := hid hG
  have HZ := hid hZ
  clear hG hZ
  have hb : ∀ o, Below w.heap.size w (w.alloc o) := fun o => (Below.refl _ _).alloc (Nat.le_refl _) o
  go_enter Tryd.func26, Tryd.ntmps26
  go_wp2_with fail
  refine (good_callsJ _ c p n A l cap hl (hid (hr.out.grown (hb _)))).mono ?_
  rw [HG.out]
  rintro e w1 ⟨rfl, b1⟩
  have k0 : w1.cell? ⟨w.heap.size, 0, none⟩ = some (.int .i64 c) := by rw [b1.cell (p := ⟨w.heap.size, 0, none⟩) (by simp)]; go_simp
  have k1 : w1.cell? ⟨w.heap.size, 1, none⟩ = some (.int .i64 p) := by rw [b1.cell (p := ⟨w.heap.size, 1, none⟩) (by simp)]; go_simp
  have k2 : w1.cell? ⟨w.heap.size, 2, none⟩ = some (.int .u64 (n : Int)) := by rw [b1.cell (p := ⟨w.heap.size, 2, none⟩) (by simp)]; go_simp
  have B1 := hid ((hb (.cells #[.int .i64 c, .int .i64 p, .int .u64 (n : Int)] 46)).trans (b1.mono (by simp)))
  have z1 : w.heap.size < w1.heap.size := by have := b1.size; simp at this; omega
  clear b1 hb
  cases G with
  | false =>
    simp only [Bool.not_false, Bool.not_true]
    go_wp2
    go_ret
    have hz : Z = [] := HZ.out.symm
    rw [hz]
    exact ⟨none, 0, rfl, Nat.le_refl _, Bytes.nil _ _, B1.out⟩
  | true =>
    simp only [Bool.not_false, Bool.not_true]
    have hz : Jrn.headB c p n b ++ Jrn.recsB n l = Z := HZ.out
    have hgj := HG.out
    unfold Jrn.goodJ at hgj
    simp only [Bool.and_eq_true, decide_eq_true_eq] at hgj
    obtain ⟨⟨⟨hcl, hc⟩, hp⟩, hgl⟩ := hgj
    clear hcl
    have hall := Jrn.goodL_all hgl
    have HALL := hid hall
    have lH := Jrn.headB_length (c := c) (p := p) (n := n) (b := b) hc hp
    obtain ⟨X, hX⟩ : ∃ X, Jrn.headB c p n b = X := ⟨_, rfl⟩
    rw [hX] at lH hz
    have HZ2 := hid hz
    have HX := hid hX
    have LH := hid lH
    clear hX lH hall hgl hc hp HG HZ hz
    go_wp2_with fail
    refine (headBytes_calls w1 (hid (ht.out.below' B1.out)) c p n b hn).mono ?_
    rw [HX.out]
    rintro e w2 ⟨A2, c2, ⟨rfl, hc2⟩, o2, b2⟩
    have k2' : w2.cell? ⟨w.heap.size, 2, none⟩ = some (.int .u64 (n : Int)) := (b2.cell (p := ⟨w.heap.size, 2, none⟩) z1).trans k2
    have B2 := hid (B1.out.trans (b2.mono B1.out.size))
    have R2 := hid (hr.out.grown B2.out)
    have z2 : w.heap.size < w2.heap.size := by have := b2.size; omega
    have Y2 := hid (Rd.bytes (Rd.own o2))
    have T2 := hid (ht.out.below' B2.out)
    rw [LH.out] at hc2 ⊢
    subst hc2
    clear o2 b2 k0 k1 k2 B1 z1
    go_wp2
    go_loopw [7, 19] (fun v i wr => ∃ (k m : Nat) (A' : Option Addr) (c' : Nat), k ≤ l.length ∧ v = .slice A' m c' ∧ i = .int .i64 k ∧ Hid (BytesInv w2 wr X n l k m A' c') ∧ Hid (Below w2.heap.size w2 wr)) (fun _ i _ => l.length - (intOf i).toNat)
    case atStart => exact ⟨0, 128, A2, 128, Nat.zero_le _, rfl, rfl, hid ⟨X, by simp [Jrn.recsB], ⟨LH.out, rfl⟩, Nat.le_refl _, Y2.out, .inl ⟨rfl, rfl⟩⟩, hid (Below.refl _ _)⟩
    case round =>
      obtain ⟨k, m, A', c', hk, rfl, rfl, iv, bw⟩ := hrel
      by_cases hlt : (k : Int) < l.length
      · have hkl : k < l.length := by omega
        obtain ⟨b0, off, Ai, ci, rfl, r1, r2, hB⟩ := (R2.out.grown bw.out) k hkl
        have r3 : wr.cell? ⟨w.heap.size, 2, none⟩ = some (.int .u64 (n : Int)) := (bw.out.cell (p := ⟨w.heap.size, 2, none⟩) z2).trans k2'
        have hgk := HALL.out l[k] (List.getElem_mem hkl)
        have hts : l.take (k + 1) = l.take k ++ [l[k]] := List.take_succ_eq_append_getElem hkl
        generalize l[k] = r at *
        obtain ⟨pg, D⟩ := r
        simp only at r1 r2 hB hgk
        have HT := hid hts
        have lR := Jrn.recB_length_good (n := n) hgk
        obtain ⟨R, hR⟩ : ∃ R, Jrn.recB pg n D = R := ⟨_, rfl⟩
        rw [hR] at lR
        have HR := hid hR
        have LR := hid lR
        have HK := hid hkl
        have sz := bw.out.size
        have hb0 : Below wr.heap.size wr (wr.alloc (.cells #[.int .i64 pg, .slice Ai D.length ci] 36)) := (Below.refl _ _).alloc (Nat.le_refl _) _
        have HB := hid (hB.grown hb0)
        have HW := hid hb0
        have TW := hid ((T2.out.below' bw.out).below' hb0)
        clear hts hgk lR hR hB hkl hb0
        go_wp2_with (with_reducible refine hold_at 24 ?_)
        have f0 : (wr.alloc (.cells #[.int .i64 pg, .slice Ai D.length ci] 36)).cell? ⟨wr.heap.size, 0, none⟩ = some (.int .i64 pg) := by go_simp
        have f1 : (wr.alloc (.cells #[.int .i64 pg, .slice Ai D.length ci] 36)).cell? ⟨wr.heap.size, 1, none⟩ = some (.slice Ai D.length ci) := by go_simp
        have f2 : (wr.alloc (.cells #[.int .i64 pg, .slice Ai D.length ci] 36)).cell? ⟨w.heap.size, 2, none⟩ = some (.int .u64 (n : Int)) := (HW.out.cell (p := ⟨w.heap.size, 2, none⟩) (by show w.heap.size < wr.heap.size; omega)).trans r3
        have fz := HW.out.size
        generalize wr.alloc (.cells #[.int .i64 pg, .slice Ai D.length ci] 36) = W1 at *
        generalize hdl : D.length = dl at *
        have HDL := hid hdl
        clear r1 r2 r3 hlt hk hdl
        refine hid ?_
        go_wp2_with fail
        refine (recordBytes_callsX _ TW pg n dl Ai D R ci HDL HR hn HB).mono ?_
        rintro e w3 ⟨A3, c3, rfl, o3, b3⟩
        unfold OwnB at o3
        rw [LR.out] at o3 ⊢
        have O3 := hid o3
        have B3 := hid (HW.out.trans (b3.mono HW.out.size))
        have z3 := B3.out.size
        obtain ⟨Y, e1, e2, e3, e4, hor⟩ := iv.out
        have E1 := hid e1
        have E2 := hid e2
        have E3 := hid e3
        have E4 := hid (e4.grown B3.out)
        have HOR := hid hor
        have BW := hid bw.out
        have EX : Hid (Y ++ R = X ++ Jrn.recsB n (l.take (k + 1))) := hid (by
          rw [e1, HT.out, Jrn.recsB, Jrn.recsB, List.flatMap_append, List.append_assoc]
          congr 2
          rw [List.flatMap_cons, List.flatMap_nil, List.append_nil]; exact HR.out.symm)
        clear e1 e2 e3 e4 hor iv bw o3 b3 f0 f1 f2 HB HW TW
        go_wp2_with (at_builtin; refine hold ?_)
        rcases HOR.out with ⟨rfl, rfl⟩ | oY
        · refine hid (wl_append_full elemB rfl (.tmp 23) (.tmp 27) rfl rfl E4.out.rd (by rw [List.length_map]; exact E2.out.1) (by omega) rfl (Rd.own O3.out) (by rw [List.length_map]; exact LR.out) (by omega) (by omega) (by simp only [maxLen]; omega) (by omega) ?_)
          intro A4 c4 w4 o4 b4
          have NI : Hid (BytesInv w2 w4 X n l (k + 1) 768 A4 c4) := by
            have hm : (Y ++ R).map byteCell = Y.map byteCell ++ R.map byteCell := List.map_append
            have o4' : w4.ownsRow w2.heap.size 5 1 (.slice A4 768 c4) 768 ((Y ++ R).map byteCell) := by rw [hm]; exact own_base o4 (by omega)
            obtain ⟨_, _, he, hle⟩ := own_form o4'
            injection he with _ _ he
            refine hid ⟨Y ++ R, EX.out, ⟨by rw [List.length_append, E2.out.1, LR.out], by have := E2.out.2; omega⟩, by omega, Rd.bytes (Rd.own o4'), .inr o4'⟩
          have BN := hid (BW.out.trans (B3.out.mono sz |>.trans (b4.mono (by omega))))
          clear o4 b4 B3 O3 E4 BW
          go_wp2
          go_roundw
          case rel => exact ⟨k + 1, 768, A4, c4, HK.out, rfl, (by have := hl.out; have := HK.out; rw [show wrap64 ((k : Int) + 1) = ((k + 1 : Nat) : Int) by unfold wrap64; omega]), NI, BN⟩
          case measure => have := hl.out; have := HK.out; rw [show wrap64 ((k : Int) + 1) = ((k + 1 : Nat) : Int) by unfold wrap64; omega]; simp only [intOf]; omega
        · have oY3 := Fr.own (Fr.of_below B3.out) oY (fun _ _ => id)
          refine hid (wl_append elemB rfl (.tmp 23) (.tmp 27) rfl rfl oY3 rfl (Rd.own O3.out) (by rw [List.length_map]; exact LR.out) (byteCells_one _) (by have := hl.out; have := HK.out; have := E2.out.2; simp only [maxLen]; omega) (by have := hl.out; have := HK.out; have := E2.out.2; omega) (by omega) ?_)
          intro A4 c4 w4 o4 g4 _
          have NI : Hid (BytesInv w2 w4 X n l (k + 1) (m + 640) A4 c4) := by
            have hm : (Y ++ R).map byteCell = Y.map byteCell ++ R.map byteCell := List.map_append
            have o4' : w4.ownsRow w2.heap.size 5 1 (.slice A4 (m + 640) c4) (m + 640) ((Y ++ R).map byteCell) := by rw [hm]; exact o4
            obtain ⟨_, _, he, hle⟩ := own_form o4'
            injection he with _ _ he
            refine hid ⟨Y ++ R, EX.out, ⟨by rw [List.length_append, E2.out.1, LR.out], by have := E2.out.2; omega⟩, by omega, Rd.bytes (Rd.own o4'), .inr o4'⟩
          have BN := hid (below_append (BW.out.trans (B3.out.mono sz)) (Nat.le_refl _) (by omega) oY3 g4)
          clear o4 g4 oY oY3 B3 O3 E4 BW HOR
          go_wp2
          go_roundw
          case rel => exact ⟨k + 1, m + 640, A4, c4, HK.out, rfl, (by have := hl.out; have := HK.out; rw [show wrap64 ((k : Int) + 1) = ((k + 1 : Nat) : Int) by unfold wrap64; omega]), NI, BN⟩
          case measure => have := hl.out; have := HK.out; rw [show wrap64 ((k : Int) + 1) = ((k + 1 : Nat) : Int) by unfold wrap64; omega]; simp only [intOf]; omega
      · obtain rfl : k = l.length := by omega
        obtain ⟨Y, e1, e2, e3, e4, _⟩ := iv.out
        have hz : Z = Y := by rw [← HZ2.out, e1, List.take_length]
        subst hz
        have E2 := hid e2.1
        have E3 := hid e3
        have E4 := hid e4
        clear e1 e2 e3 e4 iv
        go_wp2
        go_ret
        exact ⟨A', c', by rw [E2.out]; rfl, by rw [E2.out]; exact E3.out, E4.out, B2.out.trans (bw.out.mono B2.out.size)⟩
end Go.Proofs.YtlmlplpbgkbhdaaDoor
