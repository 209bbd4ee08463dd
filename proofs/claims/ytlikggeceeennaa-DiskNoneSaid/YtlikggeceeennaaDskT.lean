/- THE WALK of Write, where it goes on. -/
import Derived.Test.YtlikggeceeennaaDskS
set_option linter.unusedVariables false
set_option linter.unusedSimpArgs false
namespace Go.Proofs.Ytlikggeceeennaa
open Go Go.RowKit Go.Maps Hach

def writeV (b : Bool) (a : Nat) (ss : List Sec) (D : DiskV) : DiskV := if isFull b a ss.length D then D else D.setF b (putsF (D.fl b) a ss)
theorem tick_fl' (D : DiskV) (b : Bool) : ((tick D).fl b).now.length = (D.fl b).now.length := by rw [tick_fl]
theorem numTick {D : DiskV} (h : NumOk D) (hb : D.ops + 1 < 1000000000) : NumOk (tick D) :=
  ⟨⟨by show 0 ≤ D.ops + 1; have := h.ops; omega, hb⟩, by
    show 0 ≤ (if 0 < D.armed then D.armed - 1 else D.armed) ∧ (if 0 < D.armed then D.armed - 1 else D.armed) < 1000000000
    have := h.armed
    split <;> omega, h.size⟩
set_option maxRecDepth 100000 in
set_option maxHeartbeats 2000000 in
theorem writeO_calls (w : World) (base d : Nat) (p : DiskP) (D : DiskV) (b : Bool) (a m bb bp cap : Nat) (ss : List Sec) (h : Hid (DiskAt w base d p D)) (ho : Hid (D.on = true)) (hn : Hid (NumOk D ∧ D.ops + 1 < 1000000000)) (hkl : Hid (D.keep.length < 1000000)) (ha : Hid (a ≤ (D.fl b).now.length)) (hm : Hid (1 ≤ m ∧ m < 100000 ∧ m * 128 ≤ cap))
    (hs : Hid (ss.length = m ∧ Whole ss ∧ ∀ j s, ss[j]? = some s → ByteRow w bb (bp + j * 128) s)) :
    Calls Try.prog 45 #[.pointer (some ⟨d, 0, none⟩), .int .i64 (idx b), .int .i64 a, .slice (some ⟨bb, bp, none⟩) (m * 128) cap] w (StepF w (foot d p D) base d (opV D (writeV b a ss (tick D))) (.int .i64 (opR D (if isFull b a m (tick D) then 3 else 0)))) := by
  obtain ⟨o, hoo⟩ : ∃ o, off b = o := ⟨_, rfl⟩
  have CF := fileB_calls (wb4 w d (idx b) a (.slice (some ⟨bb, bp, none⟩) (m * 128) cap)) base d D b (hid ⟨p, h.out.up (wb_up4 w d (idx b) a (.slice (some ⟨bb, bp, none⟩) (m * 128) cap))⟩) ho.out
  rw [hoo] at CF
  have UC := (wb_up5 w d (idx b) a (.slice (some ⟨bb, bp, none⟩) (m * 128) cap) (.pointer (some ⟨d, o, none⟩))).t (Up.drew _)
  have F0 := (h.out.up UC).fileB b
  rw [hoo] at F0
  have e0 := F0.cell0.1
  obtain ⟨len, hlen⟩ : ∃ z, (D.fl b).now.length = z := ⟨_, rfl⟩
  rw [hlen] at e0
  obtain ⟨s1, s2, s3, s4, s5⟩ := wb_sizes w d (idx b) a (.slice (some ⟨bb, bp, none⟩) (m * 128) cap) (.pointer (some ⟨d, o, none⟩))
  obtain ⟨b1, b2, b3, b4, b5⟩ := wb_boxes w d (idx b) a (.slice (some ⟨bb, bp, none⟩) (m * 128) cap) (.pointer (some ⟨d, o, none⟩))
  have a1 := box_cell b1
  have a3 := box_cell b3
  have a4 := box_cell b4
  have a5 := box_cell b5
  have hdw := (Array.getElem?_eq_some_iff.1 h.out.own).1
  have OP := op_calls (wb5 w d (idx b) a (.slice (some ⟨bb, bp, none⟩) (m * 128) cap) (.pointer (some ⟨d, o, none⟩))).drew base d p D (hid (h.out.up UC)) ho (hid hn.out.1) hkl 102 #[.pointer (some ⟨w.heap.size, 0, none⟩), .pointer (some ⟨w.heap.size + 1, 0, none⟩), .pointer (some ⟨w.heap.size + 1 + 1, 0, none⟩), .pointer (some ⟨w.heap.size + 1 + 1 + 1, 0, none⟩), .pointer (some ⟨w.heap.size + 1 + 1 + 1 + 1, 0, none⟩)] write1_ent (if isFull b a m (tick D) then 3 else 0) (writeV b a ss (tick D)) (hid fun w1 h1 f1 => by
    have hz : (wb5 w d (idx b) a (.slice (some ⟨bb, bp, none⟩) (m * 128) cap) (.pointer (some ⟨d, o, none⟩))).drew.heap.size = w.heap.size + 1 + 1 + 1 + 1 + 1 := s5
    unfold writeV
    rw [hs.out.1]
    refine write1_calls w1 base d p (tick D) b a m cap bb bp w.heap.size (w.heap.size + 1) (w.heap.size + 1 + 1) (w.heap.size + 1 + 1 + 1) (w.heap.size + 1 + 1 + 1 + 1) ss (hid h1) (hid (numTick hn.out.1 hn.out.2)) (hid ⟨?_, ?_, ?_, ?_, ?_⟩) (hid (by rw [tick_fl']; exact ha.out)) hm (hid ⟨hs.out.1, hs.out.2.1, fun j s hj => ?_⟩)
    · exact (f1.block _ (by omega) (by omega)).trans b1
    · exact (f1.block _ (by omega) (by omega)).trans b2
    · exact (f1.block _ (by omega) (by omega)).trans b3
    · exact (f1.block _ (by omega) (by omega)).trans b4
    · rw [hoo]; exact (f1.block _ (by omega) (by omega)).trans b5
    · have hB := hs.out.2.2 j s hj
      exact (hB.up UC).fr f1 (fun e => by
        have h9 := (hB.ne h.out.file0).1
        exact h9 e))
  have hL : ¬ m * 128 = 0 := by have := hm.out; omega
  have hmod : ((m * 128 : Nat) : Int).tmod 128 = 0 := by
    show ((m * 128 : Nat) : Int).tmod ((128 : Nat) : Int) = 0
    rw [← Int.ofNat_tmod, Nat.mul_mod_left]; rfl
  obtain ⟨L, hLL⟩ : ∃ L, m * 128 = L := ⟨_, rfl⟩
  rw [hLL] at CF OP a4 hL hmod ⊢
  rw [hLL] at UC
  have hwlen : Hid (wb5 w d (idx b) a (.slice (some ⟨bb, bp, none⟩) L cap) (.pointer (some ⟨d, o, none⟩)) = wb5 w d (idx b) a (.slice (some ⟨bb, bp, none⟩) L cap) (.pointer (some ⟨d, o, none⟩))) := hid rfl
  have t0 : ¬ (a : Int) < 0 := by omega
  have t1 : ¬ (len : Int) < (a : Int) := by have := ha.out; omega
  rw [hLL] at e0 a1 a3 a5
  clear b1 b2 b3 b4 b5 s1 s2 s3 s4 s5 F0 hoo hlen hwlen hdw hLL
  generalize idx b = ib at *
  generalize (a : Int) = ai at CF OP UC e0 a1 a3 a4 a5 t0 t1 ⊢
  have CF' := CF
  clear CF
  unfold wb4 wb3 wb2 wb1 at CF'
  have T0 := hid t0
  have T1 := hid t1
  clear t0 t1
  have E0 := hid e0
  have A1 := hid a1
  have A3 := hid a3
  have A4 := hid a4
  have A5 := hid a5
  obtain ⟨RN, hRN⟩ : ∃ r, opR D (if isFull b a m (tick D) then 3 else 0) = r := ⟨_, rfl⟩
  rw [hRN] at OP ⊢
  clear hRN
  have OP := hid OP
  have UC := hid UC
  clear e0 a1 a3 a4 a5
  go_enter Try.func45, Try.ntmps45
  go_wp2_with (go_at_call 100; refine CF'.mono ?_; rintro e w' ⟨rfl, rfl⟩)
  clear CF'
  change Code.wp Try.prog _ _ _ (wb5 w d ib ai (.slice (some ⟨bb, bp, none⟩) L cap) (.pointer (some ⟨d, o, none⟩)))
  have e0 := E0.out
  have a1 := A1.out
  have a3 := A3.out
  have a4 := A4.out
  have a5 := A5.out
  generalize wb5 w d ib ai (.slice (some ⟨bb, bp, none⟩) L cap) (.pointer (some ⟨d, o, none⟩)) = w5 at *
  generalize w.heap.size = z at *
  have a1' : w5.drew.cell? ⟨z, 0, none⟩ = _ := a1
  have a3' : w5.drew.cell? ⟨z + 1 + 1, 0, none⟩ = _ := a3
  have a4' : w5.drew.cell? ⟨z + 1 + 1 + 1, 0, none⟩ = _ := a4
  have a5' : w5.drew.cell? ⟨z + 1 + 1 + 1 + 1, 0, none⟩ = _ := a5
  clear E0 A1 A3 A4 A5
  have t0 : ¬ ai < 0 := by have := T0.out; omega
  have t1 : ¬ (len : Int) < ai := by have := T1.out; omega
  go_region
  all_goals
    go_wp2_with (go_at_call 101; refine OP.out.mono ?_; rintro e w6 ⟨rfl, hh⟩)
    go_ret
    exact ⟨rfl, hid (hh.out.pre UC.out)⟩
end Go.Proofs.Ytlikggeceeennaa
