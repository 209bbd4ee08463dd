/- THE WALKS of the document's Good and Bytes. -/
import Derived.Test.YtlmlplpbgkbhdaaDoorJrn11
import Derived.Test.YtlmlplpbgkbhdaaDoorRef3
set_option linter.unusedVariables false
set_option linter.unusedSimpArgs false
namespace Go.Proofs.YtlmlplpbgkbhdaaDoor
open Go.RowKit Hach

set_option maxRecDepth 100000 in
set_option maxHeartbeats 1000000 in
theorem refGood_calls (w : World) (c p n : Int) (A : Option Addr) (l : List (Int × List UInt8)) (cap : Nat) (hl : Hid (l.length ≤ 1000000)) (hr : Hid (RecsRd w A l)) :
    Calls Tryd.prog 29 #[.agg #[.int .i64 c, .int .i64 p, .int .u64 n], .slice A l.length cap] w fun e w' => e = .returned (.bool (Jrn.goodJ c p l)) ∧ Below w.heap.size w w' := by
  obtain ⟨G, hG⟩ : ∃ G, Jrn.goodJ c p l = G := ⟨_, rfl⟩
  rw [hG]
  have HG := hid hG
  clear hG
  have hb : ∀ o, Below w.heap.size w (w.alloc o) := fun o => (Below.refl _ _).alloc (Nat.le_refl _) o
  by_cases h1 : c = l.length
  · subst h1
    by_cases h2 : (4000 : Int) < (l.length : Int)
    · have hG : G = false := by rw [← HG.out]; unfold Jrn.goodJ; rw [decide_eq_false (show ¬ (0 ≤ (l.length : Int) ∧ (l.length : Int) ≤ 4000) by omega)]; simp
      subst hG
      clear HG
      go_enter Tryd.func29, Tryd.ntmps29
      go_wp2
      go_ret
      exact ⟨rfl, hb _⟩
    · by_cases h3 : p < 0
      · have hG : G = false := by rw [← HG.out]; unfold Jrn.goodJ; rw [decide_eq_false (show ¬ (0 ≤ p ∧ p ≤ 4000) by omega)]; simp
        subst hG
        clear HG
        go_enter Tryd.func29, Tryd.ntmps29
        go_wp2
        go_ret
        exact ⟨rfl, hb _⟩
      · by_cases h4 : 4000 < p
        · have hG : G = false := by rw [← HG.out]; unfold Jrn.goodJ; rw [decide_eq_false (show ¬ (0 ≤ p ∧ p ≤ 4000) by omega)]; simp
          subst hG
          clear HG
          go_enter Tryd.func29, Tryd.ntmps29
          go_wp2
          go_ret
          exact ⟨rfl, hb _⟩
        · have hG : Jrn.goodL p 0 l = G := by rw [← HG.out]; unfold Jrn.goodJ; rw [decide_eq_true rfl, decide_eq_true (show 0 ≤ (l.length : Int) ∧ (l.length : Int) ≤ 4000 by omega), decide_eq_true (show 0 ≤ p ∧ p ≤ 4000 by omega)]; rfl
          have HG2 := hid hG
          have HP := hid (show p ≤ 4000 by omega)
          clear HG hG
          go_enter Tryd.func29, Tryd.ntmps29
          go_wp2
          have q1 : (w.alloc (Obj.cells #[Value.int IntKind.i64 (l.length : Int), Value.int IntKind.i64 p, Value.int IntKind.u64 n] 47)).cell? ⟨w.heap.size, 1, none⟩ = some (.int .i64 p) := by go_simp
          have b0 := hb (Obj.cells #[Value.int IntKind.i64 (l.length : Int), Value.int IntKind.i64 p, Value.int IntKind.u64 n] 47)
          have zW : w.heap.size < (w.alloc (Obj.cells #[Value.int IntKind.i64 (l.length : Int), Value.int IntKind.i64 p, Value.int IntKind.u64 n] 47)).heap.size := by simp
          have rW := hid (hr.out.grown b0)
          generalize w.alloc (Obj.cells #[Value.int IntKind.i64 (l.length : Int), Value.int IntKind.i64 p, Value.int IntKind.u64 n] 47) = W at *
          have B0 := hid b0
          clear b0 hb hr h2 h3 h4
          go_loopw [5, 30] (fun v i wr => ∃ (k : Nat) (x : Int), k ≤ l.length ∧ v = .int .i64 x ∧ i = .int .i64 k ∧ Hid (0 ≤ x ∧ Jrn.goodL p x (l.drop k) = G) ∧ Hid (Below W.heap.size W wr)) (fun _ i _ => l.length - (intOf i).toNat)
          case atStart => exact ⟨0, 0, Nat.zero_le _, rfl, rfl, hid ⟨Int.le_refl _, HG2.out⟩, hid (Below.refl _ _)⟩
          case round =>
            obtain ⟨k, x, hk, rfl, rfl, hg, bw⟩ := hrel
            by_cases hlt : (k : Int) < l.length
            · have hkl : k < l.length := by omega
              obtain ⟨b, off, Ai, ci, rfl, r1, r2, _⟩ := (rW.out.grown bw.out) k hkl
              have r3 : wr.cell? ⟨w.heap.size, 1, none⟩ = some (.int .i64 p) := (bw.out.cell (p := ⟨w.heap.size, 1, none⟩) zW).trans q1
              have hd : l.drop k = l[k] :: l.drop (k + 1) := List.drop_eq_getElem_cons hkl
              have hg1 := hg.out.2
              have hx0 := hid hg.out.1
              rw [hd] at hg1
              generalize l[k] = r at *
              obtain ⟨pg, D⟩ := r
              simp only at r1 r2
              have hgs : ((Jrn.recGood pg D && decide (x < pg) && decide (pg ≤ p)) && Jrn.goodL p pg (l.drop (k + 1))) = G := hg1
              unfold Jrn.recGood at hgs
              generalize hdl : D.length = dl at *
              have HGS := hid hgs
              have HK := hid hkl
              have sz := bw.out.size
              have b3 : Below wr.heap.size wr (wr.alloc (.cells #[.int .i64 pg, .slice Ai dl ci] 49)) := (Below.refl _ _).alloc (Nat.le_refl _) _
              have BW := hid (bw.out.trans (b3.mono bw.out.size))
              clear hg hg1 hd hgs HG2 hkl hdl
              go_wp2_with (with_reducible refine hold_at 34 ?_)
              have f0 : (wr.alloc (.cells #[.int .i64 pg, .slice Ai dl ci] 49)).cell? ⟨wr.heap.size, 0, none⟩ = some (.int .i64 pg) := by go_simp
              have f1 : (wr.alloc (.cells #[.int .i64 pg, .slice Ai dl ci] 49)).cell? ⟨wr.heap.size, 1, none⟩ = some (.slice Ai dl ci) := by go_simp
              have f2 : (wr.alloc (.cells #[.int .i64 pg, .slice Ai dl ci] 49)).cell? ⟨w.heap.size, 1, none⟩ = some (.int .i64 p) := (b3.cell (p := ⟨w.heap.size, 1, none⟩) (by show w.heap.size < wr.heap.size; omega)).trans r3
              generalize wr.alloc (.cells #[.int .i64 pg, .slice Ai dl ci] 49) = W1 at *
              clear r1 r2 r3 b3 hlt hk
              refine hid ?_
              by_cases hx : pg ≤ x
              · have hG : false = G := by rw [← HGS.out, decide_eq_false (show ¬ x < pg by omega)]; simp
                subst hG
                go_wp2
                go_ret
                exact ⟨rfl, B0.out.trans (BW.out.mono B0.out.size)⟩
              · by_cases hp : p < pg
                · have hG : false = G := by rw [← HGS.out, decide_eq_false (show ¬ pg ≤ p by omega)]; simp
                  subst hG
                  go_wp2
                  go_ret
                  exact ⟨rfl, B0.out.trans (BW.out.mono B0.out.size)⟩
                · by_cases h5 : dl = 512
                  · have hG : Jrn.goodL p pg (l.drop (k + 1)) = G := by
                      have := hx0.out; have := HP.out
                      rw [← HGS.out, decide_eq_true (show x < pg by omega), decide_eq_true (show pg ≤ p by omega), decide_eq_true (show (1 ≤ pg ∧ pg ≤ 4000) ∧ dl = 512 from ⟨by omega, h5⟩)]; rfl
                    have HG3 := hid hG
                    have hpg := hid (show 0 ≤ pg by have := hx0.out; omega)
                    clear hG HGS
                    subst h5
                    go_wp2
                    go_roundw
                    case rel => exact ⟨k + 1, pg, HK.out, rfl, (by have := hl.out; have := HK.out; rw [show wrap64 ((k : Int) + 1) = ((k + 1 : Nat) : Int) by unfold wrap64; omega]), hid ⟨hpg.out, HG3.out⟩, BW⟩
                    case measure => have := hl.out; have := HK.out; rw [show wrap64 ((k : Int) + 1) = ((k + 1 : Nat) : Int) by unfold wrap64; omega]; simp only [intOf]; omega
                  · have hG : false = G := by rw [← HGS.out, decide_eq_false (show ¬ ((1 ≤ pg ∧ pg ≤ 4000) ∧ dl = 512) from fun h => h5 h.2)]; simp
                    subst hG
                    have d5 : ((dl : Int) == 512) = false := by rw [beq_eq_false_iff_ne]; omega
                    clear h5 HGS
                    go_wp2
                    go_ret
                    exact ⟨rfl, B0.out.trans (BW.out.mono B0.out.size)⟩
            · obtain rfl : k = l.length := by omega
              have hG : true = G := by rw [← hg.out.2, List.drop_length]; rfl
              subst hG
              go_wp2
              go_ret
              exact ⟨rfl, B0.out.trans (bw.out.mono B0.out.size)⟩
  · have hG : G = false := by rw [← HG.out]; unfold Jrn.goodJ; rw [decide_eq_false h1]; rfl
    subst hG
    have d1 : (c == (l.length : Int)) = false := by rw [beq_eq_false_iff_ne]; exact h1
    go_enter Tryd.func29, Tryd.ntmps29
    go_wp2
    go_ret
    exact ⟨rfl, hb _⟩
end Go.Proofs.YtlmlplpbgkbhdaaDoor
