/- Records, read; THE WALK of journal.Good. -/
import Derived.Test.YtlmlplpbgkbhdaaDoorJrn7
set_option linter.unusedVariables false
set_option linter.unusedSimpArgs false
namespace Hach.Jrn
/-- Good, from a last page on. -/
def goodL (pages : Int) : Int → List (Int × List UInt8) → Bool
  | _, [] => true
  | last, (p, D) :: l => (recGood p D && decide (last < p) && decide (p ≤ pages)) && goodL pages p l
def goodJ (c p : Int) (l : List (Int × List UInt8)) : Bool := (decide (c = l.length) && decide (0 ≤ c ∧ c ≤ 4000) && decide (0 ≤ p ∧ p ≤ 4000)) && goodL p 0 l
end Hach.Jrn
namespace Go.Proofs.YtlmlplpbgkbhdaaDoor
open Go.RowKit Hach

/-- Records in a row, read. -/
def RecsRd (w : World) (A : Option Addr) (l : List (Int × List UInt8)) : Prop :=
  ∀ i (h : i < l.length), ∃ b off Ai ci, A = some ⟨b, off, none⟩ ∧ w.cell? ⟨b, off + i * 2, none⟩ = some (.int .i64 l[i].1) ∧ w.cell? ⟨b, off + i * 2 + 1, none⟩ = some (.slice Ai l[i].2.length ci) ∧ Bytes w Ai l[i].2

theorem RecsRd.grown {w w' : World} {A : Option Addr} {l : List (Int × List UInt8)} (h : RecsRd w A l) (hb : Below w.heap.size w w') : RecsRd w' A l := by
  intro i hi
  obtain ⟨b, off, Ai, ci, e, h1, h2, h3⟩ := h i hi
  have hlt := World.block_lt_of_cell? _ _ h1
  exact ⟨b, off, Ai, ci, e, (hb.cell (p := ⟨b, off + i * 2, none⟩) hlt).trans h1, (hb.cell (p := ⟨b, off + i * 2 + 1, none⟩) hlt).trans h2, h3.grown hb⟩

theorem RecsRow.rd {w : World} {base : Nat} {e : TypeId} {A : Option Addr} {n c : Nat} {l : List (Int × List UInt8)} {xs : List Value} (ho : w.ownsRow base e 2 (.slice A n c) n xs) (hr : RecsRow w base l xs) : RecsRd w A l := by
  intro i hi
  obtain ⟨h1, Ai, ci, h2, o⟩ := hr.get i hi
  have rd := Rd.own ho
  obtain ⟨b, off, e1, q1⟩ := rd _ _ h1
  obtain ⟨b', off', e2, q2⟩ := rd _ _ h2
  rw [e1] at e2
  injection e2 with e2; injection e2 with e2 e3; subst e2; subst e3
  exact ⟨b, off, Ai, ci, e1, q1, q2, o.bytes⟩

set_option maxRecDepth 100000 in
set_option maxHeartbeats 1000000 in
theorem good_callsJ (w : World) (c p n : Int) (A : Option Addr) (l : List (Int × List UInt8)) (cap : Nat) (hl : Hid (l.length ≤ 1000000)) (hr : Hid (RecsRd w A l)) :
    Calls Tryd.prog 28 #[.agg #[.int .i64 c, .int .i64 p, .int .u64 n], .slice A l.length cap] w fun e w' => e = .returned (.bool (Jrn.goodJ c p l)) ∧ Below w.heap.size w w' := by
  obtain ⟨G, hG⟩ : ∃ G, Jrn.goodJ c p l = G := ⟨_, rfl⟩
  rw [hG]
  have HG := hid hG
  clear hG
  have hb : ∀ o, Below w.heap.size w (w.alloc o) := fun o => (Below.refl _ _).alloc (Nat.le_refl _) o
  by_cases h1 : c = l.length
  · subst h1
    by_cases h2 : 0 ≤ (l.length : Int) ∧ (l.length : Int) ≤ 4000
    · have d2 : decide (0 ≤ (l.length : Int) ∧ (l.length : Int) ≤ 4000) = true := decide_eq_true h2
      have H2 := hid h2
      clear h2
      by_cases h3 : 0 ≤ p ∧ p ≤ 4000
      · have d3 : decide (0 ≤ p ∧ p ≤ 4000) = true := decide_eq_true h3
        have hG : Jrn.goodL p 0 l = G := by rw [← HG.out]; unfold Jrn.goodJ; rw [decide_eq_true rfl, decide_eq_true H2.out, decide_eq_true h3]; rfl
        have HG2 := hid hG
        clear h3 HG H2 hG
        go_enter Tryd.func28, Tryd.ntmps28
        go_wp2_with fail
        refine (within_calls (l.length : Int) _).mono ?_
        rw [d2]
        rintro e w' ⟨rfl, rfl⟩
        go_wp2_with fail
        refine (within_calls p _).mono ?_
        rw [d3]
        rintro e w' ⟨rfl, rfl⟩
        clear d2 d3
        go_wp2
        have q1 : (w.alloc (Obj.cells #[Value.int IntKind.i64 (l.length : Int), Value.int IntKind.i64 p, Value.int IntKind.u64 n] 46)).cell? ⟨w.heap.size, 1, none⟩ = some (.int .i64 p) := by go_simp
        have b0 := hb (Obj.cells #[Value.int IntKind.i64 (l.length : Int), Value.int IntKind.i64 p, Value.int IntKind.u64 n] 46)
        have zW : w.heap.size < (w.alloc (Obj.cells #[Value.int IntKind.i64 (l.length : Int), Value.int IntKind.i64 p, Value.int IntKind.u64 n] 46)).heap.size := by simp
        have rW := hid (hr.out.grown b0)
        generalize w.alloc (Obj.cells #[Value.int IntKind.i64 (l.length : Int), Value.int IntKind.i64 p, Value.int IntKind.u64 n] 46) = W at *
        have B0 := hid b0
        clear b0 hb hr
        go_loopw [5, 27] (fun v i wr => ∃ (k : Nat) (x : Int), k ≤ l.length ∧ v = .int .i64 x ∧ i = .int .i64 k ∧ Hid (Jrn.goodL p x (l.drop k) = G) ∧ Hid (Below W.heap.size W wr)) (fun _ i _ => l.length - (intOf i).toNat)
        case atStart => exact ⟨0, 0, Nat.zero_le _, rfl, rfl, HG2, hid (Below.refl _ _)⟩
        case round =>
          obtain ⟨k, x, hk, rfl, rfl, hg, bw⟩ := hrel
          by_cases hlt : (k : Int) < l.length
          · have hkl : k < l.length := by omega
            obtain ⟨b, off, Ai, ci, rfl, r1, r2, _⟩ := (rW.out.grown bw.out) k hkl
            have r3 : wr.cell? ⟨w.heap.size, 1, none⟩ = some (.int .i64 p) := (bw.out.cell (p := ⟨w.heap.size, 1, none⟩) zW).trans q1
            have hd : l.drop k = l[k] :: l.drop (k + 1) := List.drop_eq_getElem_cons hkl
            have hg1 := hg.out
            rw [hd] at hg1
            generalize l[k] = r at *
            obtain ⟨pg, D⟩ := r
            simp only at r1 r2
            have hgs : ((Jrn.recGood pg D && decide (x < pg) && decide (pg ≤ p)) && Jrn.goodL p pg (l.drop (k + 1))) = G := hg1
            obtain ⟨v, hv⟩ : ∃ v, Jrn.recGood pg D = v := ⟨_, rfl⟩
            rw [hv] at hgs
            have HGS := hid hgs
            have HK := hid hkl
            clear hg hg1 hd hgs HG2 hkl
            have sz := bw.out.size
            go_wp2_with fail
            refine (good_calls _ pg Ai D.length ci).mono ?_
            rw [show decide ((1 ≤ pg ∧ pg ≤ 4000) ∧ D.length = 512) = v from hv]
            rintro e w2 ⟨rfl, b2⟩
            have b3 : Below wr.heap.size wr w2 := ((Below.refl _ _).alloc (Nat.le_refl _) _).trans (b2.mono (by simp))
            have r4 : w2.cell? ⟨w.heap.size, 1, none⟩ = some (.int .i64 p) := (b3.cell (p := ⟨w.heap.size, 1, none⟩) (by show w.heap.size < wr.heap.size; omega)).trans r3
            have r5 : w2.cell? ⟨wr.heap.size, 0, none⟩ = some (.int .i64 pg) := by rw [b2.cell (p := ⟨wr.heap.size, 0, none⟩) (by simp)]; go_simp
            have BW := hid (bw.out.trans (b3.mono bw.out.size))
            clear b2 b3 bw hv r1 r2 r3
            cases v with
            | false =>
              have hG : false = G := by rw [← HGS.out]; rfl
              subst hG
              simp only [Bool.not_false, Bool.not_true]
              go_wp2
              go_ret
              exact ⟨rfl, B0.out.trans (BW.out.mono B0.out.size)⟩
            | true =>
              simp only [Bool.not_false, Bool.not_true]
              by_cases hx : pg ≤ x
              · have hG : false = G := by rw [← HGS.out, decide_eq_false (show ¬ x < pg by omega)]; rfl
                subst hG
                go_wp2
                go_ret
                exact ⟨rfl, B0.out.trans (BW.out.mono B0.out.size)⟩
              · by_cases hp : p < pg
                · have hG : false = G := by rw [← HGS.out, decide_eq_false (show ¬ pg ≤ p by omega), Bool.and_false]; rfl
                  subst hG
                  go_wp2
                  go_ret
                  exact ⟨rfl, B0.out.trans (BW.out.mono B0.out.size)⟩
                · have hG : Jrn.goodL p pg (l.drop (k + 1)) = G := by rw [← HGS.out, decide_eq_true (show x < pg by omega), decide_eq_true (show pg ≤ p by omega)]; rfl
                  have HG3 := hid hG
                  clear hG HGS
                  go_wp2
                  go_roundw
                  case rel => exact ⟨k + 1, pg, HK.out, rfl, (by have := hl.out; have := HK.out; rw [show wrap64 ((k : Int) + 1) = ((k + 1 : Nat) : Int) by unfold wrap64; omega]), HG3, BW⟩
                  case measure => have := hl.out; have := HK.out; rw [show wrap64 ((k : Int) + 1) = ((k + 1 : Nat) : Int) by unfold wrap64; omega]; simp only [intOf]; omega
          · obtain rfl : k = l.length := by omega
            have hG : true = G := by rw [← hg.out, List.drop_length]; rfl
            subst hG
            go_wp2
            go_ret
            exact ⟨rfl, B0.out.trans (bw.out.mono B0.out.size)⟩
      · have d3 : decide (0 ≤ p ∧ p ≤ 4000) = false := decide_eq_false h3
        have hG : G = false := by rw [← HG.out]; unfold Jrn.goodJ; rw [decide_eq_false h3]; simp
        subst hG
        clear h3 HG H2
        go_enter Tryd.func28, Tryd.ntmps28
        go_wp2_with fail
        refine (within_calls (l.length : Int) _).mono ?_
        rw [d2]
        rintro e w' ⟨rfl, rfl⟩
        go_wp2_with fail
        refine (within_calls p _).mono ?_
        rw [d3]
        rintro e w' ⟨rfl, rfl⟩
        clear d2 d3
        go_wp2
        go_ret
        exact ⟨rfl, hb _⟩
    · have d2 : decide (0 ≤ (l.length : Int) ∧ (l.length : Int) ≤ 4000) = false := decide_eq_false h2
      have hG : G = false := by rw [← HG.out]; unfold Jrn.goodJ; rw [decide_eq_false h2]; simp
      subst hG
      clear h2 HG
      go_enter Tryd.func28, Tryd.ntmps28
      go_wp2_with fail
      refine (within_calls (l.length : Int) _).mono ?_
      rw [d2]
      rintro e w' ⟨rfl, rfl⟩
      clear d2
      go_wp2
      go_ret
      exact ⟨rfl, hb _⟩
  · have hG : G = false := by rw [← HG.out]; unfold Jrn.goodJ; rw [decide_eq_false h1]; rfl
    subst hG
    go_enter Tryd.func28, Tryd.ntmps28
    go_wp2
    go_ret
    exact ⟨rfl, hb _⟩
end Go.Proofs.YtlmlplpbgkbhdaaDoor
