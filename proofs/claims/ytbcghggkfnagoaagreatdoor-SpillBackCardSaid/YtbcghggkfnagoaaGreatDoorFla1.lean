/- THE WALKS of hachurelaw08's fresh and lives. -/
import Derived.Test.YtbcghggkfnagoaaGreatDoorFre6
set_option linter.unusedVariables false
set_option linter.unusedSimpArgs false
namespace Go.Proofs.YtbcghggkfnagoaaGreatDoor
open Go Go.RowKit Go.Maps Hach

def FreshRet (w : World) (en : Ending) (w' : World) : Prop :=
  ∃ p h t m q mv last g c, en = .returned (.tuple #[.pointer (some ⟨p, 0, none⟩), .pointer (some ⟨h, 0, none⟩), .bool true]) ∧ Hid (HeapP w' h p q t m mv last 1 [(1, ⟨g, c, rootPage⟩)] ∧ Up w w' ∧ w.heap.size ≤ t ∧ w.heap.size ≤ m)
set_option maxRecDepth 100000 in
set_option maxHeartbeats 2000000 in
theorem fresh8_calls (w : World) : Calls Tryz.prog 14 #[] w (FreshRet w) := by
  go_enter Tryz.func14, Tryz.ntmps14
  go_wp2_with (go_at_call 20; refine (dnew_calls w 32768 (by decide) (by decide)).mono ?_; rintro e w1 ⟨d, rfl, h1⟩)
  refine (open0_calls w1 w.heap.size d (newD 32768) 16 (hid h1.out.1) (hid rfl) (hid ⟨rfl, rfl⟩) (hid ⟨by decide, by decide⟩)).mono ?_
  rintro en w2 ⟨p, q, rfl, h2⟩
  have U2 : Hid (Up w w2) := hid (h1.out.2.t h2.out.2.2.1)
  have P2 := hid h2.out.1
  have Q2 : Hid (q.count = ((0 : Nat) : Int)) := hid h2.out.2.1.1
  have PB : Hid (w.heap.size ≤ p) := hid (by have := h1.out.2.size; have := h2.out.2.2.2; omega)
  clear h1 h2
  go_wp2_with (go_at_call 47; refine (pbegin_calls w2 p q 0 P2 Q2).mono ?_; rintro e w3 ⟨rfl, t, m, h3⟩)
  have T3 := hid h3.out.1
  have U3 : Hid (Up w w3) := hid (U2.out.trans (h3.out.2.1.below U2.out.size (fun k hk e => by have := PB.out; omega)))
  have TB : Hid (w.heap.size ≤ t ∧ w.heap.size ≤ m) := hid ⟨Nat.le_trans U2.out.size h3.out.2.2.1, Nat.le_trans U2.out.size h3.out.2.2.2⟩
  clear h3 U2
  refine (make_calls w3 p t m q _ 0 T3).mono ?_
  rintro en w4 ⟨h, g, c, rfl, h4⟩
  have RES := hid (show HeapP w4 h p q t m (.slice none 0 0) 0 1 [(1, ⟨g, c, rootPage⟩)] ∧ Up w w4 ∧ w.heap.size ≤ t ∧ w.heap.size ≤ m from ⟨h4.out.1, U3.out.trans (h4.out.2.below U3.out.size (fun k hk e => by have := TB.out; omega)), TB.out.1, TB.out.2⟩)
  clear h4 T3
  go_wp2
  exact bodyPost_ret (v := .tuple #[.pointer (some ⟨p, 0, none⟩), .pointer (some ⟨h, 0, none⟩), .bool true]) (by simp [results, Tryz.results14, go_sem]) rfl ⟨p, h, t, m, q, _, 0, g, c, rfl, RES⟩
theorem root_nums : pgGet rootPage 12 4 = 0 ∧ pgGet rootPage 8 4 = 0 := ⟨by decide +kernel, by decide +kernel⟩
theorem given_nums : pgGet (mkPut (mkPut rootPage 12 (Oct.be 1 4)) 8 (Oct.be 2 4)) 12 4 = 1 ∧ pgGet (mkPut (mkPut rootPage 12 (Oct.be 1 4)) 8 (Oct.be 2 4)) 8 4 = 2 ∧ pgGet (mkPut noPage 0 (Oct.be 0 4)) 4 4 = 0 ∧ pgGet (mkPut noPage 0 (Oct.be 0 4)) 0 4 = 0 := ⟨by decide +kernel, by decide +kernel, by decide +kernel, by decide +kernel⟩
set_option maxRecDepth 100000 in
set_option maxHeartbeats 2000000 in
theorem lives8_calls (w : World) : Calls Tryz.prog 13 #[] w fun en w' => en = .returned (.bool true) ∧ Up w w' := by
  go_enter Tryz.func13, Tryz.ntmps13
  go_wp2_with (go_at_call 14; refine (fresh8_calls w).mono ?_; rintro en w1 ⟨p, h, t, m, q, mv, last, g, c, rfl, h1⟩)
  have H1 := hid h1.out.1
  have U1 : Hid (Up w w1) := hid h1.out.2.1
  have TB : Hid (w.heap.size ≤ t ∧ w.heap.size ≤ m) := hid h1.out.2.2
  clear h1
  go_wp2_with fail
  refine (take0_calls w1 h p t m q mv last 1 _ H1 (hid ⟨by decide, by decide⟩) (hid (by show (1 : Nat) < _; decide)) ⟨g, c, rootPage⟩ (hid rfl) (hid root_nums.1)).mono ?_
  rintro en w2 ⟨rfl, L2, h2⟩
  obtain ⟨hp2, fr2, g2, c2, rfl⟩ := h2.out
  have H2 := hid hp2
  have U2 : Hid (Up w w2) := hid (U1.out.trans (fr2.below U1.out.size (fun k hk e => by have := TB.out; omega)))
  clear h2 hp2 fr2 U1 H1
  go_wp2_with fail
  refine (give0_calls w2 h p t m q mv last (1 + 1) _ H2 (hid ⟨by decide, by decide⟩) (hid (by have := gput_len ([(1, ⟨g, c, rootPage⟩)] : PgL) ((1 + 1 : Nat) : Int) ⟨g2, c2, noPage⟩; show (gput ([(1, ⟨g, c, rootPage⟩)] : PgL) ((1 + 1 : Nat) : Int) ⟨g2, c2, noPage⟩).length < 800000; have e : ([(1, ⟨g, c, rootPage⟩)] : PgL).length = 1 := rfl; omega)) ⟨g, c, rootPage⟩ (hid (by rw [gget_put]; rfl)) 2 (hid ⟨by decide, by decide⟩) 0 (hid ⟨root_nums.1, by decide⟩) (hid root_nums.2)).mono ?_
  rintro en w3 ⟨rfl, L3, h3⟩
  obtain ⟨hp3, fr3, g3, c3, g4, c4, rfl⟩ := h3.out
  have H3 := hid hp3
  have U3 : Hid (Up w w3) := hid (U2.out.trans (fr3.below U2.out.size (fun k hk e => by have := TB.out; omega)))
  clear h3 hp3 fr3 U2 H2
  have LL : Hid ((gput (gput (gput ([(1, ⟨g, c, rootPage⟩)] : PgL) ((1 + 1 : Nat) : Int) ⟨g2, c2, noPage⟩) (1 : Nat) ⟨g3, c3, mkPut (mkPut rootPage 12 (Oct.be (0 + 1) 4)) 8 (Oct.be 2 4)⟩) (2 : Nat) ⟨g4, c4, mkPut noPage 0 (Oct.be 0 4)⟩).length < 800000) := hid (by
    have a1 := gput_len ([(1, ⟨g, c, rootPage⟩)] : PgL) ((1 + 1 : Nat) : Int) ⟨g2, c2, noPage⟩
    have a2 := gput_len (gput ([(1, ⟨g, c, rootPage⟩)] : PgL) ((1 + 1 : Nat) : Int) ⟨g2, c2, noPage⟩) ((1 : Nat) : Int) ⟨g3, c3, mkPut (mkPut rootPage 12 (Oct.be (0 + 1) 4)) 8 (Oct.be 2 4)⟩
    have a3 := gput_len (gput (gput ([(1, ⟨g, c, rootPage⟩)] : PgL) ((1 + 1 : Nat) : Int) ⟨g2, c2, noPage⟩) ((1 : Nat) : Int) ⟨g3, c3, mkPut (mkPut rootPage 12 (Oct.be (0 + 1) 4)) 8 (Oct.be 2 4)⟩) ((2 : Nat) : Int) ⟨g4, c4, mkPut noPage 0 (Oct.be 0 4)⟩
    have e : ([(1, ⟨g, c, rootPage⟩)] : PgL).length = 1 := rfl
    omega)
  go_wp2_with fail
  refine (take2_calls w3 h p t m q mv last (1 + 1) _ H3 (hid ⟨by decide, by decide⟩) LL ⟨g3, c3, mkPut (mkPut rootPage 12 (Oct.be (0 + 1) 4)) 8 (Oct.be 2 4)⟩ (hid (by rw [gget_put, if_neg (by decide), gget_put, if_pos (by decide)])) 1 2 0 (hid ⟨given_nums.1, by decide, by decide⟩) (hid ⟨given_nums.2.1, by decide, by decide⟩) ⟨g4, c4, mkPut noPage 0 (Oct.be 0 4)⟩ (hid (by rw [gget_put, if_pos (by decide)])) (hid given_nums.2.2.1) (hid given_nums.2.2.2)).mono ?_
  rintro en w4 ⟨rfl, L4, h4⟩
  have U4 : Hid (Up w w4) := hid (U3.out.trans (h4.out.2.1.below U3.out.size (fun k hk e => by have := TB.out; omega)))
  clear h4 LL H3 U3
  go_wp2
  go_ret
  exact ⟨rfl, U4.out⟩
end Go.Proofs.YtbcghggkfnagoaaGreatDoor
