/- THE WALK of free's Give, onto a trunk that has room. THE WALK of free's Give, onto a trunk that is full. -/
import Derived.Test.YtbcghggkfnagoaaGreatDoorFre6
set_option linter.unusedVariables false
set_option linter.unusedSimpArgs false
namespace Go.Proofs.YtbcghggkfnagoaaGreatDoor
open Go Go.RowKit Go.Maps Hach

theorem wS {k K : Nat} (h : k < 1000000000) (e : k + 1 = K) : wrap64 ((k : Int) + 1) = (K : Int) := by subst e; unfold wrap64; omega
theorem wM4 {k K : Nat} (h : k < 1000000000) (e : k * 4 = K) : wrap64 ((k : Int) * 4) = (K : Int) := by subst e; unfold wrap64; omega
theorem w8p {k K : Nat} (h : k < 1000000000) (e : 8 + k = K) : wrap64 (8 + (k : Int)) = (K : Int) := by subst e; unfold wrap64; omega
section
variable (w : World) (h p t m : Nat) (q : PgN) (mv : Value) (last : Int) (n : Nat) (L : PgL)
set_option maxRecDepth 100000 in
set_option maxHeartbeats 2000000 in
theorem give1_calls (hh : Hid (HeapP w h p q t m mv last n L)) (hn : Hid (1 ≤ n ∧ n ≤ 4000)) (hL : Hid (L.length < 800000)) (x : PgX) (hx : Hid (gget L 1 = some x)) (i : Nat) (hi : Hid (1 < i ∧ i ≤ n)) (C F k POS : Nat) (hC : Hid (pgGet x.bs 12 4 = C ∧ C < 1000000)) (hF : Hid (pgGet x.bs 8 4 = F ∧ 1 < F ∧ F ≤ n)) (y : PgX) (hy : Hid (gget L F = some y)) (hk : Hid (pgGet y.bs 4 4 = k ∧ k < 126)) (hpos : Hid (POS = 8 + k * 4)) :
    Calls Tryz.prog 16 #[.pointer (some ⟨h, 0, none⟩), .int .i64 i] w (GiveRet w h p t m q mv last n fun L' => ∃ g1 c1 g2 c2, L' = gput (gput L (1 : Nat) ⟨g1, c1, mkPut x.bs 12 (Oct.be (C + 1) 4)⟩) F ⟨g2, c2, mkPut (mkPut y.bs 4 (Oct.be (k + 1) 4)) POS (Oct.be i 4)⟩) := by
  have hi1 : ¬ (i : Int) ≤ 1 := by have := hi.out; omega
  have hi2 : ¬ (n : Int) < (i : Int) := by have := hi.out; omega
  have hF0 : (0 : Int) < (F : Int) := by have := hF.out; omega
  have hk0 : (k : Int) < 126 := by have := hk.out; omega
  have B1 : C < 1000000000 := by have := hC.out; omega
  have B2 : k < 1000000000 := by have := hk.out; omega
  obtain ⟨C1, hC1'⟩ : ∃ k, C + 1 = k := ⟨_, rfl⟩
  obtain ⟨K1, hK1'⟩ : ∃ z, k + 1 = z := ⟨_, rfl⟩
  obtain ⟨M4, hM4⟩ : ∃ z, k * 4 = z := ⟨_, rfl⟩
  have B3 : M4 < 1000000000 := by have := hk.out; omega
  have B4 : 8 + M4 = POS := by have := hpos.out; omega
  have NB : Hid (C1 < 1000001 ∧ K1 < 200 ∧ POS + 4 ≤ 512) := hid (by have := hC.out; have := hk.out; have := hpos.out; omega)
  have HC1 : Hid (wrap64 ((C : Int) + 1) = (C1 : Int)) := hid (wS B1 hC1')
  have HK : Hid ((k : Int) + 1 = (K1 : Int) ∧ 8 + (k : Int) * 4 = (POS : Int)) := hid ⟨by omega, by omega⟩
  clear B1 B2 B3 B4
  have K1B : Hid (IntKind.u64.wrap (K1 : Int) = (K1 : Int)) := hid (u64w (by have := NB.out; omega))
  have UB : Hid ((K1 : Int) < 18446744073709551616 ∧ True) := hid ⟨by have := NB.out; omega, trivial⟩
  have P12 : Hid (wrap64 (pgGet x.bs 12 4 : Int) = (C : Int)) := hid ((pg4 x.bs 12).trans (by rw [hC.out.1]))
  have P8 : Hid (wrap64 (pgGet x.bs 8 4 : Int) = (F : Int)) := hid ((pg4 x.bs 8).trans (by rw [hF.out.1]))
  have Q4 : Hid (wrap64 (pgGet y.bs 4 4 : Int) = (k : Int)) := hid ((pg4 y.bs 4).trans (by rw [hk.out.1]))
  rw [hC1', hK1']
  clear hC1' hK1' hM4
  obtain ⟨RB, hRB⟩ : ∃ r, mkPut x.bs 12 (Oct.be C1 4) = r := ⟨_, rfl⟩
  obtain ⟨TB, hTB⟩ : ∃ r, mkPut (mkPut y.bs 4 (Oct.be K1 4)) POS (Oct.be i 4) = r := ⟨_, rfl⟩
  rw [hRB, hTB]
  have HRB := hid hRB
  have HTB := hid hTB
  clear hRB hTB
  go_enter Tryz.func16, Tryz.ntmps16
  go_wp2_with (go_at_call 66; refine (hroot_calls w h p t m q mv last n L hh (hid (by have := hn.out; omega)) x hx).mono ?_; rintro en w2 ⟨g, c, rfl, hr⟩; have e20 := (hh.out.up hr.out.2.1).cell)
  have XL : Hid (x.bs.length = 512 ∧ 512 ≤ c) := hid ⟨hr.out.2.2.1, hr.out.2.2.2.1⟩
  have UR := hid hr.out.2.1
  have HH2 := hid (hh.out.up hr.out.2.1)
  have OR := hid hr.out.1
  have GR : Hid (w.heap.size ≤ g) := hid hr.out.2.2.2.2
  have GR2 : Hid (g < w2.heap.size) := hid (own_block hr.out.1 g rfl).2
  clear hr
  refine (ppages_calls w2 p t m q mv last n L (hid HH2.out.tran)).mono ?_
  rintro en w' ⟨rfl, hw⟩
  obtain rfl := hw.symm
  clear hw e20
  have C12 := fget_calls w2 g c x.bs 512 12 4 (hid XL.out.1) (hid ⟨by decide, by decide, by decide, by decide, XL.out.2⟩) (hid OR.out.bytes)
  have C8 := fget_calls w2 g c x.bs 512 8 4 (hid XL.out.1) (hid ⟨by decide, by decide, by decide, by decide, XL.out.2⟩) (hid OR.out.bytes)
  rw [P12.out] at C12
  rw [P8.out] at C8
  go_wp2_with fail
  refine C8.mono ?_
  rintro en w3 ⟨rfl, hw⟩
  obtain rfl := hw.symm
  clear hw C8
  go_wp2_with fail
  refine C12.mono ?_
  rintro en w3 ⟨rfl, hw⟩
  obtain rfl := hw.symm
  clear hw C12
  have hC1 := HC1.out
  go_wp2_with fail
  clear hC1
  refine (fset_calls w2 w.heap.size g c x.bs 512 12 4 (C1 : Int) C1 (hid (u64w (by have := NB.out; omega))) (hid (by have := NB.out; omega)) (hid XL.out.1) (hid ⟨by decide, by decide, by decide, by decide, XL.out.2⟩) OR).mono ?_
  rintro en w3 ⟨rfl, hr⟩
  have O3 := hid hr.out.1
  have RL : Hid ((mkPut x.bs 12 (Oct.be C1 4)).length = 512) := hid (mk4_len XL.out.1 (by decide) C1)
  rw [HRB.out] at O3 RL
  have U3 : Hid (Up w w3) := hid (UR.out.trans (hr.out.2.below UR.out.size (fun k hk e => by have := GR.out; omega)))
  have HH3 := hid (hh.out.up U3.out)
  have G3 : Hid (g < w3.heap.size) := hid (own_block hr.out.1 g rfl).2
  clear hr OR HH2 GR2
  go_wp2_with fail
  refine (htrunk_calls w3 h p t m q mv last n L HH3 F (hid (by have := hF.out; have := hn.out; omega)) y hy (hid (by have := hk.out; omega))).mono ?_
  rintro en w4 ⟨gT, cT, rfl, hr⟩
  have U4 := hid hr.out.2.1
  have O4 : Hid (OwnB w4 w.heap.size (some ⟨g, 0, none⟩) c RB) := hid ((Fr.of_below hr.out.2.1).own O3.out (fun _ _ e => e))
  have D4 := fget_calls w4 gT cT y.bs 512 4 4 (hid hr.out.2.2.1) (hid ⟨by decide, by decide, by decide, by decide, hr.out.2.2.2.1⟩) (hid hr.out.1.bytes)
  rw [Q4.out] at D4
  have YL : Hid (y.bs.length = 512 ∧ 512 ≤ cT) := hid ⟨hr.out.2.2.1, hr.out.2.2.2.1⟩
  have OT := hid hr.out.1
  have GT : Hid (w3.heap.size ≤ gT) := hid hr.out.2.2.2.2
  clear hr O3 HH3
  go_wp2_with fail
  refine D4.mono ?_
  rintro en w5 ⟨rfl, hw⟩
  obtain rfl := hw.symm
  clear hw D4
  go_wp2_with fail
  rw [HK.out.1]
  refine (fset_calls w4 w3.heap.size gT cT y.bs 512 4 4 (K1 : Int) K1 K1B (hid UB.out.1) (hid YL.out.1) (hid ⟨by decide, by decide, by decide, by decide, YL.out.2⟩) OT).mono ?_
  rintro en w5 ⟨rfl, hr⟩
  have OT5 := hid hr.out.1
  have FT5 : Hid (Fr (fun k => k = gT) w4 w5) := hid hr.out.2
  clear hr OT
  go_wp2_with fail
  rw [HK.out.2]
  refine (fset_calls w5 w3.heap.size gT cT _ 512 POS 4 (i : Int) i (hid (u64w (by have := hi.out; have := hn.out; omega))) (hid (by have := hi.out; have := hn.out; omega)) (hid (mk4_len YL.out.1 (by decide) K1)) (hid ⟨NB.out.2.2, by decide, by decide, by decide, YL.out.2⟩) OT5).mono ?_
  rintro en w6 ⟨rfl, hr⟩
  have OT6 := hid hr.out.1
  have FT6 : Hid (Fr (fun k => k = gT) w4 w6) := hid (FT5.out.trans' hr.out.2)
  have TL : Hid ((mkPut (mkPut y.bs 4 (Oct.be K1 4)) POS (Oct.be i 4)).length = 512) := hid (mk4_len (mk4_len YL.out.1 (by decide) K1) NB.out.2.2 i)
  rw [HTB.out] at OT6 TL
  have O6 : Hid (OwnB w6 w.heap.size (some ⟨g, 0, none⟩) c RB) := hid (FT6.out.own O4.out (fun k e e2 => by have e' : g = k := Option.some.inj e; have := GT.out; have := G3.out; omega))
  have U6 : Hid (Up w w6) := hid ((U3.out.t U4.out).trans (FT6.out.below (Nat.le_trans U3.out.size U4.out.size) (fun k hk e => by have := GT.out; have := U3.out.size; omega)))
  have HH6 := hid (hh.out.up U6.out)
  clear hr OT5 FT5 FT6 O4
  go_wp2_with fail
  refine (hputs_calls w6 h p t m q mv last n L HH6 (hid (by have := hL.out; omega)) 1 F (hid (by have := hn.out; omega)) (hid (by have := hF.out; omega)) _ RB c RL (hid O6.out.bytes) _ TB cT TL (hid OT6.out.bytes)).mono ?_
  rintro en w7 ⟨rfl, g1, d1, g2, d2, hr⟩
  have RES := hid (show HeapP w7 h p q t m mv last n (gput (gput L (1 : Nat) ⟨g1, d1, RB⟩) F ⟨g2, d2, TB⟩) ∧ Fr (fun k => k = t ∨ k = m) w w7 from ⟨hr.out.1, ((Fr.of_below U6.out).mono (fun _ e => e.elim)).trans' (hr.out.2.mono (fun k e => .inr e))⟩)
  clear hr
  go_wp2
  go_ret
  exact ⟨rfl, _, hid ⟨RES.out.1, RES.out.2, g1, d1, g2, d2, rfl⟩⟩
end
end Go.Proofs.YtbcghggkfnagoaaGreatDoor

namespace Go.Proofs.YtbcghggkfnagoaaGreatDoor
open Go Go.RowKit Go.Maps Hach

section
variable (w : World) (h p t m : Nat) (q : PgN) (mv : Value) (last : Int) (n : Nat) (L : PgL)
set_option maxRecDepth 100000 in
set_option maxHeartbeats 2000000 in
theorem give2_calls (hh : Hid (HeapP w h p q t m mv last n L)) (hn : Hid (1 ≤ n ∧ n ≤ 4000)) (hL : Hid (L.length < 800000)) (x : PgX) (hx : Hid (gget L 1 = some x)) (i : Nat) (hi : Hid (1 < i ∧ i ≤ n)) (C F k : Nat) (hC : Hid (pgGet x.bs 12 4 = C ∧ C < 1000000)) (hF : Hid (pgGet x.bs 8 4 = F ∧ 1 < F ∧ F ≤ n)) (y : PgX) (hy : Hid (gget L F = some y)) (hk : Hid (pgGet y.bs 4 4 = k ∧ k = 126)) :
    Calls Tryz.prog 16 #[.pointer (some ⟨h, 0, none⟩), .int .i64 i] w (GiveRet w h p t m q mv last n fun L' => ∃ g1 c1 g2 c2, L' = gput (gput L (1 : Nat) ⟨g1, c1, mkPut (mkPut x.bs 12 (Oct.be (C + 1) 4)) 8 (Oct.be i 4)⟩) i ⟨g2, c2, mkPut noPage 0 (Oct.be F 4)⟩) := by
  have hi1 : ¬ (i : Int) ≤ 1 := by have := hi.out; omega
  have hi2 : ¬ (n : Int) < (i : Int) := by have := hi.out; omega
  have hF0 : (0 : Int) < (F : Int) := by have := hF.out; omega
  have HK0 : Hid (¬ (k : Int) < 126) := hid (by have := hk.out; omega)
  have B1 : C < 1000000000 := by have := hC.out; omega
  obtain ⟨C1, hC1'⟩ : ∃ k, C + 1 = k := ⟨_, rfl⟩
  have NB : Hid (C1 < 1000001 ∧ F < 4294967296) := hid (by have := hC.out; have := hF.out; have := hn.out; omega)
  have HC1 : Hid (wrap64 ((C : Int) + 1) = (C1 : Int)) := hid (wS B1 hC1')
  clear B1
  have P12 : Hid (wrap64 (pgGet x.bs 12 4 : Int) = (C : Int)) := hid ((pg4 x.bs 12).trans (by rw [hC.out.1]))
  have P8 : Hid (wrap64 (pgGet x.bs 8 4 : Int) = (F : Int)) := hid ((pg4 x.bs 8).trans (by rw [hF.out.1]))
  have Q4 : Hid (wrap64 (pgGet y.bs 4 4 : Int) = (k : Int)) := hid ((pg4 y.bs 4).trans (by rw [hk.out.1]))
  rw [hC1']
  clear hC1'
  obtain ⟨RB, hRB⟩ : ∃ r, mkPut (mkPut x.bs 12 (Oct.be C1 4)) 8 (Oct.be i 4) = r := ⟨_, rfl⟩
  obtain ⟨TB, hTB⟩ : ∃ r, mkPut noPage 0 (Oct.be F 4) = r := ⟨_, rfl⟩
  rw [hRB, hTB]
  have HRB := hid hRB
  have HTB := hid hTB
  clear hRB hTB
  go_enter Tryz.func16, Tryz.ntmps16
  go_wp2_with (go_at_call 66; refine (hroot_calls w h p t m q mv last n L hh (hid (by have := hn.out; omega)) x hx).mono ?_; rintro en w2 ⟨g, c, rfl, hr⟩; have e20 := (hh.out.up hr.out.2.1).cell)
  have XL : Hid (x.bs.length = 512 ∧ 512 ≤ c) := hid ⟨hr.out.2.2.1, hr.out.2.2.2.1⟩
  have UR := hid hr.out.2.1
  have HH2 := hid (hh.out.up hr.out.2.1)
  have OR := hid hr.out.1
  have GR : Hid (w.heap.size ≤ g) := hid hr.out.2.2.2.2
  have GR2 : Hid (g < w2.heap.size) := hid (own_block hr.out.1 g rfl).2
  clear hr
  refine (ppages_calls w2 p t m q mv last n L (hid HH2.out.tran)).mono ?_
  rintro en w' ⟨rfl, hw⟩
  obtain rfl := hw.symm
  clear hw e20
  have C12 := fget_calls w2 g c x.bs 512 12 4 (hid XL.out.1) (hid ⟨by decide, by decide, by decide, by decide, XL.out.2⟩) (hid OR.out.bytes)
  have C8 := fget_calls w2 g c x.bs 512 8 4 (hid XL.out.1) (hid ⟨by decide, by decide, by decide, by decide, XL.out.2⟩) (hid OR.out.bytes)
  rw [P12.out] at C12
  rw [P8.out] at C8
  go_wp2_with fail
  refine C8.mono ?_
  rintro en w3 ⟨rfl, hw⟩
  obtain rfl := hw.symm
  clear hw C8
  go_wp2_with fail
  refine C12.mono ?_
  rintro en w3 ⟨rfl, hw⟩
  obtain rfl := hw.symm
  clear hw C12
  have hC1 := HC1.out
  go_wp2_with fail
  clear hC1
  refine (fset_calls w2 w.heap.size g c x.bs 512 12 4 (C1 : Int) C1 (hid (u64w (by have := NB.out; omega))) (hid (by have := NB.out; omega)) (hid XL.out.1) (hid ⟨by decide, by decide, by decide, by decide, XL.out.2⟩) OR).mono ?_
  rintro en w3 ⟨rfl, hr⟩
  have O3 := hid hr.out.1
  have U3 : Hid (Up w w3) := hid (UR.out.trans (hr.out.2.below UR.out.size (fun k hk e => by have := GR.out; omega)))
  have HH3 := hid (hh.out.up U3.out)
  have G3 : Hid (g < w3.heap.size) := hid (own_block hr.out.1 g rfl).2
  clear hr OR HH2 GR2
  go_wp2_with fail
  refine (htrunk_calls w3 h p t m q mv last n L HH3 F (hid (by have := hF.out; have := hn.out; omega)) y hy (hid (by have := hk.out; omega))).mono ?_
  rintro en w4 ⟨gT, cT, rfl, hr⟩
  have U4 : Hid (Up w w4) := hid (U3.out.t hr.out.2.1)
  have O4 : Hid (OwnB w4 w.heap.size (some ⟨g, 0, none⟩) c _) := hid ((Fr.of_below hr.out.2.1).own O3.out (fun _ _ e => e))
  have D4 := fget_calls w4 gT cT y.bs 512 4 4 (hid hr.out.2.2.1) (hid ⟨by decide, by decide, by decide, by decide, hr.out.2.2.2.1⟩) (hid hr.out.1.bytes)
  rw [Q4.out] at D4
  have G4 : Hid (g < w4.heap.size) := hid (Nat.lt_of_lt_of_le G3.out hr.out.2.1.size)
  clear hr O3 HH3
  go_wp2_with fail
  refine D4.mono ?_
  rintro en w5 ⟨rfl, hw⟩
  obtain rfl := hw.symm
  clear hw D4
  have hk0 := HK0.out
  go_wp2_with (at_make; refine hold ?_)
  refine hid (wl_make elemFP rfl (.const (.int .i64 512)) (.const (.int .i64 512)) rfl w4.heap.size 512 rfl rfl rfl rfl (by decide) (by decide) (Nat.le_refl _) ?_)
  intro w5 o5 b5 z5
  have e5 : (madeCells (Value.int .u8 0).cells (512 * 1)).toList = noPage.map byteCell := by
    unfold noPage
    rw [Nat.mul_one]; show (madeCells #[Value.int IntKind.u8 0] 512).toList = _
    rw [toList_madeCells_one, List.map_replicate]; rfl
  rw [e5] at o5
  have OT5 : Hid (OwnB w5 w4.heap.size (some ⟨w4.heap.size, 0, none⟩) 512 noPage) := hid (by unfold OwnB; rw [noPage_len]; exact o5)
  have O5 : Hid (OwnB w5 w.heap.size (some ⟨g, 0, none⟩) c _) := hid ((Fr.of_below b5).own O4.out (fun _ _ e => e))
  have U5 : Hid (Up w w5) := hid (U4.out.t b5)
  clear o5 b5 z5 e5 O4
  go_wp2_with fail
  refine (fset_calls w5 w4.heap.size w4.heap.size 512 noPage 512 0 4 (F : Int) F (hid (u64w (by have := NB.out; omega))) (hid (by have := NB.out; omega)) (hid noPage_len) (hid ⟨by decide, by decide, by decide, by decide, by decide⟩) OT5).mono ?_
  rintro en w6 ⟨rfl, hr⟩
  have OT6 := hid hr.out.1
  have TL : Hid ((mkPut noPage 0 (Oct.be F 4)).length = 512) := hid (mk4_len noPage_len (by decide) F)
  rw [HTB.out] at OT6 TL
  have O6 := hid (hr.out.2.own O5.out (fun k e e2 => by have e' : g = k := Option.some.inj e; have := G4.out; omega))
  have U6 : Hid (Up w w6) := hid (U5.out.trans (hr.out.2.below U5.out.size (fun k hk e => by have := U4.out.size; omega)))
  clear hr OT5 O5
  go_wp2_with fail
  refine (fset_calls w6 w.heap.size g c _ 512 8 4 (i : Int) i (hid (u64w (by have := hi.out; have := hn.out; omega))) (hid (by have := hi.out; have := hn.out; omega)) (hid (mk4_len XL.out.1 (by decide) C1)) (hid ⟨by decide, by decide, by decide, by decide, XL.out.2⟩) O6).mono ?_
  rintro en w7 ⟨rfl, hr⟩
  have O7 := hid hr.out.1
  have RL : Hid ((mkPut (mkPut x.bs 12 (Oct.be C1 4)) 8 (Oct.be i 4)).length = 512) := hid (mk4_len (mk4_len XL.out.1 (by decide) C1) (by decide) i)
  rw [HRB.out] at O7 RL
  have OT7 : Hid (OwnB w7 w4.heap.size (some ⟨w4.heap.size, 0, none⟩) 512 TB) := hid (hr.out.2.own OT6.out (fun k e e2 => by have e' : w4.heap.size = k := Option.some.inj e; have := G4.out; omega))
  have U7 : Hid (Up w w7) := hid (U6.out.trans (hr.out.2.below U6.out.size (fun k hk e => by have := GR.out; omega)))
  have HH7 := hid (hh.out.up U7.out)
  clear hr O6 OT6
  go_wp2_with fail
  refine (hputs_calls w7 h p t m q mv last n L HH7 (hid (by have := hL.out; omega)) 1 i (hid (by have := hn.out; omega)) (hid (by have := hi.out; omega)) _ RB c RL (hid O7.out.bytes) _ TB 512 TL (hid OT7.out.bytes)).mono ?_
  rintro en w8 ⟨rfl, g1, d1, g2, d2, hr⟩
  have RES := hid (show HeapP w8 h p q t m mv last n (gput (gput L (1 : Nat) ⟨g1, d1, RB⟩) i ⟨g2, d2, TB⟩) ∧ Fr (fun k => k = t ∨ k = m) w w8 from ⟨hr.out.1, ((Fr.of_below U7.out).mono (fun _ e => e.elim)).trans' (hr.out.2.mono (fun k e => .inr e))⟩)
  clear hr
  go_wp2
  go_ret
  exact ⟨rfl, _, hid ⟨RES.out.1, RES.out.2, g1, d1, g2, d2, rfl⟩⟩
end
end Go.Proofs.YtbcghggkfnagoaaGreatDoor
