/- THE WALK of free's Give, where no page is free. -/
import Derived.Test.YtbcghggkfnagoaaGreatDoorFre6
set_option linter.unusedVariables false
set_option linter.unusedSimpArgs false
namespace Go.Proofs.YtbcghggkfnagoaaGreatDoor
open Go Go.RowKit Go.Maps Hach

def GiveRet (w : World) (h p t m : Nat) (q : PgN) (mv : Value) (last : Int) (n : Nat) (S : PgL → Prop) (en : Ending) (w' : World) : Prop :=
  en = .returned (.int .i64 0) ∧ ∃ L', Hid (HeapP w' h p q t m mv last n L' ∧ Fr (fun k => k = t ∨ k = m) w w' ∧ S L')
section
variable (w : World) (h p t m : Nat) (q : PgN) (mv : Value) (last : Int) (n : Nat) (L : PgL)
set_option maxRecDepth 100000 in
set_option maxHeartbeats 2000000 in
theorem give0_calls (hh : Hid (HeapP w h p q t m mv last n L)) (hn : Hid (1 ≤ n ∧ n ≤ 4000)) (hL : Hid (L.length < 800000)) (x : PgX) (hx : Hid (gget L 1 = some x)) (i : Nat) (hi : Hid (1 < i ∧ i ≤ n)) (C : Nat) (hC : Hid (pgGet x.bs 12 4 = C ∧ C < 1000000)) (hF : Hid (pgGet x.bs 8 4 = 0)) :
    Calls Tryz.prog 16 #[.pointer (some ⟨h, 0, none⟩), .int .i64 i] w (GiveRet w h p t m q mv last n fun L' => ∃ g1 c1 g2 c2, L' = gput (gput L (1 : Nat) ⟨g1, c1, mkPut (mkPut x.bs 12 (Oct.be (C + 1) 4)) 8 (Oct.be i 4)⟩) i ⟨g2, c2, mkPut noPage 0 (Oct.be 0 4)⟩) := by
  have p12 := pg4 x.bs 12
  have p8 := pg4 x.bs 8
  rw [hC.out.1] at p12
  rw [hF.out] at p8
  have hi1 : ¬ (i : Int) ≤ 1 := by have := hi.out; omega
  have hi2 : ¬ (n : Int) < (i : Int) := by have := hi.out; omega
  obtain ⟨C1, hC1'⟩ : ∃ k, C + 1 = k := ⟨_, rfl⟩
  have hC1 : wrap64 ((C : Int) + 1) = (C1 : Int) := by have := hC.out; unfold wrap64; omega
  have C1B : Hid (C1 < 1000001) := hid (by have := hC.out; omega)
  rw [hC1']
  clear hC1'
  obtain ⟨RB, hRB⟩ : ∃ r, mkPut (mkPut x.bs 12 (Oct.be C1 4)) 8 (Oct.be i 4) = r := ⟨_, rfl⟩
  obtain ⟨TB, hTB⟩ : ∃ r, mkPut noPage 0 (Oct.be 0 4) = r := ⟨_, rfl⟩
  rw [hRB, hTB]
  have HRB := hid hRB
  have HTB := hid hTB
  clear hRB hTB
  go_enter Tryz.func16, Tryz.ntmps16
  go_wp2_with (go_at_call 66; refine (hroot_calls w h p t m q mv last n L hh (hid (by have := hn.out; omega)) x hx).mono ?_; rintro en w2 ⟨g, c, rfl, hr⟩; have e20 := (hh.out.up hr.out.2.1).cell)
  have XL : Hid (x.bs.length = 512 ∧ 512 ≤ c) := hid ⟨hr.out.2.2.1, hr.out.2.2.2.1⟩
  have UR := hid hr.out.2.1
  have HH2 := hid (hh.out.up hr.out.2.1)
  have OR := hid hr.out.1
  have GR : Hid (w.heap.size ≤ g) := hid hr.out.2.2.2.2
  have GR2 : Hid (g < w2.heap.size) := hid (own_block hr.out.1 g rfl).2
  clear hr
  refine (ppages_calls w2 p t m q mv last n L (hid HH2.out.tran)).mono ?_
  rintro en w' ⟨rfl, hw⟩
  obtain rfl := hw.symm
  clear hw e20
  have C12 := fget_calls w2 g c x.bs 512 12 4 (hid XL.out.1) (hid ⟨by decide, by decide, by decide, by decide, XL.out.2⟩) (hid OR.out.bytes)
  have C8 := fget_calls w2 g c x.bs 512 8 4 (hid XL.out.1) (hid ⟨by decide, by decide, by decide, by decide, XL.out.2⟩) (hid OR.out.bytes)
  rw [hC.out.1, p12] at C12
  rw [hF.out, p8] at C8
  go_wp2_with fail
  refine C8.mono ?_
  rintro en w3 ⟨rfl, hw⟩
  obtain rfl := hw.symm
  clear hw C8
  go_wp2_with fail
  refine C12.mono ?_
  rintro en w3 ⟨rfl, hw⟩
  obtain rfl := hw.symm
  clear hw C12
  go_wp2_with fail
  refine (fset_calls w2 w.heap.size g c x.bs 512 12 4 (C1 : Int) C1 (hid (u64w (by have := C1B.out; omega))) (hid (by have := C1B.out; omega)) (hid XL.out.1) (hid ⟨by decide, by decide, by decide, by decide, XL.out.2⟩) OR).mono ?_
  rintro en w3 ⟨rfl, hr⟩
  have O3 := hid hr.out.1
  have F3 : Hid (Fr (fun k => k = g) w2 w3) := hid hr.out.2
  clear hr OR
  go_wp2_with (at_make; refine hold ?_)
  refine hid (wl_make elemFP rfl (.const (.int .i64 512)) (.const (.int .i64 512)) rfl w3.heap.size 512 rfl rfl rfl rfl (by decide) (by decide) (Nat.le_refl _) ?_)
  intro w4 o4 b4 z4
  have e4 : (madeCells (Value.int .u8 0).cells (512 * 1)).toList = noPage.map byteCell := by
    unfold noPage
    rw [Nat.mul_one]; show (madeCells #[Value.int IntKind.u8 0] 512).toList = _
    rw [toList_madeCells_one, List.map_replicate]; rfl
  rw [e4] at o4
  have OT4 : Hid (OwnB w4 w3.heap.size (some ⟨w3.heap.size, 0, none⟩) 512 noPage) := hid (by unfold OwnB; rw [noPage_len]; exact o4)
  have O4 : Hid (OwnB w4 w.heap.size (some ⟨g, 0, none⟩) c _) := hid ((Fr.of_below b4).own O3.out (fun _ _ e => e))
  have U4 := hid b4
  clear o4 b4 z4 e4 O3
  go_wp2_with fail
  refine (fset_calls w4 w3.heap.size w3.heap.size 512 noPage 512 0 4 (0 : Int) 0 (hid (u64w (by decide))) (hid (by decide)) (hid noPage_len) (hid ⟨by decide, by decide, by decide, by decide, by decide⟩) OT4).mono ?_
  rintro en w5 ⟨rfl, hr⟩
  have OT5 := hid hr.out.1
  have TL : Hid ((mkPut noPage 0 (Oct.be 0 4)).length = 512) := hid (mk4_len noPage_len (by decide) 0)
  rw [HTB.out] at OT5 TL
  have F5 : Hid (Fr (fun k => k = w3.heap.size) w4 w5) := hid hr.out.2
  have G3 : Hid (g < w3.heap.size) := hid (by have := GR2.out; have := F3.out.size; omega)
  have O5 := hid (F5.out.own O4.out (fun k e e2 => by have e' : g = k := Option.some.inj e; have := G3.out; omega))
  clear hr OT4 O4
  go_wp2_with fail
  refine (fset_calls w5 w.heap.size g c _ 512 8 4 (i : Int) i (hid (u64w (by have := hi.out; have := hn.out; omega))) (hid (by have := hi.out; have := hn.out; omega)) (hid (mk4_len XL.out.1 (by decide) C1)) (hid ⟨by decide, by decide, by decide, by decide, XL.out.2⟩) O5).mono ?_
  rintro en w6 ⟨rfl, hr⟩
  have O6 := hid hr.out.1
  have RL : Hid ((mkPut (mkPut x.bs 12 (Oct.be C1 4)) 8 (Oct.be i 4)).length = 512) := hid (mk4_len (mk4_len XL.out.1 (by decide) C1) (by decide) i)
  rw [HRB.out] at O6 RL
  have OT6 : Hid (OwnB w6 w3.heap.size (some ⟨w3.heap.size, 0, none⟩) 512 TB) := hid (hr.out.2.own OT5.out (fun k e e2 => by have e' : w3.heap.size = k := Option.some.inj e; have := G3.out; omega))
  have U6 : Hid (Up w w6) := hid (by
    have u3 : Up w w3 := UR.out.trans (F3.out.below UR.out.size (fun k hk e => by have := GR.out; omega))
    have u5 : Up w w5 := (u3.t U4.out).trans (F5.out.below (Nat.le_trans u3.size U4.out.size) (fun k hk e => by have := u3.size; omega))
    exact u5.trans (hr.out.2.below u5.size (fun k hk e => by have := GR.out; omega)))
  have HH6 := hid (hh.out.up U6.out)
  clear hr O5 OT5 HH2
  go_wp2_with fail
  refine (hputs_calls w6 h p t m q mv last n L HH6 (hid (by have := hL.out; omega)) 1 i (hid (by have := hn.out; omega)) (hid (by have := hi.out; omega)) _ RB c RL (hid O6.out.bytes) _ TB 512 TL (hid OT6.out.bytes)).mono ?_
  rintro en w7 ⟨rfl, g1, d1, g2, d2, hr⟩
  have RES := hid (show HeapP w7 h p q t m mv last n (gput (gput L (1 : Nat) ⟨g1, d1, RB⟩) i ⟨g2, d2, TB⟩) ∧ Fr (fun k => k = t ∨ k = m) w w7 from ⟨hr.out.1, ((Fr.of_below U6.out).mono (fun _ e => e.elim)).trans' (hr.out.2.mono (fun k e => .inr e))⟩)
  clear hr
  go_wp2
  go_ret
  exact ⟨rfl, _, hid ⟨RES.out.1, RES.out.2, g1, d1, g2, d2, rfl⟩⟩
end
end Go.Proofs.YtbcghggkfnagoaaGreatDoor
