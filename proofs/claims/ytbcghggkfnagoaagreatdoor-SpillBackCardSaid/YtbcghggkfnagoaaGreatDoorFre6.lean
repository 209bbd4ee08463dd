/- THE WALK of free's Take, of a trunk with leaves. THE WALK of free's Give, where no page is free. -/
import Derived.Test.YtbcghggkfnagoaaGreatDoorFre4
set_option linter.unusedVariables false
set_option linter.unusedSimpArgs false
namespace Go.Proofs.YtbcghggkfnagoaaGreatDoor
open Go Go.RowKit Go.Maps Hach

theorem own_ne_map {w : World} {base g c m : Nat} {xs : List UInt8} (hl : xs.length = 512) (h : OwnB w base (some ⟨g, 0, none⟩) c xs) (hm : ∃ es cl, w.heap[m]? = some (.map es cl)) : g ≠ m := by
  obtain ⟨g', e, hr, _⟩ := own_pgRow hl h
  injection e with e
  injection e with e
  subst e
  obtain ⟨cs, fr, hb⟩ := hr.row.1
  obtain ⟨es, cl, hm⟩ := hm
  intro e9
  rw [← e9, show w.heap[g]? = _ from hb] at hm
  cases hm
theorem block_of_row {w : World} {x : PgX} (h : PgRow w x) : x.g < w.heap.size := by
  obtain ⟨cs, fr, hb⟩ := h.row.1
  exact (Array.getElem?_eq_some_iff.1 hb).1
/-- Own bytes are written: the heap is as it was. -/
theorem HeapP.past {w w' : World} {h p t m base g c n : Nat} {q : PgN} {mv : Value} {last : Int} {L : PgL} {xs : List UInt8} (hh : HeapP w h p q t m mv last n L) (hl : xs.length = 512) (ho : OwnB w base (some ⟨g, 0, none⟩) c xs) (hf : Fr (fun k => k = g) w w') (hr : ∀ y ∈ L, y.2.g ≠ g) : HeapP w' h p q t m mv last n L := by
  obtain ⟨g', e, hrow, _⟩ := own_pgRow hl ho
  injection e with e
  injection e with e
  subst e
  obtain ⟨cs, fr, hb⟩ := hrow.row.1
  have hb : w.heap[g]? = some (.cells cs 5 fr) := hb
  have h1 := hh.own
  have h2 := hh.tran.tran
  have h3 : w.heap[p]? = some (.cells (pagerCs q (.pointer (some ⟨t, 0, none⟩)) false) 80 (0, 0)) := hh.tran.own
  obtain ⟨es, cl, hm⟩ := hh.tran.map.isMap
  have e1 : h ≠ g := fun e => by rw [e, hb] at h1; injection h1 with h1; injection h1 with _ h1 _; exact absurd h1 (by decide)
  have e2 : t ≠ g := fun e => by rw [e, hb] at h2; injection h2 with h2; injection h2 with _ h2 _; exact absurd h2 (by decide)
  have e3 : p ≠ g := fun e => by rw [e, hb] at h3; injection h3 with h3; injection h3 with _ h3 _; exact absurd h3 (by decide)
  have e4 : m ≠ g := fun e => by rw [e, hb] at hm; cases hm
  exact ⟨(hf.block h (Array.getElem?_eq_some_iff.1 h1).1 e1).trans h1, hh.tran.own.fr hf e3, (hf.block t (Array.getElem?_eq_some_iff.1 h2).1 e2).trans h2, hh.tran.map.kept hf e4, fun y hy => (hh.tran.rows y hy).fr hf (hr y hy)⟩
section
variable (w : World) (h p t m : Nat) (q : PgN) (mv : Value) (last : Int) (n : Nat) (L : PgL)
set_option maxRecDepth 100000 in
set_option maxHeartbeats 2000000 in
theorem take1_calls (hh : Hid (HeapP w h p q t m mv last n L)) (hn : Hid (1 ≤ n ∧ n ≤ 4000)) (hL : Hid (L.length < 800000)) (x : PgX) (hx : Hid (gget L 1 = some x)) (C F k K1 POS TK : Nat) (hC : Hid (pgGet x.bs 12 4 = C ∧ 0 < C ∧ C < 1000000)) (hF : Hid (pgGet x.bs 8 4 = F ∧ 1 < F ∧ F ≤ n)) (y : PgX) (hy : Hid (gget L F = some y)) (hk : Hid (pgGet y.bs 4 4 = k ∧ k = K1 + 1 ∧ k ≤ 126)) (hpos : Hid (POS = 8 + K1 * 4)) (htk : Hid (pgGet y.bs POS 4 = TK ∧ 1 < TK ∧ TK ≤ n)) :
    Calls Tryz.prog 15 #[.pointer (some ⟨h, 0, none⟩)] w (TakeRet w h p t m q mv last TK n fun L' => ∃ g0 c0 g1 c1 g2 c2, L' = gput (gput (gput L F ⟨g0, c0, mkPut (mkPut y.bs 4 (Oct.be K1 4)) POS (Oct.be 0 4)⟩) (1 : Nat) ⟨g1, c1, mkPut x.bs 12 (Oct.be (C - 1) 4)⟩) TK ⟨g2, c2, noPage⟩) := by
  have p12 := pg4 x.bs 12
  have p8 := pg4 x.bs 8
  have q4 := pg4 y.bs 4
  have qP := pg4 y.bs POS
  rw [hC.out.1] at p12
  rw [hF.out.1] at p8
  rw [hk.out.1] at q4
  rw [htk.out.1] at qP
  have hC0 : ¬ (C : Int) = 0 := by have := hC.out; omega
  have hC1 : wrap64 ((C : Int) - 1) = ((C - 1 : Nat) : Int) := by have := hC.out; unfold wrap64; omega
  have hk0 : (0 : Int) < (k : Int) := by have := hk.out; omega
  have hk1 : wrap64 ((k : Int) - 1) = (K1 : Int) := by have := hk.out; unfold wrap64; omega
  obtain ⟨M4, hM4⟩ : ∃ z, K1 * 4 = z := ⟨_, rfl⟩
  have hk2 : wrap64 ((K1 : Int) * 4) = (M4 : Int) := by have := hk.out; unfold wrap64; omega
  have hk3 : wrap64 (8 + (M4 : Int)) = (POS : Int) := by have := hk.out; have := hpos.out; unfold wrap64; omega
  have htk1 : ¬ (TK : Int) ≤ 1 := by have := htk.out; omega
  have htk2 : ¬ (n : Int) < (TK : Int) := by have := htk.out; omega
  have PB : Hid (POS + 4 ≤ 512 ∧ K1 < 200) := hid (by have := hk.out; have := hpos.out; omega)
  obtain ⟨C1, hC1'⟩ : ∃ k, C - 1 = k := ⟨_, rfl⟩
  have C1B : Hid (C1 < 1000000) := hid (by have := hC.out; omega)
  rw [hC1'] at hC1 ⊢
  clear hC1' hM4
  obtain ⟨RB, hRB⟩ : ∃ r, mkPut x.bs 12 (Oct.be C1 4) = r := ⟨_, rfl⟩
  obtain ⟨TB, hTB⟩ : ∃ r, mkPut (mkPut y.bs 4 (Oct.be K1 4)) POS (Oct.be 0 4) = r := ⟨_, rfl⟩
  rw [hRB, hTB]
  have HRB := hid hRB
  have HTB := hid hTB
  clear hRB hTB
  go_enter Tryz.func15, Tryz.ntmps15
  go_wp2_with (go_at_call 66; refine (hroot_calls w h p t m q mv last n L hh (hid (by have := hn.out; omega)) x hx).mono ?_; rintro en w2 ⟨g, c, rfl, hr⟩)
  have C12 := fget_calls w2 g c x.bs 512 12 4 (hid hr.out.2.2.1) (hid ⟨by decide, by decide, by decide, by decide, hr.out.2.2.2.1⟩) (hid hr.out.1.bytes)
  have C8 := fget_calls w2 g c x.bs 512 8 4 (hid hr.out.2.2.1) (hid ⟨by decide, by decide, by decide, by decide, hr.out.2.2.2.1⟩) (hid hr.out.1.bytes)
  rw [hC.out.1, p12] at C12
  rw [hF.out.1, p8] at C8
  refine C12.mono ?_
  rintro en w3 ⟨rfl, hw⟩
  obtain rfl := hw.symm
  clear hw
  go_wp2_with fail
  refine C8.mono ?_
  rintro en w3 ⟨rfl, hw⟩
  obtain rfl := hw.symm
  clear hw C12 C8
  have XL : Hid (x.bs.length = 512 ∧ 512 ≤ c) := hid ⟨hr.out.2.2.1, hr.out.2.2.2.1⟩
  have UR := hid hr.out.2.1
  have HH2 := hid (hh.out.up hr.out.2.1)
  have OR := hid hr.out.1
  have GR : Hid (w.heap.size ≤ g) := hid hr.out.2.2.2.2
  have GR2 : Hid (g < w2.heap.size) := hid (own_block hr.out.1 g rfl).2
  clear hr
  go_wp2_with fail
  refine (htrunk_calls w2 h p t m q mv last n L HH2 F (hid (by have := hF.out; have := hn.out; omega)) y hy (hid (by have := hk.out; omega))).mono ?_
  rintro en w3 ⟨gT, cT, rfl, hr⟩
  have U3 := hid (UR.out.t hr.out.2.1)
  have HH3 := hid (HH2.out.up hr.out.2.1)
  have OR3 : Hid (OwnB w3 w.heap.size (some ⟨g, 0, none⟩) c x.bs) := hid ((Fr.of_below hr.out.2.1).own OR.out (fun _ _ e => e))
  have D4 := fget_calls w3 gT cT y.bs 512 4 4 (hid hr.out.2.2.1) (hid ⟨by decide, by decide, by decide, by decide, hr.out.2.2.2.1⟩) (hid hr.out.1.bytes)
  have DP := fget_calls w3 gT cT y.bs 512 POS 4 (hid hr.out.2.2.1) (hid ⟨PB.out.1, by decide, by decide, by decide, hr.out.2.2.2.1⟩) (hid hr.out.1.bytes)
  rw [hk.out.1, q4] at D4
  rw [htk.out.1, qP] at DP
  have YL : Hid (y.bs.length = 512 ∧ 512 ≤ cT) := hid ⟨hr.out.2.2.1, hr.out.2.2.2.1⟩
  have OT := hid hr.out.1
  have GT : Hid (w2.heap.size ≤ gT) := hid hr.out.2.2.2.2
  have W2B : Hid (w.heap.size ≤ w2.heap.size ∧ w2.heap.size ≤ w3.heap.size) := hid ⟨UR.out.size, hr.out.2.1.size⟩
  clear hr OR HH2
  go_wp2_with fail
  refine D4.mono ?_
  rintro en w4 ⟨rfl, hw⟩
  obtain rfl := hw.symm
  clear hw D4
  go_wp2_with fail
  refine DP.mono ?_
  rintro en w4 ⟨rfl, hw⟩
  obtain rfl := hw.symm
  clear hw DP
  have e30 := HH3.out.cell
  go_wp2_with (go_at_call 18; refine (ppages_calls w3 p t m q mv last n L (hid HH3.out.tran)).mono ?_; rintro en w' ⟨rfl, hw⟩; obtain rfl := hw.symm; clear hw)
  refine (fset_calls w3 w2.heap.size gT cT y.bs 512 4 4 (K1 : Int) K1 (hid (u64w (by have := PB.out; omega))) (hid (by have := PB.out; omega)) (hid YL.out.1) (hid ⟨by decide, by decide, by decide, by decide, YL.out.2⟩) OT).mono ?_
  rintro en w4 ⟨rfl, hr⟩
  have OT4 := hid hr.out.1
  have FT4 : Hid (Fr (fun k => k = gT) w3 w4) := hid hr.out.2
  clear hr OT e30
  go_wp2_with fail
  refine (fset_calls w4 w2.heap.size gT cT _ 512 POS 4 (0 : Int) 0 (hid (u64w (by decide))) (hid (by decide)) (hid (mk4_len YL.out.1 (by decide) K1)) (hid ⟨PB.out.1, by decide, by decide, by decide, YL.out.2⟩) OT4).mono ?_
  rintro en w5 ⟨rfl, hr⟩
  have OT5 := hid hr.out.1
  have FT5 : Hid (Fr (fun k => k = gT) w3 w5) := hid (FT4.out.trans' hr.out.2)
  have TL : Hid ((mkPut (mkPut y.bs 4 (Oct.be K1 4)) POS (Oct.be 0 4)).length = 512) := hid (mk4_len (mk4_len YL.out.1 (by decide) K1) PB.out.1 0)
  rw [HTB.out] at OT5 TL
  have U5 : Hid (Up w w5) := hid (U3.out.trans (FT5.out.below U3.out.size (fun k hk e => by have := GT.out; have := W2B.out; omega)))
  have OR5 : Hid (OwnB w5 w.heap.size (some ⟨g, 0, none⟩) c x.bs) := hid (FT5.out.own OR3.out (fun k e e2 => by have e' : g = k := Option.some.inj e; have := GT.out; have := GR2.out; omega))
  have HH5 := hid (hh.out.up U5.out)
  clear hr OT4 FT4 FT5 OR3 HH3
  have e50 := HH5.out.cell
  go_wp2_with fail
  refine (pput_calls w5 p t m q mv last n L (hid HH5.out.tran) F (hid (by have := hF.out; have := hn.out; omega)) (hid (by have := hL.out; omega)) _ TB cT TL (hid OT5.out.bytes)).mono ?_
  rintro en w6 ⟨rfl, g0, c0, hr⟩
  have HH6 := hid (HH5.out.step hr.out.1 (hr.out.2.1.mono (fun k e => .inr e)))
  have F6 := hid hr.out.2.1
  have G06 : Hid (w5.heap.size ≤ g0) := hid hr.out.2.2
  have GM : Hid (g ≠ m) := hid (own_ne_map XL.out.1 OR5.out HH5.out.tran.map.isMap)
  have OR6 : Hid (OwnB w6 w.heap.size (some ⟨g, 0, none⟩) c x.bs) := hid (F6.out.own OR5.out (fun k e e2 => GM.out ((Option.some.inj e).trans e2)))
  have GR5 : Hid (g < w5.heap.size) := hid (own_block OR5.out g rfl).2
  clear hr e50 OR5 OT5
  go_wp2_with fail
  refine (fset_calls w6 w.heap.size g c x.bs 512 12 4 (C1 : Int) C1 (hid (u64w (by have := C1B.out; omega))) (hid (by have := C1B.out; omega)) (hid XL.out.1) (hid ⟨by decide, by decide, by decide, by decide, XL.out.2⟩) OR6).mono ?_
  rintro en w7 ⟨rfl, hr⟩
  have O7 := hid hr.out.1
  have RL : Hid ((mkPut x.bs 12 (Oct.be C1 4)).length = 512) := hid (mk4_len XL.out.1 (by decide) C1)
  rw [HRB.out] at O7 RL
  have F7 : Hid (Fr (fun k => k = g) w6 w7) := hid hr.out.2
  have HH7 := hid (HH6.out.past XL.out.1 OR6.out F7.out (fun z hz => by
    rcases mem_gput hz with rfl | ⟨hz, _⟩
    · have h1 := G06.out; have h2 := GR5.out; show g0 ≠ g; omega
    · have h1 := block_of_row (hh.out.tran.rows z hz); have h2 := GR.out; omega))
  clear hr OR6 HH6
  go_wp2_with (at_make; refine hold ?_)
  refine hid (wl_make elemFP rfl (.const (.int .i64 512)) (.const (.int .i64 512)) rfl w7.heap.size 512 rfl rfl rfl rfl (by decide) (by decide) (Nat.le_refl _) ?_)
  intro w8 o8 b8 z8
  have e8 : (madeCells (Value.int .u8 0).cells (512 * 1)).toList = noPage.map byteCell := by
    unfold noPage
    rw [Nat.mul_one]; show (madeCells #[Value.int IntKind.u8 0] 512).toList = _
    rw [toList_madeCells_one, List.map_replicate]; rfl
  rw [e8] at o8
  have B8 : Hid (Bytes w8 (some ⟨w7.heap.size, 0, none⟩) noPage) := hid (Rd.own o8).bytes
  have R8 : Hid (Bytes w8 (some ⟨g, 0, none⟩) RB) := hid (O7.out.bytes.grown b8)
  have HH8 := hid (HH7.out.up b8)
  have U8 := hid b8
  clear o8 b8 z8 e8 HH7
  have HL8 : Hid ((gput L F ⟨g0, c0, TB⟩).length < 900000) := hid (by have := gput_len L F ⟨g0, c0, TB⟩; have := hL.out; omega)
  go_wp2_with fail
  refine (hputs_calls w8 h p t m q mv last n _ HH8 HL8 1 TK (hid (by have := hn.out; omega)) (hid (by have := htk.out; omega)) _ RB c RL R8 _ noPage 512 (hid noPage_len) B8).mono ?_
  rintro en w9 ⟨rfl, g1, d1, g2, d2, hr⟩
  have FF : Hid (Fr (fun k => k = t ∨ k = m) w w9) := hid ⟨by rw [hr.out.2.os, U8.out.os, F7.out.os, F6.out.os, U5.out.os], by rw [hr.out.2.tape, U8.out.tape, F7.out.tape, F6.out.tape, U5.out.tape], by rw [hr.out.2.output, U8.out.output, F7.out.output, F6.out.output, U5.out.output], by have := hr.out.2.size; have := U8.out.size; have := F7.out.size; have := F6.out.size; have := U5.out.size; omega, fun k hk hn => by
    have a1 := U5.out.size; have a2 := F6.out.size; have a3 := F7.out.size; have a4 := U8.out.size; have a5 := GR.out
    rw [hr.out.2.block k (by omega) (fun e => hn (.inr e)), U8.out.block k (by omega), F7.out.block k (by omega) (fun e => by omega), F6.out.block k (by omega) (fun e => hn (.inr e)), U5.out.block k hk]⟩
  have RES := hid (show HeapP w9 h p q t m mv last n (gput (gput (gput L F ⟨g0, c0, TB⟩) (1 : Nat) ⟨g1, d1, RB⟩) TK ⟨g2, d2, noPage⟩) ∧ Fr (fun k => k = t ∨ k = m) w w9 from ⟨hr.out.1, FF.out⟩)
  clear hr FF
  go_wp2
  go_ret2
  exact ⟨rfl, _, hid ⟨RES.out.1, RES.out.2, g0, c0, g1, d1, g2, d2, rfl⟩⟩
end
end Go.Proofs.YtbcghggkfnagoaaGreatDoor

namespace Go.Proofs.YtbcghggkfnagoaaGreatDoor
open Go Go.RowKit Go.Maps Hach

def GiveRet (w : World) (h p t m : Nat) (q : PgN) (mv : Value) (last : Int) (n : Nat) (S : PgL → Prop) (en : Ending) (w' : World) : Prop :=
  en = .returned (.int .i64 0) ∧ ∃ L', Hid (HeapP w' h p q t m mv last n L' ∧ Fr (fun k => k = t ∨ k = m) w w' ∧ S L')
section
variable (w : World) (h p t m : Nat) (q : PgN) (mv : Value) (last : Int) (n : Nat) (L : PgL)
set_option maxRecDepth 100000 in
set_option maxHeartbeats 2000000 in
theorem give0_calls (hh : Hid (HeapP w h p q t m mv last n L)) (hn : Hid (1 ≤ n ∧ n ≤ 4000)) (hL : Hid (L.length < 800000)) (x : PgX) (hx : Hid (gget L 1 = some x)) (i : Nat) (hi : Hid (1 < i ∧ i ≤ n)) (C : Nat) (hC : Hid (pgGet x.bs 12 4 = C ∧ C < 1000000)) (hF : Hid (pgGet x.bs 8 4 = 0)) :
    Calls Tryz.prog 16 #[.pointer (some ⟨h, 0, none⟩), .int .i64 i] w (GiveRet w h p t m q mv last n fun L' => ∃ g1 c1 g2 c2, L' = gput (gput L (1 : Nat) ⟨g1, c1, mkPut (mkPut x.bs 12 (Oct.be (C + 1) 4)) 8 (Oct.be i 4)⟩) i ⟨g2, c2, mkPut noPage 0 (Oct.be 0 4)⟩) := by
  have p12 := pg4 x.bs 12
  have p8 := pg4 x.bs 8
  rw [hC.out.1] at p12
  rw [hF.out] at p8
  have hi1 : ¬ (i : Int) ≤ 1 := by have := hi.out; omega
  have hi2 : ¬ (n : Int) < (i : Int) := by have := hi.out; omega
  obtain ⟨C1, hC1'⟩ : ∃ k, C + 1 = k := ⟨_, rfl⟩
  have hC1 : wrap64 ((C : Int) + 1) = (C1 : Int) := by have := hC.out; unfold wrap64; omega
  have C1B : Hid (C1 < 1000001) := hid (by have := hC.out; omega)
  rw [hC1']
  clear hC1'
  obtain ⟨RB, hRB⟩ : ∃ r, mkPut (mkPut x.bs 12 (Oct.be C1 4)) 8 (Oct.be i 4) = r := ⟨_, rfl⟩
  obtain ⟨TB, hTB⟩ : ∃ r, mkPut noPage 0 (Oct.be 0 4) = r := ⟨_, rfl⟩
  rw [hRB, hTB]
  have HRB := hid hRB
  have HTB := hid hTB
  clear hRB hTB
  go_enter Tryz.func16, Tryz.ntmps16
  go_wp2_with (go_at_call 66; refine (hroot_calls w h p t m q mv last n L hh (hid (by have := hn.out; omega)) x hx).mono ?_; rintro en w2 ⟨g, c, rfl, hr⟩; have e20 := (hh.out.up hr.out.2.1).cell)
  have XL : Hid (x.bs.length = 512 ∧ 512 ≤ c) := hid ⟨hr.out.2.2.1, hr.out.2.2.2.1⟩
  have UR := hid hr.out.2.1
  have HH2 := hid (hh.out.up hr.out.2.1)
  have OR := hid hr.out.1
  have GR : Hid (w.heap.size ≤ g) := hid hr.out.2.2.2.2
  have GR2 : Hid (g < w2.heap.size) := hid (own_block hr.out.1 g rfl).2
  clear hr
  refine (ppages_calls w2 p t m q mv last n L (hid HH2.out.tran)).mono ?_
  rintro en w' ⟨rfl, hw⟩
  obtain rfl := hw.symm
  clear hw e20
  have C12 := fget_calls w2 g c x.bs 512 12 4 (hid XL.out.1) (hid ⟨by decide, by decide, by decide, by decide, XL.out.2⟩) (hid OR.out.bytes)
  have C8 := fget_calls w2 g c x.bs 512 8 4 (hid XL.out.1) (hid ⟨by decide, by decide, by decide, by decide, XL.out.2⟩) (hid OR.out.bytes)
  rw [hC.out.1, p12] at C12
  rw [hF.out, p8] at C8
  go_wp2_with fail
  refine C8.mono ?_
  rintro en w3 ⟨rfl, hw⟩
  obtain rfl := hw.symm
  clear hw C8
  go_wp2_with fail
  refine C12.mono ?_
  rintro en w3 ⟨rfl, hw⟩
  obtain rfl := hw.symm
  clear hw C12
  go_wp2_with fail
  refine (fset_calls w2 w.heap.size g c x.bs 512 12 4 (C1 : Int) C1 (hid (u64w (by have := C1B.out; omega))) (hid (by have := C1B.out; omega)) (hid XL.out.1) (hid ⟨by decide, by decide, by decide, by decide, XL.out.2⟩) OR).mono ?_
  rintro en w3 ⟨rfl, hr⟩
  have O3 := hid hr.out.1
  have F3 : Hid (Fr (fun k => k = g) w2 w3) := hid hr.out.2
  clear hr OR
  go_wp2_with (at_make; refine hold ?_)
  refine hid (wl_make elemFP rfl (.const (.int .i64 512)) (.const (.int .i64 512)) rfl w3.heap.size 512 rfl rfl rfl rfl (by decide) (by decide) (Nat.le_refl _) ?_)
  intro w4 o4 b4 z4
  have e4 : (madeCells (Value.int .u8 0).cells (512 * 1)).toList = noPage.map byteCell := by
    unfold noPage
    rw [Nat.mul_one]; show (madeCells #[Value.int IntKind.u8 0] 512).toList = _
    rw [toList_madeCells_one, List.map_replicate]; rfl
  rw [e4] at o4
  have OT4 : Hid (OwnB w4 w3.heap.size (some ⟨w3.heap.size, 0, none⟩) 512 noPage) := hid (by unfold OwnB; rw [noPage_len]; exact o4)
  have O4 : Hid (OwnB w4 w.heap.size (some ⟨g, 0, none⟩) c _) := hid ((Fr.of_below b4).own O3.out (fun _ _ e => e))
  have U4 := hid b4
  clear o4 b4 z4 e4 O3
  go_wp2_with fail
  refine (fset_calls w4 w3.heap.size w3.heap.size 512 noPage 512 0 4 (0 : Int) 0 (hid (u64w (by decide))) (hid (by decide)) (hid noPage_len) (hid ⟨by decide, by decide, by decide, by decide, by decide⟩) OT4).mono ?_
  rintro en w5 ⟨rfl, hr⟩
  have OT5 := hid hr.out.1
  have TL : Hid ((mkPut noPage 0 (Oct.be 0 4)).length = 512) := hid (mk4_len noPage_len (by decide) 0)
  rw [HTB.out] at OT5 TL
  have F5 : Hid (Fr (fun k => k = w3.heap.size) w4 w5) := hid hr.out.2
  have G3 : Hid (g < w3.heap.size) := hid (by have := GR2.out; have := F3.out.size; omega)
  have O5 := hid (F5.out.own O4.out (fun k e e2 => by have e' : g = k := Option.some.inj e; have := G3.out; omega))
  clear hr OT4 O4
  go_wp2_with fail
  refine (fset_calls w5 w.heap.size g c _ 512 8 4 (i : Int) i (hid (u64w (by have := hi.out; have := hn.out; omega))) (hid (by have := hi.out; have := hn.out; omega)) (hid (mk4_len XL.out.1 (by decide) C1)) (hid ⟨by decide, by decide, by decide, by decide, XL.out.2⟩) O5).mono ?_
  rintro en w6 ⟨rfl, hr⟩
  have O6 := hid hr.out.1
  have RL : Hid ((mkPut (mkPut x.bs 12 (Oct.be C1 4)) 8 (Oct.be i 4)).length = 512) := hid (mk4_len (mk4_len XL.out.1 (by decide) C1) (by decide) i)
  rw [HRB.out] at O6 RL
  have OT6 : Hid (OwnB w6 w3.heap.size (some ⟨w3.heap.size, 0, none⟩) 512 TB) := hid (hr.out.2.own OT5.out (fun k e e2 => by have e' : w3.heap.size = k := Option.some.inj e; have := G3.out; omega))
  have U6 : Hid (Up w w6) := hid (by
    have u3 : Up w w3 := UR.out.trans (F3.out.below UR.out.size (fun k hk e => by have := GR.out; omega))
    have u5 : Up w w5 := (u3.t U4.out).trans (F5.out.below (Nat.le_trans u3.size U4.out.size) (fun k hk e => by have := u3.size; omega))
    exact u5.trans (hr.out.2.below u5.size (fun k hk e => by have := GR.out; omega)))
  have HH6 := hid (hh.out.up U6.out)
  clear hr O5 OT5 HH2
  go_wp2_with fail
  refine (hputs_calls w6 h p t m q mv last n L HH6 (hid (by have := hL.out; omega)) 1 i (hid (by have := hn.out; omega)) (hid (by have := hi.out; omega)) _ RB c RL (hid O6.out.bytes) _ TB 512 TL (hid OT6.out.bytes)).mono ?_
  rintro en w7 ⟨rfl, g1, d1, g2, d2, hr⟩
  have RES := hid (show HeapP w7 h p q t m mv last n (gput (gput L (1 : Nat) ⟨g1, d1, RB⟩) i ⟨g2, d2, TB⟩) ∧ Fr (fun k => k = t ∨ k = m) w w7 from ⟨hr.out.1, ((Fr.of_below U6.out).mono (fun _ e => e.elim)).trans' (hr.out.2.mono (fun k e => .inr e))⟩)
  clear hr
  go_wp2
  go_ret
  exact ⟨rfl, _, hid ⟨RES.out.1, RES.out.2, g1, d1, g2, d2, rfl⟩⟩
end
end Go.Proofs.YtbcghggkfnagoaaGreatDoor
