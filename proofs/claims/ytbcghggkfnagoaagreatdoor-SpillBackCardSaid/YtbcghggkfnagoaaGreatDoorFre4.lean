/- THE WALK of free's Take. THE WALK of free's Take, of a trunk without leaves. -/
import Derived.Test.YtbcghggkfnagoaaGreatDoorFre2
set_option linter.unusedVariables false
set_option linter.unusedSimpArgs false
namespace Go.Proofs.YtbcghggkfnagoaaGreatDoor
open Go Go.RowKit Go.Maps Hach

theorem pgGet_lt (b : List UInt8) (i : Nat) : pgGet b i 4 < 4294967296 := by
  unfold pgGet
  have h := Oct.val_lt ((b.drop i).take 4)
  have h2 : ((b.drop i).take 4).length ≤ 4 := by rw [List.length_take]; omega
  have h3 : 256 ^ ((b.drop i).take 4).length ≤ 256 ^ 4 := Nat.pow_le_pow_right (by decide) h2
  have h4 : (256 : Nat) ^ 4 = 4294967296 := by decide
  omega
theorem pg4 (b : List UInt8) (i : Nat) : wrap64 (pgGet b i 4 : Int) = (pgGet b i 4 : Int) := by have := pgGet_lt b i; unfold wrap64; omega
theorem u64w {k : Nat} (h : k < 9223372036854775807) : IntKind.u64.wrap (k : Int) = (k : Int) := IntWalk.u64_in _ (by omega)
section
variable (w : World) (h p t m : Nat) (q : PgN) (mv : Value) (last : Int) (n : Nat) (L : PgL)
/-- What Take hands back, and does. -/
def TakeRet (w : World) (h p t m : Nat) (q : PgN) (mv : Value) (last : Int) (k n' : Nat) (S : PgL → Prop) (en : Ending) (w' : World) : Prop :=
  en = .returned (.tuple #[.int .i64 k, .int .i64 0]) ∧ ∃ L', Hid (HeapP w' h p q t m mv last n' L' ∧ Fr (fun k => k = t ∨ k = m) w w' ∧ S L')
set_option maxRecDepth 100000 in
set_option maxHeartbeats 2000000 in
theorem take0_calls (hh : Hid (HeapP w h p q t m mv last n L)) (hn : Hid (1 ≤ n ∧ n < 4000)) (hL : Hid (L.length < 900000)) (x : PgX) (hx : Hid (gget L 1 = some x)) (hc : Hid (pgGet x.bs 12 4 = 0)) :
    Calls Tryz.prog 15 #[.pointer (some ⟨h, 0, none⟩)] w (TakeRet w h p t m q mv last (n + 1) (n + 1) fun L' => ∃ g c, L' = gput L (n + 1 : Nat) ⟨g, c, noPage⟩) := by
  obtain ⟨n1, hn1⟩ : ∃ k, n + 1 = k := ⟨_, rfl⟩
  have CG : ∀ w', Up w w' → Calls _ _ _ w' _ := fun w' hu => pgrow_calls w' p t m q mv last n L (hid ((hh.out.up hu).tran)) (hid (by have := hn.out; omega)) (hid (by have := hL.out; omega))
  rw [hn1] at CG ⊢
  have p12 := pg4 x.bs 12
  have p8 := pg4 x.bs 8
  rw [hc.out] at p12
  obtain ⟨F, hF⟩ : ∃ k, pgGet x.bs 8 4 = k := ⟨_, rfl⟩
  rw [hF] at p8
  go_enter Tryz.func15, Tryz.ntmps15
  go_wp2_with (go_at_call 66; refine (hroot_calls w h p t m q mv last n L hh (hid (by have := hn.out; omega)) x hx).mono ?_; rintro en w2 ⟨g, c, rfl, hr⟩)
  have C12 := fget_calls w2 g c x.bs 512 12 4 (hid hr.out.2.2.1) (hid ⟨by decide, by decide, by decide, by decide, hr.out.2.2.2.1⟩) (hid hr.out.1.bytes)
  have C8 := fget_calls w2 g c x.bs 512 8 4 (hid hr.out.2.2.1) (hid ⟨by decide, by decide, by decide, by decide, hr.out.2.2.2.1⟩) (hid hr.out.1.bytes)
  rw [hc.out, p12] at C12
  rw [hF, p8] at C8
  refine C12.mono ?_
  rintro en w3 ⟨rfl, hw⟩
  obtain rfl := hw.symm
  clear hw
  go_wp2_with fail
  refine C8.mono ?_
  rintro en w3 ⟨rfl, hw⟩
  obtain rfl := hw.symm
  clear hw
  have e0 := (hh.out.up hr.out.2.1).cell
  have UR := hid hr.out.2.1
  have HH2 := hid (hh.out.up hr.out.2.1)
  clear hr C12 C8
  go_wp2_with fail
  refine (CG _ UR.out).mono ?_
  rintro en w4 ⟨rfl, g4, c4, hr⟩
  have RES : Hid (HeapP w4 h p q t m mv last n1 (gput L n1 ⟨g4, c4, noPage⟩) ∧ Fr (fun k => k = t ∨ k = m) w w4) := hid ⟨HH2.out.step hr.out.1 hr.out.2, ((Fr.of_below UR.out).mono (fun _ e => e.elim)).trans' hr.out.2⟩
  clear hr
  go_wp2
  go_ret2
  exact ⟨rfl, _, hid ⟨RES.out.1, RES.out.2, g4, c4, rfl⟩⟩
end
end Go.Proofs.YtbcghggkfnagoaaGreatDoor

namespace Go.Proofs.YtbcghggkfnagoaaGreatDoor
open Go Go.RowKit Go.Maps Hach

theorem be4_len (k : Nat) : (Oct.be k 4).length = 4 := Oct.be_length k 4
theorem mk4_len {b : List UInt8} (h : b.length = 512) {i : Nat} (hi : i + 4 ≤ 512) (k : Nat) : (mkPut b i (Oct.be k 4)).length = 512 := by rw [mkPut_length (by rw [be4_len, h]; exact hi), h]
section
variable (w : World) (h p t m : Nat) (q : PgN) (mv : Value) (last : Int) (n : Nat) (L : PgL)
set_option maxRecDepth 100000 in
set_option maxHeartbeats 2000000 in
theorem take2_calls (hh : Hid (HeapP w h p q t m mv last n L)) (hn : Hid (1 ≤ n ∧ n ≤ 4000)) (hL : Hid (L.length < 800000)) (x : PgX) (hx : Hid (gget L 1 = some x)) (C F NX : Nat) (hC : Hid (pgGet x.bs 12 4 = C ∧ 0 < C ∧ C < 1000000)) (hF : Hid (pgGet x.bs 8 4 = F ∧ 1 < F ∧ F ≤ n)) (y : PgX) (hy : Hid (gget L F = some y)) (h0 : Hid (pgGet y.bs 4 4 = 0)) (hNX : Hid (pgGet y.bs 0 4 = NX)) :
    Calls Tryz.prog 15 #[.pointer (some ⟨h, 0, none⟩)] w (TakeRet w h p t m q mv last F n fun L' => ∃ g1 c1 g2 c2, L' = gput (gput L (1 : Nat) ⟨g1, c1, mkPut (mkPut x.bs 8 (Oct.be NX 4)) 12 (Oct.be (C - 1) 4)⟩) F ⟨g2, c2, noPage⟩) := by
  have p12 := pg4 x.bs 12
  have p8 := pg4 x.bs 8
  have q4 := pg4 y.bs 4
  have q0 := pg4 y.bs 0
  rw [hC.out.1] at p12
  rw [hF.out.1] at p8
  rw [h0.out] at q4
  rw [hNX.out] at q0
  have hC0 : ¬ (C : Int) = 0 := by have := hC.out; omega
  have hC1 : wrap64 ((C : Int) - 1) = ((C - 1 : Nat) : Int) := by have := hC.out; unfold wrap64; omega
  have NXB : Hid (NX < 4294967296) := hid (by rw [← hNX.out]; exact pgGet_lt _ _)
  obtain ⟨C1, hC1'⟩ : ∃ k, C - 1 = k := ⟨_, rfl⟩
  have C1B : Hid (C1 < 1000000) := hid (by have := hC.out; omega)
  rw [hC1'] at hC1 ⊢
  clear hC1'
  obtain ⟨RB, hRB⟩ : ∃ r, mkPut (mkPut x.bs 8 (Oct.be NX 4)) 12 (Oct.be C1 4) = r := ⟨_, rfl⟩
  rw [hRB]
  have HRB := hid hRB
  clear hRB
  go_enter Tryz.func15, Tryz.ntmps15
  go_wp2_with (go_at_call 66; refine (hroot_calls w h p t m q mv last n L hh (hid (by have := hn.out; omega)) x hx).mono ?_; rintro en w2 ⟨g, c, rfl, hr⟩)
  have C12 := fget_calls w2 g c x.bs 512 12 4 (hid hr.out.2.2.1) (hid ⟨by decide, by decide, by decide, by decide, hr.out.2.2.2.1⟩) (hid hr.out.1.bytes)
  have C8 := fget_calls w2 g c x.bs 512 8 4 (hid hr.out.2.2.1) (hid ⟨by decide, by decide, by decide, by decide, hr.out.2.2.2.1⟩) (hid hr.out.1.bytes)
  rw [hC.out.1, p12] at C12
  rw [hF.out.1, p8] at C8
  refine C12.mono ?_
  rintro en w3 ⟨rfl, hw⟩
  obtain rfl := hw.symm
  clear hw
  go_wp2_with fail
  refine C8.mono ?_
  rintro en w3 ⟨rfl, hw⟩
  obtain rfl := hw.symm
  clear hw C12 C8
  have XL : Hid (x.bs.length = 512 ∧ 512 ≤ c) := hid ⟨hr.out.2.2.1, hr.out.2.2.2.1⟩
  have UR := hid hr.out.2.1
  have HH2 := hid (hh.out.up hr.out.2.1)
  have OR := hid hr.out.1
  have GR : Hid (w.heap.size ≤ g) := hid hr.out.2.2.2.2
  have GR2 : Hid (g < w2.heap.size) := hid (own_block hr.out.1 g rfl).2
  clear hr
  go_wp2_with fail
  refine (htrunk_calls w2 h p t m q mv last n L HH2 F (hid (by have := hF.out; have := hn.out; omega)) y hy (hid (by rw [h0.out]; decide))).mono ?_
  rintro en w3 ⟨gT, cT, rfl, hr⟩
  have U3 := hid (UR.out.t hr.out.2.1)
  have HH3 := hid (HH2.out.up hr.out.2.1)
  have OR3 : Hid (OwnB w3 w.heap.size (some ⟨g, 0, none⟩) c x.bs) := hid ((Fr.of_below hr.out.2.1).own OR.out (fun _ _ e => e))
  have D4 := fget_calls w3 gT cT y.bs 512 4 4 (hid hr.out.2.2.1) (hid ⟨by decide, by decide, by decide, by decide, hr.out.2.2.2.1⟩) (hid hr.out.1.bytes)
  have D0 := fget_calls w3 gT cT y.bs 512 0 4 (hid hr.out.2.2.1) (hid ⟨by decide, by decide, by decide, by decide, hr.out.2.2.2.1⟩) (hid hr.out.1.bytes)
  rw [h0.out, q4] at D4
  rw [hNX.out, q0] at D0
  clear hr OR HH2
  go_wp2_with fail
  refine D4.mono ?_
  rintro en w4 ⟨rfl, hw⟩
  obtain rfl := hw.symm
  clear hw D4
  go_wp2_with fail
  refine D0.mono ?_
  rintro en w4 ⟨rfl, hw⟩
  obtain rfl := hw.symm
  clear hw D0
  go_wp2_with fail
  refine (fset_calls w3 w.heap.size g c x.bs 512 8 4 (NX : Int) NX (hid (u64w (by have := NXB.out; omega))) (hid (by have := NXB.out; omega)) (hid XL.out.1) (hid ⟨by decide, by decide, by decide, by decide, XL.out.2⟩) OR3).mono ?_
  rintro en w4 ⟨rfl, hr⟩
  have O4 := hid hr.out.1
  have F4 : Hid (Fr (fun k => k = g) w3 w4) := hid hr.out.2
  clear hr OR3
  go_wp2_with fail
  refine (fset_calls w4 w.heap.size g c _ 512 12 4 (C1 : Int) C1 (hid (u64w (by have := C1B.out; omega))) (hid (by have := C1B.out; omega)) (hid (mk4_len XL.out.1 (by decide) NX)) (hid ⟨by decide, by decide, by decide, by decide, XL.out.2⟩) O4).mono ?_
  rintro en w5 ⟨rfl, hr⟩
  have O5 := hid hr.out.1
  have U5 : Hid (Up w w5) := hid (U3.out.trans ((F4.out.trans' hr.out.2).below U3.out.size (fun k hk e => by have := GR.out; omega)))
  have RL : Hid ((mkPut (mkPut x.bs 8 (Oct.be NX 4)) 12 (Oct.be C1 4)).length = 512) := hid (mk4_len (mk4_len XL.out.1 (by decide) NX) (by decide) C1)
  rw [HRB.out] at O5 RL
  clear hr O4 F4
  go_wp2_with (at_make; refine hold ?_)
  refine hid (wl_make elemFP rfl (.const (.int .i64 512)) (.const (.int .i64 512)) rfl w5.heap.size 512 rfl rfl rfl rfl (by decide) (by decide) (Nat.le_refl _) ?_)
  intro w6 o6 b6 z6
  have e6 : (madeCells (Value.int .u8 0).cells (512 * 1)).toList = noPage.map byteCell := by
    unfold noPage
    rw [Nat.mul_one]; show (madeCells #[Value.int IntKind.u8 0] 512).toList = _
    rw [toList_madeCells_one, List.map_replicate]; rfl
  rw [e6] at o6
  have B6 : Hid (Bytes w6 (some ⟨w5.heap.size, 0, none⟩) noPage) := hid (Rd.own o6).bytes
  have R6 : Hid (Bytes w6 (some ⟨g, 0, none⟩) RB) := hid (O5.out.bytes.grown b6)
  have U6 : Hid (Up w w6) := hid (U5.out.t b6)
  have HH6 := hid (hh.out.up U6.out)
  clear o6 b6 z6 e6
  go_wp2_with fail
  refine (hputs_calls w6 h p t m q mv last n L HH6 (hid (by have := hL.out; omega)) 1 F (hid (by have := hn.out; omega)) (hid (by have := hF.out; omega)) _ RB c RL R6 _ noPage 512 (hid noPage_len) B6).mono ?_
  rintro en w7 ⟨rfl, g1, d1, g2, d2, hr⟩
  have RES := hid (show HeapP w7 h p q t m mv last n (gput (gput L (1 : Nat) ⟨g1, d1, RB⟩) F ⟨g2, d2, noPage⟩) ∧ Fr (fun k => k = t ∨ k = m) w w7 from ⟨hr.out.1, ((Fr.of_below U6.out).mono (fun _ e => e.elim)).trans' (hr.out.2.mono (fun k e => .inr e))⟩)
  clear hr
  go_wp2
  go_ret2
  exact ⟨rfl, _, hid ⟨RES.out.1, RES.out.2, g1, d1, g2, d2, rfl⟩⟩
end
end Go.Proofs.YtbcghggkfnagoaaGreatDoor
