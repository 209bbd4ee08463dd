/- THE WALK of the document's Parse. -/
import Derived.Test.YtlmlplpbgkbhdaaDoorJrn17
import Derived.Test.YtlmlplpbgkbhdaaDoorRef8
import Derived.Test.YtlmlplpbgkbhdaaDoorJrn12
import Derived.Deep.CutRange
import Derived.IntWalk
set_option linter.unusedVariables false
set_option linter.unusedSimpArgs false
namespace Go.Proofs.YtlmlplpbgkbhdaaDoor
open Go Go.RowKit Hach

theorem goodR_P (w : World) (c p n : Int) (A : Option Addr) (l : List (Int × List UInt8)) (cap m : Nat) (hm : Hid (l.length = m)) (hl : Hid (m ≤ 1000000)) (hr : Hid (RecsRd w A l)) (G : Bool) (HG : Hid (Jrn.goodJ c p l = G)) :
    Calls Tryd.prog 29 #[.agg #[.int .i64 c, .int .i64 p, .int .u64 n], .slice A m cap] w fun e w' => e = .returned (.bool G) ∧ Hid (Below w.heap.size w w') := by
  have := refGood_calls w c p n A l cap (hid (by rw [hm.out]; exact hl.out)) hr
  rw [HG.out, hm.out] at this
  exact this

/-- What a record's reading yields, in one form. -/
def RecForm (w : World) (b : List UInt8) (n : Nat) (pg : Int) (VA : Option Addr) (vn vc : Nat) (E : Int) (w' : World) : Prop :=
  (E = 9 ∧ Jrn.recIs b n = false) ∨ (E = 0 ∧ Jrn.recIs b n = true ∧ pg = (Oct.val (b.take 4) : Int) ∧ vn = 512 ∧ w'.ownsRow w.heap.size 5 1 (.slice VA 512 vc) 512 (((b.drop 128).take 512).map byteCell))
theorem RetRec.form {w : World} {b : List UInt8} {n : Nat} {en : Ending} {w' : World} (h : RetRec w b n en w') (hl : 640 ≤ b.length) :
    ∃ pg VA vn vc E, en = .returned (.tuple #[.agg #[.int .i64 pg, .slice VA vn vc], .int .i64 E]) ∧ Hid (Below w.heap.size w w') ∧ Hid (RecForm w b n pg VA vn vc E w') := by
  obtain ⟨bl, h⟩ := h
  rcases h with ⟨h1, _⟩ | ⟨_, h2, rfl⟩ | ⟨_, h2, A, c, rfl, o⟩
  · omega
  · exact ⟨_, _, _, _, _, rfl, hid bl, hid (.inl ⟨rfl, h2⟩)⟩
  · exact ⟨_, _, _, _, _, rfl, hid bl, hid (.inr ⟨rfl, h2, rfl, rfl, o⟩)⟩
theorem RecForm.fr {w w2 w' w3 : World} {b : List UInt8} {n : Nat} {pg : Int} {VA : Option Addr} {vn vc : Nat} {E : Int} {S : Nat → Prop} (h : RecForm w b n pg VA vn vc E w') (hb : w2.heap.size ≤ w.heap.size) (hf : Fr S w' w3) (hS : ∀ k, w.heap.size ≤ k → k < w'.heap.size → ¬ S k) : RecForm w2 b n pg VA vn vc E w3 := by
  rcases h with h | ⟨h1, h2, h3, h4, o⟩
  · exact .inl h
  · exact .inr ⟨h1, h2, h3, h4, own_base (Fr.own hf o (fun k hk => hS k (o.lt k hk).1 (o.lt k hk).2)) hb⟩

def RefPInv (t : TypeId) (W wr : World) (xs : List UInt8) (n k : Nat) (A' : Option Addr) (c' : Nat) : Prop :=
  (∃ cells, wr.ownsRow W.heap.size t 2 (.slice A' k c') k cells ∧ RecsRow wr W.heap.size (Jrn.recsOf xs k) cells) ∧ Jrn.recsOk xs n k = true ∧ Below W.heap.size W wr

set_option maxRecDepth 100000 in
set_option maxHeartbeats 1000000 in
theorem refParse_calls (w : World) (A : Option Addr) (xs : List UInt8) (c m : Nat) (hm : Hid (xs.length = m)) (hm2 : Hid (m ≤ 1073741824)) (hcap : Hid (m ≤ c)) (hc : Hid (Bytes w A xs)) :
    Calls Tryd.prog 38 #[.slice A m c] w (RetParse w xs) := by
  have b0 : ∀ o, Below w.heap.size w (w.alloc o) := fun o => (Below.refl _ _).alloc (Nat.le_refl _) o
  go_enter Tryd.func38, Tryd.ntmps38
  go_wp2_with fail
  refine (refReadHead_calls _ A xs c m hm hm2 hcap (hid (hc.out.grown (b0 _)))).mono ?_
  rintro e w1 ⟨b1, h⟩
  have r0 : w1.cell? ⟨w.heap.size, 0, none⟩ = some (.int .i64 0) := by rw [b1.cell (p := ⟨w.heap.size, 0, none⟩) (by simp)]; go_simp
  have r1 : w1.cell? ⟨w.heap.size, 1, none⟩ = some (.int .i64 0) := by rw [b1.cell (p := ⟨w.heap.size, 1, none⟩) (by simp)]; go_simp
  have r2 : w1.cell? ⟨w.heap.size, 2, none⟩ = some (.int .u64 0) := by rw [b1.cell (p := ⟨w.heap.size, 2, none⟩) (by simp)]; go_simp
  have rf : ∀ i, w1.frozen? ⟨w.heap.size, i, none⟩ = false := by intro i; rw [b1.frozen (p := ⟨w.heap.size, i, none⟩) (by simp)]; go_simp
  have z1 : w.heap.size < w1.heap.size := by have := b1.size; simp at this; omega
  have B1 := hid ((b0 (.cells #[.int .i64 0, .int .i64 0, .int .u64 0] 47)).trans (b1.mono (by simp)))
  clear b1 b0
  obtain ⟨C, P, N, E, he, h9⟩ : ∃ (C P N E : Int), e = .returned (.tuple #[.agg #[.int .i64 C, .int .i64 P, .int .u64 N], .int .i64 E]) ∧
      ((xs.length < 128 ∧ E = 8) ∨ (128 ≤ xs.length ∧ Jrn.headIs xs = false ∧ E = 9) ∨ (128 ≤ xs.length ∧ Jrn.headIs xs = true ∧ E = 0 ∧ C = Jrn.hdC xs ∧ P = Jrn.hdP xs ∧ N = Jrn.hdN xs)) := by
    rcases h with ⟨h1, h2⟩ | ⟨h1, h2, h3⟩ | ⟨h1, h2, h3⟩
    · exact ⟨_, _, _, _, h2, .inl ⟨h1, rfl⟩⟩
    · exact ⟨_, _, _, _, h3, .inr (.inl ⟨h1, h2, rfl⟩)⟩
    · exact ⟨_, _, _, _, h3, .inr (.inr ⟨h1, h2, rfl, rfl, rfl, rfl⟩)⟩
  have HH := hid h9
  clear h h9
  subst he
  go_wp2_with (with_reducible refine hold_at 17 ?_)
  have hb1 : Below w1.heap.size w1 (w1.alloc (.cells #[.int .i64 C, .int .i64 P, .int .u64 N] 47)) := (Below.refl _ _).alloc (Nat.le_refl _) _
  replace r0 := (hb1.cell (p := ⟨w.heap.size, 0, none⟩) z1).trans r0
  replace r1 := (hb1.cell (p := ⟨w.heap.size, 1, none⟩) z1).trans r1
  replace r2 := (hb1.cell (p := ⟨w.heap.size, 2, none⟩) z1).trans r2
  replace rf : ∀ i, (w1.alloc (.cells #[.int .i64 C, .int .i64 P, .int .u64 N] 47)).frozen? ⟨w.heap.size, i, none⟩ = false := fun i => (hb1.frozen (p := ⟨w.heap.size, i, none⟩) z1).trans (rf i)
  have j0 : (w1.alloc (.cells #[.int .i64 C, .int .i64 P, .int .u64 N] 47)).cell? ⟨w1.heap.size, 0, none⟩ = some (.int .i64 C) := by go_simp
  have j1 : (w1.alloc (.cells #[.int .i64 C, .int .i64 P, .int .u64 N] 47)).cell? ⟨w1.heap.size, 1, none⟩ = some (.int .i64 P) := by go_simp
  have j2 : (w1.alloc (.cells #[.int .i64 C, .int .i64 P, .int .u64 N] 47)).cell? ⟨w1.heap.size, 2, none⟩ = some (.int .u64 N) := by go_simp
  have z2 : w1.heap.size < (w1.alloc (.cells #[.int .i64 C, .int .i64 P, .int .u64 N] 47)).heap.size := by simp
  have B2 := hid (B1.out.trans (hb1.mono B1.out.size))
  clear hb1 B1
  generalize (w1.alloc (.cells #[.int .i64 C, .int .i64 P, .int .u64 N] 47)) = W at *
  generalize w1.heap.size = gh at *
  have hngh : w.heap.size ≠ gh := by omega
  refine hid ?_
  rcases HH.out with ⟨h1, rfl⟩ | ⟨h1, h2, rfl⟩ | ⟨h1, h2, rfl, rfl, rfl, rfl⟩
  · clear HH
    go_wp2
    refine bodyPost_ret (v := .tuple #[.agg #[.int .i64 0, .int .i64 0, .int .u64 0], .slice none 0 0, .int .i64 8]) (by simp [results, Tryd.results38, go_sem, r0, r1, r2, rf]) rfl ⟨((B2.out.setCell (Nat.le_refl _) _).setCell (Nat.le_refl _) _).setCell (Nat.le_refl _) _, .inl ⟨h1, rfl⟩⟩
  · have hp : Jrn.parseOk xs = false := Jrn.parseOk_cold (by unfold Jrn.hotB; rw [if_neg (by omega)]; exact h2)
    clear HH
    go_wp2
    refine bodyPost_ret (v := .tuple #[.agg #[.int .i64 0, .int .i64 0, .int .u64 0], .slice none 0 0, .int .i64 9]) (by simp [results, Tryd.results38, go_sem, r0, r1, r2, rf]) rfl ⟨((B2.out.setCell (Nat.le_refl _) _).setCell (Nat.le_refl _) _).setCell (Nat.le_refl _) _, .inr (.inl ⟨h1, hp, rfl⟩)⟩
  · clear HH
    obtain ⟨x104, hC4, hP4⟩ := Jrn.headIs_true h1 h2
    have hot : Jrn.hotB xs = true := by unfold Jrn.hotB; rw [if_neg (by omega)]; exact h2
    have HOT := hid hot
    have H1 := hid h1
    obtain ⟨C, hC⟩ : ∃ C, Jrn.hdC xs = C := ⟨_, rfl⟩
    obtain ⟨P, hP⟩ : ∃ P, Jrn.hdP xs = P := ⟨_, rfl⟩
    obtain ⟨N, hN⟩ : ∃ N, Jrn.hdN xs = N := ⟨_, rfl⟩
    rw [hC] at hC4 j0
    rw [hP] at hP4 j1
    rw [hN] at j2
    have HC := hid hC
    have HP := hid hP
    have HN := hid hN
    have HN64 : Hid ((N : Int) < 18446744073709551616) := hid (by have := Jrn.hdN_lt xs; omega)
    obtain ⟨b, off, rfl, _⟩ := hc.out 0 (by omega)
    have m1 : (128 : Int) ≤ m := by have := hm.out; omega
    have m2 : (128 : Int) ≤ c := by have := hcap.out; omega
    have C0 : (0 : Int) ≤ C := by omega
    have C1 : (C : Int) ≤ 4000 := by omega
    obtain ⟨sv, hsv⟩ : ∃ s : Int, 1 + 5 * (min (max (C : Int) 0) 4000) = s := ⟨_, rfl⟩
    have hsv2 : sv = 1 + 5 * (C : Int) := by omega
    have HSV := hid hsv
    have HSV2 := hid hsv2
    have sv0 : 0 ≤ sv := by omega
    have sv1 : sv ≤ 20001 := by omega
    clear h1 h2 hC hP hN x104 hC4 hP4 hot hsv hsv2
    rw [HC.out, HP.out, HN.out]
    go_wp2_with fail
    refine (refSectors_calls (C : Int) _).mono ?_
    rw [HSV.out]
    rintro e w' ⟨rfl, rfl⟩
    by_cases hlong : (m : Int) < 128 * sv
    · have hp : Jrn.parseOk xs = false := Jrn.parseOk_short (by rw [HC.out, hm.out]; have := HSV2.out; omega)
      go_wp2
      refine bodyPost_ret (v := .tuple #[.agg #[.int .i64 0, .int .i64 0, .int .u64 0], .slice none 0 0, .int .i64 9]) (by simp [results, Tryd.results38, go_sem, r0, r1, r2, rf]) rfl ⟨((B2.out.setCell (Nat.le_refl _) _).setCell (Nat.le_refl _) _).setCell (Nat.le_refl _) _, .inr (.inl ⟨H1.out, hp, rfl⟩)⟩
    · have HL := hid (show 128 * (1 + 5 * C) ≤ m by have := HSV2.out; omega)
      go_wp2_with (with_reducible refine hold_at 26 ?_)
      have hd : decide ((m : Int) < 128 * sv) = false := decide_eq_false (by omega)
      clear hlong sv0 sv1 HSV
      generalize 128 * sv = q at *
      refine hid ?_
      clear m1 m2
      go_wp2
      have zW : w.heap.size < W.heap.size := by omega
      have PI : Hid (RefPInv 49 W W xs N 0 none 0) := hid ⟨⟨[], own_nil _ _ _ _, trivial⟩, rfl, Below.refl _ _⟩
      have HL6 := hid (show 128 + 640 * C ≤ m by have := HL.out; omega)
      have C1' := hid C1
      have HBW := hid (hc.out.grown B2.out)
      clear hd C1 HSV2 C0 HL
      go_loopw [7, 8] (fun v i wr => ∃ (k : Nat) (A' : Option Addr) (c' : Nat), k ≤ C ∧ v = .slice A' k c' ∧ i = .int .i64 k ∧ Hid (RefPInv 49 W wr xs N k A' c')) (fun _ i _ => C - (intOf i).toNat)
      case atStart => exact ⟨0, none, 0, Nat.zero_le _, rfl, rfl, PI⟩
      case round =>
        obtain ⟨k, A', c', hk, rfl, rfl, iv⟩ := hrel
        obtain ⟨⟨cells, o4, r4⟩, ok, bw⟩ := iv.out
        have s0 := (bw.cell (p := ⟨gh, 0, none⟩) z2).trans j0
        have s1 := (bw.cell (p := ⟨gh, 1, none⟩) z2).trans j1
        have s2 := (bw.cell (p := ⟨gh, 2, none⟩) z2).trans j2
        by_cases hlt : (k : Int) < C
        · have HK := hid (show k < C by omega)
          obtain ⟨sk, hsk⟩ : ∃ s : Int, 1 + 5 * (min (max (k : Int) 0) 4000) = s := ⟨_, rfl⟩
          have sk2 : sk = 1 + 5 * (k : Int) := by have := C1'.out; omega
          have HSK := hid hsk
          have sk0 : 0 ≤ sk := by omega
          have sk1 : sk ≤ 20001 := by have := C1'.out; omega
          have hJ : 128 * sk = ((128 + 640 * k : Nat) : Int) := by omega
          obtain ⟨r, hr⟩ : ∃ r, (Jrn.recAt xs k).length = r := ⟨_, rfl⟩
          have hr640 : 640 ≤ r := by rw [← hr, Jrn.recAt_length, hm.out]; have := HL6.out; have := HK.out; omega
          have HR := hid hr
          have HRM := hid (show r ≤ 1073741824 by rw [← hr, Jrn.recAt_length, hm.out]; have := hm2.out; omega)
          obtain ⟨o2, hB2, hsl⟩ := rest_low W b off c m (128 + 640 * k) xs (128 * sk) hJ hm.out (by have := HL6.out; have := HK.out; omega) hcap.out HBW.out
          rw [show m - (128 + 640 * k) = r by rw [← hr, Jrn.recAt_length, hm.out]] at hsl
          have HB2 : Hid (Bytes W (some ⟨b, o2, none⟩) (Jrn.recAt xs k)) := hid hB2
          have HRC := hid (show r ≤ c - (128 + 640 * k) by rw [← hr, Jrn.recAt_length, hm.out]; have := hcap.out; omega)
          generalize c - (128 + 640 * k) = cr at *
          have O4 := hid o4
          have R4 := hid r4
          have BW := hid bw
          have OK := hid ok
          have H640 := hid hr640
          have f2 : wr.drew.cell? ⟨gh, 2, none⟩ = some (.int .u64 (N : Int)) := s2
          have YB : Hid (Bytes wr.drew (some ⟨b, o2, none⟩) (Jrn.recAt xs k)) := hid (show Bytes wr (some ⟨b, o2, none⟩) (Jrn.recAt xs k) from HB2.out.grown BW.out)
          clear iv o4 r4 ok bw hr640 PI hsk sk2 hJ hr hB2 HB2
          have hwr : IntKind.i64.wrap (128 * sk) = 128 * sk := IntWalk.i64_in _ (by omega)
          have gne : wr.heap.size ≠ gh := by have := BW.out.size; omega
          have u1 : Up wr (wr.alloc (.cells #[.int .i64 0, .slice none 0 0] 49)).drew := (show Up wr (wr.alloc (.cells #[.int .i64 0, .slice none 0 0] 49)) from (Below.refl _ _).alloc (Nat.le_refl _) _).t (Up.drew _)
          have F2A := hid (u1.c (p := ⟨gh, 2, none⟩) s2)
          have UZ := hid u1
          have LRA := hid (show 640 ≤ (Jrn.recAt xs k).length by rw [HR.out]; exact H640.out)
          have YA : Hid (Bytes (wr.alloc (.cells #[.int .i64 0, .slice none 0 0] 49)).drew (some ⟨b, o2, none⟩) (Jrn.recAt xs k)) := hid (show Bytes (wr.alloc (.cells #[.int .i64 0, .slice none 0 0] 49)).drew (some ⟨b, o2, none⟩) (Jrn.recAt xs k) from (show Bytes wr (some ⟨b, o2, none⟩) (Jrn.recAt xs k) from YB.out).grown u1)
          have zc0 : (wr.alloc (.cells #[.int .i64 0, .slice none 0 0] 49)).drew.cell? ⟨wr.heap.size, 0, none⟩ = some (.int .i64 0) := by go_simp
          have zc1 : (wr.alloc (.cells #[.int .i64 0, .slice none 0 0] 49)).drew.cell? ⟨wr.heap.size, 1, none⟩ = some (.slice none 0 0) := by go_simp
          have zcf : ∀ i, (wr.alloc (.cells #[.int .i64 0, .slice none 0 0] 49)).drew.frozen? ⟨wr.heap.size, i, none⟩ = false := by intro i; go_simp
          have zz : wr.heap.size < (wr.alloc (.cells #[.int .i64 0, .slice none 0 0] 49)).drew.heap.size := by show wr.heap.size < (wr.alloc (.cells #[.int .i64 0, .slice none 0 0] 49)).heap.size; simp
          have ZC := hid (And.intro zc0 (And.intro zc1 (And.intro zcf zz)))
          clear u1 zc0 zc1 zcf zz
          go_upto_region 10 with (fail)
          go_cut [9, 10] from 28 to 51 (fun s9 s10 wx => ∃ (g : Nat) (pg : Int) (VA : Option Addr) (vn vc : Nat) (E : Int), s9 = .pointer (some ⟨g, 0, none⟩) ∧ s10 = .int .i64 E ∧ wx.cell? ⟨g, 0, none⟩ = some (.int .i64 pg) ∧ wx.cell? ⟨g, 1, none⟩ = some (.slice VA vn vc) ∧ Hid (wr.heap.size ≤ g ∧ Below wr.heap.size wr wx ∧ RecForm wr (Jrn.recAt xs k) N pg VA vn vc E wx))
          case first =>
            go_region_held3 (fun w' => w'.cell? ⟨gh, 2, none⟩ = some (.int .u64 (N : Int)))
              (first | exact f2 | exact F2A.out | exact q2 | go_keep)
              (first
                | (go_at_call 31; refine (refSectors_calls (k : Int) _).mono ?_; rw [HSK.out]; rintro e w' ⟨rfl, rfl⟩)
                | (go_at_call 35; refine (refReadRecord_calls wr.drew _ (Jrn.recAt xs k) cr N r HR HRM.out HRC.out HN64 YB).mono ?_; rintro e w3 h3; obtain ⟨pg, VA, vn, vc, E, rfl, b3, rf3⟩ := h3.form LRA.out; have q2 := (b3.out.cell (p := ⟨gh, 2, none⟩) (by show gh < wr.heap.size; have := BW.out.size; omega)).trans f2; have WAY1 := hid rf3.out)
                | (go_at_call 35; refine (refReadRecord_calls (wr.alloc (.cells #[.int .i64 0, .slice none 0 0] 49)).drew _ (Jrn.recAt xs k) cr N r HR HRM.out HRC.out HN64 YA).mono ?_; rintro e w3 h3; obtain ⟨pg, VA, vn, vc, E, rfl, b3, rf3⟩ := h3.form LRA.out; have q2 := (b3.out.cell (p := ⟨gh, 2, none⟩) (by show gh < _; have := ZC.out.2.2.2; have := BW.out.size; omega)).trans F2A.out; have y0 := (b3.out.cell (p := ⟨wr.heap.size, 0, none⟩) ZC.out.2.2.2).trans ZC.out.1; have y1 := (b3.out.cell (p := ⟨wr.heap.size, 1, none⟩) ZC.out.2.2.2).trans ZC.out.2.1; have yf : ∀ i, w3.frozen? ⟨wr.heap.size, i, none⟩ = false := fun i => (b3.out.frozen (p := ⟨wr.heap.size, i, none⟩) ZC.out.2.2.2).trans (ZC.out.2.2.1 i); have WAY2 := hid rf3.out))
            all_goals (go_wp2_with fail; go_meet)
            all_goals first
              | exact ⟨w3.heap.size, pg, VA, vn, vc, E, rfl, rfl, by go_simp, by go_simp, hid ⟨b3.out.size, ((Up.drew wr).t b3.out).alloc b3.out.size _, WAY1.out.fr (Nat.le_refl _) ((Fr.refl No w3).alloc _) (fun _ _ _ => id)⟩⟩
              | exact ⟨wr.heap.size, pg, VA, vn, vc, E, rfl, rfl, by go_simp, by go_simp, hid ⟨Nat.le_refl _, ((UZ.out.t b3.out).setCell (Nat.le_refl _) _).setCell (Nat.le_refl _) _, WAY2.out.fr UZ.out.size (((Fr.refl (fun i => i = wr.heap.size) w3).setCell (fun _ => rfl) _).setCell (fun _ => rfl) _) (fun k hk _ e => by subst e; have := ZC.out.2.2.2; omega)⟩⟩
          case rest =>
            obtain ⟨g, pg, VA, vn, vc, E, rfl, rfl, c0, c1, hx⟩ := hcut
            obtain ⟨hg, hbel, hform⟩ := hx.out
            have BE3 := hid (BW.out.trans (hbel.mono BW.out.size))
            have HBEL := hid hbel
            clear hx hbel hwr gne sk0 sk1 hsl f2 s0 s1 s2 F2A YB YA ZC UZ
            rcases hform with ⟨rfl, h2⟩ | ⟨rfl, h2, hpg, rfl, o⟩
            · have HP9 := hid (show Jrn.parseOk xs = false from Jrn.parseOk_bad (by rw [HN.out, HC.out]; exact Jrn.recsOk_not h2 HK.out))
              have t0 := (BE3.out.cell (p := ⟨w.heap.size, 0, none⟩) zW).trans r0
              have t1 := (BE3.out.cell (p := ⟨w.heap.size, 1, none⟩) zW).trans r1
              have t2 := (BE3.out.cell (p := ⟨w.heap.size, 2, none⟩) zW).trans r2
              have tf : ∀ i, wc.frozen? ⟨w.heap.size, i, none⟩ = false := fun i => (BE3.out.frozen (p := ⟨w.heap.size, i, none⟩) zW).trans (rf i)
              have BE := hid (B2.out.trans (BE3.out.mono B2.out.size))
              clear h2 c0 c1 O4 R4 OK
              go_wp2
              refine bodyPost_ret (v := .tuple #[.agg #[.int .i64 0, .int .i64 0, .int .u64 0], .slice none 0 0, .int .i64 9]) (by simp [results, Tryd.results38, go_sem, t0, t1, t2, tf]) rfl ⟨((BE.out.setCell (Nat.le_refl _) _).setCell (Nat.le_refl _) _).setCell (Nat.le_refl _) _, .inr (.inl ⟨H1.out, HP9.out, rfl⟩)⟩
            · obtain ⟨D, hD⟩ : ∃ D, ((Jrn.recAt xs k).drop 128).take 512 = D := ⟨_, rfl⟩
              rw [hD] at o
              have lD : D.length = 512 := by rw [← hD, List.length_take, List.length_drop]; have := LRA.out; omega
              have HRO := hid (show Jrn.recOf xs k = (pg, D) by unfold Jrn.recOf; rw [hpg, hD])
              have LD := hid lD
              have O3 := hid (own_base o BW.out.size)
              have OK2 := hid (show Jrn.recsOk xs N (k + 1) = true by rw [Jrn.recsOk_succ, OK.out, h2]; rfl)
              have O4c := hid (Fr.own (Fr.of_below HBEL.out) O4.out (fun _ _ => id))
              have R4c := hid (R4.out.keep (w' := wc) fun _ _ _ o => Fr.own (Fr.of_below HBEL.out) o (fun _ _ => id))
              clear hpg hD lD o h2 O4 R4 OK HBEL
              go_wp2_with (at_builtin; refine hold ?_)
              have oA := O4c.out.alloc (.cells #[.int .i64 pg, .slice VA 512 vc] 49)
              have oD : OwnB (wc.alloc (.cells #[.int .i64 pg, .slice VA 512 vc] 49)) W.heap.size VA vc D := by
                unfold OwnB; rw [LD.out]; exact O3.out.alloc _
              have rA := R4c.out.keep (w' := wc.alloc (.cells #[.int .i64 pg, .slice VA 512 vc] 49)) fun _ _ _ o => World.ownsRow.alloc o _
              have bA := BE3.out.alloc BE3.out.size (.cells #[.int .i64 pg, .slice VA 512 vc] 49)
              have rS := rA.snoc pg D VA vc oD
              rw [LD.out] at rS
              refine hid (wl_append elemQ rfl (.tmp 48) (.tmp 50) rfl rfl oA rfl (Rd.new wc 49 (0, 0) [.int .i64 pg, .slice VA 512 vc]) rfl (by simp [Value.oneCell']) (by have := C1'.out; have := HK.out; simp only [maxLen]; omega) (by have := C1'.out; have := HK.out; omega) bA.size ?_)
              intro A5 c5 w5 o5 g5 d5
              have NI : Hid (RefPInv 49 W w5 xs N (k + 1) A5 c5) := by
                refine hid ⟨⟨_, o5, ?_⟩, OK2.out, below_append bA (Nat.le_refl _) bA.size oA g5⟩
                rw [Jrn.recsOf_succ, HRO.out]
                exact rS.keep fun _ _ _ o => o.keep (Fr.of_grown g5) (row_other oA (by decide))
              clear o5 g5 d5 oA oD rA bA rS O3 O4c R4c BE3 c0 c1
              go_wp2
              go_roundw
              case rel => exact ⟨k + 1, A5, c5, HK.out, rfl, (by have := C1'.out; have := HK.out; rw [show wrap64 ((k : Int) + 1) = ((k + 1 : Nat) : Int) by unfold wrap64; omega]), NI⟩
              case measure => have := C1'.out; have := HK.out; rw [show wrap64 ((k : Int) + 1) = ((k + 1 : Nat) : Int) by unfold wrap64; omega]; simp only [intOf]; omega
        · obtain rfl : C = k := by omega
          have rd := hid (RecsRow.rd o4 r4)
          have LRS := hid (Jrn.recsOf_length xs C)
          obtain ⟨G, hG⟩ : ∃ G, Jrn.goodJ C P (Jrn.recsOf xs C) = G := ⟨_, rfl⟩
          have HG := hid hG
          have hp : Jrn.parseOk xs = G := Jrn.parseOk_good HOT.out (by rw [HC.out, hm.out]; have := HL6.out; omega) (by rw [HN.out, HC.out]; exact ok) (by rw [HC.out, HP.out]; exact hG)
          have HPO := hid hp
          have O4 := hid o4
          have R4 := hid r4
          have BW := hid bw
          clear iv o4 r4 ok bw hp hG PI
          go_wp2_with fail
          refine (goodR_P wr C P N A' (Jrn.recsOf xs C) c' C LRS (hid (by have := C1'.out; omega)) rd G HG).mono ?_
          rintro e w4 ⟨rfl, b4⟩
          have BE4 := hid (BW.out.trans (b4.out.mono BW.out.size))
          have t0 := (BE4.out.cell (p := ⟨w.heap.size, 0, none⟩) zW).trans r0
          have t1 := (BE4.out.cell (p := ⟨w.heap.size, 1, none⟩) zW).trans r1
          have t2 := (BE4.out.cell (p := ⟨w.heap.size, 2, none⟩) zW).trans r2
          have tf : ∀ i, w4.frozen? ⟨w.heap.size, i, none⟩ = false := fun i => (BE4.out.frozen (p := ⟨w.heap.size, i, none⟩) zW).trans (rf i)
          have u0 := (BE4.out.cell (p := ⟨gh, 0, none⟩) z2).trans j0
          have u1 := (BE4.out.cell (p := ⟨gh, 1, none⟩) z2).trans j1
          have u2 := (BE4.out.cell (p := ⟨gh, 2, none⟩) z2).trans j2
          have BE := hid (B2.out.trans (BE4.out.mono B2.out.size))
          have O5 := hid (Fr.own (Fr.of_below b4.out) O4.out (fun _ _ => id))
          have R5 := hid (R4.out.keep (w' := w4) fun _ _ _ o => Fr.own (Fr.of_below b4.out) o (fun _ _ => id))
          clear b4 O4 R4 BW rd s0 s1 s2
          cases G
          · simp only [Bool.not_false, Bool.not_true]
            go_wp2
            refine bodyPost_ret (v := .tuple #[.agg #[.int .i64 0, .int .i64 0, .int .u64 0], .slice none 0 0, .int .i64 9]) (by simp [results, Tryd.results38, go_sem, t0, t1, t2, tf]) rfl ⟨((BE.out.setCell (Nat.le_refl _) _).setCell (Nat.le_refl _) _).setCell (Nat.le_refl _) _, .inr (.inl ⟨H1.out, HPO.out, rfl⟩)⟩
          · simp only [Bool.not_false, Bool.not_true]
            go_wp2
            refine bodyPost_ret (v := .tuple #[.agg #[.int .i64 (C : Int), .int .i64 (P : Int), .int .u64 (N : Int)], .slice A' C c', .int .i64 0]) (by simp [results, Tryd.results38, go_sem, t0, t1, t2, tf]) rfl ⟨((BE.out.setCell (Nat.le_refl _) _).setCell (Nat.le_refl _) _).setCell (Nat.le_refl _) _, .inr (.inr ⟨H1.out, HPO.out, A', c', by rw [HC.out, HP.out, HN.out]; rfl, ?_⟩)⟩
            rw [HC.out]
            exact RecsRow.rd (ownsRow_setCell_below (ownsRow_setCell_below (ownsRow_setCell_below O5.out zW _) zW _) zW _)
              (((R5.out.keep (fun _ _ _ o => ownsRow_setCell_below o zW _)).keep (fun _ _ _ o => ownsRow_setCell_below o zW _)).keep (fun _ _ _ o => ownsRow_setCell_below o zW _))
end Go.Proofs.YtlmlplpbgkbhdaaDoor
