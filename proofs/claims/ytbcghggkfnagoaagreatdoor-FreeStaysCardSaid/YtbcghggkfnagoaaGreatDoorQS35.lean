/- PARTS OF A PROOF, one behind the other: THE WALK of journal.Parse. CONDITIONS: none of this text's own. -/
import Derived.Test.YtbcghggkfnagoaaGreatDoorQS34
import Derived.Test.YtbcghggkfnagoaaGreatDoorQS31
import Derived.Deep.Cut
set_option linter.unusedVariables false
set_option linter.unusedSimpArgs false
namespace Go.Proofs.YtbcghggkfnagoaaGreatDoor
open Go Go.RowKit Hach

set_option maxRecDepth 100000 in
theorem rest_low (w : World) (b off c n j : Nat) (xs : List UInt8) (J : Int) (hJ : J = j) (hn : xs.length = n) (hj : j ≤ n) (hc : n ≤ c) (hb : Bytes w (some ⟨b, off, none⟩) xs) :
    ∃ o', Bytes w (some ⟨b, o', none⟩) (xs.drop j) ∧ ∀ w0 : World, (Instr.slice 64 (.slice (some ⟨b, off, none⟩) n c) (some (.int .i64 J)) none none).run Tryz.prog w0 = .ok (.slice (some ⟨b, o', none⟩) (n - j) (c - j)) w0 := by
  subst hJ
  have hs : ∀ w0 : World, (sizeOf 5).run Tryz.prog w0 = .ok 1 w0 := by
    intro w0
    obtain ⟨i, h3, h4⟩ := Option.map_eq_some_iff.1 size1
    simp [Go.sizeOf, typeInfo, h3, h4]
  have hrun : ∀ w0 : World, (Instr.slice 64 (.slice (some ⟨b, off, none⟩) n c) (some (.int .i64 (j : Int))) none none).run Tryz.prog w0 = .ok (sliced (some ⟨b, off, none⟩) j n c 1) w0 := by
    intro w0
    rw [run_slice_l w0 64 _ n c Tryz.underlying64 .i64 (j : Int) (by omega) (by omega), show Tryz.prog.elem 64 = 5 by kernel_rfl, hs]
    rfl
  by_cases e : c = j
  · refine ⟨off, ?_, fun w0 => ?_⟩
    · rw [List.drop_of_length_le (by omega)]; exact Bytes.nil _ _
    · rw [hrun]; unfold sliced; rw [if_pos e]
  · refine ⟨off + j, ?_, fun w0 => ?_⟩
    · have := hb.sub j (n - j)
      rwa [List.take_of_length_le (by rw [List.length_drop]; omega)] at this
    · rw [hrun]; unfold sliced; rw [if_neg e]
      simp [Addr.add]

theorem goodJ_P (w : World) (c p n : Int) (A : Option Addr) (l : List (Int × List UInt8)) (cap m : Nat) (hm : Hid (l.length = m)) (hl : Hid (m ≤ 1000000)) (hr : Hid (RecsRd w A l)) (G : Bool) (HG : Hid (Jrn.goodJ c p l = G)) :
    Calls Tryz.prog 140 #[.agg #[.int .i64 c, .int .i64 p, .int .u64 n], .slice A m cap] w fun e w' => e = .returned (.bool G) ∧ Hid (Below w.heap.size w w') := by
  have := good_callsJ w c p n A l cap (hid (by rw [hm.out]; exact hl.out)) hr
  rw [HG.out, hm.out] at this
  exact this

theorem RecsRow.base0 {w : World} {base : Nat} {l : List (Int × List UInt8)} {xs : List Value} (h : RecsRow w base l xs) : RecsRow w 0 l xs := by
  induction l generalizing xs with
  | nil => cases xs with
    | nil => trivial
    | cons _ _ => exact h.elim
  | cons r l ih => match xs, h with
    | u :: v :: xs, h => obtain ⟨A, c, hv, o⟩ := h.2.1; exact ⟨h.1, ⟨A, c, hv, own_base o (Nat.zero_le _)⟩, ih h.2.2⟩
def RecsOwnd (w : World) (A : Option Addr) (k c : Nat) (l : List (Int × List UInt8)) : Prop := ∃ cells, w.ownsRow 0 205 2 (.slice A k c) k cells ∧ RecsRow w 0 l cells
def RetParse (w : World) (b : List UInt8) (en : Ending) (w' : World) : Prop :=
  Below w.heap.size w w' ∧
  ((b.length < 128 ∧ en = .returned (.tuple #[headV 0 0 0, .slice none 0 0, .int .i64 8])) ∨
   (128 ≤ b.length ∧ Jrn.parseOk b = false ∧ en = .returned (.tuple #[headV 0 0 0, .slice none 0 0, .int .i64 9])) ∨
   (128 ≤ b.length ∧ Jrn.parseOk b = true ∧ ∃ A c, en = .returned (.tuple #[headV (Jrn.hdC b) (Jrn.hdP b) (Jrn.hdN b), .slice A (Jrn.hdC b) c, .int .i64 0]) ∧ RecsOwnd w' A (Jrn.hdC b) c (Jrn.recsOf b (Jrn.hdC b))))

def ParseInv (t : TypeId) (W wr : World) (xs : List UInt8) (n k : Nat) (A' : Option Addr) (c' b o r cr : Nat) : Prop :=
  (∃ cells, wr.ownsRow W.heap.size t 2 (.slice A' k c') k cells ∧ RecsRow wr W.heap.size (Jrn.recsOf xs k) cells) ∧ Jrn.recsOk xs n k = true ∧
  (r = (Jrn.recAt xs k).length ∧ r ≤ cr ∧ Bytes W (some ⟨b, o, none⟩) (Jrn.recAt xs k)) ∧ Below W.heap.size W wr

set_option maxRecDepth 100000 in
set_option maxHeartbeats 1000000 in
theorem parse_calls (w : World) (ht : Hid (TabOk w)) (A : Option Addr) (xs : List UInt8) (c m : Nat) (hm : Hid (xs.length = m)) (hm2 : Hid (m ≤ 1073741824)) (hcap : Hid (m ≤ c)) (hc : Hid (Bytes w A xs)) :
    Calls Tryz.prog 133 #[.slice A m c] w (RetParse w xs) := by
  have b0 : ∀ o, Below w.heap.size w (w.alloc o) := fun o => (Below.refl _ _).alloc (Nat.le_refl _) o
  go_enter Tryz.func133, Tryz.ntmps133
  go_wp2_with fail
  refine (readHead_calls _ (hid (ht.out.below' (b0 _))) A xs c m hm hm2 hcap (hid (hc.out.grown (b0 _)))).mono ?_
  rintro e w1 ⟨b1, h⟩
  have r0 : w1.cell? ⟨w.heap.size, 0, none⟩ = some (.int .i64 0) := by rw [b1.cell (p := ⟨w.heap.size, 0, none⟩) (by simp)]; go_simp
  have r1 : w1.cell? ⟨w.heap.size, 1, none⟩ = some (.int .i64 0) := by rw [b1.cell (p := ⟨w.heap.size, 1, none⟩) (by simp)]; go_simp
  have r2 : w1.cell? ⟨w.heap.size, 2, none⟩ = some (.int .u64 0) := by rw [b1.cell (p := ⟨w.heap.size, 2, none⟩) (by simp)]; go_simp
  have rf : ∀ i, w1.frozen? ⟨w.heap.size, i, none⟩ = false := by intro i; rw [b1.frozen (p := ⟨w.heap.size, i, none⟩) (by simp)]; go_simp
  have z1 : w.heap.size < w1.heap.size := by have := b1.size; simp at this; omega
  have B1 := hid ((b0 (.cells #[.int .i64 0, .int .i64 0, .int .u64 0] 144)).trans (b1.mono (by simp)))
  clear b1 b0
  obtain ⟨C, P, N, E, he, h9⟩ : ∃ (C P N E : Int), e = .returned (.tuple #[.agg #[.int .i64 C, .int .i64 P, .int .u64 N], .int .i64 E]) ∧
      ((xs.length < 128 ∧ E = 8) ∨ (128 ≤ xs.length ∧ Jrn.headIs xs = false ∧ E = 9) ∨ (128 ≤ xs.length ∧ Jrn.headIs xs = true ∧ E = 0 ∧ C = Jrn.hdC xs ∧ P = Jrn.hdP xs ∧ N = Jrn.hdN xs)) := by
    rcases h with ⟨h1, h2⟩ | ⟨h1, h2, h3⟩ | ⟨h1, h2, h3⟩
    · exact ⟨_, _, _, _, h2, .inl ⟨h1, rfl⟩⟩
    · exact ⟨_, _, _, _, h3, .inr (.inl ⟨h1, h2, rfl⟩)⟩
    · exact ⟨_, _, _, _, h3, .inr (.inr ⟨h1, h2, rfl, rfl, rfl, rfl⟩)⟩
  have HH := hid h9
  clear h h9
  subst he
  go_wp2_with (with_reducible refine hold_at 18 ?_)
  have hb1 : Below w1.heap.size w1 (w1.alloc (.cells #[.int .i64 C, .int .i64 P, .int .u64 N] 144)) := (Below.refl _ _).alloc (Nat.le_refl _) _
  replace r0 := (hb1.cell (p := ⟨w.heap.size, 0, none⟩) z1).trans r0
  replace r1 := (hb1.cell (p := ⟨w.heap.size, 1, none⟩) z1).trans r1
  replace r2 := (hb1.cell (p := ⟨w.heap.size, 2, none⟩) z1).trans r2
  replace rf : ∀ i, (w1.alloc (.cells #[.int .i64 C, .int .i64 P, .int .u64 N] 144)).frozen? ⟨w.heap.size, i, none⟩ = false := fun i => (hb1.frozen (p := ⟨w.heap.size, i, none⟩) z1).trans (rf i)
  have j0 : (w1.alloc (.cells #[.int .i64 C, .int .i64 P, .int .u64 N] 144)).cell? ⟨w1.heap.size, 0, none⟩ = some (.int .i64 C) := by go_simp
  have j1 : (w1.alloc (.cells #[.int .i64 C, .int .i64 P, .int .u64 N] 144)).cell? ⟨w1.heap.size, 1, none⟩ = some (.int .i64 P) := by go_simp
  have j2 : (w1.alloc (.cells #[.int .i64 C, .int .i64 P, .int .u64 N] 144)).cell? ⟨w1.heap.size, 2, none⟩ = some (.int .u64 N) := by go_simp
  have z2 : w1.heap.size < (w1.alloc (.cells #[.int .i64 C, .int .i64 P, .int .u64 N] 144)).heap.size := by simp
  have B2 := hid (B1.out.trans (hb1.mono B1.out.size))
  clear hb1 B1
  generalize (w1.alloc (.cells #[.int .i64 C, .int .i64 P, .int .u64 N] 144)) = W at *
  generalize w1.heap.size = gh at *
  have hngh : w.heap.size ≠ gh := by omega
  refine hid ?_
  rcases HH.out with ⟨h1, rfl⟩ | ⟨h1, h2, rfl⟩ | ⟨h1, h2, rfl, rfl, rfl, rfl⟩
  · clear HH
    go_wp2
    refine bodyPost_ret (v := .tuple #[.agg #[.int .i64 0, .int .i64 0, .int .u64 0], .slice none 0 0, .int .i64 8]) (by simp [results, Tryz.results133, go_sem, r0, r1, r2, rf]) rfl ⟨((B2.out.setCell (Nat.le_refl _) _).setCell (Nat.le_refl _) _).setCell (Nat.le_refl _) _, .inl ⟨h1, rfl⟩⟩
  · have hp : Jrn.parseOk xs = false := Jrn.parseOk_cold (by unfold Jrn.hotB; rw [if_neg (by omega)]; exact h2)
    clear HH
    go_wp2
    refine bodyPost_ret (v := .tuple #[.agg #[.int .i64 0, .int .i64 0, .int .u64 0], .slice none 0 0, .int .i64 9]) (by simp [results, Tryz.results133, go_sem, r0, r1, r2, rf]) rfl ⟨((B2.out.setCell (Nat.le_refl _) _).setCell (Nat.le_refl _) _).setCell (Nat.le_refl _) _, .inr (.inl ⟨h1, hp, rfl⟩)⟩
  · clear HH
    obtain ⟨x104, hC4, hP4⟩ := Jrn.headIs_true h1 h2
    have hot : Jrn.hotB xs = true := by unfold Jrn.hotB; rw [if_neg (by omega)]; exact h2
    have HOT := hid hot
    have H1 := hid h1
    obtain ⟨C, hC⟩ : ∃ C, Jrn.hdC xs = C := ⟨_, rfl⟩
    obtain ⟨P, hP⟩ : ∃ P, Jrn.hdP xs = P := ⟨_, rfl⟩
    obtain ⟨N, hN⟩ : ∃ N, Jrn.hdN xs = N := ⟨_, rfl⟩
    rw [hC] at hC4 j0
    rw [hP] at hP4 j1
    rw [hN] at j2
    have HC := hid hC
    have HP := hid hP
    have HN := hid hN
    have HN64 : Hid ((N : Int) < 18446744073709551616) := hid (by have := Jrn.hdN_lt xs; omega)
    obtain ⟨b, off, rfl, _⟩ := hc.out 0 (by omega)
    have X128 := hid (show (xs.take 128).length = 128 by rw [List.length_take]; omega)
    have X0 : Hid ((xs.take 128)[0]? = some 104) := hid (by rw [List.getElem?_take, if_pos (by decide)]; exact x104)
    have m1 : (128 : Int) ≤ m := by have := hm.out; omega
    have m2 : (128 : Int) ≤ c := by have := hcap.out; omega
    have C0 : (0 : Int) ≤ C := by omega
    have C1 : (C : Int) ≤ 4000 := by omega
    obtain ⟨sv, hsv⟩ : ∃ s : Int, 1 + 5 * (min (max (C : Int) 0) 4000) = s := ⟨_, rfl⟩
    have hsv2 : sv = 1 + 5 * (C : Int) := by omega
    have HSV := hid hsv
    have HSV2 := hid hsv2
    have sv0 : 0 ≤ sv := by omega
    have sv1 : sv ≤ 20001 := by omega
    have e104 : Hid ((104 : UInt8) ≠ 0) := hid (by decide)
    clear h1 h2 hC hP hN x104 hC4 hP4 hot hsv hsv2
    rw [HC.out, HP.out, HN.out]
    go_wp2_with fail
    refine (blank_calls _ _ (xs.take 128) _ 104 X128 X0 e104 (hid ((hc.out.grown B2.out).take 128))).mono ?_
    rintro e w' ⟨rfl, rfl⟩
    go_wp2_with fail
    refine (sectors_calls (C : Int) _).mono ?_
    rw [HSV.out]
    rintro e w' ⟨rfl, rfl⟩
    by_cases hlong : (m : Int) < 128 * sv
    · have hp : Jrn.parseOk xs = false := Jrn.parseOk_short (by rw [HC.out, hm.out]; have := HSV2.out; omega)
      go_wp2
      refine bodyPost_ret (v := .tuple #[.agg #[.int .i64 0, .int .i64 0, .int .u64 0], .slice none 0 0, .int .i64 9]) (by simp [results, Tryz.results133, go_sem, r0, r1, r2, rf]) rfl ⟨((B2.out.setCell (Nat.le_refl _) _).setCell (Nat.le_refl _) _).setCell (Nat.le_refl _) _, .inr (.inl ⟨H1.out, hp, rfl⟩)⟩
    · have HL := hid (show 128 * (1 + 5 * C) ≤ m by have := HSV2.out; omega)
      go_wp2_with (with_reducible refine hold_at 32 ?_)
      clear sv0 sv1 HSV
      have hd : decide ((m : Int) < 128 * sv) = false := decide_eq_false (by omega)
      clear hlong
      generalize 128 * sv = q at *
      refine hid ?_
      clear m1 m2
      obtain ⟨o1, hB1, hsl⟩ := rest_low W b off c m 128 xs 128 rfl hm.out (by have := HL.out; omega) hcap.out (hc.out.grown B2.out)
      go_wp2
      have zW : w.heap.size < W.heap.size := by omega
      have PI : Hid (ParseInv 205 W W xs N 0 none 0 b o1 (m - 128) (c - 128)) := hid ⟨⟨[], own_nil _ _ _ _, trivial⟩, rfl, ⟨by rw [Jrn.recAt_length, hm.out], by have := hcap.out; omega, hB1⟩, Below.refl _ _⟩
      have TW := hid (ht.out.below' B2.out)
      have HL6 := hid (show 128 + 640 * C ≤ m by have := HL.out; omega)
      have C1' := hid C1
      clear hsl hB1 hd C1 HSV2 e104 X0 X128 C0 HL
      go_loopw [7, 8, 39] (fun v rest i wr => ∃ (k : Nat) (A' : Option Addr) (c' o r cr : Nat), k ≤ C ∧ v = .slice A' k c' ∧ rest = .slice (some ⟨b, o, none⟩) r cr ∧ i = .int .i64 k ∧ Hid (ParseInv 205 W wr xs N k A' c' b o r cr)) (fun _ _ i _ => C - (intOf i).toNat)
      case atStart => exact ⟨0, none, 0, o1, _, _, Nat.zero_le _, rfl, rfl, rfl, PI⟩
      case round =>
        obtain ⟨k, A', c', o, r, cr, hk, rfl, rfl, rfl, iv⟩ := hrel
        obtain ⟨⟨cells, o4, r4⟩, ok, ⟨hr, hrc, hb⟩, bw⟩ := iv.out
        have s0 := (bw.cell (p := ⟨gh, 0, none⟩) z2).trans j0
        have s1 := (bw.cell (p := ⟨gh, 1, none⟩) z2).trans j1
        have s2 := (bw.cell (p := ⟨gh, 2, none⟩) z2).trans j2
        by_cases hlt : (k : Int) < C
        · have HK := hid (show k < C by omega)
          have hr640 : 640 ≤ r := by rw [hr, Jrn.recAt_length, hm.out]; have := HL6.out; have := HK.out; omega
          have HR := hid hr
          have HRM := hid (show r ≤ 1073741824 by rw [hr, Jrn.recAt_length, hm.out]; have := hm2.out; omega)
          have HRC := hid hrc
          have HB := hid hb
          have O4 := hid o4
          have R4 := hid r4
          have BW := hid bw
          have OK := hid ok
          have H640 := hid hr640
          clear iv o4 r4 ok hr hrc hb bw hr640 PI
          go_wp2_with fail
          refine (readRecord_callsX _ (hid (TW.out.below' BW.out)) _ (Jrn.recAt xs k) cr N r (hid HR.out.symm) HRM.out HRC.out HN64 (hid (HB.out.grown BW.out))).mono ?_
          rintro e w3 ⟨b3, h3⟩
          have B3 := hid (BW.out.trans (b3.mono BW.out.size))
          have sz := hid BW.out.size
          rcases h3 with ⟨h4, _⟩ | ⟨h4, h5, rfl⟩ | ⟨h4, h5, A3, c3, rfl, o3⟩
          · exact absurd H640.out (by rw [HR.out]; omega)
          · have hp : Jrn.parseOk xs = false := Jrn.parseOk_bad (by rw [HN.out, HC.out]; exact Jrn.recsOk_not h5 HK.out)
            have HP9 := hid hp
            clear h4 h5 hp s0 s1 s2 b3 O4 R4 HB BW OK
            have t0 := (B3.out.cell (p := ⟨w.heap.size, 0, none⟩) zW).trans r0
            have t1 := (B3.out.cell (p := ⟨w.heap.size, 1, none⟩) zW).trans r1
            have t2 := (B3.out.cell (p := ⟨w.heap.size, 2, none⟩) zW).trans r2
            have tf : ∀ i, w3.frozen? ⟨w.heap.size, i, none⟩ = false := fun i => (B3.out.frozen (p := ⟨w.heap.size, i, none⟩) zW).trans (rf i)
            have zz : w.heap.size < w3.heap.size := Nat.lt_of_lt_of_le zW B3.out.size
            go_wp2_with (with_reducible refine hold_at 49 ?_)
            have bb : Below w3.heap.size w3 (w3.alloc (.cells #[.int .i64 0, .slice none 0 0] 205)) := (Below.refl _ _).alloc (Nat.le_refl _) _
            replace t0 := (bb.cell (p := ⟨w.heap.size, 0, none⟩) zz).trans t0
            replace t1 := (bb.cell (p := ⟨w.heap.size, 1, none⟩) zz).trans t1
            replace t2 := (bb.cell (p := ⟨w.heap.size, 2, none⟩) zz).trans t2
            replace tf : ∀ i, (w3.alloc (.cells #[.int .i64 0, .slice none 0 0] 205)).frozen? ⟨w.heap.size, i, none⟩ = false := fun i => (bb.frozen (p := ⟨w.heap.size, i, none⟩) zz).trans (tf i)
            have BE := hid (B2.out.trans ((B3.out.trans (bb.mono B3.out.size)).mono B2.out.size))
            clear bb
            generalize (w3.alloc (.cells #[.int .i64 0, .slice none 0 0] 205)) = W3 at *
            refine hid ?_
            go_wp2
            refine bodyPost_ret (v := .tuple #[.agg #[.int .i64 0, .int .i64 0, .int .u64 0], .slice none 0 0, .int .i64 9]) (by simp [results, Tryz.results133, go_sem, t0, t1, t2, tf]) rfl ⟨((BE.out.setCell (Nat.le_refl _) _).setCell (Nat.le_refl _) _).setCell (Nat.le_refl _) _, .inr (.inl ⟨H1.out, HP9.out, rfl⟩)⟩
          · obtain ⟨pg, hpg⟩ : ∃ pg : Int, (Oct.val ((Jrn.recAt xs k).take 4) : Int) = pg := ⟨_, rfl⟩
            rw [hpg]
            obtain ⟨D, hD⟩ : ∃ D, ((Jrn.recAt xs k).drop 128).take 512 = D := ⟨_, rfl⟩
            rw [hD] at o3
            have lD : D.length = 512 := by rw [← hD, List.length_take, List.length_drop]; omega
            have HRO := hid (show Jrn.recOf xs k = (pg, D) by unfold Jrn.recOf; rw [hpg, hD])
            have LD := hid lD
            have O3 := hid o3
            have FB3 := hid (Fr.of_below b3)
            have OK2 := hid (show Jrn.recsOk xs N (k + 1) = true by rw [Jrn.recsOk_succ, OK.out, h5]; rfl)
            obtain ⟨o2, hB2, hsl⟩ := rest_low W b o cr r 640 (Jrn.recAt xs k) 640 rfl HR.out.symm H640.out HRC.out HB.out
            rw [← Jrn.recAt_succ] at hB2
            have HB2 := hid hB2
            have NB := hid (show ∀ k0, (Value.slice A' k c').ownBlock = some k0 → k0 ≠ w3.heap.size from fun k0 h => Nat.ne_of_lt (Nat.lt_of_lt_of_le (O4.out.lt k0 h).2 b3.size))
            clear h4 h5 hpg hD lD o3 b3 hB2 s0 s1 s2 HB OK
            go_wp2_with (with_reducible refine hold_at 49 ?_)
            have bb : Below w3.heap.size w3 (w3.alloc (.cells #[.int .i64 pg, .slice A3 512 c3] 205)) := (Below.refl _ _).alloc (Nat.le_refl _) _
            have f0 : (w3.alloc (.cells #[.int .i64 pg, .slice A3 512 c3] 205)).drew.cell? ⟨w3.heap.size, 0, none⟩ = some (.int .i64 pg) := by go_simp
            have f1 : (w3.alloc (.cells #[.int .i64 pg, .slice A3 512 c3] 205)).drew.cell? ⟨w3.heap.size, 1, none⟩ = some (.slice A3 512 c3) := by go_simp
            have O4a := hid (((FB3.out.own O4.out (fun _ _ => id)).alloc (.cells #[.int .i64 pg, .slice A3 512 c3] 205)))
            have R4a := hid ((R4.out.keep (w' := w3) fun _ _ _ o => Fr.own FB3.out o (fun _ _ => id)).keep (w' := (w3.alloc (.cells #[.int .i64 pg, .slice A3 512 c3] 205))) fun _ _ _ o => World.ownsRow.alloc o _)
            have O3a := hid (World.ownsRow.alloc (own_base O3.out sz.out) (.cells #[.int .i64 pg, .slice A3 512 c3] 205))
            have BWa := hid (B3.out.trans (bb.mono B3.out.size))
            clear bb O4 R4 O3 FB3
            generalize (w3.alloc (.cells #[.int .i64 pg, .slice A3 512 c3] 205)) = W3 at *
            generalize w3.heap.size = g3 at *
            refine hid ?_
            have Od := Fr.own ((Fr.refl No (W3.alloc (.cells #[.int .i64 pg, .slice A3 512 c3] 205))).drew) (O4a.out.alloc (.cells #[.int .i64 pg, .slice A3 512 c3] 205)) (fun _ _ => id)
            have up : Up W3 (W3.alloc (.cells #[.int .i64 pg, .slice A3 512 c3] 205)) := (Below.refl _ _).alloc (Nat.le_refl _) _
            have up2 := up.t (Up.drew _)
            have F0B := hid (up2.c (p := ⟨g3, 0, none⟩) (v := .int .i64 pg) f0)
            have F1B := hid (up2.c (p := ⟨g3, 1, none⟩) (v := .slice A3 512 c3) f1)
            have OD := hid Od
            have RDN := hid (show Rd (W3.alloc (.cells #[.int .i64 pg, .slice A3 512 c3] 205)).drew (some ⟨W3.heap.size, 0, none⟩) [.int .i64 pg, .slice A3 512 c3] from Rd.new W3 205 (0, 0) [.int .i64 pg, .slice A3 512 c3])
            clear up up2 Od
            go_wp2
            go_region_held3 (fun w' => w'.cell? ⟨g3, 0, none⟩ = some (.int .i64 pg) ∧ w'.cell? ⟨g3, 1, none⟩ = some (.slice A3 512 c3))
              (first | exact ⟨f0, f1⟩ | exact ⟨F0B.out, F1B.out⟩ | exact ⟨q0, q1⟩)
              (first
                | (refine step_append elemR (by rfl) (.tmp 51) (.tmp 53) (by rfl) (by rfl) OD.out (by rfl) RDN.out ?_ ?_ ?_ ?_ ?_ ?_; (rfl); (simp [Value.oneCell']); (have := C1'.out; have := HK.out; simp only [maxLen]; omega); (have := C1'.out; have := HK.out; omega); (simp; have := BWa.out.size; omega); intro A5 c5 w5 o5 g5 d5; have q0 : w5.cell? ⟨g3, 0, none⟩ = some (.int .i64 pg) := g5.cell F0B.out (fun e => NB.out _ e.symm rfl); have q1 : w5.cell? ⟨g3, 1, none⟩ = some (.slice A3 512 c3) := g5.cell F1B.out (fun e => NB.out _ e.symm rfl)))
            rename_i K1 h1 hHeld
            have NI : Hid (ParseInv 205 W w5 xs N (k + 1) A5 c5 b o2 (r - 640) (cr - 640)) := by
              have bd : Below W.heap.size W (W3.alloc (.cells #[.int .i64 pg, .slice A3 512 c3] 205)).drew := (BWa.out.alloc BWa.out.size _).drew
              refine hid ⟨⟨_, o5, ?_⟩, OK2.out, ⟨by rw [Jrn.recAt_succ, List.length_drop, ← HR.out], by have := HRC.out; omega, HB2.out⟩, below_append bd (Nat.le_refl _) bd.size OD.out g5⟩
              rw [Jrn.recsOf_succ, HRO.out]
              have oD : OwnB (W3.alloc (.cells #[.int .i64 pg, .slice A3 512 c3] 205)).drew W.heap.size A3 c3 D := by
                unfold OwnB; rw [LD.out]; exact Fr.own ((Fr.refl No (W3.alloc (.cells #[.int .i64 pg, .slice A3 512 c3] 205))).drew) (O3a.out.alloc _) (fun _ _ => id)
              have rA := (R4a.out.keep (w' := (W3.alloc (.cells #[.int .i64 pg, .slice A3 512 c3] 205))) (fun _ _ _ o => World.ownsRow.alloc o _)).keep (w' := (W3.alloc (.cells #[.int .i64 pg, .slice A3 512 c3] 205)).drew) (fun _ _ _ o => Fr.own ((Fr.refl No _).drew) o (fun _ _ => id))
              have := rA.snoc pg D A3 c3 oD
              rw [LD.out] at this
              exact this.keep fun _ _ _ o => o.keep (Fr.of_grown g5) (row_other OD.out (by decide))
            clear o5 g5 d5 hHeld q0 q1 OD RDN F0B F1B O4a R4a O3a BWa B3 sz NB hsl f0 f1 HB2
            show K1 _ _
            refine h1 _ _ ?_
            clear h1 K1
            go_wp2
            go_roundw
            case rel => exact ⟨k + 1, A5, c5, o2, r - 640, cr - 640, HK.out, rfl, rfl, (by have := C1'.out; have := HK.out; rw [show wrap64 ((k : Int) + 1) = ((k + 1 : Nat) : Int) by unfold wrap64; omega]), NI⟩
            case measure => have := C1'.out; have := HK.out; rw [show wrap64 ((k : Int) + 1) = ((k + 1 : Nat) : Int) by unfold wrap64; omega]; simp only [intOf]; omega
        · obtain rfl : C = k := by omega
          have rd := hid (RecsRow.rd o4 r4)
          have LRS := hid (Jrn.recsOf_length xs C)
          obtain ⟨G, hG⟩ : ∃ G, Jrn.goodJ C P (Jrn.recsOf xs C) = G := ⟨_, rfl⟩
          have HG := hid hG
          have hp : Jrn.parseOk xs = G := Jrn.parseOk_good HOT.out (by rw [HC.out, hm.out]; have := HL6.out; omega) (by rw [HN.out, HC.out]; exact ok) (by rw [HC.out, HP.out]; exact hG)
          have HPO := hid hp
          have O4 := hid o4
          have R4 := hid r4
          have BW := hid bw
          clear iv o4 r4 ok hr hrc hb bw hp hG PI
          go_wp2_with fail
          refine (goodJ_P wr C P N A' (Jrn.recsOf xs C) c' C LRS (hid (by have := C1'.out; omega)) rd G HG).mono ?_
          rintro e w4 ⟨rfl, b4⟩
          have BE4 := hid (BW.out.trans (b4.out.mono BW.out.size))
          have t0 := (BE4.out.cell (p := ⟨w.heap.size, 0, none⟩) zW).trans r0
          have t1 := (BE4.out.cell (p := ⟨w.heap.size, 1, none⟩) zW).trans r1
          have t2 := (BE4.out.cell (p := ⟨w.heap.size, 2, none⟩) zW).trans r2
          have tf : ∀ i, w4.frozen? ⟨w.heap.size, i, none⟩ = false := fun i => (BE4.out.frozen (p := ⟨w.heap.size, i, none⟩) zW).trans (rf i)
          have u0 := (BE4.out.cell (p := ⟨gh, 0, none⟩) z2).trans j0
          have u1 := (BE4.out.cell (p := ⟨gh, 1, none⟩) z2).trans j1
          have u2 := (BE4.out.cell (p := ⟨gh, 2, none⟩) z2).trans j2
          have BE := hid (B2.out.trans (BE4.out.mono B2.out.size))
          have O5 := hid (Fr.own (Fr.of_below b4.out) O4.out (fun _ _ => id))
          have R5 := hid (R4.out.keep (w' := w4) fun _ _ _ o => Fr.own (Fr.of_below b4.out) o (fun _ _ => id))
          clear b4 O4 R4 BW rd s0 s1 s2
          cases G
          · simp only [Bool.not_false, Bool.not_true]
            go_wp2
            refine bodyPost_ret (v := .tuple #[.agg #[.int .i64 0, .int .i64 0, .int .u64 0], .slice none 0 0, .int .i64 9]) (by simp [results, Tryz.results133, go_sem, t0, t1, t2, tf]) rfl ⟨((BE.out.setCell (Nat.le_refl _) _).setCell (Nat.le_refl _) _).setCell (Nat.le_refl _) _, .inr (.inl ⟨H1.out, HPO.out, rfl⟩)⟩
          · simp only [Bool.not_false, Bool.not_true]
            go_wp2
            refine bodyPost_ret (v := .tuple #[.agg #[.int .i64 (C : Int), .int .i64 (P : Int), .int .u64 (N : Int)], .slice A' C c', .int .i64 0]) (by simp [results, Tryz.results133, go_sem, t0, t1, t2, tf]) rfl ⟨((BE.out.setCell (Nat.le_refl _) _).setCell (Nat.le_refl _) _).setCell (Nat.le_refl _) _, .inr (.inr ⟨H1.out, HPO.out, A', c', by rw [HC.out, HP.out, HN.out]; rfl, ?_⟩)⟩
            rw [HC.out]
            exact ⟨_, own_base (ownsRow_setCell_below (ownsRow_setCell_below (ownsRow_setCell_below O5.out zW _) zW _) zW _) (Nat.zero_le _),
              RecsRow.base0 (((R5.out.keep (fun _ _ _ o => ownsRow_setCell_below o zW _)).keep (fun _ _ _ o => ownsRow_setCell_below o zW _)).keep (fun _ _ _ o => ownsRow_setCell_below o zW _))⟩
end Go.Proofs.YtbcghggkfnagoaaGreatDoor
