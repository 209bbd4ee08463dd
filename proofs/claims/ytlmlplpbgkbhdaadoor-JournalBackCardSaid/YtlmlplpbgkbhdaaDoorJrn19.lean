/- THE WALK of JournalBack. -/
import Derived.Test.YtlmlplpbgkbhdaaDoorJrnW
import Derived.Test.YtlmlplpbgkbhdaaDoorJrn18
set_option linter.unusedVariables false
set_option linter.unusedSimpArgs false
namespace Go.Proofs.YtlmlplpbgkbhdaaDoor
open Go Go.RowKit Hach

theorem bytesU (w : World) (ht : Hid (TabOk w)) (c p : Int) (n : Nat) (b : Bool) (A : Option Addr) (l : List (Int × List UInt8)) (cap m : Nat) (hm : Hid (l.length = m)) (hl : Hid (m ≤ 1000000)) (hn : Hid ((n : Int) < 18446744073709551616)) (hr : Hid (RecsRd w A l)) (X : List UInt8) (lx : Nat) (HX : Hid (Jrn.bytesJ c p n l b = X)) (LX : Hid (X.length = lx)) :
    Calls Tryd.prog 26 #[.agg #[.int .i64 c, .int .i64 p, .int .u64 (n : Int)], .slice A m cap, .bool b] w fun e w' => ∃ A c, e = .returned (.slice A lx c) ∧ Hid (Bytes w' A X ∧ lx ≤ c) ∧ Up w w' := by
  have := bytes_calls w ht c p n b A l cap (hid (by rw [hm.out]; exact hl.out)) hn hr
  rw [HX.out, hm.out] at this
  refine this.mono ?_
  rintro e w' ⟨A, c, rfl, h1, h2, h3⟩
  exact ⟨A, c, by rw [LX.out], hid ⟨h2, by rw [← LX.out]; exact h1⟩, h3⟩

theorem bytesJ_le' (c p : Int) (n : Nat) (l : List (Int × List UInt8)) (b : Bool) : (Jrn.bytesJ c p n l b).length ≤ 128 + 640 * l.length := by
  unfold Jrn.bytesJ
  split
  · rename_i h
    obtain ⟨h1, h2, h3, h4⟩ := Jrn.journal_parts h
    rw [List.length_append, Jrn.headB_length h2 h3, Jrn.recsB_length h4]
    exact Nat.le_refl _
  · exact Nat.zero_le _

set_option maxRecDepth 100000 in
set_option maxHeartbeats 1000000 in
theorem journalBack_walk (w : World) (ht : Hid (TabOk w)) (c p : Int) (n : Nat) (A1 : Option Addr) (l : List (Int × UInt8 × Bool)) (cap1 : Nat) (A2 : Option Addr) (xs : List UInt8) (cap2 : Nat) (hn : Hid ((n : Int) < 18446744073709551616)) (hl : Hid (l.length ≤ 9223372036854775807)) (hc : Hid (Rd w A1 (seedCells l))) (hx : Hid (Bytes w A2 xs)) :
    Calls Tryd.prog 10 #[.agg #[.int .i64 c, .int .i64 p, .int .u64 (n : Int)], .slice A1 l.length cap1, .slice A2 xs.length cap2] w fun e w' => e = .returned (.bool true) ∧ Below w.heap.size w w' := by
  have hb : ∀ o, Below w.heap.size w (w.alloc o) := fun o => (Below.refl _ _).alloc (Nat.le_refl _) o
  by_cases h20 : (20 : Int) < l.length
  · go_enter Tryd.func10, Tryd.ntmps10
    go_wp2_with fail
    refine (lives06_calls _).mono ?_
    rintro e w' ⟨rfl, rfl⟩
    go_wp2
    go_ret
    exact ⟨rfl, hb _⟩
  · by_cases h1000 : (1000 : Int) < xs.length
    · go_enter Tryd.func10, Tryd.ntmps10
      go_wp2_with fail
      refine (lives06_calls _).mono ?_
      rintro e w' ⟨rfl, rfl⟩
      go_wp2
      go_ret
      exact ⟨rfl, hb _⟩
    · have HL := hid (show l.length ≤ 20 by omega)
      obtain ⟨lm, hlm⟩ : ∃ lm, xs.length = lm := ⟨_, rfl⟩
      have HLM := hid hlm
      have HLM2 := hid (show lm ≤ 1000 by omega)
      rw [hlm] at h1000 ⊢
      clear hlm
      go_enter Tryd.func10, Tryd.ntmps10
      go_wp2_with fail
      clear h20 h1000
      refine (records_calls _ A1 l cap1 (hid (by have := HL.out; omega)) (hid (hc.out.grown (hb _)))).mono ?_
      obtain ⟨L, hL⟩ : ∃ L, l.map seedRec = L := ⟨_, rfl⟩
      obtain ⟨m, hm⟩ : ∃ m, L.length = m := ⟨_, rfl⟩
      rw [hL]
      rintro e w1 ⟨A3, c3, cells, rfl, o1, r1, b1⟩
      have R1 := hid (RecsRow.rd o1 r1)
      rw [hm]
      have HM := hid hm
      have HM20 := hid (show m ≤ 20 by rw [← hm, ← hL, List.length_map]; exact HL.out)
      have HM6 : Hid (m ≤ 1000000) := hid (by have := HM20.out; omega)
      have k0 : w1.cell? ⟨w.heap.size, 0, none⟩ = some (.int .i64 c) := by rw [b1.cell (p := ⟨w.heap.size, 0, none⟩) (by simp)]; go_simp
      have k1 : w1.cell? ⟨w.heap.size, 1, none⟩ = some (.int .i64 p) := by rw [b1.cell (p := ⟨w.heap.size, 1, none⟩) (by simp)]; go_simp
      have k2 : w1.cell? ⟨w.heap.size, 2, none⟩ = some (.int .u64 (n : Int)) := by rw [b1.cell (p := ⟨w.heap.size, 2, none⟩) (by simp)]; go_simp
      have U1 := hid (show Up w w1 from (hb (.cells #[.int .i64 c, .int .i64 p, .int .u64 (n : Int)] 46)).trans (b1.mono (by simp)))
      have T1 := hid (ht.out.below' U1.out)
      have X1 := hid (hx.out.grown U1.out)
      obtain ⟨G, hG⟩ : ∃ G, Jrn.goodJ c p L = G := ⟨_, rfl⟩
      have HG := hid hG
      clear hL hm o1 r1 b1 hb hc ht hx hG
      go_wp2_with fail
      refine (goodJ_P w1 c p n A3 L c3 m HM HM6 R1 G HG).mono ?_
      rintro e w2 ⟨rfl, b2⟩
      have u2 : Up w1 w2 := b2.out
      replace k0 := u2.c k0
      replace k1 := u2.c k1
      replace k2 := u2.c k2
      replace R1 := hid (R1.out.grown u2)
      replace T1 := hid (T1.out.below' u2)
      replace X1 := hid (X1.out.grown u2)
      replace U1 := hid (U1.out.t u2)
      clear b2 u2
      cases G with
      | false =>
        simp only [Bool.not_false, Bool.not_true]
        have HZ : Hid (Jrn.bytesJ c p n L true = []) := hid (by unfold Jrn.bytesJ; rw [HG.out]; rfl)
        go_wp2_with fail
        refine (bytesU w2 T1 c p n true A3 L c3 m HM HM6 hn R1 [] 0 HZ (hid rfl)).mono ?_
        rintro e w3 ⟨A4, c4, rfl, y4, u3⟩
        have UE := hid (U1.out.t u3)
        clear u3 y4 k0 k1 k2 R1 T1 X1
        go_wp2_with fail
        refine (lives06_calls _).mono ?_
        rintro e w' ⟨rfl, rfl⟩
        go_wp2
        go_ret
        exact ⟨rfl, UE.out⟩
      | true =>
        simp only [Bool.not_false, Bool.not_true]
        obtain ⟨Z, hZ⟩ : ∃ Z, Jrn.bytesJ c p n L true = Z := ⟨_, rfl⟩
        obtain ⟨lz, hlz⟩ : ∃ lz, Z.length = lz := ⟨_, rfl⟩
        have lz2 : lz ≤ 12928 := by have := bytesJ_le' c p n L true; rw [hZ, hlz, HM.out] at this; have := HM20.out; omega
        obtain ⟨q1, q2, q3, q4, q5⟩ := Jrn.whole_back (n := n) HG.out (by have := hn.out; omega) xs
        rw [hZ] at q1 q2 q3 q4 q5
        have hcm : c = m := by obtain ⟨h1, _⟩ := Jrn.journal_parts HG.out; rw [h1, HM.out]
        have HZ := hid hZ
        have LZ := hid hlz
        have LZ2 := hid lz2
        have Q1 := hid q1
        have Q2 := hid q2
        have Q3 := hid q3
        have Q4 := hid q4
        have Q5 := hid q5
        have HCM := hid hcm
        obtain ⟨Z2, hZ2⟩ : ∃ Z, Jrn.bytesJ c p n L false = Z := ⟨_, rfl⟩
        obtain ⟨l2, hl2⟩ : ∃ lz, Z2.length = lz := ⟨_, rfl⟩
        have HZ2 := hid hZ2
        have L2 := hid hl2
        have L22 : Hid (l2 ≤ 1073741824) := hid (by have := bytesJ_le' c p n L false; rw [hZ2, hl2, HM.out] at this; have := HM20.out; omega)
        have COLD : Hid (Jrn.hotB Z2 = false) := hid (by rw [← hZ2]; exact Jrn.cold_back HG.out)
        clear hZ hlz lz2 q1 q2 q3 q4 q5 hcm hZ2 hl2
        have KK := hid (And.intro k0 (And.intro k1 k2))
        have zw : w.heap.size < w2.heap.size := World.block_lt_of_cell? _ _ k0
        go_wp2_with fail
        have ua : Up w2 (w2.alloc (.cells #[] 5)) := (Below.refl _ _).alloc (Nat.le_refl _) _
        have ol := own_lit w2 w2.heap.size 5 0 [] (Nat.le_refl _) (by decide) rfl
        refine (bytesU (w2.alloc (.cells #[] 5)) (hid (T1.out.below' ua)) c p n true A3 L c3 m HM HM6 hn (hid (R1.out.grown ua)) Z lz HZ LZ).mono ?_
        rintro e w3 ⟨A4, c4, rfl, y4, u3⟩
        have OL := hid (Fr.own (Fr.of_below u3) ol (fun _ _ => id))
        have u23 := ua.t u3
        replace k0 := u23.c k0
        replace k1 := u23.c k1
        replace k2 := u23.c k2
        have U23 := hid u23
        have Y4 := hid y4.out.1
        clear ua ol u3 y4 zw u23
        go_wp2_with (at_builtin; refine hold ?_)
        refine hid (wl_append elemB rfl (.tmp 35) (.tmp 38) rfl rfl OL.out rfl (Y4.out.rd) (by rw [List.length_map, LZ.out, Nat.mul_one]) (byteCells_one _) (by have := LZ2.out; simp only [maxLen]; omega) (by have := LZ2.out; omega) U23.out.size ?_)
        intro A5 c5 w5 o5 g5 _
        have b25 := below_append U23.out (Nat.le_refl _) U23.out.size OL.out g5
        simp only [Nat.zero_add, List.nil_append] at o5 ⊢
        have O5 := hid o5
        have B25 := hid (show Up w2 w5 from b25)
        clear o5 g5 b25 OL Y4 U23
        go_wp2_with (at_builtin; refine hold ?_)
        refine hid (wl_append elemB rfl (.tmp 39) (.tmp 40) rfl rfl O5.out rfl ((X1.out.grown B25.out).rd) (by rw [List.length_map, HLM.out, Nat.mul_one]) (byteCells_one _) (by have := LZ2.out; have := HLM2.out; simp only [maxLen]; omega) (by have := LZ2.out; have := HLM2.out; omega) B25.out.size ?_)
        intro A6 c6 w6 o6 g6 _
        have b26 := below_append B25.out (Nat.le_refl _) B25.out.size O5.out g6
        rw [← List.map_append] at o6
        have hc6 : lz + lm ≤ c6 := by
          obtain ⟨_, _, he, hle⟩ := own_form o6
          injection he with _ _ he
          omega
        have Y6 := hid (Rd.bytes (Rd.own o6))
        have LZM := hid (show (Z ++ xs).length = lz + lm by rw [List.length_append, LZ.out, HLM.out])
        have HC6 := hid hc6
        have M6 := hid (show lz + lm ≤ 1073741824 by have := LZ2.out; have := HLM2.out; omega)
        have B26 := hid (show Up w2 w6 from b26)
        clear o6 g6 b26 O5 B25 hc6
        replace k0 := B26.out.c KK.out.1
        replace k1 := B26.out.c KK.out.2.1
        replace k2 := B26.out.c KK.out.2.2
        have R6 := hid (R1.out.grown B26.out)
        have T6 := hid (T1.out.below' B26.out)
        have U6 := hid (U1.out.t B26.out)
        clear R1 T1 U1 B26 KK X1
        go_wp2_with fail
        refine (parse_calls w6 T6 A6 (Z ++ xs) c6 (lz + lm) LZM M6 HC6 (hid Y6.out)).mono ?_
        rintro e w7 ⟨b7, h⟩
        have h7 : ∃ A7 c7, e = .returned (.tuple #[.agg #[.int .i64 c, .int .i64 p, .int .u64 (n : Int)], .slice A7 m c7, .int .i64 0]) ∧ RecsRd w7 A7 L := by
          have hlen : 128 ≤ (Z ++ xs).length := by
            by_cases h128 : 128 ≤ (Z ++ xs).length
            · exact h128
            · have := Q1.out
              unfold Jrn.parseOk Jrn.hotB at this
              rw [if_pos (by omega)] at this
              cases this
          rcases h with ⟨h1, _⟩ | ⟨_, h1, _⟩ | ⟨_, _, A7, c7, he, hr7⟩
          · omega
          · rw [Q1.out] at h1; cases h1
          · have hcm : Jrn.hdC (Z ++ xs) = m := by have := Q2.out; have := HCM.out; omega
            have hcc : (m : Int) = c := HCM.out.symm
            rw [hcm, Q3.out, Q4.out, hcc] at he
            rw [hcm, ← HM.out, Q5.out] at hr7
            exact ⟨A7, c7, he, hr7⟩
        obtain ⟨A7, c7, rfl, r7⟩ := h7
        clear h
        have v7 : Up w7 (w7.alloc (.cells #[.int .i64 c, .int .i64 p, .int .u64 (n : Int)] 46)) := (Below.refl _ _).alloc (Nat.le_refl _) _
        have u7 : Up w6 (w7.alloc (.cells #[.int .i64 c, .int .i64 p, .int .u64 (n : Int)] 46)) := (show Up w6 w7 from b7).t v7
        replace k0 := u7.c k0
        replace k1 := u7.c k1
        replace k2 := u7.c k2
        have R7 := hid (r7.grown v7)
        have R6b := hid (R6.out.grown u7)
        have T7 := hid (T6.out.below' u7)
        have U7 := hid (U6.out.t u7)
        have hm46 : Tryd.prog.eqGuardType Tryd.prog.depth 46 = false := by kernel_rfl
        have HLS : Hid (∀ r ∈ L, r.2.length ≤ 1099511627776) := hid (fun r hr => by
          have := (Jrn.journal_parts HG.out).2.2.2 r hr
          unfold Jrn.recGood at this
          have := (of_decide_eq_true this).2
          omega)
        go_wp2_with (with_reducible refine hold_at 47 ?_)
        have j0 : (w7.alloc (.cells #[.int .i64 c, .int .i64 p, .int .u64 (n : Int)] 46)).cell? ⟨w7.heap.size, 0, none⟩ = some (.int .i64 c) := by go_simp
        have j1 : (w7.alloc (.cells #[.int .i64 c, .int .i64 p, .int .u64 (n : Int)] 46)).cell? ⟨w7.heap.size, 1, none⟩ = some (.int .i64 p) := by go_simp
        have j2 : (w7.alloc (.cells #[.int .i64 c, .int .i64 p, .int .u64 (n : Int)] 46)).cell? ⟨w7.heap.size, 2, none⟩ = some (.int .u64 (n : Int)) := by go_simp
        clear b7 r7 v7 u7 R6 T6 U6 Y6
        generalize (w7.alloc (.cells #[.int .i64 c, .int .i64 p, .int .u64 (n : Int)] 46)) = W7 at *
        generalize w7.heap.size = g7 at *
        refine hid ?_
        go_wp2_with fail
        refine (plainU _ _ L _ m HM HM6 R7).mono ?_
        rintro e w8 ⟨A8, c8, rfl, R8, b8⟩
        go_wp2_with fail
        refine (plainU _ _ L _ m HM HM6 (hid (R6b.out.grown b8))).mono ?_
        rintro e w9 ⟨A9, c9, rfl, R9, b9⟩
        go_wp2_with fail
        refine (sameU _ _ _ L _ _ m HM HM6 HLS (hid (R8.out.grown b9)) R9).mono ?_
        rintro e w10 ⟨rfl, b10⟩
        have u10 : Up W7 w10 := (b8.t b9).t b10
        replace k0 := u10.c k0
        replace k1 := u10.c k1
        replace k2 := u10.c k2
        have R10 := hid (R6b.out.grown u10)
        have T10 := hid (T7.out.below' u10)
        have U10 := hid (U7.out.t u10)
        clear b8 b9 b10 u10 R7 R8 R9 R6b T7 U7 j0 j1 j2
        go_wp2_with fail
        refine (bytesU w10 T10 c p n false A3 L c3 m HM HM6 hn R10 Z2 l2 HZ2 L2).mono ?_
        rintro e w11 ⟨A11, c11, rfl, y11, u11⟩
        have Y11 := hid y11.out.1
        have H11 := hid y11.out.2
        have T11 := hid (T10.out.below' u11)
        have U11 := hid (U10.out.t u11)
        clear y11 u11 T10 U10 R10 k0 k1 k2
        go_wp2_with fail
        refine (hot_calls w11 T11 A11 Z2 c11 l2 L2 L22 H11 Y11 false COLD).mono ?_
        rintro e w12 ⟨rfl, b12⟩
        have U12 := hid (U11.out.t (show Up w11 w12 from b12.out))
        clear b12 Y11 H11 T11 U11
        go_wp2_with fail
        refine (lives06_calls _).mono ?_
        rintro e w' ⟨rfl, rfl⟩
        go_wp2
        go_ret
        exact ⟨rfl, U12.out⟩
end Go.Proofs.YtlmlplpbgkbhdaaDoor
