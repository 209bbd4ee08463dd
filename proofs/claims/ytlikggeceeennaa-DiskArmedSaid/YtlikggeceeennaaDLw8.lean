/- THE WALK of DiskArmed. -/
import Derived.Test.YtlikggeceeennaaDLw7
set_option linter.unusedVariables false
set_option linter.unusedSimpArgs false
namespace Go.Proofs.Ytlikggeceeennaa
open Go Go.RowKit Go.Maps Hach

theorem TwoB.start {wN w : World} {d b2 e : Nat} {D E : DiskV} (h : Two w wN.heap.size d b2 e D E) (hu : Up wN w) (hb : wN.heap.size ≤ b2) (a : ActD) (kd : Int) :
    TwoB wN (w.alloc (.cells #[.int .i64 kd, .int .i64 a.file, .int .i64 a.at', .int .i64 a.n, .int .u8 (n8 a.seed), .slice a.KA a.kn a.kc, .int .i64 a.torn] 84)) d b2 e D E w.heap.size a kd := by
  have uA := upAlD (Up.refl w) (.cells #[.int .i64 kd, .int .i64 a.file, .int .i64 a.at', .int .i64 a.n, .int .u8 (n8 a.seed), .slice a.KA a.kn a.kc, .int .i64 a.torn] 84)
  obtain ⟨p, q, h1, h2, h3⟩ := h
  exact ⟨heap_alloc_new w _, hu.t uA, hb, p, q, h1.up uA, h2.up uA, h3, fun k hk => Nat.ne_of_lt (foot_lt h1 hk), fun k hk => Nat.ne_of_lt (foot_lt h2 hk)⟩
theorem armNr (seed : UInt8) : wrap64 (1 + wrap64 ((n8 seed).tmod 20)) = ((1 + seed.toNat % 20 : Nat) : Int) := by
  have h0 : (0 : Int) ≤ n8 seed := by unfold n8; omega
  have h1 : n8 seed < 256 := by have := seed.toNat_lt; unfold n8; omega
  rw [Int.tmod_eq_emod_of_nonneg h0]
  have e : n8 seed = (seed.toNat : Int) := rfl
  rw [e]
  unfold wrap64
  omega
theorem twin_start (k : Nat) (hk : 1 ≤ k) (K : List Bool) (T : Int) : Twin k K T { newD 300 with armed := (k : Int), keep := K, torn := T } (newD 300) 0 :=
  ⟨by rw [show (newD 300).ops = 0 from rfl, Int.sub_zero]; rfl, rfl, rfl, rfl, ⟨Int.le_refl _, by show (0 : Int) < k; omega, Int.le_refl _⟩, rfl, by decide⟩
set_option maxRecDepth 100000 in
set_option maxHeartbeats 2000000 in
theorem diskArmed_walk (w : World) (A : Option Addr) (l : List ActD) (c : Nat) (seed : UInt8) (KA : Option Addr) (keep : List Bool) (kc : Nat) (torn : Int) (hl : Hid (l.length ≤ 9223372036854775807)) (hr : Hid (Rd w A (l.flatMap actDC))) (hkk : Hid (keep.length ≤ 9223372036854775807)) (hkr : Hid (Rd w KA (keep.map .bool))) :
    Calls Try.prog 11 #[.slice A l.length c, .int .u8 (n8 seed), .agg #[.slice KA keep.length kc, .int .i64 torn]] w fun en w' => en = .returned (.bool true) ∧ Below w.heap.size w w' := by
  obtain ⟨n, hn⟩ : ∃ n, l.length = n := ⟨_, rfl⟩
  obtain ⟨kn, hkn⟩ : ∃ n, keep.length = n := ⟨_, rfl⟩
  rw [hkn]
  have HN := hid hn
  have HKN := hid hkn
  clear hkn
  have UB := hid (upAlD (Up.refl w) (.cells #[.slice KA kn kc, .int .i64 torn] 77))
  have LC := fun c => light_calls (w.alloc (.cells #[.slice KA kn kc, .int .i64 torn] 77)) A l c hl (hid (hr.out.fr (Fr.of_below UB.out) fun _ _ _ => id))
  rw [hn] at LC ⊢
  clear hn
  by_cases hlt : lightV l = false
  · rw [hlt] at LC
    go_enter Try.func11, Try.ntmps11
    go_wp2_with fail
    refine (LC _).mono ?_
    rintro en w1 ⟨rfl, u1⟩
    have U1 := hid (UB.out.t u1)
    clear u1 LC
    simp only [Bool.not_false, Bool.not_true]
    go_wp2_with fail
    refine (lives4_calls _).mono ?_
    rintro en w2 ⟨rfl, u2⟩
    go_wp2
    go_ret
    exact ⟨rfl, U1.out.t u2⟩
  replace hlt : lightV l = true := by cases h9 : lightV l; exact absurd h9 hlt; rfl
  rw [hlt] at LC
  have HLT := hid hlt
  clear hlt
  by_cases hk1 : (100 : Int) < (kn : Int)
  · go_enter Try.func11, Try.ntmps11
    go_wp2_with fail
    refine (LC _).mono ?_
    rintro en w1 ⟨rfl, u1⟩
    have cb : w1.cell? ⟨w.heap.size, 0, none⟩ = some (.slice KA kn kc) := Up.c u1 (by rw [cell_of_row _ _ _ _ _ _ (heap_alloc_new w _)]; rfl)
    have U1 := hid (UB.out.t u1)
    clear u1 LC
    simp only [Bool.not_false, Bool.not_true]
    go_wp2_with fail
    refine (lives4_calls _).mono ?_
    rintro en w2 ⟨rfl, u2⟩
    go_wp2
    go_ret
    exact ⟨rfl, U1.out.t u2⟩
  have HK1 := hid hk1
  go_enter Try.func11, Try.ntmps11
  go_wp2_with fail
  refine (LC _).mono ?_
  rintro en wN ⟨rfl, u1⟩
  have cb : wN.cell? ⟨w.heap.size, 0, none⟩ = some (.slice KA kn kc) := Up.c u1 (by rw [cell_of_row _ _ _ _ _ _ (heap_alloc_new w _)]; rfl)
  have CB : Hid (wN.heap[w.heap.size]? = some (.cells #[.slice KA kn kc, .int .i64 torn] 77 (0, 0))) := hid ((u1.block w.heap.size (by simp)).trans (heap_alloc_new w _))
  have UN := hid (UB.out.t u1)
  clear u1 LC
  simp only [Bool.not_false, Bool.not_true]
  go_wp2_with fail
  refine (dnew_calls wN 300 (by decide) (by decide)).mono ?_
  rintro en w1 ⟨d, rfl, h1⟩
  go_wp2_with fail
  refine (dnew_calls w1 300 (by decide) (by decide)).mono ?_
  rintro en w2 ⟨e, rfl, h2⟩
  have H1 := hid h1.out.1
  have HE2 : Hid (DiskM w2 w1.heap.size e (newD 300)) := hid h2.out.1
  have U12 : Hid (Up w1 w2) := hid h2.out.2
  have U2 : Hid (Up wN w2) := hid (h1.out.2.t h2.out.2)
  have B21 : Hid (wN.heap.size ≤ w1.heap.size) := hid h1.out.2.size
  have cb0 : w2.cell? ⟨w.heap.size, 0, none⟩ = some (.slice KA kn kc) := U2.out.c (cell3 CB.out 0 rfl)
  have cb1 : w2.cell? ⟨w.heap.size, 1, none⟩ = some (.int .i64 torn) := U2.out.c (cell3 CB.out 1 rfl)
  clear h1 h2
  go_wp2_with fail
  rw [armNr seed]
  obtain ⟨kk, hkk9, K1, K20⟩ : ∃ kk : Nat, 1 + seed.toNat % 20 = kk ∧ Hid (1 ≤ kk) ∧ Hid (kk ≤ 20) := ⟨_, rfl, hid (by omega), hid (by omega)⟩
  rw [hkk9]
  clear hkk9
  have CA := armM_calls w1 w2 U12 wN.heap.size d (newD 300) H1 kk (hid (by have := K20.out; omega)) KA keep kc torn (hid (hkr.out.fr (Fr.of_below (UN.out.t U2.out)) fun _ _ _ => id)) (hid (by have := HK1.out; have := HKN.out; omega))
  rw [HKN.out] at CA
  refine CA.mono ?_
  rintro en w3 ⟨rfl, h3⟩
  have INV : Hid (∃ D E, Two w3 wN.heap.size d w1.heap.size e D E ∧ Twin kk keep torn D E 0 ∧ Up wN w3) := hid (by
    obtain ⟨p, hp, hg⟩ := h3.out
    obtain ⟨q, hq⟩ := HE2.out
    exact ⟨_, _, two_left (hp.up U12.out) hq (fun k9 e1 e2 => by have h1 := foot_lt hp e1; have h2 := foot_base hq e2; omega) hg, twin_start kk K1.out keep torn, Below.trans U2.out (Goes.step (hp.up U12.out) hg).2⟩)
  clear h3 CA HE2 H1 U12 U2 cb0 cb1
  have hle : (n : Int) ≤ 100 := by
    have := HLT.out
    unfold lightV at this
    rw [Bool.and_eq_true] at this
    have h2 := of_decide_eq_true this.1
    have := HN.out
    omega
  have HLE : Hid (n ≤ 100) := hid (by omega)
  have KLE : Hid (keep.length ≤ 1000) := hid (by have := HK1.out; have := HKN.out; omega)
  go_wp2
  go_loopw [43] (fun i wr => ∃ k : Nat, k ≤ n ∧ i = .int .i64 k ∧ Hid (∃ D E, Two wr wN.heap.size d w1.heap.size e D E ∧ Twin kk keep torn D E k ∧ Up wN wr)) (fun i _ => n - (intOf i).toNat)
  case atStart => exact ⟨0, Nat.zero_le _, rfl, INV⟩
  case round =>
    obtain ⟨k, hk, rfl, iv⟩ := hrel
    by_cases hlt : (k : Int) < n
    · have hkl : k < l.length := by have := HN.out; omega
      obtain ⟨D, E, t5, i5, u5⟩ := iv.out
      obtain ⟨g, off, rfl, hg, q0, q1, q2, q3, q4, q5, q6⟩ := actD_cells hr.out hkl
      generalize l[k] = a at *
      obtain ⟨kd, hkd⟩ : ∃ x, a.kind = x := ⟨_, rfl⟩
      rw [hkd] at q0
      clear hkd
      have uw : Up w wr := UN.out.t u5
      have c0 := uw.c q0
      have c1 := uw.c q1
      have c2 := uw.c q2
      have c3 := uw.c q3
      have c4 := uw.c q4
      have c5 := uw.c q5
      have c6 := uw.c q6
      have T5 := hid (TwoB.start t5 u5 B21.out a kd)
      have I5 := hid i5
      have HK := hid (And.intro hkl hlt)
      clear iv t5 i5 u5 uw q0 q1 q2 q3 q4 q5 q6 hg hkl
      by_cases hkind : kd = 0
      · subst hkind
        have OKD : Hid (DiskOk D) := hid (I5.out.okD (by have := K20.out; omega) KLE.out)
        have OKE : Hid (DiskOk E) := hid (I5.out.okE (by have := K20.out; omega))
        go_wp2_with fail
        replace T5 := hid (T5.out.grow (Up.drew _))
        have US := T5.out.box
        refine s_start (fun w9 => BoxD w9 wr.heap.size a 0) (by kernel_rfl) ?_
        refine s_take 0 (some 51) (v := ?_) US rfl rfl (by kernel_rfl) (by kernel_rfl) (by kernel_rfl) (fun _ _ _ h => h) (by rfl) (fun w9 hS => ?_) ?_
        rotate_left
        · go_simp <;> with_reducible rfl
        try simp only [Act.put, List.setIfInBounds_toArray, List.set_cons_zero, List.set_cons_succ]
        refine s_take 1 (some 52) (v := ?_) US rfl rfl (by kernel_rfl) (by kernel_rfl) (by kernel_rfl) (fun _ _ _ h => h) (by rfl) (fun w9 hS => ?_) ?_
        rotate_left
        · go_simp <;> with_reducible rfl
        try simp only [Act.put, List.setIfInBounds_toArray, List.set_cons_zero, List.set_cons_succ]
        refine s_take 2 (some 53) (v := ?_) US rfl rfl (by kernel_rfl) (by kernel_rfl) (by kernel_rfl) (fun _ _ _ h => h) (by rfl) (fun w9 hS => ?_) ?_
        rotate_left
        · obtain ⟨s0, s1, s2, s3, s4, _, _⟩ := BoxD.cells hS; go_simp <;> with_reducible rfl
        try simp only [Act.put, List.setIfInBounds_toArray, List.set_cons_zero, List.set_cons_succ]
        refine s_take 3 (some 54) (v := ?_) US rfl rfl (by kernel_rfl) (by kernel_rfl) (by kernel_rfl) (fun _ _ _ h => h) (by rfl) (fun w9 hS => ?_) ?_
        rotate_left
        · go_simp <;> with_reducible rfl
        try simp only [Act.put, List.setIfInBounds_toArray, List.set_cons_zero, List.set_cons_succ]
        refine s_take 4 (some 55) (v := ?_) US rfl rfl (by kernel_rfl) (by kernel_rfl) (by kernel_rfl) (fun _ _ _ h => h) (by rfl) (fun w9 hS => ?_) ?_
        rotate_left
        · obtain ⟨s0, s1, s2, s3, s4, _, _⟩ := BoxD.cells hS; go_simp <;> with_reducible rfl
        try simp only [Act.put, List.setIfInBounds_toArray, List.set_cons_zero, List.set_cons_succ]
        refine s_take 5 (some 56) (v := ?_) US rfl rfl (by kernel_rfl) (by kernel_rfl) (by kernel_rfl) (fun _ _ _ h => h) (by rfl) (fun w9 hS => ?_) ?_
        rotate_left
        · go_simp <;> with_reducible rfl
        try simp only [Act.put, List.setIfInBounds_toArray, List.set_cons_zero, List.set_cons_succ]
        refine s_take 6 (some 57) (v := ?_) US rfl rfl (by kernel_rfl) (by kernel_rfl) (by kernel_rfl) (fun _ _ _ h => h) (by rfl) (fun w9 hS => ?_) ?_
        rotate_left
        · obtain ⟨s0, s1, s2, s3, s4, _, _⟩ := BoxD.cells hS; go_simp <;> with_reducible rfl
        try simp only [Act.put, List.setIfInBounds_toArray, List.set_cons_zero, List.set_cons_succ]
        refine s_take 7 (some 58) (v := ?_) US rfl rfl (by kernel_rfl) (by kernel_rfl) (by kernel_rfl) (fun _ _ _ h => h) (by rfl) (fun w9 hS => ?_) ?_
        rotate_left
        · go_simp <;> with_reducible rfl
        try simp only [Act.put, List.setIfInBounds_toArray, List.set_cons_zero, List.set_cons_succ]
        refine s_take 8 (some 59) (v := ?_) US rfl rfl (by kernel_rfl) (by kernel_rfl) (by kernel_rfl) (fun _ _ _ h => h) (by rfl) (fun w9 hS => ?_) ?_
        rotate_left
        · obtain ⟨s0, s1, s2, s3, s4, _, _⟩ := BoxD.cells hS; go_simp <;> with_reducible rfl
        try simp only [Act.put, List.setIfInBounds_toArray, List.set_cons_zero, List.set_cons_succ]
        refine s_take 11 (some 62) (v := ?_) US rfl rfl (by kernel_rfl) (by kernel_rfl) (by kernel_rfl) (fun _ _ _ h => h) (by rfl) (fun w9 hS => ?_) ?_
        rotate_left
        · go_simp <;> with_reducible rfl
        try simp only [Act.put, List.setIfInBounds_toArray, List.set_cons_zero, List.set_cons_succ]
        refine s_take 12 (some 63) (v := ?_) US rfl rfl (by kernel_rfl) (by kernel_rfl) (by kernel_rfl) (fun _ _ _ h => h) (by rfl) (fun w9 hS => ?_) ?_
        rotate_left
        · go_simp <;> with_reducible rfl
        try simp only [Act.put, List.setIfInBounds_toArray, List.set_cons_zero, List.set_cons_succ]
        refine s_take 13 (some 64) (v := ?_) US rfl rfl (by kernel_rfl) (by kernel_rfl) (by kernel_rfl) (fun _ _ _ h => h) (by rfl) (fun w9 hS => ?_) ?_
        rotate_left
        · obtain ⟨s0, s1, s2, s3, s4, _, _⟩ := BoxD.cells hS; go_simp <;> with_reducible rfl
        try simp only [Act.put, List.setIfInBounds_toArray, List.set_cons_zero, List.set_cons_succ]
        refine s_take 14 (some 65) (v := ?_) US rfl rfl (by kernel_rfl) (by kernel_rfl) (by kernel_rfl) (fun _ _ _ h => h) (by rfl) (fun w9 hS => ?_) ?_
        rotate_left
        · go_simp <;> with_reducible rfl
        try simp only [Act.put, List.setIfInBounds_toArray, List.set_cons_zero, List.set_cons_succ]
        refine s_take 15 (some 66) (v := ?_) US rfl rfl (by kernel_rfl) (by kernel_rfl) (by kernel_rfl) (fun _ _ _ h => h) (by rfl) (fun w9 hS => ?_) ?_
        rotate_left
        · obtain ⟨s0, s1, s2, s3, s4, _, _⟩ := BoxD.cells hS; go_simp <;> with_reducible rfl
        try simp only [Act.put, List.setIfInBounds_toArray, List.set_cons_zero, List.set_cons_succ]
        refine s_take 16 (some 67) (v := ?_) US rfl rfl (by kernel_rfl) (by kernel_rfl) (by kernel_rfl) (fun _ _ _ h => h) (by rfl) (fun w9 hS => ?_) ?_
        rotate_left
        · go_simp <;> with_reducible rfl
        try simp only [Act.put, List.setIfInBounds_toArray, List.set_cons_zero, List.set_cons_succ]
        refine s_take 17 (some 68) (v := ?_) US rfl rfl (by kernel_rfl) (by kernel_rfl) (by kernel_rfl) (fun _ _ _ h => h) (by rfl) (fun w9 hS => ?_) ?_
        rotate_left
        · obtain ⟨s0, s1, s2, s3, s4, _, _⟩ := BoxD.cells hS; go_simp <;> with_reducible rfl
        try simp only [Act.put, List.setIfInBounds_toArray, List.set_cons_zero, List.set_cons_succ]
        refine s_take 18 (some 69) (v := ?_) US rfl rfl (by kernel_rfl) (by kernel_rfl) (by kernel_rfl) (fun _ _ _ h => h) (by rfl) (fun w9 hS => ?_) ?_
        rotate_left
        · go_simp <;> with_reducible rfl
        try simp only [Act.put, List.setIfInBounds_toArray, List.set_cons_zero, List.set_cons_succ]
        refine s_take 19 (some 70) (v := ?_) US rfl rfl (by kernel_rfl) (by kernel_rfl) (by kernel_rfl) (fun _ _ _ h => h) (by rfl) (fun w9 hS => ?_) ?_
        rotate_left
        · obtain ⟨s0, s1, s2, s3, s4, _, _⟩ := BoxD.cells hS; go_simp <;> with_reducible rfl
        try simp only [Act.put, List.setIfInBounds_toArray, List.set_cons_zero, List.set_cons_succ]
        refine s_op 9 (by kernel_rfl) rfl (by rfl) (fun K9 hK9 => ?_)
        go_simp
        go_at_call 46
        refine (sectors_calls _ a.n a.seed).mono ?_
        rintro en w6 ⟨A6, cq6, rfl, hh⟩
        have T6 := hid (T5.out.grow hh.out.1)
        have SB6 := hid (And.intro hh.out.2.2 (show (secsV (cntV a.n) a.seed).length < 100000 by rw [secsV_length]; unfold cntV; split <;> omega))
        replace US := US.up hh.out.1
        clear hh
        refine hK9.out _ _ US ?_
        clear hK9 K9
        try simp only [Act.put, List.setIfInBounds_toArray, List.set_cons_zero, List.set_cons_succ]
        refine s_op 10 (by kernel_rfl) rfl (by rfl) (fun K9 hK9 => ?_)
        go_simp
        go_at_call 45
        refine (writeL_calls wN _ d w1.heap.size e D E wr.heap.size a 0 T6 OKD a.file a.at' A6 _ cq6 _ SB6).mono ?_
        rintro en w7 ⟨rfl, hh⟩
        have T7 := hid hh.out
        clear hh T6 SB6
        replace US := T7.out.box
        refine hK9.out _ _ US ?_
        clear hK9 K9
        try simp only [Act.put, List.setIfInBounds_toArray, List.set_cons_zero, List.set_cons_succ]
        refine s_op 20 (by kernel_rfl) rfl (by rfl) (fun K9 hK9 => ?_)
        go_simp
        go_at_call 46
        refine (sectors_calls _ a.n a.seed).mono ?_
        rintro en w8 ⟨A8, cq8, rfl, hh⟩
        have T8 := hid (T7.out.grow hh.out.1)
        have SB8 := hid (And.intro hh.out.2.2 (show (secsV (cntV a.n) a.seed).length < 100000 by rw [secsV_length]; unfold cntV; split <;> omega))
        replace US := US.up hh.out.1
        clear hh
        refine hK9.out _ _ US ?_
        clear hK9 K9
        try simp only [Act.put, List.setIfInBounds_toArray, List.set_cons_zero, List.set_cons_succ]
        refine s_op 21 (by kernel_rfl) rfl (by rfl) (fun K9 hK9 => ?_)
        go_simp
        go_at_call 45
        refine (writeQ_calls wN _ d w1.heap.size e _ E wr.heap.size a 0 T8 OKE a.file a.at' A8 _ cq8 _ SB8).mono ?_
        rintro en w9 ⟨rfl, hh⟩
        have TL := hid hh.out
        clear hh T8 SB8
        replace US := TL.out.box
        refine hK9.out _ _ US ?_
        clear hK9 K9
        try simp only [Act.put, List.setIfInBounds_toArray, List.set_cons_zero, List.set_cons_succ]
        refine s_take 22 (some 12) (v := ?_) US rfl rfl (by kernel_rfl) (by kernel_rfl) (by kernel_rfl) (fun _ _ _ h => h) (by rfl) (fun w9 hS => ?_) ?_
        rotate_left
        · go_simp <;> with_reducible rfl
        try simp only [Act.put, List.setIfInBounds_toArray, List.set_cons_zero, List.set_cons_succ]
        refine s_take 23 (some 13) (v := ?_) US rfl rfl (by kernel_rfl) (by kernel_rfl) (by kernel_rfl) (fun _ _ _ h => h) (by rfl) (fun w9 hS => ?_) ?_
        rotate_left
        · go_simp <;> with_reducible rfl
        try simp only [Act.put, List.setIfInBounds_toArray, List.set_cons_zero, List.set_cons_succ]
        refine s_done (by kernel_rfl) ?_
        first | (rename_i K1 h1; refine h1 _ _ ?_; clear h1 K1) | skip
        clear US
        have BO : Hid (Both2 kk keep torn (k + 1) ((writeR D a.file a.at' (secsV (cntV a.n) a.seed)).1, (writeR D a.file a.at' (secsV (cntV a.n) a.seed)).2) ((writeR E a.file a.at' (secsV (cntV a.n) a.seed)).1, (writeR E a.file a.at' (secsV (cntV a.n) a.seed)).2)) := hid (I5.out.write a.file a.at' (secsV (cntV a.n) a.seed))
        obtain ⟨D1, hD1⟩ : ∃ x, (writeR D a.file a.at' (secsV (cntV a.n) a.seed)).1 = x := ⟨_, rfl⟩
        obtain ⟨r, hr1⟩ : ∃ x, (writeR D a.file a.at' (secsV (cntV a.n) a.seed)).2 = x := ⟨_, rfl⟩
        obtain ⟨E1, hE1⟩ : ∃ x, (writeR E a.file a.at' (secsV (cntV a.n) a.seed)).1 = x := ⟨_, rfl⟩
        obtain ⟨s, hs1⟩ : ∃ x, (writeR E a.file a.at' (secsV (cntV a.n) a.seed)).2 = x := ⟨_, rfl⟩
        rw [hD1, hE1] at BO TL
        rw [hr1, hs1] at BO ⊢
        clear hD1 hE1 hr1 hs1 I5 OKD OKE T5
        obtain ⟨pL, qL, hL, hQ, _⟩ := TL.out.two
        have HL : Hid (DiskM w9 wN.heap.size d D1) := hid ⟨pL, hL⟩
        have HQ : Hid (DiskM w9 w1.heap.size e E1) := hid ⟨qL, hQ⟩
        have KB := BO.out
        clear BO hL hQ
        rcases KB with ⟨tw, hrs⟩ | ⟨hk9, hoff, hr4⟩
        · have tw2 : Twin kk keep torn D1 E1 (k + 1) := tw
          have hrs2 : r = s := hrs
          clear hrs tw
          subst hrs2
          have TW := hid tw2
          have hop : ¬ (kk : Int) ≤ E1.ops := by have := tw2.ops; omega
          have hon : D1.on = true := by rw [tw2.eq]; exact tw2.on
          clear tw2
          go_wp2_with fail
          refine (dops_calls w9 w1.heap.size e E1 HQ).mono ?_
          rintro en w' ⟨rfl, hw⟩
          obtain rfl := hw.symm
          clear hw
          go_wp2_with fail
          refine (don_calls w9 wN.heap.size d D1 HL).mono ?_
          rintro en w' ⟨rfl, hw⟩
          obtain rfl := hw.symm
          clear hw
          rw [hon]
          go_wp2
          go_roundw
          case rel => exact ⟨k + 1, by have := HK.out.2; omega, rfl, hid ⟨D1, E1, TL.out.swap2, TW.out, TL.out.up⟩⟩
          case measure => have := HK.out.2; simp only [intOf]; omega
        · have hr5 : r = 4 := hr4
          clear hr4
          subst hr5
          have hop : (kk : Int) ≤ E1.ops := hk9
          have hof : D1.on = false := hoff
          clear hk9 hoff
          have UW : Hid (Up wN w9) := hid TL.out.up
          go_wp2_with fail
          refine (dops_calls w9 w1.heap.size e E1 HQ).mono ?_
          rintro en w' ⟨rfl, hw⟩
          obtain rfl := hw.symm
          clear hw TL
          go_wp2_with fail
          refine (don_calls w9 wN.heap.size d D1 HL).mono ?_
          rintro en w' ⟨rfl, hw⟩
          obtain rfl := hw.symm
          clear hw
          rw [hof]
          go_wp2_with fail
          refine (readE_calls w9 d 0 0 0 4 (by decide) (fileOff_calls _ _ d D1 HL 0 hof)).mono ?_
          rintro en w' ⟨rfl, hw⟩
          obtain rfl := hw.symm
          clear hw
          go_wp2_with fail
          refine (don_calls w9 wN.heap.size d D1 HL).mono ?_
          rintro en w' ⟨rfl, hw⟩
          obtain rfl := hw.symm
          clear hw
          rw [hof]
          simp only [Bool.not_false, Bool.not_true]
          go_wp2_with fail
          refine (startM_calls w9 wN.heap.size d D1 HL).mono ?_
          rintro en wS ⟨rfl, hS⟩
          have HS := hid hS.out.1
          have US9 : Hid (Up wN wS) := hid (Below.trans UW.out hS.out.2)
          clear hS
          go_wp2_with fail
          refine (don_calls wS wN.heap.size d _ HS).mono ?_
          rintro en w' ⟨rfl, hw⟩
          obtain rfl := hw.symm
          clear hw
          go_wp2_with fail
          refine (lives4_calls _).mono ?_
          rintro en wZ ⟨rfl, uZ⟩
          go_wp2
          go_ret
          exact ⟨rfl, UN.out.t (US9.out.t uZ)⟩
      by_cases hkind1 : kd = 1
      · subst hkind1
        clear hkind
        have OKD : Hid (DiskOk D) := hid (I5.out.okD (by have := K20.out; omega) KLE.out)
        have OKE : Hid (DiskOk E) := hid (I5.out.okE (by have := K20.out; omega))
        go_wp2_with fail
        replace T5 := hid (T5.out.grow (Up.drew _))
        have US := T5.out.box
        refine s_start (fun w9 => BoxD w9 wr.heap.size a 1) (by kernel_rfl) ?_
        refine s_take 0 (some 75) (v := ?_) US rfl rfl (by kernel_rfl) (by kernel_rfl) (by kernel_rfl) (fun _ _ _ h => h) (by rfl) (fun w9 hS => ?_) ?_
        rotate_left
        · go_simp <;> with_reducible rfl
        try simp only [Act.put, List.setIfInBounds_toArray, List.set_cons_zero, List.set_cons_succ]
        refine s_take 1 (some 76) (v := ?_) US rfl rfl (by kernel_rfl) (by kernel_rfl) (by kernel_rfl) (fun _ _ _ h => h) (by rfl) (fun w9 hS => ?_) ?_
        rotate_left
        · go_simp <;> with_reducible rfl
        try simp only [Act.put, List.setIfInBounds_toArray, List.set_cons_zero, List.set_cons_succ]
        refine s_take 2 (some 77) (v := ?_) US rfl rfl (by kernel_rfl) (by kernel_rfl) (by kernel_rfl) (fun _ _ _ h => h) (by rfl) (fun w9 hS => ?_) ?_
        rotate_left
        · obtain ⟨s0, s1, s2, s3, s4, _, _⟩ := BoxD.cells hS; go_simp <;> with_reducible rfl
        try simp only [Act.put, List.setIfInBounds_toArray, List.set_cons_zero, List.set_cons_succ]
        refine s_take 4 (some 79) (v := ?_) US rfl rfl (by kernel_rfl) (by kernel_rfl) (by kernel_rfl) (fun _ _ _ h => h) (by rfl) (fun w9 hS => ?_) ?_
        rotate_left
        · go_simp <;> with_reducible rfl
        try simp only [Act.put, List.setIfInBounds_toArray, List.set_cons_zero, List.set_cons_succ]
        refine s_take 5 (some 80) (v := ?_) US rfl rfl (by kernel_rfl) (by kernel_rfl) (by kernel_rfl) (fun _ _ _ h => h) (by rfl) (fun w9 hS => ?_) ?_
        rotate_left
        · go_simp <;> with_reducible rfl
        try simp only [Act.put, List.setIfInBounds_toArray, List.set_cons_zero, List.set_cons_succ]
        refine s_take 6 (some 81) (v := ?_) US rfl rfl (by kernel_rfl) (by kernel_rfl) (by kernel_rfl) (fun _ _ _ h => h) (by rfl) (fun w9 hS => ?_) ?_
        rotate_left
        · obtain ⟨s0, s1, s2, s3, s4, _, _⟩ := BoxD.cells hS; go_simp <;> with_reducible rfl
        try simp only [Act.put, List.setIfInBounds_toArray, List.set_cons_zero, List.set_cons_succ]
        refine s_op 3 (by kernel_rfl) rfl (by rfl) (fun K9 hK9 => ?_)
        go_simp
        go_at_call 47
        refine (syncL_calls wN _ d w1.heap.size e D E wr.heap.size a 1 T5 OKD a.file).mono ?_
        rintro en w7 ⟨rfl, hh⟩
        have T7 := hid hh.out
        clear hh
        replace US := T7.out.box
        refine hK9.out _ _ US ?_
        clear hK9 K9
        try simp only [Act.put, List.setIfInBounds_toArray, List.set_cons_zero, List.set_cons_succ]
        refine s_op 7 (by kernel_rfl) rfl (by rfl) (fun K9 hK9 => ?_)
        go_simp
        go_at_call 47
        refine (syncQ_calls wN _ d w1.heap.size e _ E wr.heap.size a 1 T7 OKE a.file).mono ?_
        rintro en w9 ⟨rfl, hh⟩
        have TL := hid hh.out
        clear hh T7
        replace US := TL.out.box
        refine hK9.out _ _ US ?_
        clear hK9 K9
        try simp only [Act.put, List.setIfInBounds_toArray, List.set_cons_zero, List.set_cons_succ]
        refine s_take 8 (some 12) (v := ?_) US rfl rfl (by kernel_rfl) (by kernel_rfl) (by kernel_rfl) (fun _ _ _ h => h) (by rfl) (fun w9 hS => ?_) ?_
        rotate_left
        · go_simp <;> with_reducible rfl
        try simp only [Act.put, List.setIfInBounds_toArray, List.set_cons_zero, List.set_cons_succ]
        refine s_take 9 (some 13) (v := ?_) US rfl rfl (by kernel_rfl) (by kernel_rfl) (by kernel_rfl) (fun _ _ _ h => h) (by rfl) (fun w9 hS => ?_) ?_
        rotate_left
        · go_simp <;> with_reducible rfl
        try simp only [Act.put, List.setIfInBounds_toArray, List.set_cons_zero, List.set_cons_succ]
        refine s_done (by kernel_rfl) ?_
        first | (rename_i K1 h1; refine h1 _ _ ?_; clear h1 K1) | skip
        clear US
        have BO : Hid (Both2 kk keep torn (k + 1) ((syncR D a.file).1, (syncR D a.file).2) ((syncR E a.file).1, (syncR E a.file).2)) := hid (I5.out.sync a.file)
        obtain ⟨D1, hD1⟩ : ∃ x, (syncR D a.file).1 = x := ⟨_, rfl⟩
        obtain ⟨r, hr1⟩ : ∃ x, (syncR D a.file).2 = x := ⟨_, rfl⟩
        obtain ⟨E1, hE1⟩ : ∃ x, (syncR E a.file).1 = x := ⟨_, rfl⟩
        obtain ⟨s, hs1⟩ : ∃ x, (syncR E a.file).2 = x := ⟨_, rfl⟩
        rw [hD1, hE1] at BO TL
        rw [hr1, hs1] at BO ⊢
        clear hD1 hE1 hr1 hs1 I5 OKD OKE T5
        obtain ⟨pL, qL, hL, hQ, _⟩ := TL.out.two
        have HL : Hid (DiskM w9 wN.heap.size d D1) := hid ⟨pL, hL⟩
        have HQ : Hid (DiskM w9 w1.heap.size e E1) := hid ⟨qL, hQ⟩
        have KB := BO.out
        clear BO hL hQ
        rcases KB with ⟨tw, hrs⟩ | ⟨hk9, hoff, hr4⟩
        · have tw2 : Twin kk keep torn D1 E1 (k + 1) := tw
          have hrs2 : r = s := hrs
          clear hrs tw
          subst hrs2
          have TW := hid tw2
          have hop : ¬ (kk : Int) ≤ E1.ops := by have := tw2.ops; omega
          have hon : D1.on = true := by rw [tw2.eq]; exact tw2.on
          clear tw2
          go_wp2_with fail
          refine (dops_calls w9 w1.heap.size e E1 HQ).mono ?_
          rintro en w' ⟨rfl, hw⟩
          obtain rfl := hw.symm
          clear hw
          go_wp2_with fail
          refine (don_calls w9 wN.heap.size d D1 HL).mono ?_
          rintro en w' ⟨rfl, hw⟩
          obtain rfl := hw.symm
          clear hw
          rw [hon]
          go_wp2
          go_roundw
          case rel => exact ⟨k + 1, by have := HK.out.2; omega, rfl, hid ⟨D1, E1, TL.out.swap2, TW.out, TL.out.up⟩⟩
          case measure => have := HK.out.2; simp only [intOf]; omega
        · have hr5 : r = 4 := hr4
          clear hr4
          subst hr5
          have hop : (kk : Int) ≤ E1.ops := hk9
          have hof : D1.on = false := hoff
          clear hk9 hoff
          have UW : Hid (Up wN w9) := hid TL.out.up
          go_wp2_with fail
          refine (dops_calls w9 w1.heap.size e E1 HQ).mono ?_
          rintro en w' ⟨rfl, hw⟩
          obtain rfl := hw.symm
          clear hw TL
          go_wp2_with fail
          refine (don_calls w9 wN.heap.size d D1 HL).mono ?_
          rintro en w' ⟨rfl, hw⟩
          obtain rfl := hw.symm
          clear hw
          rw [hof]
          go_wp2_with fail
          refine (readE_calls w9 d 0 0 0 4 (by decide) (fileOff_calls _ _ d D1 HL 0 hof)).mono ?_
          rintro en w' ⟨rfl, hw⟩
          obtain rfl := hw.symm
          clear hw
          go_wp2_with fail
          refine (don_calls w9 wN.heap.size d D1 HL).mono ?_
          rintro en w' ⟨rfl, hw⟩
          obtain rfl := hw.symm
          clear hw
          rw [hof]
          simp only [Bool.not_false, Bool.not_true]
          go_wp2_with fail
          refine (startM_calls w9 wN.heap.size d D1 HL).mono ?_
          rintro en wS ⟨rfl, hS⟩
          have HS := hid hS.out.1
          have US9 : Hid (Up wN wS) := hid (Below.trans UW.out hS.out.2)
          clear hS
          go_wp2_with fail
          refine (don_calls wS wN.heap.size d _ HS).mono ?_
          rintro en w' ⟨rfl, hw⟩
          obtain rfl := hw.symm
          clear hw
          go_wp2_with fail
          refine (lives4_calls _).mono ?_
          rintro en wZ ⟨rfl, uZ⟩
          go_wp2
          go_ret
          exact ⟨rfl, UN.out.t (US9.out.t uZ)⟩
      by_cases hkind2 : kd = 2
      · subst hkind2
        clear hkind hkind1
        have OKD : Hid (DiskOk D) := hid (I5.out.okD (by have := K20.out; omega) KLE.out)
        have OKE : Hid (DiskOk E) := hid (I5.out.okE (by have := K20.out; omega))
        go_wp2_with fail
        replace T5 := hid (T5.out.grow (Up.drew _))
        have US := T5.out.box
        refine s_start (fun w9 => BoxD w9 wr.heap.size a 2) (by kernel_rfl) ?_
        refine s_take 0 (some 85) (v := ?_) US rfl rfl (by kernel_rfl) (by kernel_rfl) (by kernel_rfl) (fun _ _ _ h => h) (by rfl) (fun w9 hS => ?_) ?_
        rotate_left
        · go_simp <;> with_reducible rfl
        try simp only [Act.put, List.setIfInBounds_toArray, List.set_cons_zero, List.set_cons_succ]
        refine s_take 1 (some 86) (v := ?_) US rfl rfl (by kernel_rfl) (by kernel_rfl) (by kernel_rfl) (fun _ _ _ h => h) (by rfl) (fun w9 hS => ?_) ?_
        rotate_left
        · go_simp <;> with_reducible rfl
        try simp only [Act.put, List.setIfInBounds_toArray, List.set_cons_zero, List.set_cons_succ]
        refine s_take 2 (some 87) (v := ?_) US rfl rfl (by kernel_rfl) (by kernel_rfl) (by kernel_rfl) (fun _ _ _ h => h) (by rfl) (fun w9 hS => ?_) ?_
        rotate_left
        · obtain ⟨s0, s1, s2, s3, s4, _, _⟩ := BoxD.cells hS; go_simp <;> with_reducible rfl
        try simp only [Act.put, List.setIfInBounds_toArray, List.set_cons_zero, List.set_cons_succ]
        refine s_take 3 (some 88) (v := ?_) US rfl rfl (by kernel_rfl) (by kernel_rfl) (by kernel_rfl) (fun _ _ _ h => h) (by rfl) (fun w9 hS => ?_) ?_
        rotate_left
        · go_simp <;> with_reducible rfl
        try simp only [Act.put, List.setIfInBounds_toArray, List.set_cons_zero, List.set_cons_succ]
        refine s_take 4 (some 89) (v := ?_) US rfl rfl (by kernel_rfl) (by kernel_rfl) (by kernel_rfl) (fun _ _ _ h => h) (by rfl) (fun w9 hS => ?_) ?_
        rotate_left
        · obtain ⟨s0, s1, s2, s3, s4, _, _⟩ := BoxD.cells hS; go_simp <;> with_reducible rfl
        try simp only [Act.put, List.setIfInBounds_toArray, List.set_cons_zero, List.set_cons_succ]
        refine s_take 6 (some 91) (v := ?_) US rfl rfl (by kernel_rfl) (by kernel_rfl) (by kernel_rfl) (fun _ _ _ h => h) (by rfl) (fun w9 hS => ?_) ?_
        rotate_left
        · go_simp <;> with_reducible rfl
        try simp only [Act.put, List.setIfInBounds_toArray, List.set_cons_zero, List.set_cons_succ]
        refine s_take 7 (some 92) (v := ?_) US rfl rfl (by kernel_rfl) (by kernel_rfl) (by kernel_rfl) (fun _ _ _ h => h) (by rfl) (fun w9 hS => ?_) ?_
        rotate_left
        · go_simp <;> with_reducible rfl
        try simp only [Act.put, List.setIfInBounds_toArray, List.set_cons_zero, List.set_cons_succ]
        refine s_take 8 (some 93) (v := ?_) US rfl rfl (by kernel_rfl) (by kernel_rfl) (by kernel_rfl) (fun _ _ _ h => h) (by rfl) (fun w9 hS => ?_) ?_
        rotate_left
        · obtain ⟨s0, s1, s2, s3, s4, _, _⟩ := BoxD.cells hS; go_simp <;> with_reducible rfl
        try simp only [Act.put, List.setIfInBounds_toArray, List.set_cons_zero, List.set_cons_succ]
        refine s_take 9 (some 94) (v := ?_) US rfl rfl (by kernel_rfl) (by kernel_rfl) (by kernel_rfl) (fun _ _ _ h => h) (by rfl) (fun w9 hS => ?_) ?_
        rotate_left
        · go_simp <;> with_reducible rfl
        try simp only [Act.put, List.setIfInBounds_toArray, List.set_cons_zero, List.set_cons_succ]
        refine s_take 10 (some 95) (v := ?_) US rfl rfl (by kernel_rfl) (by kernel_rfl) (by kernel_rfl) (fun _ _ _ h => h) (by rfl) (fun w9 hS => ?_) ?_
        rotate_left
        · obtain ⟨s0, s1, s2, s3, s4, _, _⟩ := BoxD.cells hS; go_simp <;> with_reducible rfl
        try simp only [Act.put, List.setIfInBounds_toArray, List.set_cons_zero, List.set_cons_succ]
        refine s_op 5 (by kernel_rfl) rfl (by rfl) (fun K9 hK9 => ?_)
        go_simp
        go_at_call 55
        refine (cutL_calls wN _ d w1.heap.size e D E wr.heap.size a 2 T5 OKD a.file a.at').mono ?_
        rintro en w7 ⟨rfl, hh⟩
        have T7 := hid hh.out
        clear hh
        replace US := T7.out.box
        refine hK9.out _ _ US ?_
        clear hK9 K9
        try simp only [Act.put, List.setIfInBounds_toArray, List.set_cons_zero, List.set_cons_succ]
        refine s_op 11 (by kernel_rfl) rfl (by rfl) (fun K9 hK9 => ?_)
        go_simp
        go_at_call 55
        refine (cutQ_calls wN _ d w1.heap.size e _ E wr.heap.size a 2 T7 OKE a.file a.at').mono ?_
        rintro en w9 ⟨rfl, hh⟩
        have TL := hid hh.out
        clear hh T7
        replace US := TL.out.box
        refine hK9.out _ _ US ?_
        clear hK9 K9
        try simp only [Act.put, List.setIfInBounds_toArray, List.set_cons_zero, List.set_cons_succ]
        refine s_take 12 (some 12) (v := ?_) US rfl rfl (by kernel_rfl) (by kernel_rfl) (by kernel_rfl) (fun _ _ _ h => h) (by rfl) (fun w9 hS => ?_) ?_
        rotate_left
        · go_simp <;> with_reducible rfl
        try simp only [Act.put, List.setIfInBounds_toArray, List.set_cons_zero, List.set_cons_succ]
        refine s_take 13 (some 13) (v := ?_) US rfl rfl (by kernel_rfl) (by kernel_rfl) (by kernel_rfl) (fun _ _ _ h => h) (by rfl) (fun w9 hS => ?_) ?_
        rotate_left
        · go_simp <;> with_reducible rfl
        try simp only [Act.put, List.setIfInBounds_toArray, List.set_cons_zero, List.set_cons_succ]
        refine s_done (by kernel_rfl) ?_
        first | (rename_i K1 h1; refine h1 _ _ ?_; clear h1 K1) | skip
        clear US
        have BO : Hid (Both2 kk keep torn (k + 1) ((cutR D a.file a.at').1, (cutR D a.file a.at').2) ((cutR E a.file a.at').1, (cutR E a.file a.at').2)) := hid (I5.out.cut a.file a.at')
        obtain ⟨D1, hD1⟩ : ∃ x, (cutR D a.file a.at').1 = x := ⟨_, rfl⟩
        obtain ⟨r, hr1⟩ : ∃ x, (cutR D a.file a.at').2 = x := ⟨_, rfl⟩
        obtain ⟨E1, hE1⟩ : ∃ x, (cutR E a.file a.at').1 = x := ⟨_, rfl⟩
        obtain ⟨s, hs1⟩ : ∃ x, (cutR E a.file a.at').2 = x := ⟨_, rfl⟩
        rw [hD1, hE1] at BO TL
        rw [hr1, hs1] at BO ⊢
        clear hD1 hE1 hr1 hs1 I5 OKD OKE T5
        obtain ⟨pL, qL, hL, hQ, _⟩ := TL.out.two
        have HL : Hid (DiskM w9 wN.heap.size d D1) := hid ⟨pL, hL⟩
        have HQ : Hid (DiskM w9 w1.heap.size e E1) := hid ⟨qL, hQ⟩
        have KB := BO.out
        clear BO hL hQ
        rcases KB with ⟨tw, hrs⟩ | ⟨hk9, hoff, hr4⟩
        · have tw2 : Twin kk keep torn D1 E1 (k + 1) := tw
          have hrs2 : r = s := hrs
          clear hrs tw
          subst hrs2
          have TW := hid tw2
          have hop : ¬ (kk : Int) ≤ E1.ops := by have := tw2.ops; omega
          have hon : D1.on = true := by rw [tw2.eq]; exact tw2.on
          clear tw2
          go_wp2_with fail
          refine (dops_calls w9 w1.heap.size e E1 HQ).mono ?_
          rintro en w' ⟨rfl, hw⟩
          obtain rfl := hw.symm
          clear hw
          go_wp2_with fail
          refine (don_calls w9 wN.heap.size d D1 HL).mono ?_
          rintro en w' ⟨rfl, hw⟩
          obtain rfl := hw.symm
          clear hw
          rw [hon]
          go_wp2
          go_roundw
          case rel => exact ⟨k + 1, by have := HK.out.2; omega, rfl, hid ⟨D1, E1, TL.out.swap2, TW.out, TL.out.up⟩⟩
          case measure => have := HK.out.2; simp only [intOf]; omega
        · have hr5 : r = 4 := hr4
          clear hr4
          subst hr5
          have hop : (kk : Int) ≤ E1.ops := hk9
          have hof : D1.on = false := hoff
          clear hk9 hoff
          have UW : Hid (Up wN w9) := hid TL.out.up
          go_wp2_with fail
          refine (dops_calls w9 w1.heap.size e E1 HQ).mono ?_
          rintro en w' ⟨rfl, hw⟩
          obtain rfl := hw.symm
          clear hw TL
          go_wp2_with fail
          refine (don_calls w9 wN.heap.size d D1 HL).mono ?_
          rintro en w' ⟨rfl, hw⟩
          obtain rfl := hw.symm
          clear hw
          rw [hof]
          go_wp2_with fail
          refine (readE_calls w9 d 0 0 0 4 (by decide) (fileOff_calls _ _ d D1 HL 0 hof)).mono ?_
          rintro en w' ⟨rfl, hw⟩
          obtain rfl := hw.symm
          clear hw
          go_wp2_with fail
          refine (don_calls w9 wN.heap.size d D1 HL).mono ?_
          rintro en w' ⟨rfl, hw⟩
          obtain rfl := hw.symm
          clear hw
          rw [hof]
          simp only [Bool.not_false, Bool.not_true]
          go_wp2_with fail
          refine (startM_calls w9 wN.heap.size d D1 HL).mono ?_
          rintro en wS ⟨rfl, hS⟩
          have HS := hid hS.out.1
          have US9 : Hid (Up wN wS) := hid (Below.trans UW.out hS.out.2)
          clear hS
          go_wp2_with fail
          refine (don_calls wS wN.heap.size d _ HS).mono ?_
          rintro en w' ⟨rfl, hw⟩
          obtain rfl := hw.symm
          clear hw
          go_wp2_with fail
          refine (lives4_calls _).mono ?_
          rintro en wZ ⟨rfl, uZ⟩
          go_wp2
          go_ret
          exact ⟨rfl, UN.out.t (US9.out.t uZ)⟩
      obtain ⟨pL, qL, hL, hQ, _⟩ := T5.out.two
      have HL := hid (show DiskM _ wN.heap.size d D from ⟨pL, hL⟩)
      have HQ := hid (show DiskM _ w1.heap.size e E from ⟨qL, hQ⟩)
      have hop : ¬ (kk : Int) ≤ E.ops := by have := I5.out.ops; omega
      have hon : D.on = true := by rw [I5.out.eq]; exact I5.out.on
      clear hL hQ
      go_wp2_with fail
      refine (dops_calls _ w1.heap.size e E HQ).mono ?_
      rintro en w' ⟨rfl, hw⟩
      obtain rfl := hw.symm
      clear hw
      go_wp2_with fail
      refine (don_calls _ wN.heap.size d D HL).mono ?_
      rintro en w' ⟨rfl, hw⟩
      obtain rfl := hw.symm
      clear hw
      rw [hon]
      go_wp2
      go_roundw
      case rel => exact ⟨k + 1, by have := HK.out.2; omega, rfl, hid ⟨D, E, T5.out.swap2, I5.out.mono (Nat.le_succ k), T5.out.up⟩⟩
      case measure => have := HK.out.2; simp only [intOf]; omega
    · obtain ⟨D, E, t5, i5, u5⟩ := iv.out
      have HL : Hid (DiskM wr wN.heap.size d D) := hid t5.m1
      have hon : D.on = true := by rw [i5.eq]; exact i5.on
      have SZ : Hid ((D.fl false).now.length < 1000000) := hid (by have := i5.size; have e9 : (D.fl false).now.length = E.f0.now.length := (by rw [i5.eq]; rfl); omega)
      have UW : Hid (Up wN wr) := hid u5
      clear iv t5 i5 u5
      have hp0 : part (D.fl false).now 0 0 = [] := by unfold part; simp
      have RC := read_calls wr wN.heap.size d D false HL (hid hon) 0 0 (hid ⟨Nat.zero_le _, SZ.out⟩)
      rw [hp0] at RC
      clear hp0
      go_wp2_with fail
      refine RC.mono ?_
      rintro en wR ⟨AR, cR, rfl, hR⟩
      have HR := hid (HL.out.up hR.out.1)
      have UR : Hid (Up wN wR) := hid (UW.out.t hR.out.1)
      clear hR RC
      go_wp2_with fail
      refine (don_calls wR wN.heap.size d D HR).mono ?_
      rintro en w' ⟨rfl, hw⟩
      obtain rfl := hw.symm
      clear hw
      rw [hon]
      simp only [Bool.not_false, Bool.not_true]
      go_wp2_with fail
      refine (startM_calls wR wN.heap.size d D HR).mono ?_
      rintro en wS ⟨rfl, hS⟩
      have HS := hid hS.out.1
      have US9 : Hid (Up wN wS) := hid (Below.trans UR.out hS.out.2)
      clear hS
      go_wp2_with fail
      refine (don_calls wS wN.heap.size d _ HS).mono ?_
      rintro en w' ⟨rfl, hw⟩
      obtain rfl := hw.symm
      clear hw
      go_wp2_with fail
      refine (lives4_calls _).mono ?_
      rintro en wZ ⟨rfl, uZ⟩
      go_wp2
      go_ret
      exact ⟨rfl, UN.out.t (US9.out.t uZ)⟩
end Go.Proofs.Ytlikggeceeennaa
