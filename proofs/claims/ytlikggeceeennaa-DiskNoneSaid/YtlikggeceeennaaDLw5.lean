/- THE WALK of DiskSure. -/
import Derived.Test.YtlikggeceeennaaDLw4
import Derived.Test.YtlikggeceeennaaStr
set_option linter.unusedVariables false
set_option linter.unusedSimpArgs false
namespace Go.Proofs.Ytlikggeceeennaa
open Go Go.RowKit Go.Maps Hach

def BoxD (w : World) (x : Nat) (a : ActD) (kd : Int) : Prop := w.heap[x]? = some (.cells #[.int .i64 kd, .int .i64 a.file, .int .i64 a.at', .int .i64 a.n, .int .u8 (n8 a.seed), .slice a.KA a.kn a.kc, .int .i64 a.torn] 84 (0, 0))
theorem BoxD.cells {w : World} {x : Nat} {a : ActD} {kd : Int} (h : BoxD w x a kd) : w.cell? ⟨x, 0, none⟩ = some (.int .i64 kd) ∧ w.cell? ⟨x, 1, none⟩ = some (.int .i64 a.file) ∧ w.cell? ⟨x, 2, none⟩ = some (.int .i64 a.at') ∧ w.cell? ⟨x, 3, none⟩ = some (.int .i64 a.n) ∧ w.cell? ⟨x, 4, none⟩ = some (.int .u8 (n8 a.seed)) ∧ w.cell? ⟨x, 5, none⟩ = some (.slice a.KA a.kn a.kc) ∧ w.cell? ⟨x, 6, none⟩ = some (.int .i64 a.torn) :=
  ⟨cell3 h 0 rfl, cell3 h 1 rfl, cell3 h 2 rfl, cell3 h 3 rfl, cell3 h 4 rfl, cell3 h 5 rfl, cell3 h 6 rfl⟩
theorem BoxD.fr {S : Nat → Prop} {w w' : World} {x : Nat} {a : ActD} {kd : Int} (h : BoxD w x a kd) (hf : Fr S w w') (hS : ¬ S x) : BoxD w' x a kd := (hf.block x (Array.getElem?_eq_some_iff.1 h).1 hS).trans h
theorem BoxD.up {w w' : World} {x : Nat} {a : ActD} {kd : Int} (h : BoxD w x a kd) (hu : Up w w') : BoxD w' x a kd := h.fr (Fr.of_below hu) id
set_option maxRecDepth 100000 in
set_option maxHeartbeats 2000000 in
theorem diskSure_walk (w : World) (A : Option Addr) (l : List ActD) (c : Nat) (seed : UInt8) (KA : Option Addr) (keep : List Bool) (kc : Nat) (torn : Int) (hl : Hid (l.length ≤ 9223372036854775807)) (hr : Hid (Rd w A (l.flatMap actDC))) (hkk : Hid (keep.length ≤ 9223372036854775807)) (hkr : Hid (Rd w KA (keep.map .bool))) :
    Calls Try.prog 10 #[.slice A l.length c, .int .u8 (n8 seed), .agg #[.slice KA keep.length kc, .int .i64 torn]] w fun en w' => en = .returned (.bool true) ∧ Below w.heap.size w w' := by
  obtain ⟨n, hn⟩ : ∃ n, l.length = n := ⟨_, rfl⟩
  obtain ⟨kn, hkn⟩ : ∃ n, keep.length = n := ⟨_, rfl⟩
  rw [hkn]
  have HN := hid hn
  have HKN := hid hkn
  clear hkn
  have UB := hid (upAlD (Up.refl w) (.cells #[.slice KA kn kc, .int .i64 torn] 77))
  have LC := fun c => light_calls (w.alloc (.cells #[.slice KA kn kc, .int .i64 torn] 77)) A l c hl (hid (hr.out.fr (Fr.of_below UB.out) fun _ _ _ => id))
  rw [hn] at LC ⊢
  clear hn
  by_cases hlt : lightV l = false
  · rw [hlt] at LC
    go_enter Try.func10, Try.ntmps10
    go_wp2_with fail
    refine (LC _).mono ?_
    rintro en w1 ⟨rfl, u1⟩
    have U1 := hid (UB.out.t u1)
    clear u1 LC
    simp only [Bool.not_false, Bool.not_true]
    go_wp2_with fail
    refine (lives4_calls _).mono ?_
    rintro en w2 ⟨rfl, u2⟩
    go_wp2
    go_ret
    exact ⟨rfl, U1.out.t u2⟩
  replace hlt : lightV l = true := by cases h9 : lightV l; exact absurd h9 hlt; rfl
  rw [hlt] at LC
  have HLT := hid hlt
  clear hlt
  by_cases hk1 : (100 : Int) < (kn : Int)
  · go_enter Try.func10, Try.ntmps10
    go_wp2_with fail
    refine (LC _).mono ?_
    rintro en w1 ⟨rfl, u1⟩
    have cb : w1.cell? ⟨w.heap.size, 0, none⟩ = some (.slice KA kn kc) := Up.c u1 (by rw [cell_of_row _ _ _ _ _ _ (heap_alloc_new w _)]; rfl)
    have U1 := hid (UB.out.t u1)
    clear u1 LC
    simp only [Bool.not_false, Bool.not_true]
    go_wp2_with fail
    refine (lives4_calls _).mono ?_
    rintro en w2 ⟨rfl, u2⟩
    go_wp2
    go_ret
    exact ⟨rfl, U1.out.t u2⟩
  have HK1 := hid hk1
  go_enter Try.func10, Try.ntmps10
  go_wp2_with fail
  refine (LC _).mono ?_
  rintro en wN ⟨rfl, u1⟩
  have cb : wN.cell? ⟨w.heap.size, 0, none⟩ = some (.slice KA kn kc) := Up.c u1 (by rw [cell_of_row _ _ _ _ _ _ (heap_alloc_new w _)]; rfl)
  have CB : Hid (wN.heap[w.heap.size]? = some (.cells #[.slice KA kn kc, .int .i64 torn] 77 (0, 0))) := hid ((u1.block w.heap.size (by simp)).trans (heap_alloc_new w _))
  have UN := hid (UB.out.t u1)
  clear u1 LC
  simp only [Bool.not_false, Bool.not_true]
  go_wp2_with fail
  refine (dnew_calls wN 200 (by decide) (by decide)).mono ?_
  rintro e w1 ⟨d, rfl, h1⟩
  go_wp2_with (go_at_call 46; refine (sectors_calls w1 3 seed).mono ?_; rintro e w2 ⟨A2, c2, rfl, h2⟩)
  obtain ⟨S, hS⟩ : ∃ S, secsV 3 seed = S := ⟨_, rfl⟩
  have h2' := h2.out
  rw [show cntV 3 = 3 from rfl, hS] at h2'
  rw [show cntV 3 = 3 from rfl]
  have SL : Hid (S.length = 3) := hid (by rw [← hS]; exact secsV_length 3 seed)
  have HS := hid hS
  have START := three_start S SL.out
  have H2 : Hid (DiskM w2 wN.heap.size d (newD 200)) := hid (h1.out.1.up h2'.1)
  have B2 : Hid (Up wN w2) := hid (h1.out.2.t h2'.1)
  have SB : Hid (SecBytes w2 A2 (3 * 128) c2 S ∧ S.length < 100000) := hid ⟨h2'.2.2, by rw [SL.out]; decide⟩
  clear h1 h2 h2' hS
  refine (writeM_calls w2 wN.heap.size d (newD 200) 0 0 A2 (3 * 128) c2 S H2 (hid (newD_ok 200 (by decide))) SB).mono ?_
  rintro e w3 ⟨rfl, h3⟩
  rw [START.1]
  have B3 : Hid (Up wN w3) := hid (B2.out.trans h3.out.2)
  have H3 := hid h3.out.1
  clear h3 H2 B2 SB
  have OK3 := hid START.2.2.2
  go_wp2_with fail
  refine (syncM_calls w3 wN.heap.size d _ 0 H3 OK3).mono ?_
  rintro e w4 ⟨rfl, h4⟩
  rw [START.2.1]
  have INV : Hid (∃ D, DiskM w4 wN.heap.size d D ∧ SureI S D 2 ∧ Up wN w4) := hid ⟨_, h4.out.1, START.2.2.1, B3.out.trans h4.out.2⟩
  clear h4 H3 B3 START OK3
  have hle : (n : Int) ≤ 100 := by
    have := HLT.out
    unfold lightV at this
    rw [Bool.and_eq_true] at this
    have h2 := of_decide_eq_true this.1
    have := HN.out
    omega
  have HLE : Hid (n ≤ 100) := hid (by omega)
  go_wp2
  go_loopw [44] (fun i wr => ∃ k : Nat, k ≤ n ∧ i = .int .i64 k ∧ Hid (∃ D, DiskM wr wN.heap.size d D ∧ SureI S D (2 + 2 * k) ∧ Up wN wr)) (fun i _ => n - (intOf i).toNat)
  case atStart => exact ⟨0, Nat.zero_le _, rfl, INV⟩
  case round =>
    obtain ⟨k, hk, rfl, iv⟩ := hrel
    by_cases hlt : (k : Int) < n
    · have hkl : k < l.length := by have := HN.out; omega
      obtain ⟨D, h5, i5, u5⟩ := iv.out
      obtain ⟨g, off, rfl, hg, q0, q1, q2, q3, q4, q5, q6⟩ := actD_cells hr.out hkl
      have hin := List.getElem_mem hkl
      generalize l[k] = a at *
      obtain ⟨kd, hkd⟩ : ∃ x, a.kind = x := ⟨_, rfl⟩
      rw [hkd] at q0
      clear hkd
      have uw : Up w wr := UN.out.t u5
      have c0 := uw.c q0
      have c1 := uw.c q1
      have c2 := uw.c q2
      have c3 := uw.c q3
      have c4 := uw.c q4
      have c5 := uw.c q5
      have c6 := uw.c q6
      have uA := upAlD (Up.refl wr) (.cells #[.int .i64 kd, .int .i64 a.file, .int .i64 a.at', .int .i64 a.n, .int .u8 (n8 a.seed), .slice a.KA a.kn a.kc, .int .i64 a.torn] 84)
      have BX5 : Hid (BoxD (wr.alloc (.cells #[.int .i64 kd, .int .i64 a.file, .int .i64 a.at', .int .i64 a.n, .int .u8 (n8 a.seed), .slice a.KA a.kn a.kc, .int .i64 a.torn] 84)) wr.heap.size a kd) := hid (heap_alloc_new wr _)
      obtain ⟨p5, hp5⟩ := h5
      have FT5 : Hid (∀ k9, foot d p5 D k9 → k9 ≠ wr.heap.size) := hid fun k9 e => Nat.ne_of_lt (foot_lt hp5 e)
      obtain ⟨wA, hwA⟩ : ∃ x, wr.alloc (.cells #[.int .i64 kd, .int .i64 a.file, .int .i64 a.at', .int .i64 a.n, .int .u8 (n8 a.seed), .slice a.KA a.kn a.kc, .int .i64 a.torn] 84) = x := ⟨_, rfl⟩
      have Hp5 := hid (hp5.up uA)
      have I5 := hid i5
      have U5 := hid (u5.t uA)
      have HK := hid (And.intro hkl hlt)
      clear iv hp5 i5 u5 uw q0 q1 q2 q3 q4 q5 q6 hg hkl uA hwA wA
      by_cases hkind : kd = 0
      · subst hkind
        by_cases hat : (3 : Int) ≤ a.at'
        · have hat2 := hat
          go_wp2_with fail
          have US : BoxD (World.drew (wr.alloc (.cells #[.int .i64 0, .int .i64 a.file, .int .i64 a.at', .int .i64 a.n, .int .u8 (n8 a.seed), .slice a.KA a.kn a.kc, .int .i64 a.torn] 84))) wr.heap.size a 0 := BX5.out.up (Up.drew _)
          refine s_start (fun w9 => BoxD w9 wr.heap.size a 0) (by kernel_rfl) ?_
          refine s_take 0 (some 56) (v := ?_) US rfl rfl (by kernel_rfl) (by kernel_rfl) (by kernel_rfl) (fun _ _ _ h => h) (by rfl) (fun w9 hS => ?_) ?_
          rotate_left
          · go_simp <;> with_reducible rfl
          try simp only [Act.put, List.setIfInBounds_toArray, List.set_cons_zero, List.set_cons_succ]
          refine s_take 1 (some 57) (v := ?_) US rfl rfl (by kernel_rfl) (by kernel_rfl) (by kernel_rfl) (fun _ _ _ h => h) (by rfl) (fun w9 hS => ?_) ?_
          rotate_left
          · go_simp <;> with_reducible rfl
          try simp only [Act.put, List.setIfInBounds_toArray, List.set_cons_zero, List.set_cons_succ]
          refine s_take 2 (some 58) (v := ?_) US rfl rfl (by kernel_rfl) (by kernel_rfl) (by kernel_rfl) (fun _ _ _ h => h) (by rfl) (fun w9 hS => ?_) ?_
          rotate_left
          · obtain ⟨s0, s1, s2, s3, s4, _, _⟩ := BoxD.cells hS; go_simp <;> with_reducible rfl
          try simp only [Act.put, List.setIfInBounds_toArray, List.set_cons_zero, List.set_cons_succ]
          refine s_take 3 (some 59) (v := ?_) US rfl rfl (by kernel_rfl) (by kernel_rfl) (by kernel_rfl) (fun _ _ _ h => h) (by rfl) (fun w9 hS => ?_) ?_
          rotate_left
          · go_simp <;> with_reducible rfl
          try simp only [Act.put, List.setIfInBounds_toArray, List.set_cons_zero, List.set_cons_succ]
          refine s_take 4 (some 60) (v := ?_) US rfl rfl (by kernel_rfl) (by kernel_rfl) (by kernel_rfl) (fun _ _ _ h => h) (by rfl) (fun w9 hS => ?_) ?_
          rotate_left
          · obtain ⟨s0, s1, s2, s3, s4, _, _⟩ := BoxD.cells hS; go_simp <;> with_reducible rfl
          try simp only [Act.put, List.setIfInBounds_toArray, List.set_cons_zero, List.set_cons_succ]
          refine s_take 5 (some 61) (v := ?_) US rfl rfl (by kernel_rfl) (by kernel_rfl) (by kernel_rfl) (fun _ _ _ h => h) (by rfl) (fun w9 hS => ?_) ?_
          rotate_left
          · go_simp <;> with_reducible rfl
          try simp only [Act.put, List.setIfInBounds_toArray, List.set_cons_zero, List.set_cons_succ]
          refine s_take 6 (some 62) (v := ?_) US rfl rfl (by kernel_rfl) (by kernel_rfl) (by kernel_rfl) (fun _ _ _ h => h) (by rfl) (fun w9 hS => ?_) ?_
          rotate_left
          · obtain ⟨s0, s1, s2, s3, s4, _, _⟩ := BoxD.cells hS; go_simp <;> with_reducible rfl
          try simp only [Act.put, List.setIfInBounds_toArray, List.set_cons_zero, List.set_cons_succ]
          refine s_op 7 (by kernel_rfl) rfl (by rfl) (fun K9 hK9 => ?_)
          go_simp
          go_at_call 46
          refine (sectors_calls _ a.n a.seed).mono ?_
          rintro e w6a ⟨A6, cq6, rfl, hh⟩
          have UA6 : Hid (Up ((wr.alloc (.cells #[.int .i64 0, .int .i64 a.file, .int .i64 a.at', .int .i64 a.n, .int .u8 (n8 a.seed), .slice a.KA a.kn a.kc, .int .i64 a.torn] 84))) w6a) := hid ((Up.drew _).t hh.out.1)
          have SB6 := hid hh.out.2.2
          replace US := US.up hh.out.1
          clear hh
          refine hK9.out _ _ US ?_
          clear hK9 K9
          try simp only [Act.put, List.setIfInBounds_toArray, List.set_cons_zero, List.set_cons_succ]
          refine s_op 8 (by kernel_rfl) rfl (by rfl) (fun K9 hK9 => ?_)
          go_simp
          go_at_call 45
          refine (write_calls w6a wN.heap.size d p5 (D) 0 a.at' A6 _ cq6 _ (hid (Hp5.out.up UA6.out)) (hid (I5.out.ok (by have := HLE.out; omega))) (hid ⟨SB6.out, by rw [secsV_length]; unfold cntV; split <;> omega⟩)).mono ?_
          rintro e w6b ⟨rfl, hh⟩
          have BB6 := hid (BoxD.fr US hh.out.2 (fun e => FT5.out _ e rfl))
          have ST6 := Goes.step (Hp5.out.up UA6.out) hh.out
          have UU6 : Hid (Up wN w6b) := hid ((U5.out.t UA6.out).trans (ST6.2))
          have II6 := hid (I5.out.write0 SL.out hat2 (secsV (cntV a.n) a.seed))
          have HH6 := hid hh.out.1
          have LT6 : Hid (wr.heap.size < w6a.heap.size) := hid (Array.getElem?_eq_some_iff.1 US).1
          replace US := BB6.out
          clear hh ST6
          refine hK9.out _ _ US ?_
          clear US
          clear hK9 K9
          try simp only [Act.put, List.setIfInBounds_toArray, List.set_cons_zero, List.set_cons_succ]
          refine s_done (by kernel_rfl) ?_
          first | (rename_i K1 h1; refine h1 _ _ ?_; clear h1 K1) | skip
          obtain ⟨x0, x1, x2, x3, x4, x5, x6⟩ := BB6.out.cells
          obtain ⟨p6, hp6, hf6⟩ := HH6.out
          have FT6 : Hid (∀ k9, foot d p6 (writeR D 0 a.at' (secsV (cntV a.n) a.seed)).1 k9 → k9 ≠ wr.heap.size) := hid fun k9 e => by
            rcases hf6 k9 e with h | h
            · exact FT5.out k9 h
            · have := LT6.out; omega
          have Hp6 := hid hp6
          clear hp6 hf6 HH6 Hp5 I5 U5 BX5 FT5 SB6 UA6 c0 c1 c2 c3 c4 c5 c6
          go_wp2_with fail
          have US : BoxD (World.drew w6b) wr.heap.size a 0 := BB6.out.up (Up.drew _)
          refine s_start (fun w9 => BoxD w9 wr.heap.size a 0) (by kernel_rfl) ?_
          refine s_take 0 (some 68) (v := ?_) US rfl rfl (by kernel_rfl) (by kernel_rfl) (by kernel_rfl) (fun _ _ _ h => h) (by rfl) (fun w9 hS => ?_) ?_
          rotate_left
          · go_simp <;> with_reducible rfl
          try simp only [Act.put, List.setIfInBounds_toArray, List.set_cons_zero, List.set_cons_succ]
          refine s_take 1 (some 69) (v := ?_) US rfl rfl (by kernel_rfl) (by kernel_rfl) (by kernel_rfl) (fun _ _ _ h => h) (by rfl) (fun w9 hS => ?_) ?_
          rotate_left
          · go_simp <;> with_reducible rfl
          try simp only [Act.put, List.setIfInBounds_toArray, List.set_cons_zero, List.set_cons_succ]
          refine s_take 2 (some 70) (v := ?_) US rfl rfl (by kernel_rfl) (by kernel_rfl) (by kernel_rfl) (fun _ _ _ h => h) (by rfl) (fun w9 hS => ?_) ?_
          rotate_left
          · obtain ⟨s0, s1, s2, s3, s4, _, _⟩ := BoxD.cells hS; go_simp <;> with_reducible rfl
          try simp only [Act.put, List.setIfInBounds_toArray, List.set_cons_zero, List.set_cons_succ]
          refine s_take 3 (some 71) (v := ?_) US rfl rfl (by kernel_rfl) (by kernel_rfl) (by kernel_rfl) (fun _ _ _ h => h) (by rfl) (fun w9 hS => ?_) ?_
          rotate_left
          · go_simp <;> with_reducible rfl
          try simp only [Act.put, List.setIfInBounds_toArray, List.set_cons_zero, List.set_cons_succ]
          refine s_take 4 (some 72) (v := ?_) US rfl rfl (by kernel_rfl) (by kernel_rfl) (by kernel_rfl) (fun _ _ _ h => h) (by rfl) (fun w9 hS => ?_) ?_
          rotate_left
          · obtain ⟨s0, s1, s2, s3, s4, _, _⟩ := BoxD.cells hS; go_simp <;> with_reducible rfl
          try simp only [Act.put, List.setIfInBounds_toArray, List.set_cons_zero, List.set_cons_succ]
          refine s_take 5 (some 73) (v := ?_) US rfl rfl (by kernel_rfl) (by kernel_rfl) (by kernel_rfl) (fun _ _ _ h => h) (by rfl) (fun w9 hS => ?_) ?_
          rotate_left
          · go_simp <;> with_reducible rfl
          try simp only [Act.put, List.setIfInBounds_toArray, List.set_cons_zero, List.set_cons_succ]
          refine s_take 6 (some 74) (v := ?_) US rfl rfl (by kernel_rfl) (by kernel_rfl) (by kernel_rfl) (fun _ _ _ h => h) (by rfl) (fun w9 hS => ?_) ?_
          rotate_left
          · obtain ⟨s0, s1, s2, s3, s4, _, _⟩ := BoxD.cells hS; go_simp <;> with_reducible rfl
          try simp only [Act.put, List.setIfInBounds_toArray, List.set_cons_zero, List.set_cons_succ]
          refine s_op 7 (by kernel_rfl) rfl (by rfl) (fun K9 hK9 => ?_)
          go_simp
          go_at_call 46
          refine (sectors_calls _ a.n a.seed).mono ?_
          rintro e w7a ⟨A7, cq7, rfl, hh⟩
          have UA7 : Hid (Up (w6b) w7a) := hid ((Up.drew _).t hh.out.1)
          have SB7 := hid hh.out.2.2
          replace US := US.up hh.out.1
          clear hh
          refine hK9.out _ _ US ?_
          clear hK9 K9
          try simp only [Act.put, List.setIfInBounds_toArray, List.set_cons_zero, List.set_cons_succ]
          refine s_op 8 (by kernel_rfl) rfl (by rfl) (fun K9 hK9 => ?_)
          go_simp
          go_at_call 45
          refine (write_calls w7a wN.heap.size d p6 ((writeR D 0 a.at' (secsV (cntV a.n) a.seed)).1) 1 a.at' A7 _ cq7 _ (hid (Hp6.out.up UA7.out)) (hid (II6.out.ok (by have := HLE.out; omega))) (hid ⟨SB7.out, by rw [secsV_length]; unfold cntV; split <;> omega⟩)).mono ?_
          rintro e w7b ⟨rfl, hh⟩
          have BB7 := hid (BoxD.fr US hh.out.2 (fun e => FT6.out _ e rfl))
          have ST7 := Goes.step (Hp6.out.up UA7.out) hh.out
          have UU7 : Hid (Up wN w7b) := hid ((UU6.out.t UA7.out).trans (ST7.2))
          have II7 := hid (II6.out.write1 a.at' (secsV (cntV a.n) a.seed))
          have HH7 := hid hh.out.1
          have LT7 : Hid (wr.heap.size < w7a.heap.size) := hid (Array.getElem?_eq_some_iff.1 US).1
          replace US := BB7.out
          clear hh ST7
          refine hK9.out _ _ US ?_
          clear US
          clear hK9 K9
          try simp only [Act.put, List.setIfInBounds_toArray, List.set_cons_zero, List.set_cons_succ]
          refine s_done (by kernel_rfl) ?_
          first | (rename_i K1 h1; refine h1 _ _ ?_; clear h1 K1) | skip
          go_wp2
          go_roundw
          case rel => exact ⟨k + 1, by have := HK.out.2; omega, rfl, hid ⟨_, HH7.out.m, II7.out.mono (by omega), UU7.out⟩⟩
          case measure => have := HK.out.2; simp only [intOf]; omega
        · go_wp2_with fail
          have US : BoxD (World.drew (wr.alloc (.cells #[.int .i64 0, .int .i64 a.file, .int .i64 a.at', .int .i64 a.n, .int .u8 (n8 a.seed), .slice a.KA a.kn a.kc, .int .i64 a.torn] 84))) wr.heap.size a 0 := BX5.out.up (Up.drew _)
          refine s_start (fun w9 => BoxD w9 wr.heap.size a 0) (by kernel_rfl) ?_
          refine s_take 0 (some 68) (v := ?_) US rfl rfl (by kernel_rfl) (by kernel_rfl) (by kernel_rfl) (fun _ _ _ h => h) (by rfl) (fun w9 hS => ?_) ?_
          rotate_left
          · go_simp <;> with_reducible rfl
          try simp only [Act.put, List.setIfInBounds_toArray, List.set_cons_zero, List.set_cons_succ]
          refine s_take 1 (some 69) (v := ?_) US rfl rfl (by kernel_rfl) (by kernel_rfl) (by kernel_rfl) (fun _ _ _ h => h) (by rfl) (fun w9 hS => ?_) ?_
          rotate_left
          · go_simp <;> with_reducible rfl
          try simp only [Act.put, List.setIfInBounds_toArray, List.set_cons_zero, List.set_cons_succ]
          refine s_take 2 (some 70) (v := ?_) US rfl rfl (by kernel_rfl) (by kernel_rfl) (by kernel_rfl) (fun _ _ _ h => h) (by rfl) (fun w9 hS => ?_) ?_
          rotate_left
          · obtain ⟨s0, s1, s2, s3, s4, _, _⟩ := BoxD.cells hS; go_simp <;> with_reducible rfl
          try simp only [Act.put, List.setIfInBounds_toArray, List.set_cons_zero, List.set_cons_succ]
          refine s_take 3 (some 71) (v := ?_) US rfl rfl (by kernel_rfl) (by kernel_rfl) (by kernel_rfl) (fun _ _ _ h => h) (by rfl) (fun w9 hS => ?_) ?_
          rotate_left
          · go_simp <;> with_reducible rfl
          try simp only [Act.put, List.setIfInBounds_toArray, List.set_cons_zero, List.set_cons_succ]
          refine s_take 4 (some 72) (v := ?_) US rfl rfl (by kernel_rfl) (by kernel_rfl) (by kernel_rfl) (fun _ _ _ h => h) (by rfl) (fun w9 hS => ?_) ?_
          rotate_left
          · obtain ⟨s0, s1, s2, s3, s4, _, _⟩ := BoxD.cells hS; go_simp <;> with_reducible rfl
          try simp only [Act.put, List.setIfInBounds_toArray, List.set_cons_zero, List.set_cons_succ]
          refine s_take 5 (some 73) (v := ?_) US rfl rfl (by kernel_rfl) (by kernel_rfl) (by kernel_rfl) (fun _ _ _ h => h) (by rfl) (fun w9 hS => ?_) ?_
          rotate_left
          · go_simp <;> with_reducible rfl
          try simp only [Act.put, List.setIfInBounds_toArray, List.set_cons_zero, List.set_cons_succ]
          refine s_take 6 (some 74) (v := ?_) US rfl rfl (by kernel_rfl) (by kernel_rfl) (by kernel_rfl) (fun _ _ _ h => h) (by rfl) (fun w9 hS => ?_) ?_
          rotate_left
          · obtain ⟨s0, s1, s2, s3, s4, _, _⟩ := BoxD.cells hS; go_simp <;> with_reducible rfl
          try simp only [Act.put, List.setIfInBounds_toArray, List.set_cons_zero, List.set_cons_succ]
          refine s_op 7 (by kernel_rfl) rfl (by rfl) (fun K9 hK9 => ?_)
          go_simp
          go_at_call 46
          refine (sectors_calls _ a.n a.seed).mono ?_
          rintro e w7a ⟨A7, cq7, rfl, hh⟩
          have UA7 : Hid (Up ((wr.alloc (.cells #[.int .i64 0, .int .i64 a.file, .int .i64 a.at', .int .i64 a.n, .int .u8 (n8 a.seed), .slice a.KA a.kn a.kc, .int .i64 a.torn] 84))) w7a) := hid ((Up.drew _).t hh.out.1)
          have SB7 := hid hh.out.2.2
          replace US := US.up hh.out.1
          clear hh
          refine hK9.out _ _ US ?_
          clear hK9 K9
          try simp only [Act.put, List.setIfInBounds_toArray, List.set_cons_zero, List.set_cons_succ]
          refine s_op 8 (by kernel_rfl) rfl (by rfl) (fun K9 hK9 => ?_)
          go_simp
          go_at_call 45
          refine (write_calls w7a wN.heap.size d p5 (D) 1 a.at' A7 _ cq7 _ (hid (Hp5.out.up UA7.out)) (hid (I5.out.ok (by have := HLE.out; omega))) (hid ⟨SB7.out, by rw [secsV_length]; unfold cntV; split <;> omega⟩)).mono ?_
          rintro e w7b ⟨rfl, hh⟩
          have BB7 := hid (BoxD.fr US hh.out.2 (fun e => FT5.out _ e rfl))
          have ST7 := Goes.step (Hp5.out.up UA7.out) hh.out
          have UU7 : Hid (Up wN w7b) := hid ((U5.out.t UA7.out).trans (ST7.2))
          have II7 := hid (I5.out.write1 a.at' (secsV (cntV a.n) a.seed))
          have HH7 := hid hh.out.1
          have LT7 : Hid (wr.heap.size < w7a.heap.size) := hid (Array.getElem?_eq_some_iff.1 US).1
          replace US := BB7.out
          clear hh ST7
          refine hK9.out _ _ US ?_
          clear US
          clear hK9 K9
          try simp only [Act.put, List.setIfInBounds_toArray, List.set_cons_zero, List.set_cons_succ]
          refine s_done (by kernel_rfl) ?_
          first | (rename_i K1 h1; refine h1 _ _ ?_; clear h1 K1) | skip
          go_wp2
          go_roundw
          case rel => exact ⟨k + 1, by have := HK.out.2; omega, rfl, hid ⟨_, HH7.out.m, II7.out.mono (by omega), UU7.out⟩⟩
          case measure => have := HK.out.2; simp only [intOf]; omega
      · go_wp2
        go_roundw
        case rel => exact ⟨k + 1, by have := HK.out.2; omega, rfl, hid ⟨D, ⟨p5, Hp5.out⟩, I5.out.mono (by omega), U5.out⟩⟩
        case measure => have := HK.out.2; simp only [intOf]; omega
    · obtain ⟨D, hD, iD, uD⟩ := iv.out
      have HD := hid hD
      have ID := hid iD
      have UD := hid uD
      have SZ : Hid (D.f0.now.length < 400000 ∧ D.f1.now.length < 400000) := hid (by have := iD.size; omega)
      have ON : Hid (D.on = true) := hid iD.on
      have SZ200 : Hid (D.f0.now.length ≤ 200) := hid (by have := iD.size; omega)
      have SZR : Hid ((D.f0.now.length + D.f1.now.length : Int) ≤ D.room) := hid (by rw [iD.room]; exact iD.size)
      clear iv hD iD uD
      go_wp2_with (go_at_call 49; refine (sec0_calls wr wN.heap.size d D HD).mono ?_; rintro e w' ⟨rfl, hw⟩; obtain rfl := hw.symm)
      refine (read_calls wr wN.heap.size d D false HD ON 0 D.f0.now.length (hid ⟨by show 0 + D.f0.now.length ≤ D.f0.now.length; omega, by have := SZ.out; show D.f0.now.length < _; omega⟩)).mono ?_
      rintro e w2 ⟨AX, cX, rfl, h2⟩
      have hpx : part (D.fl false).now 0 D.f0.now.length = (flatB D.f0.now).map byteCell := part_all D.f0.now
      rw [hpx, List.length_map] at h2 ⊢
      obtain ⟨XB, hXB⟩ : ∃ x, flatB D.f0.now = x := ⟨_, rfl⟩
      rw [hXB] at h2 ⊢
      have HXB := hid hXB
      clear hXB hpx
      obtain ⟨pD, hpDr⟩ := HD.out
      have FTD : Hid (∀ k9, foot d pD D k9 → k9 < wr.heap.size) := hid fun k9 e => foot_lt hpDr e
      have FBD : Hid (∀ k9, foot d pD D k9 → wN.heap.size ≤ k9) := hid fun k9 e => foot_base hpDr e
      have OK0 : Hid (FileOk D.f0) := hid hpDr.ok0
      have hpD := hpDr.up h2.out.1
      have WR2 : Hid (wr.heap.size ≤ w2.heap.size) := hid h2.out.1.size
      clear hpDr
      have OX2 := hid h2.out.2
      have SX : Hid (∀ k9, (Value.slice AX XB.length cX).ownBlock = some k9 → wr.heap.size ≤ k9 ∧ k9 < w2.heap.size) := hid fun k9 e => own_block h2.out.2 k9 e
      have LX : Hid (XB.length ≤ 1000000) := hid (by rw [← HXB.out, flatB_length hpD.ok0.now]; have := SZ200.out; omega)
      have EQ0 : Hid (∀ torn : Int, (crashV [true] torn D).f0.now = D.f0.now) := hid fun torn => crash_all hpD.ok0 ID.out.cov torn 0 true
      have UD2 := hid (UD.out.t h2.out.1)
      have HD2 := hid hpD
      clear h2 HD hpD
      go_wp2_with fail
      refine (dcopy_calls w2 wN.heap.size d pD D HD2 SZ).mono ?_
      rintro e w3 ⟨e3, q3, rfl, h3⟩
      have HE3 : Hid (DiskM w3 w2.heap.size e3 D) := hid ⟨q3, h3.out.1⟩
      have U3 := hid h3.out.2
      clear h3
      have hb1 : ∀ W : World, (Instr.buildSlice 75 1 #[(0, .bool true)]).run Try.prog W = .ok (.slice (some ⟨W.heap.size, 0, none⟩) 1 1) (W.alloc (.cells #[.bool true] 4)) := fun W => by kernel_rfl
      go_wp2_with fail
      refine (crashM_calls w3 _ (hid (upAlD (Up.refl w3) _)) w2.heap.size e3 D HE3 ON SZR _ [true] _ 0 (hid (by decide)) (hid ⟨Rd.new w3 _ _ [.bool true], fun b off e => .inr (by injection e with e; injection e with e; omega)⟩)).mono ?_
      rintro e w4 ⟨rfl, h4⟩
      have HE4 := hid h4.out.1
      have U4 : Hid (Up w2 w4) := hid (Below.trans (U3.out.t (upAlD (Up.refl w3) _)) h4.out.2)
      clear h4 HE3 U3 hb1
      go_wp2_with fail
      refine (startM_calls w4 w2.heap.size e3 _ HE4).mono ?_
      rintro e w5 ⟨rfl, h5⟩
      have HE5 := hid h5.out.1
      have U5 : Hid (Up w2 w5) := hid (Below.trans U4.out h5.out.2)
      clear h5 HE4 U4
      go_wp2_with (go_at_call 49; refine (sec0_calls w5 w2.heap.size e3 _ HE5).mono ?_; rintro e w' ⟨rfl, hw⟩; obtain rfl := hw.symm)
      rw [show ({ crashV [true] 0 D with on := true, armed := 0 } : DiskV).f0.now = D.f0.now from EQ0.out 0]
      refine (read_calls w5 w2.heap.size e3 _ false HE5 (hid rfl) 0 D.f0.now.length (hid ⟨by show 0 + D.f0.now.length ≤ ((crashV [true] 0 D).f0.now).length; rw [EQ0.out]; omega, by show ((crashV [true] 0 D).f0.now).length < _; rw [EQ0.out]; have := SZ.out; omega⟩)).mono ?_
      rintro e w6 ⟨AY, cY, rfl, h6⟩
      have hpx : part (({ crashV [true] 0 D with on := true, armed := 0 } : DiskV).fl false).now 0 D.f0.now.length = XB.map byteCell := by
        show part (crashV [true] 0 D).f0.now 0 D.f0.now.length = _
        rw [EQ0.out, part_all, HXB.out]
      rw [hpx, List.length_map] at h6 ⊢
      have OY6 := hid h6.out.2
      have U6 : Hid (Up w2 w6) := hid (U5.out.t h6.out.1)
      have OX6 := hid ((Fr.of_below U6.out).own OX2.out (fun _ _ e => e))
      have SY : Hid (∀ k9, (Value.slice AY XB.length cY).ownBlock = some k9 → wr.heap.size ≤ k9 ∧ k9 < w6.heap.size) := hid fun k9 e => by
        have h1 := own_block h6.out.2 k9 e
        have h2 := U5.out.size
        have h3 := WR2.out
        omega
      have SX6 : Hid (∀ k9, (Value.slice AX XB.length cX).ownBlock = some k9 → wr.heap.size ≤ k9 ∧ k9 < w6.heap.size) := hid fun k9 e => by
        have h1 := SX.out k9 e
        have h2 := U6.out.size
        omega
      have HD6 : Hid (DiskAt w6 wN.heap.size d pD D) := hid (HD2.out.up U6.out)
      have UD6 : Hid (Up wN w6) := hid (UD2.out.t U6.out)
      clear h6 hpx U5 HE5 HD2 UD2 U6 OX2 SX
      have cb0 : w6.cell? ⟨w.heap.size, 0, none⟩ = some (.slice KA kn kc) := UD6.out.c (cell3 CB.out 0 rfl)
      have cb1 : w6.cell? ⟨w.heap.size, 1, none⟩ = some (.int .i64 torn) := UD6.out.c (cell3 CB.out 1 rfl)
      have UW6 : Hid (Up w w6) := hid (UN.out.t UD6.out)
      have CR := crash_calls w6 (foot d pD D) wN.heap.size d D (hid ⟨pD, HD6.out, fun k9 e => e⟩) ON SZR KA keep kc torn (hid (by have := HK1.out; have := HKN.out; omega)) (hid fun w' hf => by
        by_cases hz : keep = []
        · rw [hz]; exact Rd.nil _ _
        · obtain ⟨x, r, rfl⟩ := List.exists_cons_of_ne_nil hz
          obtain ⟨b9, o9, e9, hc9⟩ := hkr.out 0 (.bool x) rfl
          have hb9 := World.block_lt_of_cell? w _ hc9
          refine (hkr.out.fr (Fr.of_below UW6.out) (fun _ _ _ => id)).fr hf (fun b off e hF => ?_)
          rw [e9] at e
          injection e with e
          injection e with e1 _
          have h1 := FBD.out b hF
          have h2 := UN.out.size
          have h3 : b9 < w.heap.size := hb9
          omega)
      rw [HKN.out] at CR
      go_wp2_with fail
      refine CR.mono ?_
      rintro e w7 ⟨rfl, h7⟩
      obtain ⟨p7, hp7, hf7⟩ := h7.out.1
      have HD7 := hid hp7
      have F7 : Hid (∀ k9, foot d p7 (crashV keep torn D) k9 → wN.heap.size ≤ k9 ∧ (k9 < wr.heap.size ∨ w6.heap.size ≤ k9)) := hid fun k9 e => ⟨foot_base hp7 e, (hf7 k9 e).imp (FTD.out k9) id⟩
      have U7 : Hid (Up wN w7) := hid (Below.trans UD6.out (h7.out.2.below (Nat.le_trans UD6.out.size (Nat.le_refl _)) (fun k9 hk9 e => by have := FBD.out k9 e; omega)))
      have OX7 := hid (h7.out.2.own OX6.out (fun k9 e1 e2 => by have h1 := SX6.out k9 e1; have h2 := FTD.out k9 e2; omega))
      have OY7 := hid (h7.out.2.own OY6.out (fun k9 e1 e2 => by have h1 := SY.out k9 e1; have h2 := FTD.out k9 e2; omega))
      clear h7 HD6 UD6 OX6 OY6 CR cb0 cb1 hp7 hf7
      go_wp2_with fail
      refine (start_calls w7 wN.heap.size d p7 _ HD7).mono ?_
      rintro e w8 ⟨rfl, h8⟩
      have HD8 := hid h8.out.1.m
      have U8 : Hid (Up wN w8) := hid (Below.trans U7.out (h8.out.2.below U7.out.size (fun k9 hk9 e => by have := (F7.out k9 e).1; omega)))
      have OX8 := hid (h8.out.2.own OX7.out (fun k9 e1 e2 => by have h1 := SX6.out k9 e1; have h2 := (F7.out k9 e2).2; omega))
      have OY8 := hid (h8.out.2.own OY7.out (fun k9 e1 e2 => by have h1 := SY.out k9 e1; have h2 := (F7.out k9 e2).2; omega))
      clear h8 HD7 U7 OX7 OY7
      have TH : Hid ((crashV keep torn D).f0.now.take 3 = S) := hid (ID.out.three.crash keep torn 0 true)
      have TL : Hid (3 ≤ (crashV keep torn D).f0.now.length ∧ (crashV keep torn D).f0.now.length < 1000000) := hid (by
        have h1 := congrArg List.length TH.out
        rw [SL.out, List.length_take] at h1
        have h2 : (crashV keep torn D).f0.now.length ≤ D.f0.now.length := by
          show ((crashFile keep torn D.f0 0 true).now.take _).length ≤ _
          rw [List.length_take]
          have := (OK0.out.crashed keep torn 0 true).len
          omega
        have := SZ.out
        omega)
      go_wp2_with fail
      refine (read_calls w8 wN.heap.size d _ false HD8 (hid rfl) 0 3 (hid ⟨TL.out.1, TL.out.2⟩)).mono ?_
      rintro e w9 ⟨AZ, cZ, rfl, h9⟩
      have hpx : part (({ crashV keep torn D with on := true, armed := 0 } : DiskV).fl false).now 0 3 = (flatB S).map byteCell := part_take TH.out
      rw [hpx, List.length_map] at h9 ⊢
      obtain ⟨ZB, hZB⟩ : ∃ x, flatB S = x := ⟨_, rfl⟩
      rw [hZB] at h9 ⊢
      have HZB := hid hZB
      clear hZB hpx
      have RX9 : Hid (Bytes w9 AX XB) := hid ((Rd.own OX8.out).grown h9.out.1).bytes
      have RY9 : Hid (Bytes w9 AY XB) := hid ((Rd.own OY8.out).grown h9.out.1).bytes
      have RZ9 : Hid (Bytes w9 AZ ZB) := hid (Rd.own h9.out.2).bytes
      have HD9 := hid (HD8.out.up h9.out.1)
      have U9 : Hid (Up wN w9) := hid (U8.out.t h9.out.1)
      clear h9 OX8 OY8 HD8 U8 F7 SX6 SY WR2
      go_wp2_with fail
      have HTL : Hid (ZB.length = 384) := hid (by rw [← HZB.out, flatB_length (HS.out ▸ secsV_whole 3 seed), SL.out])
      have LZ : Hid (ZB.length ≤ 1099511627776) := hid (by rw [HTL.out]; decide)
      replace RX9 := hid (RX9.out.grown (Up.drew w9))
      replace RY9 := hid (RY9.out.grown (Up.drew w9))
      replace RZ9 := hid (RZ9.out.grown (Up.drew w9))
      replace HD9 := hid (HD9.out.up (Up.drew w9))
      replace U9 := hid (U9.out.t (Up.drew w9))
      refine any_start (by kernel_rfl) ?_
      refine any_take 0 (some 110) (v := ?_) rfl rfl (by kernel_rfl) (by kernel_rfl) (by kernel_rfl) (fun _ _ _ h => h) (by rfl) (fun w9 hS => ?_) ?_
      rotate_left
      · go_simp <;> with_reducible rfl
      try simp only [Act.put, List.setIfInBounds_toArray, List.set_cons_zero, List.set_cons_succ]
      refine any_take 1 (some 111) (v := ?_) rfl rfl (by kernel_rfl) (by kernel_rfl) (by kernel_rfl) (fun _ _ _ h => h) (by rfl) (fun w9 hS => ?_) ?_
      rotate_left
      · have ev := conv_n w9 (c := cX) (hid rfl) (hid (by have := LX.out; omega)) (hid (RX9.out.grown hS)); go_simp <;> with_reducible rfl
      try simp only [Act.put, List.setIfInBounds_toArray, List.set_cons_zero, List.set_cons_succ]
      refine any_take 2 (some 112) (v := ?_) rfl rfl (by kernel_rfl) (by kernel_rfl) (by kernel_rfl) (fun _ _ _ h => h) (by rfl) (fun w9 hS => ?_) ?_
      rotate_left
      · go_simp <;> with_reducible rfl
      try simp only [Act.put, List.setIfInBounds_toArray, List.set_cons_zero, List.set_cons_succ]
      refine any_take 3 (some 113) (v := ?_) rfl rfl (by kernel_rfl) (by kernel_rfl) (by kernel_rfl) (fun _ _ _ h => h) (by rfl) (fun w9 hS => ?_) ?_
      rotate_left
      · have ev := conv_n w9 (c := cY) (hid rfl) (hid (by have := LX.out; omega)) (hid (RY9.out.grown hS)); go_simp <;> with_reducible rfl
      try simp only [Act.put, List.setIfInBounds_toArray, List.set_cons_zero, List.set_cons_succ]
      refine any_take 4 (some 114) (v := ?_) rfl rfl (by kernel_rfl) (by kernel_rfl) (by kernel_rfl) (fun _ _ _ h => h) (by rfl) (fun w9 hS => ?_) ?_
      rotate_left
      · have es := str_eq XB; go_simp <;> with_reducible rfl
      try simp only [Act.put, List.setIfInBounds_toArray, List.set_cons_zero, List.set_cons_succ]
      refine any_take 5 (some 115) (v := ?_) rfl rfl (by kernel_rfl) (by kernel_rfl) (by kernel_rfl) (fun _ _ _ h => h) (by rfl) (fun w9 hS => ?_) ?_
      rotate_left
      · go_simp <;> with_reducible rfl
      try simp only [Act.put, List.setIfInBounds_toArray, List.set_cons_zero, List.set_cons_succ]
      refine any_take 6 (some 116) (v := ?_) rfl rfl (by kernel_rfl) (by kernel_rfl) (by kernel_rfl) (fun _ _ _ h => h) (by rfl) (fun w9 hS => ?_) ?_
      rotate_left
      · go_simp <;> with_reducible rfl
      try simp only [Act.put, List.setIfInBounds_toArray, List.set_cons_zero, List.set_cons_succ]
      refine any_take 7 (some 117) (v := ?_) rfl rfl (by kernel_rfl) (by kernel_rfl) (by kernel_rfl) (fun _ _ _ h => h) (by rfl) (fun w9 hS => ?_) ?_
      rotate_left
      · go_simp <;> with_reducible rfl
      try simp only [Act.put, List.setIfInBounds_toArray, List.set_cons_zero, List.set_cons_succ]
      refine any_take 8 (some 118) (v := ?_) rfl rfl (by kernel_rfl) (by kernel_rfl) (by kernel_rfl) (fun _ _ _ h => h) (by rfl) (fun w9 hS => ?_) ?_
      rotate_left
      · go_simp <;> with_reducible rfl
      try simp only [Act.put, List.setIfInBounds_toArray, List.set_cons_zero, List.set_cons_succ]
      refine any_take 9 (some 119) (v := ?_) rfl rfl (by kernel_rfl) (by kernel_rfl) (by kernel_rfl) (fun _ _ _ h => h) (by rfl) (fun w9 hS => ?_) ?_
      rotate_left
      · go_simp <;> with_reducible rfl
      try simp only [Act.put, List.setIfInBounds_toArray, List.set_cons_zero, List.set_cons_succ]
      refine any_take 10 (some 120) (v := ?_) rfl rfl (by kernel_rfl) (by kernel_rfl) (by kernel_rfl) (fun _ _ _ h => h) (by rfl) (fun w9 hS => ?_) ?_
      rotate_left
      · go_simp <;> with_reducible rfl
      try simp only [Act.put, List.setIfInBounds_toArray, List.set_cons_zero, List.set_cons_succ]
      refine any_take 11 (some 121) (v := ?_) rfl rfl (by kernel_rfl) (by kernel_rfl) (by kernel_rfl) (fun _ _ _ h => h) (by rfl) (fun w9 hS => ?_) ?_
      rotate_left
      · have ev := conv_n w9 (c := cZ) (hid rfl) (hid LZ.out) (hid (RZ9.out.grown hS)); go_simp <;> with_reducible rfl
      try simp only [Act.put, List.setIfInBounds_toArray, List.set_cons_zero, List.set_cons_succ]
      refine any_take 12 (some 122) (v := ?_) rfl rfl (by kernel_rfl) (by kernel_rfl) (by kernel_rfl) (fun _ _ _ h => h) (by rfl) (fun w9 hS => ?_) ?_
      rotate_left
      · go_simp <;> with_reducible rfl
      try simp only [Act.put, List.setIfInBounds_toArray, List.set_cons_zero, List.set_cons_succ]
      refine any_call 13 (by kernel_rfl) rfl (by rfl) (fun K9 hK9 => ?_)
      go_simp
      go_at_call 46
      refine (sectors_calls _ 3 seed).mono ?_
      rintro e wT ⟨AT, cT, rfl, hT⟩
      rw [show cntV 3 * 128 = 384 from rfl]
      have RT : Hid (Bytes wT AT ZB) := hid (by
        have h9 := Rd.own hT.out.2.1
        rw [show cntV 3 = 3 from rfl, HS.out, flatB_cells, HZB.out] at h9
        exact h9.bytes)
      have uT : Up _ wT := hT.out.1
      have HDT := hid (HD9.out.up uT)
      have UT : Hid (Up wN wT) := hid (U9.out.t uT)
      clear hT
      refine hK9.out _ _ uT ?_
      clear uT HD9 U9 RX9 RY9 RZ9
      clear hK9 K9
      try simp only [Act.put, List.setIfInBounds_toArray, List.set_cons_zero, List.set_cons_succ]
      refine any_take 14 (some 124) (v := ?_) rfl rfl (by kernel_rfl) (by kernel_rfl) (by kernel_rfl) (fun _ _ _ h => h) (by rfl) (fun w9 hS => ?_) ?_
      rotate_left
      · have ev := conv_n w9 (c := cT) (hid HTL.out) (hid (by decide)) (hid (RT.out.grown hS)); go_simp <;> with_reducible rfl
      try simp only [Act.put, List.setIfInBounds_toArray, List.set_cons_zero, List.set_cons_succ]
      refine any_take 15 (some 125) (v := ?_) rfl rfl (by kernel_rfl) (by kernel_rfl) (by kernel_rfl) (fun _ _ _ h => h) (by rfl) (fun w9 hS => ?_) ?_
      rotate_left
      · have es := str_eq ZB; go_simp <;> with_reducible rfl
      try simp only [Act.put, List.setIfInBounds_toArray, List.set_cons_zero, List.set_cons_succ]
      refine any_take 16 (some 126) (v := ?_) rfl rfl (by kernel_rfl) (by kernel_rfl) (by kernel_rfl) (fun _ _ _ h => h) (by rfl) (fun w9 hS => ?_) ?_
      rotate_left
      · go_simp <;> with_reducible rfl
      try simp only [Act.put, List.setIfInBounds_toArray, List.set_cons_zero, List.set_cons_succ]
      refine any_take 17 (some 127) (v := ?_) rfl rfl (by kernel_rfl) (by kernel_rfl) (by kernel_rfl) (fun _ _ _ h => h) (by rfl) (fun w9 hS => ?_) ?_
      rotate_left
      · go_simp <;> with_reducible rfl
      try simp only [Act.put, List.setIfInBounds_toArray, List.set_cons_zero, List.set_cons_succ]
      refine any_take 18 (some 128) (v := ?_) rfl rfl (by kernel_rfl) (by kernel_rfl) (by kernel_rfl) (fun _ _ _ h => h) (by rfl) (fun w9 hS => ?_) ?_
      rotate_left
      · go_simp <;> with_reducible rfl
      try simp only [Act.put, List.setIfInBounds_toArray, List.set_cons_zero, List.set_cons_succ]
      refine any_call 19 (by kernel_rfl) rfl (by rfl) (fun K9 hK9 => ?_)
      go_simp
      go_at_call 53
      refine (dir0_calls _ wN.heap.size d _ HDT).mono ?_
      rintro e w' ⟨rfl, hw⟩
      obtain rfl := hw.symm
      clear hw
      rw [show (({ crashV keep torn D with on := true, armed := 0 } : DiskV).f0.old.length : Int) = 0 from rfl]
      refine hK9.out _ _ (Up.refl _) ?_
      clear hK9 K9
      try simp only [Act.put, List.setIfInBounds_toArray, List.set_cons_zero, List.set_cons_succ]
      refine any_take 20 (some 130) (v := ?_) rfl rfl (by kernel_rfl) (by kernel_rfl) (by kernel_rfl) (fun _ _ _ h => h) (by rfl) (fun w9 hS => ?_) ?_
      rotate_left
      · go_simp <;> with_reducible rfl
      try simp only [Act.put, List.setIfInBounds_toArray, List.set_cons_zero, List.set_cons_succ]
      refine any_take 21 (some 131) (v := ?_) rfl rfl (by kernel_rfl) (by kernel_rfl) (by kernel_rfl) (fun _ _ _ h => h) (by rfl) (fun w9 hS => ?_) ?_
      rotate_left
      · go_simp <;> with_reducible rfl
      try simp only [Act.put, List.setIfInBounds_toArray, List.set_cons_zero, List.set_cons_succ]
      refine any_take 22 (some 132) (v := ?_) rfl rfl (by kernel_rfl) (by kernel_rfl) (by kernel_rfl) (fun _ _ _ h => h) (by rfl) (fun w9 hS => ?_) ?_
      rotate_left
      · go_simp <;> with_reducible rfl
      try simp only [Act.put, List.setIfInBounds_toArray, List.set_cons_zero, List.set_cons_succ]
      refine any_take 23 (some 133) (v := ?_) rfl rfl (by kernel_rfl) (by kernel_rfl) (by kernel_rfl) (fun _ _ _ h => h) (by rfl) (fun w9 hS => ?_) ?_
      rotate_left
      · go_simp <;> with_reducible rfl
      try simp only [Act.put, List.setIfInBounds_toArray, List.set_cons_zero, List.set_cons_succ]
      refine any_call 24 (by kernel_rfl) rfl (by rfl) (fun K9 hK9 => ?_)
      go_simp
      go_at_call 53
      refine (dir1_calls _ wN.heap.size d _ HDT).mono ?_
      rintro e w' ⟨rfl, hw⟩
      obtain rfl := hw.symm
      clear hw
      rw [show (({ crashV keep torn D with on := true, armed := 0 } : DiskV).f1.old.length : Int) = 0 from rfl]
      refine hK9.out _ _ (Up.refl _) ?_
      clear hK9 K9
      try simp only [Act.put, List.setIfInBounds_toArray, List.set_cons_zero, List.set_cons_succ]
      refine any_take 25 (some 135) (v := ?_) rfl rfl (by kernel_rfl) (by kernel_rfl) (by kernel_rfl) (fun _ _ _ h => h) (by rfl) (fun w9 hS => ?_) ?_
      rotate_left
      · go_simp <;> with_reducible rfl
      try simp only [Act.put, List.setIfInBounds_toArray, List.set_cons_zero, List.set_cons_succ]
      refine any_take 26 (some 136) (v := ?_) rfl rfl (by kernel_rfl) (by kernel_rfl) (by kernel_rfl) (fun _ _ _ h => h) (by rfl) (fun w9 hS => ?_) ?_
      rotate_left
      · go_simp <;> with_reducible rfl
      try simp only [Act.put, List.setIfInBounds_toArray, List.set_cons_zero, List.set_cons_succ]
      refine any_take 27 (some 137) (v := ?_) rfl rfl (by kernel_rfl) (by kernel_rfl) (by kernel_rfl) (fun _ _ _ h => h) (by rfl) (fun w9 hS => ?_) ?_
      rotate_left
      · go_simp <;> with_reducible rfl
      try simp only [Act.put, List.setIfInBounds_toArray, List.set_cons_zero, List.set_cons_succ]
      refine any_call 28 (by kernel_rfl) rfl (by rfl) (fun K9 hK9 => ?_)
      go_simp
      go_at_call 43
      refine (lives4_calls _).mono ?_
      rintro e wL ⟨rfl, uL⟩
      have UL : Hid (Up wN wL) := hid (UT.out.t uL)
      refine hK9.out _ _ uL ?_
      clear uL
      clear hK9 K9
      try simp only [Act.put, List.setIfInBounds_toArray, List.set_cons_zero, List.set_cons_succ]
      refine any_take 29 (some 139) (v := ?_) rfl rfl (by kernel_rfl) (by kernel_rfl) (by kernel_rfl) (fun _ _ _ h => h) (by rfl) (fun w9 hS => ?_) ?_
      rotate_left
      · go_simp <;> with_reducible rfl
      try simp only [Act.put, List.setIfInBounds_toArray, List.set_cons_zero, List.set_cons_succ]
      refine any_take 30 (some 6) (v := ?_) rfl rfl (by kernel_rfl) (by kernel_rfl) (by kernel_rfl) (fun _ _ _ h => h) (by rfl) (fun w9 hS => ?_) ?_
      rotate_left
      · go_simp <;> with_reducible rfl
      try simp only [Act.put, List.setIfInBounds_toArray, List.set_cons_zero, List.set_cons_succ]
      refine any_done (by kernel_rfl) ?_
      rename_i K1 h1
      refine h1 _ _ ?_
      clear h1 K1
      go_wp2
      go_ret
      exact ⟨rfl, UN.out.t UL.out⟩
end Go.Proofs.Ytlikggeceeennaa
