/- THE WALK of JournalReads. -/
import Derived.Test.YtlmlplpbgkbhdaaDoorRef9
import Derived.Laws.StructEq
set_option linter.unusedVariables false
set_option linter.unusedSimpArgs false
namespace Go.Proofs.YtlmlplpbgkbhdaaDoor
open Go Go.RowKit Hach

theorem head_form (b : List UInt8) : ∃ C P N E : Int, ∀ w w' en, RetHead w b en w' → en = .returned (.tuple #[.agg #[.int .i64 C, .int .i64 P, .int .u64 N], .int .i64 E]) ∧ Hid (Below w.heap.size w w') := by
  by_cases h1 : b.length < 128
  · refine ⟨0, 0, 0, 8, fun w w' en h => ?_⟩
    obtain ⟨hb, h⟩ := h
    rcases h with ⟨_, rfl⟩ | ⟨h2, _⟩ | ⟨h2, _⟩
    · exact ⟨rfl, hid hb⟩
    · omega
    · omega
  · by_cases h2 : Jrn.headIs b = true
    · refine ⟨(Jrn.hdC b : Int), (Jrn.hdP b : Int), (Jrn.hdN b : Int), 0, fun w w' en h => ?_⟩
      obtain ⟨hb, h⟩ := h
      rcases h with ⟨h3, _⟩ | ⟨_, h3, _⟩ | ⟨_, _, rfl⟩
      · omega
      · rw [h2] at h3; cases h3
      · exact ⟨rfl, hid hb⟩
    · refine ⟨0, 0, 0, 9, fun w w' en h => ?_⟩
      obtain ⟨hb, h⟩ := h
      rcases h with ⟨h3, _⟩ | ⟨_, h3, rfl⟩ | ⟨_, h3, _⟩
      · omega
      · exact ⟨rfl, hid hb⟩
      · exact absurd h3 h2

theorem rec_form (b : List UInt8) (n : Nat) : ∃ (pg E : Int) (D : List UInt8) (dl : Nat), (D.length = dl ∧ dl ≤ 512) ∧ ∀ w w' en, RetRec w b n en w' → ∃ A c, en = .returned (.tuple #[.agg #[.int .i64 pg, .slice A dl c], .int .i64 E]) ∧ Hid (Bytes w' A D) ∧ Hid (Below w.heap.size w w') := by
  by_cases h1 : b.length < 640
  · refine ⟨0, 8, [], 0, ⟨rfl, by decide⟩, fun w w' en h => ?_⟩
    obtain ⟨hb, h⟩ := h
    rcases h with ⟨_, rfl⟩ | ⟨h2, _⟩ | ⟨h2, _⟩
    · exact ⟨_, _, rfl, hid (Bytes.nil _ _), hid hb⟩
    · omega
    · omega
  · by_cases h2 : Jrn.recIs b n = true
    · refine ⟨(Oct.val (b.take 4) : Int), 0, (b.drop 128).take 512, 512, ⟨by rw [List.length_take, List.length_drop]; omega, by decide⟩, fun w w' en h => ?_⟩
      obtain ⟨hb, h⟩ := h
      rcases h with ⟨h3, _⟩ | ⟨_, h3, _⟩ | ⟨_, _, A, c, rfl, o⟩
      · omega
      · rw [h2] at h3; cases h3
      · exact ⟨_, _, rfl, hid (Rd.bytes (Rd.own o)), hid hb⟩
    · refine ⟨0, 9, [], 0, ⟨rfl, by decide⟩, fun w w' en h => ?_⟩
      obtain ⟨hb, h⟩ := h
      rcases h with ⟨h3, _⟩ | ⟨_, h3, rfl⟩ | ⟨_, h3, _⟩
      · omega
      · exact ⟨_, _, rfl, hid (Bytes.nil _ _), hid hb⟩
      · exact absurd h3 h2

theorem goodL_data {p x : Int} {l : List (Int × List UInt8)} (h : Jrn.goodL p x l = true) : ∀ r ∈ l, r.2.length ≤ 1099511627776 := by
  intro r hr
  have := Jrn.goodL_all h r hr
  unfold Jrn.recGood at this
  have := (of_decide_eq_true this).2
  omega

theorem parse_form (b : List UInt8) : ∃ (C P N E : Int) (l : List (Int × List UInt8)) (m : Nat), (l.length = m ∧ m ≤ 4000) ∧ (∀ r ∈ l, r.2.length ≤ 1099511627776) ∧ ∀ w w' en, RetParse w b en w' → ∃ A c, en = .returned (.tuple #[.agg #[.int .i64 C, .int .i64 P, .int .u64 N], .slice A m c, .int .i64 E]) ∧ Hid (RecsRd w' A l) ∧ Hid (Below w.heap.size w w') := by
  by_cases h1 : b.length < 128
  · refine ⟨0, 0, 0, 8, [], 0, ⟨rfl, by decide⟩, by simp, fun w w' en h => ?_⟩
    obtain ⟨hb, h⟩ := h
    rcases h with ⟨_, rfl⟩ | ⟨h2, _⟩ | ⟨h2, _⟩
    · exact ⟨none, 0, rfl, hid (fun i hi => by simp at hi), hid hb⟩
    · omega
    · omega
  · by_cases h2 : Jrn.parseOk b = true
    · have hg : Jrn.goodJ (Jrn.hdC b) (Jrn.hdP b) (Jrn.recsOf b (Jrn.hdC b)) = true := by
        unfold Jrn.parseOk at h2
        simp only [Bool.and_eq_true] at h2
        exact h2.2.2.2
      unfold Jrn.goodJ at hg
      simp only [Bool.and_eq_true, decide_eq_true_eq] at hg
      refine ⟨(Jrn.hdC b : Int), (Jrn.hdP b : Int), (Jrn.hdN b : Int), 0, Jrn.recsOf b (Jrn.hdC b), Jrn.hdC b, ⟨Jrn.recsOf_length _ _, by have := hg.1.1.2; omega⟩, goodL_data hg.2, fun w w' en h => ?_⟩
      obtain ⟨hb, h⟩ := h
      rcases h with ⟨h3, _⟩ | ⟨_, h3, _⟩ | ⟨_, _, A, c, rfl, o⟩
      · omega
      · rw [h2] at h3; cases h3
      · exact ⟨A, c, rfl, hid o, hid hb⟩
    · refine ⟨0, 0, 0, 9, [], 0, ⟨rfl, by decide⟩, by simp, fun w w' en h => ?_⟩
      obtain ⟨hb, h⟩ := h
      rcases h with ⟨h3, _⟩ | ⟨_, h3, rfl⟩ | ⟨_, h3, _⟩
      · omega
      · exact ⟨none, 0, rfl, hid (fun i hi => by simp at hi), hid hb⟩
      · exact absurd h3 h2

/-- A record in a row of its own. -/
theorem RecsRd.one {w : World} (t : TypeId) {A : Option Addr} {D : List UInt8} {pg : Int} {dl c : Nat} (hd : D.length = dl) (hb : Bytes w A D) : RecsRd (w.alloc (.cells #[.int .i64 pg, .slice A dl c] t)) (some ⟨w.heap.size, 0, none⟩) [(pg, D)] := by
  intro i hi
  obtain rfl : i = 0 := by simpa using hi
  refine ⟨w.heap.size, 0, A, c, rfl, ?_, ?_, hb.grown ((Below.refl _ _).alloc (Nat.le_refl _) _)⟩
  · rw [cell_of_row _ _ _ _ _ _ (heap_alloc_new w _)]; rfl
  · rw [cell_of_row _ _ _ _ _ _ (heap_alloc_new w _)]; subst hd; rfl

theorem plainU (w : World) (A : Option Addr) (l : List (Int × List UInt8)) (c m : Nat) (hm : Hid (l.length = m)) (hl : Hid (m ≤ 1000000)) (hr : Hid (RecsRd w A l)) :
    Calls Tryd.prog 23 #[.slice A m c] w fun e w' => ∃ A' c', e = .returned (.slice A' m c') ∧ Hid (RecsRd w' A' l) ∧ Up w w' :=
  (plain_calls w A l c m hm hl hr).mono fun _ _ ⟨A', c', h1, h2, h3⟩ => ⟨A', c', h1, hid h2, h3⟩
theorem sameU (w : World) (A B : Option Addr) (l : List (Int × List UInt8)) (ca cb m : Nat) (hm : Hid (l.length = m)) (hl : Hid (m ≤ 1000000)) (hs : Hid (∀ r ∈ l, r.2.length ≤ 1099511627776)) (hA : Hid (RecsRd w A l)) (hB : Hid (RecsRd w B l)) :
    Calls Tryd.prog 36 #[.slice A m ca, .slice B m cb] w fun e w' => e = .returned (.bool true) ∧ Up w w' :=
  (same_calls w A B l ca cb m hm hl hs hA hB).mono fun _ _ ⟨h1, h2⟩ => ⟨h1, h2.out⟩

set_option maxRecDepth 100000 in
set_option maxHeartbeats 1000000 in
theorem journalReads_walk (w : World) (ht : Hid (TabOk w)) (A : Option Addr) (xs : List UInt8) (c n : Nat) (hc : Hid (Bytes w A xs)) (hcap : Hid (xs.length ≤ c)) (hn : Hid ((n : Int) < 18446744073709551616)) :
    Calls Tryd.prog 9 #[.slice A xs.length c, .int .u64 (n : Int)] w fun e w' => e = .returned (.bool true) ∧ Below w.heap.size w w' := by
  by_cases hbig : (20000 : Int) < xs.length
  · go_enter Tryd.func9, Tryd.ntmps9
    go_wp2_with fail
    refine (lives06_calls _).mono ?_
    rintro e w' ⟨rfl, rfl⟩
    go_wp2
    go_ret
    exact ⟨rfl, Below.refl _ _⟩
  · obtain ⟨m, hm⟩ : ∃ m, xs.length = m := ⟨_, rfl⟩
    rw [hm] at hbig hcap ⊢
    have HM := hid hm
    have M1 := hid (show m ≤ 1073741824 by omega)
    obtain ⟨C, P, N, E, hf⟩ := head_form xs
    obtain ⟨pg, E2, D, dl, hD, hr⟩ := rec_form xs n
    obtain ⟨C2, P2, N2, E3, l, lm, hl, hls, hp⟩ := parse_form xs
    obtain ⟨h, hh⟩ : ∃ h, Jrn.hotB xs = h := ⟨_, rfl⟩
    have HF := hid hf
    have HRF := hid hr
    have HPF := hid hp
    have HD := hid hD.1
    have HD2 := hid hD.2
    have HL := hid hl.1
    have HL2 := hid hl.2
    have HLS := hid hls
    have HH := hid hh
    clear hf hr hp hD hl hls hh hm
    go_enter Tryd.func9, Tryd.ntmps9
    go_wp2_with fail
    refine (readHead_calls _ ht A xs c m HM M1 hcap hc).mono ?_
    rintro e w1 h1
    obtain ⟨rfl, b1⟩ := HF.out _ _ _ h1
    clear h1
    go_wp2_with fail
    have u1 := hid ((show Up w w1 from b1.out).t (show Up w1 (w1.alloc (.cells #[.int .i64 C, .int .i64 P, .int .u64 N] 46)) from (Below.refl _ _).alloc (Nat.le_refl _) _))
    refine (refReadHead_calls _ A xs c m HM M1 hcap (hid (hc.out.grown u1.out))).mono ?_
    rintro e w2 h2
    obtain ⟨rfl, b2⟩ := HF.out _ _ _ h2
    clear h2
    go_wp2_with fail
    have u2 := hid ((u1.out.t b2.out).t (show Up w2 (w2.alloc (.cells #[.int .i64 C, .int .i64 P, .int .u64 N] 47)) from (Below.refl _ _).alloc (Nat.le_refl _) _))
    refine (readRecord_callsX _ (hid (ht.out.below' u2.out)) A xs c n m HM M1.out hcap.out hn (hid (hc.out.grown u2.out))).mono ?_
    rintro e w3 h3
    obtain ⟨A3, c3, rfl, y3, b3⟩ := HRF.out _ _ _ h3
    clear h3
    go_wp2_with fail
    have u3 := hid ((u2.out.t b3.out).t (show Up w3 (w3.alloc (.cells #[.int .i64 pg, .slice A3 dl c3] 36)) from (Below.refl _ _).alloc (Nat.le_refl _) _))
    refine (refReadRecord_calls _ A xs c n m HM M1.out hcap.out hn (hid (hc.out.grown u3.out))).mono ?_
    rintro e w4 h4
    obtain ⟨A4, c4, rfl, y4, b4⟩ := HRF.out _ _ _ h4
    clear h4
    go_wp2
    have v4 : Up w4 (w4.alloc (.cells #[.int .i64 pg, .slice A4 dl c4] 49)) := (Below.refl _ _).alloc (Nat.le_refl _) _
    have v3 : Up (w3.alloc (.cells #[.int .i64 pg, .slice A3 dl c3] 36)) (w4.alloc (.cells #[.int .i64 pg, .slice A4 dl c4] 49)) := (show Up (w3.alloc (.cells #[.int .i64 pg, .slice A3 dl c3] 36)) w4 from b4.out).t v4
    have v2 : Up (w2.alloc (.cells #[.int .i64 C, .int .i64 P, .int .u64 N] 47)) (w4.alloc (.cells #[.int .i64 pg, .slice A4 dl c4] 49)) := ((show Up (w2.alloc (.cells #[.int .i64 C, .int .i64 P, .int .u64 N] 47)) w3 from b3.out).t (show Up w3 (w3.alloc (.cells #[.int .i64 pg, .slice A3 dl c3] 36)) from (Below.refl _ _).alloc (Nat.le_refl _) _)).t v3
    have v1 : Up (w1.alloc (.cells #[.int .i64 C, .int .i64 P, .int .u64 N] 46)) (w4.alloc (.cells #[.int .i64 pg, .slice A4 dl c4] 49)) := ((show Up (w1.alloc (.cells #[.int .i64 C, .int .i64 P, .int .u64 N] 46)) w2 from b2.out).t (show Up w2 (w2.alloc (.cells #[.int .i64 C, .int .i64 P, .int .u64 N] 47)) from (Below.refl _ _).alloc (Nat.le_refl _) _)).t v2
    have UW := hid ((show Up w (w3.alloc (.cells #[.int .i64 pg, .slice A3 dl c3] 36)) from u3.out).t v3)
    have p0 := v1.c (show (w1.alloc (.cells #[.int .i64 C, .int .i64 P, .int .u64 N] 46)).cell? ⟨w1.heap.size, 0, none⟩ = some (.int .i64 C) by go_simp)
    have p1 := v1.c (show (w1.alloc (.cells #[.int .i64 C, .int .i64 P, .int .u64 N] 46)).cell? ⟨w1.heap.size, 1, none⟩ = some (.int .i64 P) by go_simp)
    have p2 := v1.c (show (w1.alloc (.cells #[.int .i64 C, .int .i64 P, .int .u64 N] 46)).cell? ⟨w1.heap.size, 2, none⟩ = some (.int .u64 N) by go_simp)
    have q0 := v2.c (show (w2.alloc (.cells #[.int .i64 C, .int .i64 P, .int .u64 N] 47)).cell? ⟨w2.heap.size, 0, none⟩ = some (.int .i64 C) by go_simp)
    have q1 := v2.c (show (w2.alloc (.cells #[.int .i64 C, .int .i64 P, .int .u64 N] 47)).cell? ⟨w2.heap.size, 1, none⟩ = some (.int .i64 P) by go_simp)
    have q2 := v2.c (show (w2.alloc (.cells #[.int .i64 C, .int .i64 P, .int .u64 N] 47)).cell? ⟨w2.heap.size, 2, none⟩ = some (.int .u64 N) by go_simp)
    have r0 := v3.c (show (w3.alloc (.cells #[.int .i64 pg, .slice A3 dl c3] 36)).cell? ⟨w3.heap.size, 0, none⟩ = some (.int .i64 pg) by go_simp)
    have r1 := v3.c (show (w3.alloc (.cells #[.int .i64 pg, .slice A3 dl c3] 36)).cell? ⟨w3.heap.size, 1, none⟩ = some (.slice A3 dl c3) by go_simp)
    have s0 : (w4.alloc (.cells #[.int .i64 pg, .slice A4 dl c4] 49)).cell? ⟨w4.heap.size, 0, none⟩ = some (.int .i64 pg) := by go_simp
    have s1 : (w4.alloc (.cells #[.int .i64 pg, .slice A4 dl c4] 49)).cell? ⟨w4.heap.size, 1, none⟩ = some (.slice A4 dl c4) := by go_simp
    have Y3 := hid ((y3.out.grown (show Up w3 (w3.alloc (.cells #[.int .i64 pg, .slice A3 dl c3] 36)) from (Below.refl _ _).alloc (Nat.le_refl _) _)).grown v3)
    have Y4 := hid (y4.out.grown v4)
    clear u1 u2 u3 b1 b2 b3 b4 y3 y4 v1 v2 v3 v4
    generalize (w4.alloc (.cells #[.int .i64 pg, .slice A4 dl c4] 49)) = W at *
    generalize w1.heap.size = g1 at *
    generalize w2.heap.size = g2 at *
    generalize w3.heap.size = g3 at *
    generalize w4.heap.size = g4 at *
    have P0 : ∀ w', Up W w' → w'.cell? ⟨g1, 0, none⟩ = some (.int .i64 C) := fun _ h => h.c p0
    have P1 : ∀ w', Up W w' → w'.cell? ⟨g1, 1, none⟩ = some (.int .i64 P) := fun _ h => h.c p1
    have P2 : ∀ w', Up W w' → w'.cell? ⟨g1, 2, none⟩ = some (.int .u64 N) := fun _ h => h.c p2
    have Q0 : ∀ w', Up W w' → w'.cell? ⟨g2, 0, none⟩ = some (.int .i64 C) := fun _ h => h.c q0
    have Q1 : ∀ w', Up W w' → w'.cell? ⟨g2, 1, none⟩ = some (.int .i64 P) := fun _ h => h.c q1
    have Q2 : ∀ w', Up W w' → w'.cell? ⟨g2, 2, none⟩ = some (.int .u64 N) := fun _ h => h.c q2
    have R0 : ∀ w', Up W w' → w'.cell? ⟨g3, 0, none⟩ = some (.int .i64 pg) := fun _ h => h.c r0
    have R1 : ∀ w', Up W w' → w'.cell? ⟨g3, 1, none⟩ = some (.slice A3 dl c3) := fun _ h => h.c r1
    have S0 : ∀ w', Up W w' → w'.cell? ⟨g4, 0, none⟩ = some (.int .i64 pg) := fun _ h => h.c s0
    have S1 : ∀ w', Up W w' → w'.cell? ⟨g4, 1, none⟩ = some (.slice A4 dl c4) := fun _ h => h.c s1
    have hm46 : Tryd.prog.eqGuardType Tryd.prog.depth 46 = false := by kernel_rfl
    have hm47 : Tryd.prog.eqGuardType Tryd.prog.depth 47 = false := by kernel_rfl
    have one : Hid ([(pg, D)].length = 1) := hid rfl
    have one6 : Hid (1 ≤ 1000000) := hid (by decide)
    have oneS : Hid (∀ r ∈ [(pg, D)], r.2.length ≤ 1099511627776) := hid (by intro r hr; obtain rfl := List.mem_singleton.1 hr; show D.length ≤ _; rw [HD.out]; have := HD2.out; omega)
    -- the rows of one record, by the order in which they are made
    have A36 : Up W (W.alloc (.cells #[.int .i64 pg, .slice A3 dl c3] 36)) := (Below.refl _ _).alloc (Nat.le_refl _) _
    have A49 : Up W (W.alloc (.cells #[.int .i64 pg, .slice A4 dl c4] 49)) := (Below.refl _ _).alloc (Nat.le_refl _) _
    have A3649 : Up (W.alloc (.cells #[.int .i64 pg, .slice A3 dl c3] 36)) ((W.alloc (.cells #[.int .i64 pg, .slice A3 dl c3] 36)).alloc (.cells #[.int .i64 pg, .slice A4 dl c4] 49)) := (Below.refl _ _).alloc (Nat.le_refl _) _
    have A4936 : Up (W.alloc (.cells #[.int .i64 pg, .slice A4 dl c4] 49)) ((W.alloc (.cells #[.int .i64 pg, .slice A4 dl c4] 49)).alloc (.cells #[.int .i64 pg, .slice A3 dl c3] 36)) := (Below.refl _ _).alloc (Nat.le_refl _) _
    have L1 := hid (show RecsRd (W.alloc (.cells #[.int .i64 pg, .slice A3 dl c3] 36)).drew (some ⟨W.heap.size, 0, none⟩) [(pg, D)] from RecsRd.one 36 HD.out Y3.out)
    have L2 := hid (show RecsRd ((W.alloc (.cells #[.int .i64 pg, .slice A3 dl c3] 36)).alloc (.cells #[.int .i64 pg, .slice A4 dl c4] 49)).drew (some ⟨W.heap.size, 0, none⟩) [(pg, D)] from RecsRd.grown (w := W.alloc (.cells #[.int .i64 pg, .slice A3 dl c3] 36)) (RecsRd.one 36 HD.out Y3.out) (A3649.t (Up.drew _)))
    have L3 := hid (show RecsRd ((W.alloc (.cells #[.int .i64 pg, .slice A4 dl c4] 49)).alloc (.cells #[.int .i64 pg, .slice A3 dl c3] 36)).drew (some ⟨W.heap.size + 1, 0, none⟩) [(pg, D)] from by
      have := RecsRd.one (w := W.alloc (.cells #[.int .i64 pg, .slice A4 dl c4] 49)) 36 (pg := pg) (c := c3) HD.out (Y3.out.grown A49)
      rwa [show (W.alloc (.cells #[.int .i64 pg, .slice A4 dl c4] 49)).heap.size = W.heap.size + 1 by simp] at this)
    have M2 := hid (show RecsRd ((W.alloc (.cells #[.int .i64 pg, .slice A3 dl c3] 36)).alloc (.cells #[.int .i64 pg, .slice A4 dl c4] 49)).drew (some ⟨W.heap.size + 1, 0, none⟩) [(pg, D)] from by
      have := RecsRd.one (w := W.alloc (.cells #[.int .i64 pg, .slice A3 dl c3] 36)) 49 (pg := pg) (c := c4) HD.out (Y4.out.grown A36)
      rwa [show (W.alloc (.cells #[.int .i64 pg, .slice A3 dl c3] 36)).heap.size = W.heap.size + 1 by simp] at this)
    have M3 := hid (show RecsRd ((W.alloc (.cells #[.int .i64 pg, .slice A4 dl c4] 49)).alloc (.cells #[.int .i64 pg, .slice A3 dl c3] 36)).drew (some ⟨W.heap.size, 0, none⟩) [(pg, D)] from RecsRd.grown (w := W.alloc (.cells #[.int .i64 pg, .slice A4 dl c4] 49)) (RecsRd.one 49 HD.out Y4.out) (A4936.t (Up.drew _)))
    have U1 := hid (A36.t (Up.drew _))
    have U49 := hid (A49.t (Up.drew _))
    have U2 := hid ((A36.t A3649).t (Up.drew _))
    have U3 := hid ((A49.t A4936).t (Up.drew _))
    have U0 := hid (Up.drew W)
    clear A36 A49 A3649 A4936 p0 p1 p2 q0 q1 q2 r0 r1 s0 s1
    go_region_held3 (fun w' => Up W w')
      (first | exact U0.out | exact q7 | exact q6 | exact q5 | exact U1.out | exact U49.out | exact U2.out | exact U3.out)
      (first
        | (go_at_call 23; refine (plainU _ _ [(pg, D)] _ 1 one one6 ?_).mono ?_; (with_reducible assumption); rintro e w5 ⟨A5, c5, rfl, R5, b5⟩; (first
            | (have q5 : Up W w5 := (by with_reducible exact Up.t U1.out b5); have Y45 := hid (Y4.out.grown q5); have q6 : Up W (w5.alloc (.cells #[.int .i64 pg, .slice A4 dl c4] 49)) := q5.t ((Below.refl _ _).alloc (Nat.le_refl _) _); have WAY := hid (RecsRd.one (w := w5) 49 (pg := pg) (c := c4) HD.out Y45.out); have WAYb := hid (R5.out.grown (show Up w5 (w5.alloc (.cells #[.int .i64 pg, .slice A4 dl c4] 49)) from (Below.refl _ _).alloc (Nat.le_refl _) _)))
            | (have q5 : Up W w5 := (by with_reducible exact Up.t U2.out b5); have WAY := hid (M2.out.grown b5))
            | (have q5 : Up W w5 := (by with_reducible exact Up.t U3.out b5); have WAY := hid (M3.out.grown b5))))
        | (go_at_call 36; refine (sameU _ _ _ [(pg, D)] _ _ 1 one one6 oneS ?_ ?_).mono ?_; (with_reducible assumption); (with_reducible assumption); rintro e w7 ⟨rfl, b7⟩; (first | (have q7 : Up W w7 := (by with_reducible exact Up.t q6 b7)) | (have q7 : Up W w7 := (by with_reducible exact Up.t q5 b7)))))
    all_goals (
      rename_i K1 h1 hHeld
      have UE := hid (Up.t UW.out q7)
      have T7 := hid (ht.out.below' UE.out)
      have C7 := hid (hc.out.grown UE.out)
      clear P0 P1 P2 Q0 Q1 Q2 R0 R1 S0 S1 L1 L2 L3 M2 M3 U0 U1 U2 U3 U49 UW q7 b7 q5 b5 R5 WAY Y3 Y4 hHeld
      show K1 _ _
      refine h1 _ _ ?_
      clear h1 K1
      go_wp2_with fail
      refine (parse_calls w7 T7 A xs c m HM M1 hcap C7).mono ?_
      rintro e w8 h8
      obtain ⟨A8, c8, rfl, r8, b8⟩ := HPF.out _ _ _ h8
      clear h8
      have v8 : Up w8 (w8.alloc (.cells #[.int .i64 C2, .int .i64 P2, .int .u64 N2] 46)) := (Below.refl _ _).alloc (Nat.le_refl _) _
      have u8 := hid ((show Up w7 w8 from b8.out).t v8)
      have R8 := hid (r8.out.grown v8)
      go_wp2_with fail
      refine (refParse_calls _ A xs c m HM M1 hcap (hid (C7.out.grown u8.out))).mono ?_
      rintro e w9 h9
      obtain ⟨A9, c9, rfl, r9, b9⟩ := HPF.out _ _ _ h9
      clear h9
      have v9 : Up w9 (w9.alloc (.cells #[.int .i64 C2, .int .i64 P2, .int .u64 N2] 47)) := (Below.refl _ _).alloc (Nat.le_refl _) _
      have v89 : Up (w8.alloc (.cells #[.int .i64 C2, .int .i64 P2, .int .u64 N2] 46)) (w9.alloc (.cells #[.int .i64 C2, .int .i64 P2, .int .u64 N2] 47)) := (show Up (w8.alloc (.cells #[.int .i64 C2, .int .i64 P2, .int .u64 N2] 46)) w9 from b9.out).t v9
      have p0 := v89.c (show (w8.alloc (.cells #[.int .i64 C2, .int .i64 P2, .int .u64 N2] 46)).cell? ⟨w8.heap.size, 0, none⟩ = some (.int .i64 C2) by go_simp)
      have p1 := v89.c (show (w8.alloc (.cells #[.int .i64 C2, .int .i64 P2, .int .u64 N2] 46)).cell? ⟨w8.heap.size, 1, none⟩ = some (.int .i64 P2) by go_simp)
      have p2 := v89.c (show (w8.alloc (.cells #[.int .i64 C2, .int .i64 P2, .int .u64 N2] 46)).cell? ⟨w8.heap.size, 2, none⟩ = some (.int .u64 N2) by go_simp)
      have u9 := hid (u8.out.t v89)
      have R89 := hid (R8.out.grown v89)
      have R9 := hid (r9.out.grown v9)
      have T9 := hid (T7.out.below' u9.out)
      have C9 := hid (C7.out.grown u9.out)
      have UE9 := hid (UE.out.t u9.out)
      have LM6 : Hid (lm ≤ 1000000) := hid (by have := HL2.out; omega)
      have z8 : w8.heap.size < w9.heap.size := Nat.lt_of_lt_of_le (World.block_lt_of_cell? _ _ (show (w8.alloc (.cells #[.int .i64 C2, .int .i64 P2, .int .u64 N2] 46)).cell? ⟨w8.heap.size, 0, none⟩ = some (.int .i64 C2) by go_simp)) b9.out.size
      have P0 := hid p0
      have P1 := hid p1
      have P2h := hid p2
      clear b8 r8 v8 R8 r9 b9 v9 v89 u8 u9 T7 C7 UE p0 p1 p2
      go_wp2_with (with_reducible refine hold_at 79 ?_)
      have q0 : (w9.alloc (.cells #[.int .i64 C2, .int .i64 P2, .int .u64 N2] 47)).cell? ⟨w9.heap.size, 0, none⟩ = some (.int .i64 C2) := by go_simp
      have q1 : (w9.alloc (.cells #[.int .i64 C2, .int .i64 P2, .int .u64 N2] 47)).cell? ⟨w9.heap.size, 1, none⟩ = some (.int .i64 P2) := by go_simp
      have q2 : (w9.alloc (.cells #[.int .i64 C2, .int .i64 P2, .int .u64 N2] 47)).cell? ⟨w9.heap.size, 2, none⟩ = some (.int .u64 N2) := by go_simp
      have p0 := P0.out
      have p1 := P1.out
      have p2 := P2h.out
      clear P0 P1 P2h z8
      generalize (w9.alloc (.cells #[.int .i64 C2, .int .i64 P2, .int .u64 N2] 47)) = W9 at *
      generalize w9.heap.size = g9 at *
      generalize w8.heap.size = g8 at *
      refine hid ?_
      go_wp2_with fail
      refine (plainU _ _ l _ lm HL LM6 R89).mono ?_
      rintro e w10 ⟨A10, c10, rfl, R10, b10⟩
      go_wp2_with fail
      refine (sameU _ _ _ l _ _ lm HL LM6 HLS R10 (hid (R9.out.grown b10))).mono ?_
      rintro e w11 ⟨rfl, b11⟩
      have C11 := hid ((C9.out.grown b10).grown b11)
      have T11 := hid ((T9.out.below' b10).below' b11)
      have UE11 := hid ((UE9.out.t b10).t b11)
      clear b10 b11 C9 T9 UE9 R10 R9 R89
      go_wp2_with fail
      refine (hot_calls _ T11 A xs c m HM M1 hcap C11 h HH).mono ?_
      rintro e w12 ⟨rfl, b12⟩
      go_wp2_with fail
      refine (refHot_calls _ A xs c m HM M1 hcap (hid (C11.out.grown b12.out)) h HH).mono ?_
      rintro e w13 ⟨rfl, b13⟩
      have UE13 := hid ((UE11.out.t (show Up w11 w12 from b12.out)).t (show Up w12 w13 from b13.out))
      clear b12 b13 T11 C11 UE11
      go_wp2_with fail
      refine (lives06_calls _).mono ?_
      rintro e w' ⟨rfl, rfl⟩
      go_wp2
      go_ret
      exact ⟨rfl, UE13.out⟩)
end Go.Proofs.YtlmlplpbgkbhdaaDoor
