/- THE WALKS of the document's Free, Mark, Pins, Drop, Peek. -/
import Derived.Test.YtlikggeceeennaaRf3
set_option linter.unusedVariables false
set_option linter.unusedSimpArgs false
namespace Go.Proofs.Ytlikggeceeennaa
open Go Go.RowKit Hach

/-! ### Free -/
theorem rfreeHit_calls (w : World) (base b : Nat) (room hit miss : Int) (V1 V2 : List Vis) (v : Vis) (h : Hid (RefM w base b room hit miss (V1 ++ v :: V2))) (hno : Hid (v.1 ∉ V1.map (·.1))) (hl : Hid ((V1 ++ v :: V2).length < 1000000)) (hw : Hid (IntKind.i64.wrap (v.2.2.1 - 1) = v.2.2.1 - 1)) (hz : Hid ((v.2.2.1 == 0) = false)) :
    Calls Try.prog 87 #[ptr b, .int .i64 v.1] w (StepR w base b room hit miss (V1 ++ (v.1, v.2.1, v.2.2.1 - 1, v.2.2.2) :: V2) (.int .i64 0)) := by
  obtain ⟨A, c, R1, x, R2, h1, rfl, rfl, rfl⟩ := h.out.split
  have H1 := hid h1
  have HL : Hid ((R1 ++ x :: R2).length < 1000000) := hid (by have := hl.out; simpa using this)
  have HF : Hid (findI x.page 0 (R1 ++ x :: R2) = (R1.length : Int)) := hid (by rw [findI_hit 0 (by rw [← visR_page]; exact hno.out), Nat.zero_add])
  have hw' : IntKind.i64.wrap (x.pins - 1) = x.pins - 1 := hw.out
  have hz' : (x.pins == 0) = false := hz.out
  have hz2 : ¬ x.pins = 0 := by rw [beq_eq_false_iff_ne] at hz'; exact hz'
  clear h1 hw hz
  show Calls _ _ #[ptr b, .int .i64 x.page] w _
  unfold ptr
  go_enter Try.func87, Try.ntmps87
  go_wp2_with fail
  refine (find_calls w base b room hit miss A c (R1 ++ x :: R2) x.page H1 HL).mono ?_
  rintro en w1 ⟨rfl, u1⟩
  rw [HF.out]
  have H2 := H1.out.up u1
  have c1 := H2.c1
  obtain ⟨g, rfl, hlt, _, q0, q1, q2, q3, qf⟩ := H2.at0 (Up.refl w1)
  obtain ⟨k1, k2, k3⟩ := H2.mod rfl { x with pins := x.pins - 1 } 2 (.int .i64 (x.pins - 1)) (by decide) rfl rfl rfl rfl
  have K := hid (And.intro k1 (And.intro ((u1.mono H1.out.bs).trans k2) (frR_trans (frR_up u1) k3)))
  have f2 := qf (R1.length * 4 + 2)
  have i1 : (0 : Int) ≤ (R1.length : Int) := by omega
  have i2 : (R1.length : Int) < ((R1 ++ x :: R2).length : Int) := by simp; omega
  have i3 : ¬ ((R1.length : Int) < 0) := by omega
  generalize (R1 ++ x :: R2).length = n at *
  clear H2 k1 k2 k3 qf q0 q1 q3 u1
  go_wp2
  go_ret
  exact ⟨rfl, hid ⟨⟨_, _, _, K.out.1, by rw [List.map_append, List.map_cons]; rfl⟩, K.out.2.1, K.out.2.2⟩⟩
theorem rfreeNo_calls (w : World) (base b : Nat) (room hit miss : Int) (V1 V2 : List Vis) (v : Vis) (h : Hid (RefM w base b room hit miss (V1 ++ v :: V2))) (hno : Hid (v.1 ∉ V1.map (·.1))) (hl : Hid ((V1 ++ v :: V2).length < 1000000)) (hz : Hid ((v.2.2.1 == 0) = true)) :
    Calls Try.prog 87 #[ptr b, .int .i64 v.1] w fun en w' => en = .returned (.int .i64 6) ∧ Up w w' := by
  obtain ⟨A, c, R1, x, R2, h1, rfl, rfl, rfl⟩ := h.out.split
  have H1 := hid h1
  have HL : Hid ((R1 ++ x :: R2).length < 1000000) := hid (by have := hl.out; simpa using this)
  have HF : Hid (findI x.page 0 (R1 ++ x :: R2) = (R1.length : Int)) := hid (by rw [findI_hit 0 (by rw [← visR_page]; exact hno.out), Nat.zero_add])
  have hz' : (x.pins == 0) = true := hz.out
  clear h1 hz
  show Calls _ _ #[ptr b, .int .i64 x.page] w _
  unfold ptr
  go_enter Try.func87, Try.ntmps87
  go_wp2_with fail
  refine (find_calls w base b room hit miss A c (R1 ++ x :: R2) x.page H1 HL).mono ?_
  rintro en w1 ⟨rfl, u1⟩
  rw [HF.out]
  have H2 := H1.out.up u1
  have c1 := H2.c1
  obtain ⟨g, rfl, hlt, _, q0, q1, q2, q3, qf⟩ := H2.at0 (Up.refl w1)
  have i1 : (0 : Int) ≤ (R1.length : Int) := by omega
  have i2 : (R1.length : Int) < ((R1 ++ x :: R2).length : Int) := by simp; omega
  have i3 : ¬ ((R1.length : Int) < 0) := by omega
  generalize (R1 ++ x :: R2).length = n at *
  clear H2 qf q0 q1 q3
  go_wp2
  go_ret
  exact ⟨rfl, u1⟩
theorem rfreeMiss_calls (w : World) (base b : Nat) (room hit miss : Int) (V : List Vis) (p : Int) (h : Hid (RefM w base b room hit miss V)) (hno : Hid (p ∉ V.map (·.1))) (hl : Hid (V.length < 1000000)) :
    Calls Try.prog 87 #[ptr b, .int .i64 p] w fun en w' => en = .returned (.int .i64 5) ∧ Up w w' := by
  obtain ⟨A, c, R, h1, rfl⟩ := h.out
  have H1 := hid h1
  have HL : Hid (R.length < 1000000) := hid (by have := hl.out; rwa [List.length_map] at this)
  have HF : Hid (findI p 0 R = -1) := hid (findI_miss 0 (by rw [← visR_page]; exact hno.out))
  clear h1
  unfold ptr
  go_enter Try.func87, Try.ntmps87
  go_wp2_with fail
  refine (find_calls w base b room hit miss A c R p H1 HL).mono ?_
  rintro en w1 ⟨rfl, u1⟩
  rw [HF.out]
  go_wp2
  go_ret
  exact ⟨rfl, u1⟩

/-! ### Mark -/
theorem rmarkHit_calls (w : World) (base b : Nat) (room hit miss : Int) (V1 V2 : List Vis) (v : Vis) (d : Bool) (h : Hid (RefM w base b room hit miss (V1 ++ v :: V2))) (hno : Hid (v.1 ∉ V1.map (·.1))) (hl : Hid ((V1 ++ v :: V2).length < 1000000)) :
    Calls Try.prog 88 #[ptr b, .int .i64 v.1, .bool d] w (StepR w base b room hit miss (V1 ++ (v.1, v.2.1, v.2.2.1, d) :: V2) (.int .i64 0)) := by
  obtain ⟨A, c, R1, x, R2, h1, rfl, rfl, rfl⟩ := h.out.split
  have H1 := hid h1
  have HL : Hid ((R1 ++ x :: R2).length < 1000000) := hid (by have := hl.out; simpa using this)
  have HF : Hid (findI x.page 0 (R1 ++ x :: R2) = (R1.length : Int)) := hid (by rw [findI_hit 0 (by rw [← visR_page]; exact hno.out), Nat.zero_add])
  clear h1
  show Calls _ _ #[ptr b, .int .i64 x.page, .bool d] w _
  unfold ptr
  go_enter Try.func88, Try.ntmps88
  go_wp2_with fail
  refine (find_calls w base b room hit miss A c (R1 ++ x :: R2) x.page H1 HL).mono ?_
  rintro en w1 ⟨rfl, u1⟩
  rw [HF.out]
  have H2 := H1.out.up u1
  have c1 := H2.c1
  obtain ⟨g, rfl, hlt, _, q0, q1, q2, q3, qf⟩ := H2.at0 (Up.refl w1)
  obtain ⟨k1, k2, k3⟩ := H2.mod rfl { x with dirty := d } 3 (.bool d) (by decide) rfl rfl rfl rfl
  have K := hid (And.intro k1 (And.intro ((u1.mono H1.out.bs).trans k2) (frR_trans (frR_up u1) k3)))
  have f2 := qf (R1.length * 4 + 3)
  have i1 : (0 : Int) ≤ (R1.length : Int) := by omega
  have i2 : (R1.length : Int) < ((R1 ++ x :: R2).length : Int) := by simp; omega
  have i3 : ¬ ((R1.length : Int) < 0) := by omega
  generalize (R1 ++ x :: R2).length = n at *
  clear H2 k1 k2 k3 qf q0 q1 q2 u1
  go_wp2
  go_ret
  exact ⟨rfl, hid ⟨⟨_, _, _, K.out.1, by rw [List.map_append, List.map_cons]; rfl⟩, K.out.2.1, K.out.2.2⟩⟩
theorem rmarkMiss_calls (w : World) (base b : Nat) (room hit miss : Int) (V : List Vis) (p : Int) (d : Bool) (h : Hid (RefM w base b room hit miss V)) (hno : Hid (p ∉ V.map (·.1))) (hl : Hid (V.length < 1000000)) :
    Calls Try.prog 88 #[ptr b, .int .i64 p, .bool d] w fun en w' => en = .returned (.int .i64 5) ∧ Up w w' := by
  obtain ⟨A, c, R, h1, rfl⟩ := h.out
  have H1 := hid h1
  have HL : Hid (R.length < 1000000) := hid (by have := hl.out; rwa [List.length_map] at this)
  have HF : Hid (findI p 0 R = -1) := hid (findI_miss 0 (by rw [← visR_page]; exact hno.out))
  clear h1
  unfold ptr
  go_enter Try.func88, Try.ntmps88
  go_wp2_with fail
  refine (find_calls w base b room hit miss A c R p H1 HL).mono ?_
  rintro en w1 ⟨rfl, u1⟩
  rw [HF.out]
  go_wp2
  go_ret
  exact ⟨rfl, u1⟩

/-! ### Pins -/
theorem rpinsHit_calls (w : World) (base b : Nat) (room hit miss : Int) (V1 V2 : List Vis) (v : Vis) (h : Hid (RefM w base b room hit miss (V1 ++ v :: V2))) (hno : Hid (v.1 ∉ V1.map (·.1))) (hl : Hid ((V1 ++ v :: V2).length < 1000000)) :
    Calls Try.prog 93 #[ptr b, .int .i64 v.1] w fun en w' => en = .returned (.int .i64 v.2.2.1) ∧ Up w w' := by
  obtain ⟨A, c, R1, x, R2, h1, rfl, rfl, rfl⟩ := h.out.split
  have H1 := hid h1
  have HL : Hid ((R1 ++ x :: R2).length < 1000000) := hid (by have := hl.out; simpa using this)
  have HF : Hid (findI x.page 0 (R1 ++ x :: R2) = (R1.length : Int)) := hid (by rw [findI_hit 0 (by rw [← visR_page]; exact hno.out), Nat.zero_add])
  clear h1
  show Calls _ _ #[ptr b, .int .i64 x.page] w _
  unfold ptr
  go_enter Try.func93, Try.ntmps93
  go_wp2_with fail
  refine (find_calls w base b room hit miss A c (R1 ++ x :: R2) x.page H1 HL).mono ?_
  rintro en w1 ⟨rfl, u1⟩
  rw [HF.out]
  have H2 := H1.out.up u1
  have c1 := H2.c1
  obtain ⟨g, rfl, hlt, _, q0, q1, q2, q3, qf⟩ := H2.at0 (Up.refl w1)
  have i1 : (0 : Int) ≤ (R1.length : Int) := by omega
  have i2 : (R1.length : Int) < ((R1 ++ x :: R2).length : Int) := by simp; omega
  have i3 : ¬ ((R1.length : Int) < 0) := by omega
  generalize (R1 ++ x :: R2).length = n at *
  clear H2 qf q0 q1 q3
  go_wp2
  go_ret
  exact ⟨rfl, u1⟩
theorem rpinsMiss_calls (w : World) (base b : Nat) (room hit miss : Int) (V : List Vis) (p : Int) (h : Hid (RefM w base b room hit miss V)) (hno : Hid (p ∉ V.map (·.1))) (hl : Hid (V.length < 1000000)) :
    Calls Try.prog 93 #[ptr b, .int .i64 p] w fun en w' => en = .returned (.int .i64 0) ∧ Up w w' := by
  obtain ⟨A, c, R, h1, rfl⟩ := h.out
  have H1 := hid h1
  have HL : Hid (R.length < 1000000) := hid (by have := hl.out; rwa [List.length_map] at this)
  have HF : Hid (findI p 0 R = -1) := hid (findI_miss 0 (by rw [← visR_page]; exact hno.out))
  clear h1
  unfold ptr
  go_enter Try.func93, Try.ntmps93
  go_wp2_with fail
  refine (find_calls w base b room hit miss A c R p H1 HL).mono ?_
  rintro en w1 ⟨rfl, u1⟩
  rw [HF.out]
  go_wp2
  go_ret
  exact ⟨rfl, u1⟩

/-! ### Drop -/
theorem rout_split (w : World) (base b : Nat) (room hit miss : Int) (A : Option Addr) (c : Nat) (R1 R2 : List RowR) (x : RowR) (h : Hid (RefAt w base b room hit miss A c (R1 ++ x :: R2))) (hl : Hid ((R1 ++ x :: R2).length < 1000000)) :
    Calls Try.prog 134 #[ptr b, .int .i64 R1.length] w fun en w' => en = .returned (.tuple #[]) ∧ Hid (∃ A' c', RefAt w' base b room hit miss A' c' (R1 ++ R2) ∧ Below base w w' ∧ Fr (fun k => k = b) w w' ∧ ∀ k, (Value.slice A' (R1 ++ R2).length c').ownBlock = some k → w.heap.size ≤ k) := by
  have e : (R1 ++ x :: R2).take R1.length ++ (R1 ++ x :: R2).drop (R1.length + 1) = R1 ++ R2 := by
    rw [List.take_left', ← List.drop_drop]; simp; rfl
  refine (rout_calls w base b room hit miss A c (R1 ++ x :: R2) R1.length h hl (hid (by simp))).mono ?_
  rintro en w' ⟨rfl, hh⟩
  obtain ⟨A', c', k1, k2, k3, k4⟩ := hh.out
  rw [e] at k1 k4
  exact ⟨rfl, hid ⟨A', c', k1, k2, k3, k4⟩⟩
theorem rdropHit_calls (w : World) (base b : Nat) (room hit miss : Int) (V1 V2 : List Vis) (v : Vis) (h : Hid (RefM w base b room hit miss (V1 ++ v :: V2))) (hno : Hid (v.1 ∉ V1.map (·.1))) (hl : Hid ((V1 ++ v :: V2).length < 1000000)) (hz : Hid (decide (0 < v.2.2.1) = false)) :
    Calls Try.prog 89 #[ptr b, .int .i64 v.1] w (StepR w base b room hit miss (V1 ++ V2) (.int .i64 0)) := by
  obtain ⟨A, c, R1, x, R2, h1, rfl, rfl, rfl⟩ := h.out.split
  have H1 := hid h1
  have HL : Hid ((R1 ++ x :: R2).length < 1000000) := hid (by have := hl.out; simpa using this)
  have HF : Hid (findI x.page 0 (R1 ++ x :: R2) = (R1.length : Int)) := hid (by rw [findI_hit 0 (by rw [← visR_page]; exact hno.out), Nat.zero_add])
  have hz' : ¬ 0 < x.pins := of_decide_eq_false hz.out
  clear h1 hz
  show Calls _ _ #[ptr b, .int .i64 x.page] w _
  unfold ptr
  go_enter Try.func89, Try.ntmps89
  go_wp2_with fail
  refine (find_calls w base b room hit miss A c (R1 ++ x :: R2) x.page H1 HL).mono ?_
  rintro en w1 ⟨rfl, u1⟩
  rw [HF.out]
  have H2 := H1.out.up u1
  have HH2 := hid H2
  have c1 := H2.c1
  obtain ⟨g, rfl, hlt, _, q0, q1, q2, q3, qf⟩ := H2.at0 (Up.refl w1)
  have i1 : (0 : Int) ≤ (R1.length : Int) := by omega
  have i2 : (R1.length : Int) < ((R1 ++ x :: R2).length : Int) := by simp; omega
  have i3 : ¬ ((R1.length : Int) < 0) := by omega
  obtain ⟨n, hn⟩ : ∃ n, (R1 ++ x :: R2).length = n := ⟨_, rfl⟩
  rw [hn] at c1 i2
  have HN := hid hn
  have UB := hid (And.intro (u1.mono H1.out.bs) (frR_up (b := b) u1))
  clear H2 qf q0 q1 q3 hn u1
  go_wp2_with fail
  refine (rout_split w1 base b room hit miss (some ⟨g, 0, none⟩) c R1 R2 x HH2 HL).mono ?_
  rintro en w2 ⟨rfl, hh⟩
  go_wp2
  go_ret
  obtain ⟨A', c', k1, k2, k3, _⟩ := hh.out
  exact ⟨rfl, hid ⟨⟨_, _, _, k1, by rw [List.map_append]⟩, UB.out.1.trans k2, frR_trans UB.out.2 (frR_b k3)⟩⟩
theorem rdropNo_calls (w : World) (base b : Nat) (room hit miss : Int) (V1 V2 : List Vis) (v : Vis) (h : Hid (RefM w base b room hit miss (V1 ++ v :: V2))) (hno : Hid (v.1 ∉ V1.map (·.1))) (hl : Hid ((V1 ++ v :: V2).length < 1000000)) (hz : Hid (decide (0 < v.2.2.1) = true)) :
    Calls Try.prog 89 #[ptr b, .int .i64 v.1] w fun en w' => en = .returned (.int .i64 6) ∧ Up w w' := by
  obtain ⟨A, c, R1, x, R2, h1, rfl, rfl, rfl⟩ := h.out.split
  have H1 := hid h1
  have HL : Hid ((R1 ++ x :: R2).length < 1000000) := hid (by have := hl.out; simpa using this)
  have HF : Hid (findI x.page 0 (R1 ++ x :: R2) = (R1.length : Int)) := hid (by rw [findI_hit 0 (by rw [← visR_page]; exact hno.out), Nat.zero_add])
  have hz' : 0 < x.pins := of_decide_eq_true hz.out
  clear h1 hz
  show Calls _ _ #[ptr b, .int .i64 x.page] w _
  unfold ptr
  go_enter Try.func89, Try.ntmps89
  go_wp2_with fail
  refine (find_calls w base b room hit miss A c (R1 ++ x :: R2) x.page H1 HL).mono ?_
  rintro en w1 ⟨rfl, u1⟩
  rw [HF.out]
  have H2 := H1.out.up u1
  have c1 := H2.c1
  obtain ⟨g, rfl, hlt, _, q0, q1, q2, q3, qf⟩ := H2.at0 (Up.refl w1)
  have i1 : (0 : Int) ≤ (R1.length : Int) := by omega
  have i2 : (R1.length : Int) < ((R1 ++ x :: R2).length : Int) := by simp; omega
  have i3 : ¬ ((R1.length : Int) < 0) := by omega
  generalize (R1 ++ x :: R2).length = n at *
  clear H2 qf q0 q1 q3
  go_wp2
  go_ret
  exact ⟨rfl, u1⟩
theorem rdropMiss_calls (w : World) (base b : Nat) (room hit miss : Int) (V : List Vis) (p : Int) (h : Hid (RefM w base b room hit miss V)) (hno : Hid (p ∉ V.map (·.1))) (hl : Hid (V.length < 1000000)) :
    Calls Try.prog 89 #[ptr b, .int .i64 p] w fun en w' => en = .returned (.int .i64 5) ∧ Up w w' := by
  obtain ⟨A, c, R, h1, rfl⟩ := h.out
  have H1 := hid h1
  have HL : Hid (R.length < 1000000) := hid (by have := hl.out; rwa [List.length_map] at this)
  have HF : Hid (findI p 0 R = -1) := hid (findI_miss 0 (by rw [← visR_page]; exact hno.out))
  clear h1
  unfold ptr
  go_enter Try.func89, Try.ntmps89
  go_wp2_with fail
  refine (find_calls w base b room hit miss A c R p H1 HL).mono ?_
  rintro en w1 ⟨rfl, u1⟩
  rw [HF.out]
  go_wp2
  go_ret
  exact ⟨rfl, u1⟩

/-! ### Peek -/
theorem rpeekMiss_calls (w : World) (base b : Nat) (room hit miss : Int) (V : List Vis) (p : Int) (h : Hid (RefM w base b room hit miss V)) (hno : Hid (p ∉ V.map (·.1))) (hl : Hid (V.length < 1000000)) :
    Calls Try.prog 85 #[ptr b, .int .i64 p] w fun en w' => en = .returned (.tuple #[.slice none 0 0, .bool false]) ∧ Up w w' := by
  obtain ⟨A, c, R, h1, rfl⟩ := h.out
  have H1 := hid h1
  have HL : Hid (R.length < 1000000) := hid (by have := hl.out; rwa [List.length_map] at this)
  have HF : Hid (findI p 0 R = -1) := hid (findI_miss 0 (by rw [← visR_page]; exact hno.out))
  clear h1
  unfold ptr
  go_enter Try.func85, Try.ntmps85
  go_wp2_with fail
  refine (find_calls w base b room hit miss A c R p H1 HL).mono ?_
  rintro en w1 ⟨rfl, u1⟩
  rw [HF.out]
  go_wp2
  go_ret2
  exact ⟨rfl, u1⟩
set_option maxHeartbeats 1000000 in
theorem rpeekHit_calls (w : World) (base b : Nat) (room hit miss : Int) (V1 V2 : List Vis) (v : Vis) (h : Hid (RefM w base b room hit miss (V1 ++ v :: V2))) (hno : Hid (v.1 ∉ V1.map (·.1))) (hl : Hid ((V1 ++ v :: V2).length < 1000000)) :
    Calls Try.prog 85 #[ptr b, .int .i64 v.1] w fun en w' => ∃ A c, en = .returned (.tuple #[.slice A 512 c, .bool true]) ∧ Hid (Bytes w' A v.2.1) ∧ Up w w' := by
  obtain ⟨A, c, R1, x, R2, h1, rfl, rfl, rfl⟩ := h.out.split
  have H1 := hid h1
  have HL : Hid ((R1 ++ x :: R2).length < 1000000) := hid (by have := hl.out; simpa using this)
  have HF : Hid (findI x.page 0 (R1 ++ x :: R2) = (R1.length : Int)) := hid (by rw [findI_hit 0 (by rw [← visR_page]; exact hno.out), Nat.zero_add])
  clear h1
  show Calls _ _ #[ptr b, .int .i64 x.page] w _
  unfold ptr
  go_enter Try.func85, Try.ntmps85
  go_wp2_with fail
  refine (find_calls w base b room hit miss A c (R1 ++ x :: R2) x.page H1 HL).mono ?_
  rintro en w1 ⟨rfl, u1⟩
  rw [HF.out]
  have H2 := H1.out.up u1
  have u2 : Up w1 (w1.alloc (.cells #[] 5)) := (Below.refl _ _).alloc (Nat.le_refl _) _
  have c1 := u2.c H2.c1
  obtain ⟨g, rfl, hlt, _, q0, q1, q2, q3, qf⟩ := H2.at0 u2
  have i1 : (0 : Int) ≤ (R1.length : Int) := by omega
  have i2 : (R1.length : Int) < ((R1 ++ x :: R2).length : Int) := by simp; omega
  have i3 : ¬ ((R1.length : Int) < 0) := by omega
  have HX := hid (H2.data x (by simp))
  generalize (R1 ++ x :: R2).length = n at *
  have HU := hid (And.intro u1 u2)
  clear H2 qf q0 q2 q3 u1 u2
  go_wp2_with (at_builtin; refine hold ?_)
  have O1 := own_lit0 w1 w1.heap.size 5 1 (Nat.le_refl _)
  refine hid (wl_append elemB rfl (.tmp 12) (.tmp 20) rfl rfl O1 rfl ((Rd.own HX.out).grown HU.out.2) (by have := HX.out.1; simpa using this) (byteCells_one _) (by simp only [maxLen]; omega) (by omega) HU.out.2.size ?_)
  intro A1 k1 w2 o1 g1 _
  have u3 : Up w1 w2 := below_append HU.out.2 (Nat.le_refl _) HU.out.2.size O1 g1
  simp only [Nat.zero_add, List.nil_append] at o1
  rw [Nat.zero_add]
  have O2 := hid o1
  have U3 := hid (HU.out.1.t u3)
  clear o1 g1 O1 u3 q1 c1
  go_wp2
  go_ret2
  exact ⟨A1, k1, rfl, hid (Rd.bytes (Rd.own O2.out)), U3.out⟩
end Go.Proofs.Ytlikggeceeennaa
