/- THE WALK of FreeActs. -/
import Derived.Test.YtbcghggkfnagoaaGreatDoorFAc7
set_option linter.unusedVariables false
set_option linter.unusedSimpArgs false
namespace Go.Proofs.YtbcghggkfnagoaaGreatDoor
open Go Go.RowKit Go.Maps Hach

theorem doc_new (w : World) (base : Nat) (h : base ≤ w.heap.size) : DocW (w.alloc (.cells (docCs (.slice none 0 0) 1 (wordsC fun _ => 0)) 99)) base w.heap.size 1 [] (wordsC fun _ => 0) :=
  ⟨[], none, 0, ⟨heap_alloc_new w _, h, Rd.nil _ _, fun b off e => (by cases e), Nat.le_refl _, fun d hd => (by cases hd)⟩, rfl⟩
set_option maxRecDepth 100000 in
set_option maxHeartbeats 8000000 in
theorem freeActs_walk (w : World) (A : Option Addr) (xs : List ActV8) (c : Nat) (hl : Hid (xs.length ≤ 9223372036854775807)) (hb : Hid (Rd w A (xs.flatMap actC8))) (hq : Hid (∀ x ∈ xs, ActWf8 x)) :
    Calls Tryz.prog 8 #[.slice A xs.length c] w fun en w' => en = .returned (.bool true) ∧ Below w.heap.size w w' := by
  obtain ⟨M, hM⟩ : ∃ M, xs.length = M := ⟨_, rfl⟩
  have HM := hid hM
  rw [hM]
  clear hM
  by_cases h400 : (400 : Int) < (M : Int)
  · go_enter Tryz.func8, Tryz.ntmps8
    go_wp2_with (go_at_call 13; refine (lives8_calls w).mono ?_; rintro en w1 ⟨rfl, u1⟩)
    have U1 := hid u1
    clear u1
    go_wp2
    go_ret
    exact ⟨rfl, U1.out⟩
  · have M400 : Hid (M ≤ 400) := hid (by omega)
    go_enter Tryz.func8, Tryz.ntmps8
    go_wp2_with (go_at_call 14; refine (freshH_calls w).mono ?_; rintro en w1 ⟨X, rfl, h1⟩)
    have START : Hid (ActI (w1.alloc (.cells (docCs (.slice none 0 0) 1 (wordsC fun _ => 0)) 99)) X w.heap.size w1.heap.size 1 [] (fun _ => 0) [] none 0 0 ∧ Qt w.heap.size w (w1.alloc (.cells (docCs (.slice none 0 0) 1 (wordsC fun _ => 0)) 99)) ∧ 1 ≤ 1 + 0) := hid (by
      obtain ⟨k1, k2, k3, k4⟩ := h1.out
      have u2 := upAlD (Up.refl w1) (.cells (docCs (.slice none 0 0) 1 (wordsC fun _ => 0)) 99)
      exact ⟨⟨⟨_, k1.up u2⟩, doc_new w1 _ k2.size, ⟨Rd.nil _ _, fun b off e => (by cases e)⟩, rfl, Nat.le_refl _, List.nodup_nil, fun x hx => (by cases hx), fun t ht => (by cases ht), ⟨k3.1, k4.1, Nat.le_trans k2.size u2.size⟩⟩, Qt.up (k2.t u2) (Nat.le_refl _), Nat.le_refl _⟩)
    obtain ⟨m, hm⟩ : ∃ m, w1.heap.size = m := ⟨_, rfl⟩
    rw [hm] at START ⊢
    clear h1 hm
    go_loopw [7, 29] (fun tv iv wr => ∃ (j k : Nat) (A1 : Option Addr) (c1 : Nat) (l : List Nat) (n : Nat) (T : List Trk) (W : Nat → Int), tv = .slice A1 k c1 ∧ iv = .int .i64 j ∧ j ≤ M ∧ Hid (ActI wr X w.heap.size m n T W l A1 k c1 ∧ Qt w.heap.size w wr ∧ n ≤ 1 + j)) (fun _ iv _ => M - (intOf iv).toNat)
    case atStart => exact ⟨0, 0, none, 0, [], 1, [], _, rfl, rfl, Nat.zero_le _, START⟩
    case round =>
      clear START
      obtain ⟨j, k, A1, c1, l, n, T, W, rfl, rfl, hj, iv⟩ := hrel
      by_cases hlt : (j : Int) < M
      · obtain ⟨x, hx⟩ : ∃ x, xs[j]? = some x := ⟨_, List.getElem?_eq_getElem (by have := HM.out; omega)⟩
        obtain ⟨gb, go, rfl, hcells⟩ := hb.out.row (f := actC8) (k := 3) actC8_len hx (by decide)
        have hcw : ∀ j' u, (actC8 x)[j']? = some u → wr.cell? ⟨gb, go + (j * 3 + j'), none⟩ = some u := fun j' u hu => by
          have := hcells j' u hu
          rw [iv.out.2.1.low.cell (p := ⟨gb, go + (j * 3 + j'), none⟩) (World.block_lt_of_cell? _ _ this)]
          exact this
        have x0 := hcw 0 _ rfl
        have x1 := hcw 1 _ rfl
        have x2 := hcw 2 _ rfl
        rw [Nat.add_zero] at x0
        rw [← Nat.add_assoc] at x1 x2
        have WF := hid (hq.out x (List.mem_of_getElem? hx))
        have JM : Hid (j < M ∧ M ≤ 400) := hid (by have := M400.out; omega)
        have IV := iv
        obtain ⟨wb, hwb⟩ : ∃ wb, wr.alloc (.cells #[.int .i64 x.a, .int .i64 x.b, .int .i64 x.c] 101) = wb := ⟨_, rfl⟩
        obtain ⟨bx, hbx⟩ : ∃ b, wr.heap.size = b := ⟨_, rfl⟩
        have ub : Up wr wb := by rw [← hwb]; exact upAlD (Up.refl wr) _
        have hbb : BoxA wb bx x.a x.b x.c := by rw [← hwb, ← hbx]; exact heap_alloc_new wr _
        obtain ⟨y0, y1, y2⟩ := hbb.cells
        have CA := act_calls wb X w.heap.size m n T W l A1 k c1 x (hid (IV.out.1.up ub)) (hid (by have := IV.out.2.2; have := JM.out; omega)) WF
        have UB := hid ub
        clear iv hx hcells hcw ub hbb hj
        go_wp2_with fail
        refine CA.mono ?_
        rintro en w2 ⟨n', T', W', l', A', k', c', rfl, hr⟩
        have NEXT : Hid (ActI w2 X w.heap.size m n' T' W' l' A' k' c' ∧ Qt w.heap.size w w2 ∧ n' ≤ 1 + (j + 1)) := hid ⟨hr.out.1, (IV.out.2.1.trans (Qt.up UB.out IV.out.1.low.2.2)).trans hr.out.2.1, by have := hr.out.2.2; have := IV.out.2.2; omega⟩
        obtain ⟨U2, hU2⟩ := hr.out.1.heap
        have CP := fun w' hu => hpagesW_calls w' X n' T' W' U2 (hid (hU2.up (w' := w') hu))
        have cn : w2.cell? ⟨m, 1, none⟩ = some (.int .i64 n') := by obtain ⟨D, A9, c9, hd9, _⟩ := hr.out.1.doc; exact hd9.c1
        clear hr CA hU2 x0 x1 x2 y0 y1 y2
        go_wp2
        have US : Up w2 w2.drew := Up.drew w2
        refine s_start (fun w9 => Up w2 w9) (by kernel_rfl) ?_
        refine s_take 0 (some 41) (v := ?_) US rfl rfl (by kernel_rfl) (by kernel_rfl) (by kernel_rfl) (fun _ _ _ h => h) (by rfl) (fun w9 hS => ?_) ?_
        rotate_left
        · go_simp <;> with_reducible rfl
        try simp only [Act.put, List.setIfInBounds_toArray, List.set_cons_zero, List.set_cons_succ]
        refine s_take 1 (some 42) (v := ?_) US rfl rfl (by kernel_rfl) (by kernel_rfl) (by kernel_rfl) (fun _ _ _ h => h) (by rfl) (fun w9 hS => ?_) ?_
        rotate_left
        · go_simp <;> with_reducible rfl
        try simp only [Act.put, List.setIfInBounds_toArray, List.set_cons_zero, List.set_cons_succ]
        refine s_take 2 (some 43) (v := ?_) US rfl rfl (by kernel_rfl) (by kernel_rfl) (by kernel_rfl) (fun _ _ _ h => h) (by rfl) (fun w9 hS => ?_) ?_
        rotate_left
        · go_simp <;> with_reducible rfl
        try simp only [Act.put, List.setIfInBounds_toArray, List.set_cons_zero, List.set_cons_succ]
        refine s_take 3 (some 44) (v := ?_) US rfl rfl (by kernel_rfl) (by kernel_rfl) (by kernel_rfl) (fun _ _ _ h => h) (by rfl) (fun w9 hS => ?_) ?_
        rotate_left
        · go_simp <;> with_reducible rfl
        try simp only [Act.put, List.setIfInBounds_toArray, List.set_cons_zero, List.set_cons_succ]
        refine s_take 5 (some 46) (v := ?_) US rfl rfl (by kernel_rfl) (by kernel_rfl) (by kernel_rfl) (fun _ _ _ h => h) (by rfl) (fun w9 hS => ?_) ?_
        rotate_left
        · go_simp <;> with_reducible rfl
        try simp only [Act.put, List.setIfInBounds_toArray, List.set_cons_zero, List.set_cons_succ]
        refine s_take 6 (some 47) (v := ?_) US rfl rfl (by kernel_rfl) (by kernel_rfl) (by kernel_rfl) (fun _ _ _ h => h) (by rfl) (fun w9 hS => ?_) ?_
        rotate_left
        · go_simp <;> with_reducible rfl
        try simp only [Act.put, List.setIfInBounds_toArray, List.set_cons_zero, List.set_cons_succ]
        refine s_take 7 (some 48) (v := ?_) US rfl rfl (by kernel_rfl) (by kernel_rfl) (by kernel_rfl) (fun _ _ _ h => h) (by rfl) (fun w9 hS => ?_) ?_
        rotate_left
        · go_simp <;> with_reducible rfl
        try simp only [Act.put, List.setIfInBounds_toArray, List.set_cons_zero, List.set_cons_succ]
        refine s_take 8 (some 49) (v := ?_) US rfl rfl (by kernel_rfl) (by kernel_rfl) (by kernel_rfl) (fun _ _ _ h => h) (by rfl) (fun w9 hS => ?_) ?_
        rotate_left
        · have s1 := hS.c cn; go_simp <;> with_reducible rfl
        try simp only [Act.put, List.setIfInBounds_toArray, List.set_cons_zero, List.set_cons_succ]
        refine s_op 4 (by kernel_rfl) rfl (by rfl) (fun K9 hK9 => ?_)
        go_simp
        refine (CP _ US).mono ?_
        rintro en w3 ⟨rfl, hw⟩
        obtain rfl := hw
        refine hK9.out _ _ US ?_
        clear hK9 K9
        try simp only [Act.put, List.setIfInBounds_toArray, List.set_cons_zero, List.set_cons_succ]
        refine s_take 9 (some 50) (v := ?_) US rfl rfl (by kernel_rfl) (by kernel_rfl) (by kernel_rfl) (fun _ _ _ h => h) (by rfl) (fun w9 hS => ?_) ?_
        rotate_left
        · go_simp <;> with_reducible rfl
        try simp only [Act.put, List.setIfInBounds_toArray, List.set_cons_zero, List.set_cons_succ]
        refine s_take 10 (some 51) (v := ?_) US rfl rfl (by kernel_rfl) (by kernel_rfl) (by kernel_rfl) (fun _ _ _ h => h) (by rfl) (fun w9 hS => ?_) ?_
        rotate_left
        · go_simp <;> with_reducible rfl
        try simp only [Act.put, List.setIfInBounds_toArray, List.set_cons_zero, List.set_cons_succ]
        refine s_done (by kernel_rfl) ?_
        have NX : Hid (ActI w2.drew X w.heap.size m n' T' W' l' A' k' c' ∧ Qt w.heap.size w w2.drew ∧ n' ≤ 1 + (j + 1)) := hid ⟨NEXT.out.1.up (Up.drew w2), NEXT.out.2.1.trans (Qt.up (Up.drew w2) NEXT.out.1.low.2.2), NEXT.out.2.2⟩
        clear US CP cn
        go_wp2
        go_roundw
        case rel => exact ⟨j + 1, k', A', c', l', n', T', W', rfl, by first | rfl | rw [wS (K := j + 1) (by have := JM.out; omega) rfl], JM.out.1, NX⟩
        case measure => have := JM.out; first | rw [wS (K := j + 1) (by omega) rfl] | skip
                        simp only [intOf]; omega
      · have IV := iv
        obtain ⟨U, hU⟩ := iv.out.1.heap
        have TN : Hid ((allT T).length ≤ n ∧ n ≤ 401) := hid ⟨iv.out.1.sizes.1, by have := iv.out.2.2; have := M400.out; omega⟩
        have CA := allH_calls wr X n T W U (hid hU) (hid (by have := TN.out; omega))
        have HU := hid hU
        clear iv hU hj
        go_wp2_with fail
        refine CA.mono ?_
        rintro en w3 ⟨A3, c3, k3, rfl, hr⟩
        have U3 := hid hr.out.2.2
        have K3 := hid hr.out.1
        have R3 := hid (Rd.own hr.out.2.1)
        clear hr CA
        go_wp2_with fail
        refine (countH_calls w3 X n T W U (hid (HU.out.up U3.out)) (hid (by have := TN.out; omega))).mono ?_
        rintro en w4 ⟨rfl, u4⟩
        have U4 : Hid (Up wr w4) := hid (U3.out.t u4.out)
        have R4 := hid (R3.out.grown u4.out)
        have CD : Calls Tryz.prog 57 #[.pointer (some ⟨m, 0, none⟩)] w4 (DAllRet w4 T) := by
          obtain ⟨D, A9, c9, hd9, e9⟩ := IV.out.1.doc.up U4.out
          have hlen : D.length ≤ (allT (D.map dtT)).length := by
            clear hd9 e9
            induction D with
            | nil => simp
            | cons a r ih => rw [List.map_cons, allT_cons]; simp only [List.length_cons, List.length_append]; omega
          rw [e9]
          exact dall_calls w4 w.heap.size m n D _ A9 c9 (hid hd9) (hid (by rw [← e9]; have := TN.out; omega)) (hid (by rw [← e9] at hlen; have := TN.out; omega))
        obtain ⟨N, hN⟩ : ∃ N, (allT T).length = N := ⟨_, rfl⟩
        have HN := hid hN
        rw [hN]
        have k3N : k3 = N := K3.out.trans hN
        subst k3N
        clear hN u4
        go_wp2_with fail
        refine CD.mono ?_
        rintro en w5 ⟨A5, c5, k5, rfl, hr⟩
        have U5 : Hid (Up wr w5) := hid (U4.out.t hr.out.2.2)
        have CI := intsN_calls w5 A3 A5 (allT T) k3 k5 c3 c5 (hid HN.out.symm) (hid hr.out.1) (hid (by have := TN.out; omega)) (hid (R4.out.grown hr.out.2.2)) (hid (Rd.own hr.out.2.1))
        clear hr CD
        go_wp2_with fail
        refine CI.mono ?_
        rintro en w6 ⟨rfl, u6⟩
        have U6 : Hid (Up wr w6) := hid (U5.out.t u6)
        clear u6 CI
        go_wp2_with fail
        refine (lives8_calls _).mono ?_
        rintro en w7 ⟨rfl, u7⟩
        have FIN : Hid (Below w.heap.size w w7) := hid ((IV.out.2.1.trans (Qt.up (U6.out.t u7) IV.out.1.low.2.2)).low)
        clear u7
        go_wp2
        go_ret
        exact ⟨rfl, FIN.out⟩
end Go.Proofs.YtbcghggkfnagoaaGreatDoor
