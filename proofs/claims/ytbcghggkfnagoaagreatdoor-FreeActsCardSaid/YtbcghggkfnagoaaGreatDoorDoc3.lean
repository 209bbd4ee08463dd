/- THE DOCUMENT's HEAP: Give. THE DOCUMENT's HEAP: All. -/
import Derived.Test.YtbcghggkfnagoaaGreatDoorDoc1
import Derived.Test.YtbcghggkfnagoaaGreatDoorFreE
set_option linter.unusedVariables false
set_option linter.unusedSimpArgs false
namespace Go.Proofs.YtbcghggkfnagoaaGreatDoor
open Go Go.RowKit Go.Maps Hach

theorem own_lit0_at (w : World) (base : Nat) (e : TypeId) (size g : Nat) (hb : base ≤ w.heap.size) (hg : w.heap.size = g) : (w.alloc (.cells #[] e)).ownsRow base e size (.slice (some ⟨g, 0, none⟩) 0 0) 0 [] := by
  subst hg; exact own_lit0 w base e size hb
theorem own_obj0 {w : World} {base : Nat} {e : TypeId} {size n : Nat} {v : Value} {xs : List Value} (h : w.ownsRow base e size v n xs) {k : Nat} (hk : v.ownBlock = some k) : base ≤ k ∧ ∃ cs, w.heap[k]? = some (.cells cs e (0, 0)) := by
  rcases h.2 with ⟨hv, _⟩ | ⟨g, cap, cur, hv, hb, hg, _⟩
  · subst hv; cases hk
  · subst hv
    obtain rfl := Option.some.inj hk
    exact ⟨hb, _, hg⟩
set_option maxRecDepth 100000 in
set_option maxHeartbeats 2000000 in
theorem dgiveBad_calls (w : World) (base m n : Nat) (T : List Trk) (ws : List Value) (i : Int) (h : Hid (DocW w base m n T ws)) (hi : Hid (i < 2 ∨ (n : Int) < i)) :
    Calls Tryz.prog 126 #[.pointer (some ⟨m, 0, none⟩), .int .i64 i] w fun en w' => en = .returned (.int .i64 2) ∧ w' = w := by
  obtain ⟨D, A, c, hd, rfl⟩ := h.out
  have e1 := hd.c1
  clear hd h
  by_cases h1 : i < 2
  · go_enter Tryz.func126, Tryz.ntmps126
    go_wp2
    go_ret
    exact ⟨rfl, rfl⟩
  · have h2 := hi.out.resolve_left h1
    go_enter Tryz.func126, Tryz.ntmps126
    go_wp2
    go_ret
    exact ⟨rfl, rfl⟩
set_option maxRecDepth 100000 in
set_option maxHeartbeats 2000000 in
theorem dgive1_calls (w : World) (base m n : Nat) (d : DT) (r : List DT) (ws : List Value) (A : Option Addr) (c : Nat) (i : Nat) (h : Hid (DocAt w base m n (d :: r) ws A c)) (hi : Hid (2 ≤ i ∧ i ≤ n)) (hls : Hid (d.ls.length < 126)) :
    Calls Tryz.prog 126 #[.pointer (some ⟨m, 0, none⟩), .int .i64 i] w (DocStep w base m n ((d.page, d.ls ++ [i]) :: r.map dtT) ws (.int .i64 0)) := by
  obtain ⟨b, off, rfl, r0, r1, fb⟩ := h.out.head
  have e0 := h.out.c0
  have e1 := h.out.c1
  obtain ⟨hrd, hk, hty⟩ := h.out.lvs d List.mem_cons_self
  obtain ⟨K, hK⟩ : ∃ K, (d :: r).length = K := ⟨_, rfl⟩
  obtain ⟨N, hN⟩ : ∃ N, d.ls.length = N := ⟨_, rfl⟩
  have HN : Hid (d.ls.length = N) := hid hN
  rw [hK] at e0
  rw [hN] at r1
  have RD := hid hrd
  have K0 : (0 : Int) < K := by have : K = r.length + 1 := by rw [← hK]; rfl
                                omega
  have i1 : ¬ (i : Int) < 2 := by have := hi.out; omega
  have i2 : ¬ (n : Int) < (i : Int) := by have := hi.out; omega
  have N1 : (N : Int) < 126 := by have := hls.out; omega
  have NB : Hid (N < 126) := hid (by have := hls.out; omega)
  clear hK hN hrd hk hty
  go_enter Tryz.func126, Tryz.ntmps126
  go_wp2
  -- REGION4
  have US : Up w w.drew := Up.drew w
  refine t_start (fun w9 => Up w w9) 18 (by kernel_rfl) ?_
  refine t_take 0 (some 32) (v := ?_) US rfl rfl (by kernel_rfl) (by kernel_rfl) (by kernel_rfl) (by kernel_rfl) (fun _ _ _ h => h) (by rfl) (fun w9 hS => ?_) ?_
  rotate_left
  · go_simp <;> with_reducible rfl
  try simp only [Act.put, List.setIfInBounds_toArray, List.set_cons_zero, List.set_cons_succ]
  refine t_take 1 (some 33) (v := ?_) US rfl rfl (by kernel_rfl) (by kernel_rfl) (by kernel_rfl) (by kernel_rfl) (fun _ _ _ h => h) (by rfl) (fun w9 hS => ?_) ?_
  rotate_left
  · go_simp <;> with_reducible rfl
  try simp only [Act.put, List.setIfInBounds_toArray, List.set_cons_zero, List.set_cons_succ]
  refine t_take 2 (some 34) (v := ?_) US rfl rfl (by kernel_rfl) (by kernel_rfl) (by kernel_rfl) (by kernel_rfl) (fun _ _ _ h => h) (by rfl) (fun w9 hS => ?_) ?_
  rotate_left
  · go_simp <;> with_reducible rfl
  try simp only [Act.put, List.setIfInBounds_toArray, List.set_cons_zero, List.set_cons_succ]
  refine t_take 3 (some 35) (v := ?_) US rfl rfl (by kernel_rfl) (by kernel_rfl) (by kernel_rfl) (by kernel_rfl) (fun _ _ _ h => h) (by rfl) (fun w9 hS => ?_) ?_
  rotate_left
  · have e9 := hS.c e0; go_simp <;> with_reducible rfl
  try simp only [Act.put, List.setIfInBounds_toArray, List.set_cons_zero, List.set_cons_succ]
  refine t_take 5 (some 37) (v := ?_) US rfl rfl (by kernel_rfl) (by kernel_rfl) (by kernel_rfl) (by kernel_rfl) (fun _ _ _ h => h) (by rfl) (fun w9 hS => ?_) ?_
  rotate_left
  · go_simp <;> with_reducible rfl
  try simp only [Act.put, List.setIfInBounds_toArray, List.set_cons_zero, List.set_cons_succ]
  refine t_take 6 (some 38) (v := ?_) US rfl rfl (by kernel_rfl) (by kernel_rfl) (by kernel_rfl) (by kernel_rfl) (fun _ _ _ h => h) (by rfl) (fun w9 hS => ?_) ?_
  rotate_left
  · go_simp <;> with_reducible rfl
  try simp only [Act.put, List.setIfInBounds_toArray, List.set_cons_zero, List.set_cons_succ]
  refine t_take 7 (some 39) (v := ?_) US rfl rfl (by kernel_rfl) (by kernel_rfl) (by kernel_rfl) (by kernel_rfl) (fun _ _ _ h => h) (by rfl) (fun w9 hS => ?_) ?_
  rotate_left
  · go_simp <;> with_reducible rfl
  try simp only [Act.put, List.setIfInBounds_toArray, List.set_cons_zero, List.set_cons_succ]
  refine t_take 8 (some 40) (v := ?_) US rfl rfl (by kernel_rfl) (by kernel_rfl) (by kernel_rfl) (by kernel_rfl) (fun _ _ _ h => h) (by rfl) (fun w9 hS => ?_) ?_
  rotate_left
  · have e9 := hS.c e0; go_simp <;> with_reducible rfl
  try simp only [Act.put, List.setIfInBounds_toArray, List.set_cons_zero, List.set_cons_succ]
  refine t_take 9 (some 41) (v := ?_) US rfl rfl (by kernel_rfl) (by kernel_rfl) (by kernel_rfl) (by kernel_rfl) (fun _ _ _ h => h) (by rfl) (fun w9 hS => ?_) ?_
  rotate_left
  · go_simp <;> with_reducible rfl
  try simp only [Act.put, List.setIfInBounds_toArray, List.set_cons_zero, List.set_cons_succ]
  refine t_take 10 (some 42) (v := ?_) US rfl rfl (by kernel_rfl) (by kernel_rfl) (by kernel_rfl) (by kernel_rfl) (fun _ _ _ h => h) (by rfl) (fun w9 hS => ?_) ?_
  rotate_left
  · go_simp <;> with_reducible rfl
  try simp only [Act.put, List.setIfInBounds_toArray, List.set_cons_zero, List.set_cons_succ]
  refine t_take 11 (some 43) (v := ?_) US rfl rfl (by kernel_rfl) (by kernel_rfl) (by kernel_rfl) (by kernel_rfl) (fun _ _ _ h => h) (by rfl) (fun w9 hS => ?_) ?_
  rotate_left
  · have e9 := hS.c r1; go_simp <;> with_reducible rfl
  try simp only [Act.put, List.setIfInBounds_toArray, List.set_cons_zero, List.set_cons_succ]
  refine t_take 13 (some 45) (v := ?_) US rfl rfl (by kernel_rfl) (by kernel_rfl) (by kernel_rfl) (by kernel_rfl) (fun _ _ _ h => h) (by rfl) (fun w9 hS => ?_) ?_
  rotate_left
  · go_simp <;> with_reducible rfl
  try simp only [Act.put, List.setIfInBounds_toArray, List.set_cons_zero, List.set_cons_succ]
  refine t_two 4 14 (by kernel_rfl) rfl rfl (by rfl) (by rfl) (fun K9 hK9 => ?_) (fun K9 hK9 => ?_)
  · go_simp
    have O4 := hid (own_lit0 w.drew w.heap.size 3 1 (Nat.le_refl _))
    replace US : Up w (w.drew.alloc (.cells #[] 3)) := upAlD (Up.drew w) _
    refine hK9.out _ _ US ?_
    clear hK9 K9
    try simp only [Act.put, List.setIfInBounds_toArray, List.set_cons_zero, List.set_cons_succ]
    refine t_two 12 14 (by kernel_rfl) rfl rfl (by rfl) (by rfl) (fun K9 hK9 => ?_) (fun K9 hK9 => ?_)
    · show Oper.wp _ ⟨some 44, _, _, _, _, _⟩ _ _ _ _
      refine wp_append elemIN (.tmp 36) (.tmp 43) rfl rfl O4.out rfl (RD.out.grown US) (by rw [List.length_map, HN.out, Nat.mul_one]) (natCell_one _) (by have := NB.out; simp only [maxLen]; omega) (by have := NB.out; omega) US.size ?_
      intro A4 c4 w4 o9 g9 d9
      have O4b := hid o9
      replace US : Up w w4 := below_append US (Nat.le_refl _) US.size O4.out g9
      clear o9 g9 d9
      rw [Nat.zero_add]
      refine hK9.out _ _ US ?_
      clear hK9 K9
      try simp only [Act.put, List.setIfInBounds_toArray, List.set_cons_zero, List.set_cons_succ]
      refine t_op 14 (by kernel_rfl) rfl (by rfl) (fun K9 hK9 => ?_)
      go_simp
      have R15 : Hid (Rd (w4.alloc (.cells #[.int .i64 i] 3)) (some ⟨w4.heap.size, 0, none⟩) [.int .i64 i]) := hid (Rd.new w4 3 (0, 0) [.int .i64 i])
      have O4c := hid (World.ownsRow.alloc O4b.out (.cells #[.int .i64 i] 3))
      clear O4b
      have O4b := O4c
      replace US : Up w (w4.alloc (.cells #[.int .i64 i] 3)) := upAlD US _
      refine hK9.out _ _ US ?_
      clear hK9 K9
      try simp only [Act.put, List.setIfInBounds_toArray, List.set_cons_zero, List.set_cons_succ]
      refine t_op 15 (by kernel_rfl) rfl (by rfl) (fun K9 hK9 => ?_)
      have o4 := O4b.out
      rw [Nat.zero_add, List.nil_append] at o4
      show Oper.wp _ ⟨some 47, _, _, _, _, _⟩ _ _ _ _
      refine wp_append elemIN (.tmp 44) (.tmp 46) rfl rfl o4 rfl R15.out rfl (by simp [Value.oneCell']) (by have := NB.out; simp only [maxLen]; omega) (by have := NB.out; omega) US.size ?_
      intro A5 c5 w5 o9 g9 d9
      have O5 := hid o9
      replace US : Up w w5 := below_append US (Nat.le_refl _) US.size o4 g9
      clear o9 g9 d9 o4
      refine hK9.out _ _ US ?_
      clear hK9 K9
      try simp only [Act.put, List.setIfInBounds_toArray, List.set_cons_zero, List.set_cons_succ]
      refine t_op 16 (by kernel_rfl) rfl (by rfl) (fun K9 hK9 => ?_)
      go_simp
      refine hK9.out _ _ US ?_
      clear hK9 K9
      try simp only [Act.put, List.setIfInBounds_toArray, List.set_cons_zero, List.set_cons_succ]
      refine t_take 17 (some 49) (v := ?_) US rfl rfl (by kernel_rfl) (by kernel_rfl) (by kernel_rfl) (by kernel_rfl) (fun _ _ _ h => h) (by rfl) (fun w9 hS => ?_) ?_
      rotate_left
      · go_simp <;> with_reducible rfl
      try simp only [Act.put, List.setIfInBounds_toArray, List.set_cons_zero, List.set_cons_succ]
      refine t_last (by kernel_rfl) rfl (by rfl) (fun K9 hK9 => ?_)
      have e9 := US.c r1
      have f9 : w5.frozen? ⟨b, off + 1, none⟩ = false := (h.out.up US).head.elim fun b9 h9 => by obtain ⟨o9, e9, _, _, f9⟩ := h9; injection e9 with e9; injection e9 with e91 e92 _; subst e91; subst e92; exact f9
      go_simp
      refine hK9.out _ _ ?_
      clear hK9 K9
      try simp only [Act.put, List.setIfInBounds_toArray, List.set_cons_zero, List.set_cons_succ]
      refine t_done (by kernel_rfl) ?_
      have S1 := hid ((h.out.up US).setHead (B := A5) (k := c5) (ls := d.ls ++ [i]) (by
        have h5 := O5.out
        refine ⟨by rw [List.map_append]; exact Rd.own h5, ?_, fun b9 o9 e9 => ?_⟩
        · obtain ⟨_, _, e9, h9⟩ := own_form h5
          injection e9 with _ _ e9
          rw [List.length_append, HN.out, e9]; exact h9
        · subst e9; exact own_obj h5 rfl))
      rw [List.length_append, HN.out] at S1
      have RES : Hid (DocW _ base m n ((d.page, d.ls ++ [i]) :: r.map dtT) ws ∧ Fr (DocB w base m) w _) := hid ⟨⟨_, _, _, S1.out.1, rfl⟩, ((Fr.of_below US).mono (fun _ e => e.elim)).trans' (S1.out.2.mono (fun k e => by subst e; obtain ⟨h1, cs, hb⟩ := h.out.rowB k off rfl; exact ⟨h1, .inr ⟨cs, hb⟩⟩))⟩
      clear S1 US
      go_wp2
      go_ret
      exact ⟨rfl, RES⟩
    · go_simp
      have O14 := hid (World.ownsRow.alloc O4.out (.cells #[.int .i64 i] 3))
      have R14 : Hid (Rd ((w.drew.alloc (.cells #[] 3)).alloc (.cells #[.int .i64 i] 3)) (some ⟨w.heap.size + 1, 0, none⟩) [.int .i64 i]) := hid (by have := Rd.new (w.drew.alloc (.cells #[] 3)) 3 (0, 0) [.int .i64 i]; simpa using this)
      replace US : Up w ((w.drew.alloc (.cells #[] 3)).alloc (.cells #[.int .i64 i] 3)) := upAlD US _
      refine hK9.out _ _ US ?_
      clear hK9 K9
      try simp only [Act.put, List.setIfInBounds_toArray, List.set_cons_zero, List.set_cons_succ]
      refine t_op 12 (by kernel_rfl) rfl (by rfl) (fun K9 hK9 => ?_)
      show Oper.wp _ ⟨some 44, _, _, _, _, _⟩ _ _ _ _
      refine wp_append elemIN (.tmp 36) (.tmp 43) rfl rfl O14.out rfl (RD.out.grown US) (by rw [List.length_map, HN.out, Nat.mul_one]) (natCell_one _) (by have := NB.out; simp only [maxLen]; omega) (by have := NB.out; omega) US.size ?_
      intro A4 c4 w4 o9 g9 d9
      have R15 : Hid (Rd w4 (some ⟨w.heap.size + 1, 0, none⟩) [.int .i64 i]) := hid (R14.out.fr (Fr.of_grown g9) (fun b9 o9 e9 h9 => by injection e9 with e9; injection e9 with e9 _ _; have h8 := Option.some.inj h9; have h7 : b9 = w.heap.size := h8; omega))
      have O4b := hid o9
      replace US : Up w w4 := below_append US (Nat.le_refl _) US.size O14.out g9
      clear o9 g9 d9
      rw [Nat.zero_add]
      refine hK9.out _ _ US ?_
      clear hK9 K9
      try simp only [Act.put, List.setIfInBounds_toArray, List.set_cons_zero, List.set_cons_succ]
      refine t_op 15 (by kernel_rfl) rfl (by rfl) (fun K9 hK9 => ?_)
      have o4 := O4b.out
      rw [Nat.zero_add, List.nil_append] at o4
      show Oper.wp _ ⟨some 47, _, _, _, _, _⟩ _ _ _ _
      refine wp_append elemIN (.tmp 44) (.tmp 46) rfl rfl o4 rfl R15.out rfl (by simp [Value.oneCell']) (by have := NB.out; simp only [maxLen]; omega) (by have := NB.out; omega) US.size ?_
      intro A5 c5 w5 o9 g9 d9
      have O5 := hid o9
      replace US : Up w w5 := below_append US (Nat.le_refl _) US.size o4 g9
      clear o9 g9 d9 o4
      refine hK9.out _ _ US ?_
      clear hK9 K9
      try simp only [Act.put, List.setIfInBounds_toArray, List.set_cons_zero, List.set_cons_succ]
      refine t_op 16 (by kernel_rfl) rfl (by rfl) (fun K9 hK9 => ?_)
      go_simp
      refine hK9.out _ _ US ?_
      clear hK9 K9
      try simp only [Act.put, List.setIfInBounds_toArray, List.set_cons_zero, List.set_cons_succ]
      refine t_take 17 (some 49) (v := ?_) US rfl rfl (by kernel_rfl) (by kernel_rfl) (by kernel_rfl) (by kernel_rfl) (fun _ _ _ h => h) (by rfl) (fun w9 hS => ?_) ?_
      rotate_left
      · go_simp <;> with_reducible rfl
      try simp only [Act.put, List.setIfInBounds_toArray, List.set_cons_zero, List.set_cons_succ]
      refine t_last (by kernel_rfl) rfl (by rfl) (fun K9 hK9 => ?_)
      have e9 := US.c r1
      have f9 : w5.frozen? ⟨b, off + 1, none⟩ = false := (h.out.up US).head.elim fun b9 h9 => by obtain ⟨o9, e9, _, _, f9⟩ := h9; injection e9 with e9; injection e9 with e91 e92 _; subst e91; subst e92; exact f9
      go_simp
      refine hK9.out _ _ ?_
      clear hK9 K9
      try simp only [Act.put, List.setIfInBounds_toArray, List.set_cons_zero, List.set_cons_succ]
      refine t_done (by kernel_rfl) ?_
      have S1 := hid ((h.out.up US).setHead (B := A5) (k := c5) (ls := d.ls ++ [i]) (by
        have h5 := O5.out
        refine ⟨by rw [List.map_append]; exact Rd.own h5, ?_, fun b9 o9 e9 => ?_⟩
        · obtain ⟨_, _, e9, h9⟩ := own_form h5
          injection e9 with _ _ e9
          rw [List.length_append, HN.out, e9]; exact h9
        · subst e9; exact own_obj h5 rfl))
      rw [List.length_append, HN.out] at S1
      have RES : Hid (DocW _ base m n ((d.page, d.ls ++ [i]) :: r.map dtT) ws ∧ Fr (DocB w base m) w _) := hid ⟨⟨_, _, _, S1.out.1, rfl⟩, ((Fr.of_below US).mono (fun _ e => e.elim)).trans' (S1.out.2.mono (fun k e => by subst e; obtain ⟨h1, cs, hb⟩ := h.out.rowB k off rfl; exact ⟨h1, .inr ⟨cs, hb⟩⟩))⟩
      clear S1 US
      go_wp2
      go_ret
      exact ⟨rfl, RES⟩
  · go_simp
    have R14 : Hid (Rd (w.drew.alloc (.cells #[.int .i64 i] 3)) (some ⟨w.heap.size, 0, none⟩) [.int .i64 i]) := hid (Rd.new w.drew 3 (0, 0) [.int .i64 i])
    replace US : Up w (w.drew.alloc (.cells #[.int .i64 i] 3)) := upAlD (Up.drew w) _
    refine hK9.out _ _ US ?_
    clear hK9 K9
    try simp only [Act.put, List.setIfInBounds_toArray, List.set_cons_zero, List.set_cons_succ]
    refine t_op 4 (by kernel_rfl) rfl (by rfl) (fun K9 hK9 => ?_)
    go_simp
    have O4 := hid (own_lit0_at (w.drew.alloc (.cells #[.int .i64 i] 3)) w.heap.size 3 1 (w.heap.size + 1) US.size (by simp))
    have R14b : Hid (Rd ((w.drew.alloc (.cells #[.int .i64 i] 3)).alloc (.cells #[] 3)) (some ⟨w.heap.size, 0, none⟩) [.int .i64 i]) := hid (R14.out.grown (upAlD (Up.refl _) _))
    clear R14
    have R14 := R14b
    replace US : Up w ((w.drew.alloc (.cells #[.int .i64 i] 3)).alloc (.cells #[] 3)) := upAlD US _
    refine hK9.out _ _ US ?_
    clear hK9 K9
    try simp only [Act.put, List.setIfInBounds_toArray, List.set_cons_zero, List.set_cons_succ]
    refine t_op 12 (by kernel_rfl) rfl (by rfl) (fun K9 hK9 => ?_)
    show Oper.wp _ ⟨some 44, _, _, _, _, _⟩ _ _ _ _
    refine wp_append elemIN (.tmp 36) (.tmp 43) rfl rfl O4.out rfl (RD.out.grown US) (by rw [List.length_map, HN.out, Nat.mul_one]) (natCell_one _) (by have := NB.out; simp only [maxLen]; omega) (by have := NB.out; omega) US.size ?_
    intro A4 c4 w4 o9 g9 d9
    have R15 : Hid (Rd w4 (some ⟨w.heap.size, 0, none⟩) [.int .i64 i]) := hid (R14.out.fr (Fr.of_grown g9) (fun b9 o9 e9 h9 => by injection e9 with e9; injection e9 with e9 _ _; have h8 := Option.some.inj h9; have h7 : b9 = w.heap.size + 1 := h8; omega))
    have O4b := hid o9
    replace US : Up w w4 := below_append US (Nat.le_refl _) US.size O4.out g9
    clear o9 g9 d9
    rw [Nat.zero_add]
    refine hK9.out _ _ US ?_
    clear hK9 K9
    try simp only [Act.put, List.setIfInBounds_toArray, List.set_cons_zero, List.set_cons_succ]
    refine t_op 15 (by kernel_rfl) rfl (by rfl) (fun K9 hK9 => ?_)
    have o4 := O4b.out
    rw [Nat.zero_add, List.nil_append] at o4
    show Oper.wp _ ⟨some 47, _, _, _, _, _⟩ _ _ _ _
    refine wp_append elemIN (.tmp 44) (.tmp 46) rfl rfl o4 rfl R15.out rfl (by simp [Value.oneCell']) (by have := NB.out; simp only [maxLen]; omega) (by have := NB.out; omega) US.size ?_
    intro A5 c5 w5 o9 g9 d9
    have O5 := hid o9
    replace US : Up w w5 := below_append US (Nat.le_refl _) US.size o4 g9
    clear o9 g9 d9 o4
    refine hK9.out _ _ US ?_
    clear hK9 K9
    try simp only [Act.put, List.setIfInBounds_toArray, List.set_cons_zero, List.set_cons_succ]
    refine t_op 16 (by kernel_rfl) rfl (by rfl) (fun K9 hK9 => ?_)
    go_simp
    refine hK9.out _ _ US ?_
    clear hK9 K9
    try simp only [Act.put, List.setIfInBounds_toArray, List.set_cons_zero, List.set_cons_succ]
    refine t_take 17 (some 49) (v := ?_) US rfl rfl (by kernel_rfl) (by kernel_rfl) (by kernel_rfl) (by kernel_rfl) (fun _ _ _ h => h) (by rfl) (fun w9 hS => ?_) ?_
    rotate_left
    · go_simp <;> with_reducible rfl
    try simp only [Act.put, List.setIfInBounds_toArray, List.set_cons_zero, List.set_cons_succ]
    refine t_last (by kernel_rfl) rfl (by rfl) (fun K9 hK9 => ?_)
    have e9 := US.c r1
    have f9 : w5.frozen? ⟨b, off + 1, none⟩ = false := (h.out.up US).head.elim fun b9 h9 => by obtain ⟨o9, e9, _, _, f9⟩ := h9; injection e9 with e9; injection e9 with e91 e92 _; subst e91; subst e92; exact f9
    go_simp
    refine hK9.out _ _ ?_
    clear hK9 K9
    try simp only [Act.put, List.setIfInBounds_toArray, List.set_cons_zero, List.set_cons_succ]
    refine t_done (by kernel_rfl) ?_
    have S1 := hid ((h.out.up US).setHead (B := A5) (k := c5) (ls := d.ls ++ [i]) (by
      have h5 := O5.out
      refine ⟨by rw [List.map_append]; exact Rd.own h5, ?_, fun b9 o9 e9 => ?_⟩
      · obtain ⟨_, _, e9, h9⟩ := own_form h5
        injection e9 with _ _ e9
        rw [List.length_append, HN.out, e9]; exact h9
      · subst e9; exact own_obj h5 rfl))
    rw [List.length_append, HN.out] at S1
    have RES : Hid (DocW _ base m n ((d.page, d.ls ++ [i]) :: r.map dtT) ws ∧ Fr (DocB w base m) w _) := hid ⟨⟨_, _, _, S1.out.1, rfl⟩, ((Fr.of_below US).mono (fun _ e => e.elim)).trans' (S1.out.2.mono (fun k e => by subst e; obtain ⟨h1, cs, hb⟩ := h.out.rowB k off rfl; exact ⟨h1, .inr ⟨cs, hb⟩⟩))⟩
    clear S1 US
    go_wp2
    go_ret
    exact ⟨rfl, RES⟩
  -- END4
theorem elemTk : Elem Tryz.prog 96 186 (.agg #[.int .i64 0, .slice none 0 0]) 2 32 := ⟨Tryz.underlying96, by kernel_rfl, rfl, by decide⟩
/-- A new first trunk, and a row of its own. -/
theorem DocAt.setNew {w : World} {base m : Nat} {n : Int} {D : List DT} {ws : List Value} {A : Option Addr} {c : Nat} (h : DocAt w base m n D ws A c) {i K : Nat} {A' : Option Addr} {c' : Nat} (hK : K = D.length + 1) (hrow : Rd w A' (([.int .i64 (i : Int), .slice none 0 0] : List Value) ++ D.flatMap dtC)) (hB : ∀ b off, A' = some ⟨b, off, none⟩ → base ≤ b ∧ ∃ cs, w.heap[b]? = some (.cells cs 186 (0, 0))) (hcap : K ≤ c') :
    DocAt (w.setCell ⟨m, 0, none⟩ (.slice A' K c')) base m n (⟨i, none, 0, []⟩ :: D) ws A' c' ∧ Fr (fun k => k = m) w (w.setCell ⟨m, 0, none⟩ (.slice A' K c')) := by
  subst hK
  have hf : Fr (fun k => k = m) w (w.setCell ⟨m, 0, none⟩ (.slice A' (D.length + 1) c')) := (Fr.refl (fun k => k = m) w).setCell (p := ⟨m, 0, none⟩) (fun _ => rfl) _
  have k1 := heap_setCell_same _ m 0 _ _ (.slice A' (D.length + 1) c') h.own
  have ne : ∀ {k : Nat} {cs : Array Value} {ty : TypeId} {fr : Nat × Nat}, w.heap[k]? = some (.cells cs ty fr) → ty ≠ 99 → k ≠ m := fun hk ht e => by
    rw [e, h.own] at hk; injection hk with hk; injection hk with _ hk _; exact ht hk.symm
  refine ⟨⟨k1, h.low, hrow.fr hf fun b off e => ?_, fun b off e => ?_, hcap, fun d hd => ?_⟩, hf⟩
  · obtain ⟨_, cs, hb⟩ := hB b off e
    exact ne hb (by decide)
  · obtain ⟨h1, cs, hb⟩ := hB b off e
    exact ⟨h1, cs, (hf.block b (blk_lt hb) (ne hb (by decide))).trans hb⟩
  · rcases List.mem_cons.1 hd with rfl | hd
    · exact ⟨Rd.nil _ _, Nat.le_refl _, fun b off e => by cases e⟩
    · obtain ⟨h1, h2, h3⟩ := h.lvs d hd
      refine ⟨h1.fr hf fun b off e => ?_, h2, fun b off e => ?_⟩
      · obtain ⟨cs, fr, hb⟩ := h3 b off e
        exact ne hb (by decide)
      · obtain ⟨cs, fr, hb⟩ := h3 b off e
        exact ⟨cs, fr, (hf.block b (blk_lt hb) (ne hb (by decide))).trans hb⟩
set_option maxRecDepth 100000 in
set_option maxHeartbeats 2000000 in
theorem dgive2_calls (w : World) (base m n : Nat) (D : List DT) (ws : List Value) (A : Option Addr) (c : Nat) (i : Nat) (h : Hid (DocAt w base m n D ws A c)) (hi : Hid (2 ≤ i ∧ i ≤ n)) (hbs : Hid (base ≤ w.heap.size)) (hD : Hid (D.length < 1000000)) (hls : Hid (∀ d r, D = d :: r → d.ls.length = 126)) :
    Calls Tryz.prog 126 #[.pointer (some ⟨m, 0, none⟩), .int .i64 i] w (DocStep w base m n ((i, []) :: D.map dtT) ws (.int .i64 0)) := by
  have e0 := h.out.c0
  have e1 := h.out.c1
  obtain ⟨K, hK⟩ : ∃ K, D.length = K := ⟨_, rfl⟩
  have HK := hid hK
  rw [hK] at e0
  have i1 : ¬ (i : Int) < 2 := by have := hi.out; omega
  have i2 : ¬ (n : Int) < (i : Int) := by have := hi.out; omega
  have KB : Hid (K < 1000000) := hid (by have := hD.out; omega)
  have oL : (w.alloc (.cells #[.int .i64 (i : Int), .slice none 0 0] 186)).ownsRow w.heap.size 186 2 (.slice (some ⟨w.heap.size, 0, none⟩) 1 1) 1 [.int .i64 (i : Int), .slice none 0 0] := by
    have := World.ownsRow_lit (base := w.heap.size) (e := 186) (size := 2) w #[.int .i64 (i : Int), .slice none 0 0] 1 (Nat.le_refl _) (by decide) rfl
    simpa using this
  have uL := upAlD (Up.refl w) (.cells #[.int .i64 (i : Int), .slice none 0 0] 186)
  have RR := hid (h.out.row.grown uL)
  have e0L := uL.c e0
  have OL := hid oL
  have UL := hid uL
  have FIN : ∀ (A9 : Option Addr) (c9 : Nat) (w9 : World), w9.ownsRow w.heap.size 186 2 (.slice A9 (1 + K) c9) (1 + K) ([.int .i64 (i : Int), .slice none 0 0] ++ D.flatMap dtC) → Up w w9 → (DocW (w9.setCell ⟨m, 0, none⟩ (.slice A9 (1 + K) c9)) base m n ((i, []) :: D.map dtT) ws ∧ Fr (DocB w base m) w (w9.setCell ⟨m, 0, none⟩ (.slice A9 (1 + K) c9))) := fun A9 c9 w9 ho hu => by
    have := (h.out.up hu).setNew (i := i) (K := 1 + K) (A' := A9) (c' := c9) (by have := HK.out; omega) (Rd.own ho) (fun b off e => by
      subst e
      obtain ⟨h1, cs, hb⟩ := own_obj0 ho rfl
      exact ⟨Nat.le_trans hbs.out h1, cs, hb⟩) (by obtain ⟨_, _, e9, h9⟩ := own_form ho; injection e9 with _ _ e9; omega)
    exact ⟨⟨_, _, _, this.1, rfl⟩, ((Fr.of_below hu).mono (fun _ e => e.elim)).trans' (this.2.mono fun k e => ⟨by rw [e]; exact h.out.low, .inl e⟩)⟩
  have HFIN := hid FIN
  clear FIN oL uL
  by_cases hk0 : K = 0
  · have K0 : ¬ (0 : Int) < K := by omega
    have HK0 := hid hk0
    clear hk0 hK
    go_enter Tryz.func126, Tryz.ntmps126
    go_wp2_with (at_builtin; refine hold ?_)
    refine hid (wl_append elemTk rfl (.tmp 53) (.tmp 57) rfl rfl OL.out rfl RR.out (by rw [flat_length dtC_len, HK.out]) (flat_one dtC_one _) (by have := KB.out; simp only [maxLen]; omega) (by have := KB.out; omega) UL.out.size ?_)
    intro A9 c9 w9 o9 g9 d9
    have u9 := below_append UL.out (Nat.le_refl _) UL.out.size OL.out g9
    have RES := hid (HFIN.out _ _ _ o9 u9)
    have f0 := (h.out.up u9).fz 0
    have e09 := (h.out.up u9).c0
    clear o9 g9 d9 u9
    go_wp2
    go_ret
    exact ⟨rfl, RES⟩
  · obtain ⟨d, r, hdr⟩ : ∃ d r, D = d :: r := by
      cases D with
      | nil => exact absurd hK.symm hk0
      | cons d r => exact ⟨d, r, rfl⟩
    have K0 : (0 : Int) < K := by omega
    have hd126 := hls.out d r hdr
    have hA := h.out
    rw [hdr] at hA
    obtain ⟨b, off, rfl, r0, r1, fb⟩ := hA.head
    obtain ⟨LN, hLN⟩ : ∃ k, d.ls.length = k := ⟨_, rfl⟩
    rw [hLN] at r1 hd126
    have hN2 : ¬ (LN : Int) < 126 := by omega
    clear hdr hA hK hk0 hd126 hLN
    go_enter Tryz.func126, Tryz.ntmps126
    go_wp2_with (at_builtin; refine hold ?_)
    refine hid (wl_append elemTk rfl (.tmp 53) (.tmp 57) rfl rfl OL.out rfl RR.out (by rw [flat_length dtC_len, HK.out]) (flat_one dtC_one _) (by have := KB.out; simp only [maxLen]; omega) (by have := KB.out; omega) UL.out.size ?_)
    intro A9 c9 w9 o9 g9 d9
    have u9 := below_append UL.out (Nat.le_refl _) UL.out.size OL.out g9
    have RES := hid (HFIN.out _ _ _ o9 u9)
    have f0 := (h.out.up u9).fz 0
    have e09 := (h.out.up u9).c0
    clear o9 g9 d9 u9
    go_wp2
    go_ret
    exact ⟨rfl, RES⟩
theorem dgive_calls (w : World) (base m n : Nat) (T : List Trk) (ws : List Value) (i : Nat) (h : Hid (DocW w base m n T ws)) (hi : Hid (2 ≤ i ∧ i ≤ n)) (hbs : Hid (base ≤ w.heap.size)) (hT : Hid ((allT T).length < 1000000)) (h126 : Hid (∀ t ∈ T, t.2.length ≤ 126)) :
    Calls Tryz.prog 126 #[.pointer (some ⟨m, 0, none⟩), .int .i64 i] w (DocStep w base m n (giveV T i) ws (.int .i64 0)) := by
  obtain ⟨D, A, c, hd, rfl⟩ := h.out
  have hlen : D.length ≤ (allT (D.map dtT)).length := by
    clear hT hd h hi h126
    induction D with
    | nil => simp
    | cons a r ih => rw [List.map_cons, allT_cons]; simp only [List.length_cons, List.length_append]; omega
  have hT' := hT.out
  match D, hd, hlen with
  | [], hd, _ => exact dgive2_calls w base m n [] ws A c i (hid hd) hi hbs (hid (by decide)) (hid (fun d r e => by cases e))
  | d :: r, hd, hlen =>
    have h1 : d.ls.length ≤ 126 := h126.out (dtT d) (by simp)
    by_cases hls : d.ls.length < 126
    · have et : giveV ((d :: r).map dtT) i = (d.page, d.ls ++ [i]) :: r.map dtT := if_pos hls
      rw [et]
      exact dgive1_calls w base m n d r ws A c i (hid hd) hi (hid hls)
    · have et : giveV ((d :: r).map dtT) i = (i, []) :: (d :: r).map dtT := if_neg hls
      rw [et]
      exact dgive2_calls w base m n (d :: r) ws A c i (hid hd) hi hbs (hid (by omega)) (hid (fun d' r' e => by injection e with e _; subst e; omega))
end Go.Proofs.YtbcghggkfnagoaaGreatDoor

namespace Go.Proofs.YtbcghggkfnagoaaGreatDoor
open Go Go.RowKit Go.Maps Hach

def DAllI (w wr : World) (D : List DT) (j k : Nat) (A : Option Addr) (c : Nat) : Prop := Up w wr ∧ wr.ownsRow w.heap.size 3 1 (.slice A k c) k ((allT ((D.take j).map dtT)).map natCell) ∧ k = (allT ((D.take j).map dtT)).length
def DAllRet (w : World) (T : List Trk) (en : Ending) (w' : World) : Prop := ∃ A c k, en = .returned (.slice A k c) ∧ Hid (k = (allT T).length ∧ OwnN w' w.heap.size A c (allT T) ∧ Up w w')
set_option maxRecDepth 100000 in
set_option maxHeartbeats 4000000 in
theorem dall_calls (w : World) (base m n : Nat) (D : List DT) (ws : List Value) (A : Option Addr) (c : Nat) (h : Hid (DocAt w base m n D ws A c)) (hT : Hid ((allT (D.map dtT)).length < 100000)) (hD : Hid (D.length < 100000)) :
    Calls Tryz.prog 57 #[.pointer (some ⟨m, 0, none⟩)] w (DAllRet w (D.map dtT)) := by
  have e0 := h.out.c0
  obtain ⟨K, hK⟩ : ∃ K, D.length = K := ⟨_, rfl⟩
  have HK := hid hK
  rw [hK] at e0
  clear hK
  go_enter Tryz.func57, Tryz.ntmps57
  go_wp2
  have START : Hid (DAllI w w D 0 0 none 0) := hid ⟨Up.refl w, own_nil _ _ _ _, rfl⟩
  go_loopw [3, 11] (fun lv iv wr => ∃ (j k : Nat) (A1 : Option Addr) (c1 : Nat), lv = .slice A1 k c1 ∧ iv = .int .i64 j ∧ j ≤ K ∧ Hid (DAllI w wr D j k A1 c1)) (fun _ iv _ => K - (intOf iv).toNat)
  case atStart => exact ⟨0, 0, none, 0, rfl, rfl, Nat.zero_le _, START⟩
  case round =>
    clear START
    obtain ⟨j, k, A1, c1, rfl, rfl, hj, iv⟩ := hrel
    by_cases hlt : (j : Int) < K
    · obtain ⟨d, hd⟩ : ∃ d, D[j]? = some d := ⟨_, List.getElem?_eq_getElem (by have := HK.out; omega)⟩
      have hA := h.out.up iv.out.1
      obtain ⟨b, off, rfl, hcells⟩ := hA.row.row (f := dtC) (k := 2) dtC_len hd (by decide)
      have x0 := hcells 0 _ rfl
      have x1 := hcells 1 _ rfl
      rw [Nat.add_zero] at x0
      rw [← Nat.add_assoc] at x1
      have JK : Hid (j < K ∧ K < 100000) := hid ⟨by omega, by have := HK.out; have := hD.out; omega⟩
      have HDm := hid (List.mem_of_getElem? hd)
      obtain ⟨P, hP⟩ : ∃ P, d.page = P := ⟨_, rfl⟩
      obtain ⟨N, hN⟩ : ∃ N, d.ls.length = N := ⟨_, rfl⟩
      have htk : D.take (j + 1) = D.take j ++ [d] := by rw [List.take_add_one, hd]; rfl
      have HTK : Hid (allT ((D.take (j + 1)).map dtT) = allT ((D.take j).map dtT) ++ (P :: d.ls)) := hid (by rw [htk, List.map_append, allT_app, ← hP]; congr 1; simp [allT, dtT])
      rw [hP] at x0
      rw [hN] at x1
      have HN := hid hN
      have TOT : Hid ((allT ((D.take (j + 1)).map dtT)).length ≤ (allT (D.map dtT)).length) := hid (by
        conv => rhs; rw [← List.take_append_drop (j + 1) D, List.map_append, allT_app, List.length_append]
        omega)
      have KN : Hid (k + 1 + N < 100000) := hid (by have h1 := TOT.out; rw [HTK.out, List.length_append, List.length_cons] at h1; have h2 := iv.out.2.2; have h3 := hT.out; omega)
      have IV := iv
      clear iv hd hcells htk hP hN hA hj
      obtain ⟨w1, hw1⟩ : ∃ w1, wr.alloc (.cells #[.int .i64 (P : Int), .slice d.B N d.k] 186) = w1 := ⟨_, rfl⟩
      obtain ⟨bx, hbx⟩ : ∃ b, wr.heap.size = b := ⟨_, rfl⟩
      have u1 : Up wr w1 := by rw [← hw1]; exact upAlD (Up.refl wr) _
      have hb1 : w1.heap[bx]? = some (.cells #[.int .i64 (P : Int), .slice d.B N d.k] 186 (0, 0)) := by rw [← hw1, ← hbx]; exact heap_alloc_new wr _
      have UW := hid (IV.out.1.t u1)
      have O0 := hid ((Fr.of_below u1).own IV.out.2.1 (fun _ _ e => e))
      have HB1 := hid hb1
      clear u1 hb1
      go_wp2
      have US : w1.drew.heap[bx]? = some (.cells #[.int .i64 (P : Int), .slice d.B N d.k] 186 (0, 0)) := HB1.out
      refine s_start (fun w9 => w9.heap[bx]? = some (.cells #[.int .i64 (P : Int), .slice d.B N d.k] 186 (0, 0))) (by kernel_rfl) ?_
      refine s_take 0 (some 15) (v := ?_) US rfl rfl (by kernel_rfl) (by kernel_rfl) (by kernel_rfl) (fun _ _ _ h => h) (by rfl) (fun w9 hS => ?_) ?_
      rotate_left
      · go_simp <;> with_reducible rfl
      try simp only [Act.put, List.setIfInBounds_toArray, List.set_cons_zero, List.set_cons_succ]
      refine s_take 1 (some 16) (v := ?_) US rfl rfl (by kernel_rfl) (by kernel_rfl) (by kernel_rfl) (fun _ _ _ h => h) (by rfl) (fun w9 hS => ?_) ?_
      rotate_left
      · go_simp <;> with_reducible rfl
      try simp only [Act.put, List.setIfInBounds_toArray, List.set_cons_zero, List.set_cons_succ]
      refine s_take 2 (some 17) (v := ?_) US rfl rfl (by kernel_rfl) (by kernel_rfl) (by kernel_rfl) (fun _ _ _ h => h) (by rfl) (fun w9 hS => ?_) ?_
      rotate_left
      · have e9 : w9.cell? ⟨bx, 0, none⟩ = some (.int .i64 (P : Int)) := (by rw [cell_of_row _ _ _ _ _ _ hS]; rfl); go_simp <;> with_reducible rfl
      try simp only [Act.put, List.setIfInBounds_toArray, List.set_cons_zero, List.set_cons_succ]
      refine s_take 5 (some 20) (v := ?_) US rfl rfl (by kernel_rfl) (by kernel_rfl) (by kernel_rfl) (fun _ _ _ h => h) (by rfl) (fun w9 hS => ?_) ?_
      rotate_left
      · go_simp <;> with_reducible rfl
      try simp only [Act.put, List.setIfInBounds_toArray, List.set_cons_zero, List.set_cons_succ]
      refine s_take 6 (some 21) (v := ?_) US rfl rfl (by kernel_rfl) (by kernel_rfl) (by kernel_rfl) (fun _ _ _ h => h) (by rfl) (fun w9 hS => ?_) ?_
      rotate_left
      · have e9 : w9.cell? ⟨bx, 1, none⟩ = some (.slice d.B N d.k) := (by rw [cell_of_row _ _ _ _ _ _ hS]; rfl); go_simp <;> with_reducible rfl
      try simp only [Act.put, List.setIfInBounds_toArray, List.set_cons_zero, List.set_cons_succ]
      refine s_op 3 (by kernel_rfl) rfl (by rfl) (fun K9 hK9 => ?_)
      go_simp
      have O3 := hid (World.ownsRow.alloc (show w1.drew.ownsRow w.heap.size 3 1 (.slice A1 k c1) k _ from O0.out) (.cells #[.int .i64 (P : Int)] 3))
      have R3 : Hid (Rd (w1.drew.alloc (.cells #[.int .i64 (P : Int)] 3)) (some ⟨w1.heap.size, 0, none⟩) [.int .i64 (P : Int)]) := hid (Rd.new w1.drew 3 (0, 0) [.int .i64 (P : Int)])
      have U3 : Hid (Up w (w1.drew.alloc (.cells #[.int .i64 (P : Int)] 3))) := hid (UW.out.t ((Up.drew w1).t (upAlD (Up.refl _) _)))
      replace US : (w1.drew.alloc (.cells #[.int .i64 (P : Int)] 3)).heap[bx]? = some (.cells #[.int .i64 (P : Int), .slice d.B N d.k] 186 (0, 0)) := ((upAlD (Up.refl w1.drew) (.cells #[.int .i64 (P : Int)] 3)).block bx (blk_lt US)).trans US
      refine hK9.out _ _ US ?_
      clear hK9 K9
      try simp only [Act.put, List.setIfInBounds_toArray, List.set_cons_zero, List.set_cons_succ]
      refine s_op 4 (by kernel_rfl) rfl (by rfl) (fun K9 hK9 => ?_)
      show Oper.wp _ ⟨some 19, _, _, _, _, _⟩ _ _ _ _
      refine wp_append elemIN (.tmp 15) (.tmp 18) rfl rfl O3.out rfl R3.out rfl (by simp [Value.oneCell']) (by have := KN.out; simp only [maxLen]; omega) (by have := KN.out; omega) U3.out.size ?_
      intro A4 c4 w4 o9 g9 d9
      have U4 : Hid (Up w w4) := hid (below_append U3.out (Nat.le_refl _) U3.out.size O3.out g9)
      have f9 := Fr.of_grown g9
      replace US : w4.heap[bx]? = some (.cells #[.int .i64 (P : Int), .slice d.B N d.k] 186 (0, 0)) := (f9.block bx (blk_lt US) (fun e9 => by
        obtain ⟨cs9, fr9, h9⟩ := own_obj O3.out e9.symm
        rw [US] at h9; injection h9 with h9; injection h9 with _ h9 _; exact absurd h9 (by decide))).trans US
      have O4 := hid o9
      clear o9 g9 d9 f9
      refine hK9.out _ _ US ?_
      clear hK9 K9
      try simp only [Act.put, List.setIfInBounds_toArray, List.set_cons_zero, List.set_cons_succ]
      refine s_op 7 (by kernel_rfl) rfl (by rfl) (fun K9 hK9 => ?_)
      show Oper.wp _ ⟨some 22, _, _, _, _, _⟩ _ _ _ _
      refine wp_append elemIN (.tmp 19) (.tmp 21) rfl rfl O4.out rfl ((h.out.lvs d HDm.out).1.grown U4.out) (by rw [List.length_map, HN.out, Nat.mul_one]) (natCell_one _) (by have := KN.out; simp only [maxLen]; omega) (by have := KN.out; omega) U4.out.size ?_
      intro A5 c5 w5 o9 g9 d9
      have U5 : Hid (Up w w5) := hid (below_append U4.out (Nat.le_refl _) U4.out.size O4.out g9)
      have f9 := Fr.of_grown g9
      replace US : w5.heap[bx]? = some (.cells #[.int .i64 (P : Int), .slice d.B N d.k] 186 (0, 0)) := (f9.block bx (blk_lt US) (fun e9 => by
        obtain ⟨cs9, fr9, h9⟩ := own_obj O4.out e9.symm
        rw [US] at h9; injection h9 with h9; injection h9 with _ h9 _; exact absurd h9 (by decide))).trans US
      have O5 := hid o9
      clear o9 g9 d9 f9
      refine hK9.out _ _ US ?_
      clear hK9 K9
      try simp only [Act.put, List.setIfInBounds_toArray, List.set_cons_zero, List.set_cons_succ]
      refine s_take 8 (some 3) (v := ?_) US rfl rfl (by kernel_rfl) (by kernel_rfl) (by kernel_rfl) (fun _ _ _ h => h) (by rfl) (fun w9 hS => ?_) ?_
      rotate_left
      · go_simp <;> with_reducible rfl
      try simp only [Act.put, List.setIfInBounds_toArray, List.set_cons_zero, List.set_cons_succ]
      refine s_done (by kernel_rfl) ?_
      have NEXT : Hid (DAllI w w5 D (j + 1) (k + 1 + N) A5 c5) := hid ⟨U5.out, by rw [HTK.out, List.map_append]; have h5 := O5.out; rw [List.append_assoc] at h5; exact h5, by rw [HTK.out, List.length_append, List.length_cons, HN.out, IV.out.2.2]; omega⟩
      clear US
      go_wp2
      go_roundw
      case rel => exact ⟨j + 1, _, _, _, rfl, by first | rfl | rw [wS (K := j + 1) (by have := JK.out; omega) rfl], JK.out.1, NEXT⟩
      case measure => have := JK.out; first | rw [wS (K := j + 1) (by omega) rfl] | skip
                      simp only [intOf]; omega
    · have ht : D.take j = D := List.take_of_length_le (by have := HK.out; omega)
      have RES : Hid (k = (allT (D.map dtT)).length ∧ OwnN wr w.heap.size A1 c1 (allT (D.map dtT)) ∧ Up w wr) := hid (by
        obtain ⟨a1, a2, a3⟩ := iv.out
        rw [ht] at a2 a3
        exact ⟨a3, by unfold OwnN; rw [← a3]; exact a2, a1⟩)
      clear iv ht
      go_wp2
      go_ret
      exact ⟨A1, c1, k, rfl, RES⟩
end Go.Proofs.YtbcghggkfnagoaaGreatDoor
