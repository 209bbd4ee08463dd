/- THE WALK of hachurelaw08.act: Set, Word. THE WALK of hachurelaw08.act: Give of a page that may not be. -/
import Derived.Test.YtbcghggkfnagoaaGreatDoorFAc1
import Derived.BigQuiet
set_option linter.unusedVariables false
set_option linter.unusedSimpArgs false
namespace Go.Proofs.YtbcghggkfnagoaaGreatDoor
open Go Go.RowKit Go.Maps Hach

theorem wordsC_at (W : Nat → Int) {i : Nat} (h : i < 60) : (wordsC W)[i]? = some (.int .i64 (W i)) := by
  unfold wordsC
  rw [List.getElem?_map, List.getElem?_range h]; rfl
theorem wordsC_set (W : Nat → Int) {i : Nat} (h : i < 60) (N : Int) : (wordsC W).set i (.int .i64 N) = wordsC (updW W i N) := by
  apply List.ext_getElem?
  intro j
  by_cases hj : j < 60
  · rw [wordsC_at _ hj]
    unfold updW
    by_cases e : j = i
    · subst e
      rw [if_pos rfl, List.getElem?_set_self (by unfold wordsC; simpa using hj)]
    · rw [if_neg e, List.getElem?_set_ne (fun h => e h.symm), wordsC_at _ hj]
  · rw [List.getElem?_eq_none (by unfold wordsC; simp; omega), List.getElem?_eq_none (by unfold wordsC; simp; omega)]
theorem docCs_word (lv : Value) (n : Int) (W : Nat → Int) {i : Nat} (h : i < 60) (N : Int) : (docCs lv n (wordsC W)).setIfInBounds (2 + i) (.int .i64 N) = docCs lv n (wordsC (updW W i N)) := by
  unfold docCs
  rw [← wordsC_set W h N, List.setIfInBounds_toArray, show 2 + i = i + 1 + 1 by omega]; rfl
theorem DocAt.word {w : World} {base m : Nat} {n : Int} {D : List DT} {W : Nat → Int} {A : Option Addr} {c : Nat} (h : DocAt w base m n D (wordsC W) A c) {i : Nat} (hi : i < 60) : w.cell? ⟨m, 2 + i, none⟩ = some (.int .i64 (W i)) := by
  rw [cell_of_row _ _ _ _ _ _ h.own]
  unfold docCs
  rw [List.getElem?_toArray, show 2 + i = i + 1 + 1 by omega]
  exact wordsC_at W hi
section
variable (w : World) (X : HpX) (base m n : Nat) (T : List Trk) (W : Nat → Int) (l : List Nat) (A : Option Addr) (k c : Nat)
theorem ActI.same {w w' : World} {X : HpX} {base m n : Nat} {T : List Trk} {W : Nat → Int} {l : List Nat} {A : Option Addr} {k c : Nat} (h : ActI w X base m n T W l A k c) (hu : Up w w') : ActI w' X base m n T W l A k c ∧ Qt base w w' ∧ n ≤ n + 1 := ⟨h.up hu, Qt.up hu h.low.2.2, Nat.le_succ n⟩
set_option maxRecDepth 100000 in
set_option maxHeartbeats 4000000 in
theorem act4_calls (b d : Int) (h : Hid (ActI w X base m n T W l A k c)) (hn : Hid (n < 3000)) :
    Calls Tryz.prog 55 #[.pointer (some ⟨X.h, 0, none⟩), .pointer (some ⟨m, 0, none⟩), .slice A k c, .agg #[.int .i64 4, .int .i64 b, .int .i64 d]] w (ActRet w X base m n) := by
  obtain ⟨w1, hw1⟩ : ∃ x, w.alloc (.cells #[.int .i64 4, .int .i64 b, .int .i64 d] 101) = x := ⟨_, rfl⟩
  obtain ⟨bx, hbx⟩ : ∃ b, w.heap.size = b := ⟨_, rfl⟩
  have u1 : Up w w1 := by rw [← hw1]; exact upAlD (Up.refl w) _
  have hb1 : BoxA w1 bx 4 b d := by rw [← hw1, ← hbx]; exact heap_alloc_new w _
  obtain ⟨c0, c1, c2⟩ := hb1.cells
  have U1 := hid u1
  have H1 := hid (h.out.up u1)
  obtain ⟨U, hU⟩ := H1.out.heap
  have HU := hid hU
  have HB := hid hb1
  by_cases hb : b < 0 ∨ 60 ≤ b
  · have CW := wordBad_calls w1 X n T W U b HU (hid (by have := hn.out; omega)) (hid hb)
    rcases hb with hb | hb
    all_goals
      clear hU hb1 u1
      go_enter Tryz.func55, Tryz.ntmps55
      go_wp2_with fail
      refine CW.mono ?_
      rintro en w2 ⟨rfl, hr⟩
      obtain ⟨d0, d1, d2⟩ := (HB.out.qt (Qt.up hr.out H1.out.low.2.2)).cells
      go_wp2
      have RES := hid (h.out.same (U1.out.t hr.out))
      clear hr CW d0 d1 d2 c0 c1 c2
      go_ret2
      exact ⟨n, T, W, l, A, k, c, rfl, RES⟩
  · obtain ⟨i, rfl⟩ : ∃ i : Nat, b = i := ⟨b.toNat, by omega⟩
    have hi : i < 60 := by omega
    have CW := word_calls w1 X n T W U i HU (hid (by have := hn.out; omega)) (hid hi)
    have i0 : ¬ (i : Int) < 0 := by omega
    have i6 : ¬ 60 ≤ (i : Int) := by omega
    have i7 : (i : Int) < 60 := by omega
    have i8 : i < 60 := hi
    obtain ⟨V, hV⟩ : ∃ V, W i = V := ⟨_, rfl⟩
    rw [hV] at CW
    have HV := hid hV
    clear hU hb1 u1 hb hi hV
    go_enter Tryz.func55, Tryz.ntmps55
    go_wp2_with fail
    refine CW.mono ?_
    rintro en w2 ⟨rfl, hr⟩
    obtain ⟨d0, d1, d2⟩ := (HB.out.qt (Qt.up hr.out H1.out.low.2.2)).cells
    have dw : w2.cell? ⟨m, 2 + i, none⟩ = some (.int .i64 V) := by
      obtain ⟨D, A9, c9, hd, _⟩ := (H1.out.doc.up hr.out)
      rw [hd.word i8, HV.out]
    have U2 := hid (U1.out.t hr.out)
    clear hr CW c0 c1 c2
    go_wp2
    go_quiet (fail)
    have RES := hid (h.out.same (U2.out.t (Fr.below ((Fr.refl No w2).drewN nq) (Nat.le_refl _) (fun _ _ h => h))))
    clear d0 d1 d2 dw
    go_wp2
    go_ret2
    exact ⟨n, T, W, l, A, k, c, rfl, RES⟩
set_option maxRecDepth 100000 in
set_option maxHeartbeats 4000000 in
theorem act2_calls (b d : Int) (h : Hid (ActI w X base m n T W l A k c)) (hn : Hid (n < 3000)) (hd : Hid ((Lit.int .i64 d).wf = true)) :
    Calls Tryz.prog 55 #[.pointer (some ⟨X.h, 0, none⟩), .pointer (some ⟨m, 0, none⟩), .slice A k c, .agg #[.int .i64 2, .int .i64 b, .int .i64 d]] w (ActRet w X base m n) := by
  obtain ⟨w1, hw1⟩ : ∃ x, w.alloc (.cells #[.int .i64 2, .int .i64 b, .int .i64 d] 101) = x := ⟨_, rfl⟩
  obtain ⟨bx, hbx⟩ : ∃ b, w.heap.size = b := ⟨_, rfl⟩
  have u1 : Up w w1 := by rw [← hw1]; exact upAlD (Up.refl w) _
  have hb1 : BoxA w1 bx 2 b d := by rw [← hw1, ← hbx]; exact heap_alloc_new w _
  obtain ⟨c0, c1, c2⟩ := hb1.cells
  have U1 := hid u1
  have H1 := hid (h.out.up u1)
  obtain ⟨U, hU⟩ := H1.out.heap
  have HU := hid hU
  have HB := hid hb1
  by_cases hb : b < 0 ∨ 60 ≤ b
  · have CW := setBad_calls w1 X n T W U b d HU (hid (by have := hn.out; omega)) (hid hb)
    rcases hb with hb | hb
    all_goals
      clear hU hb1 u1
      go_enter Tryz.func55, Tryz.ntmps55
      go_wp2_with fail
      refine CW.mono ?_
      rintro en w2 ⟨rfl, hr⟩
      have RES := hid (h.out.same (U1.out.t hr.out))
      clear hr CW
      go_wp2
      go_ret2
      exact ⟨n, T, W, l, A, k, c, rfl, RES⟩
  · obtain ⟨i, rfl⟩ : ∃ i : Nat, b = i := ⟨b.toNat, by omega⟩
    have hi : i < 60 := by omega
    have i0 : ¬ (i : Int) < 0 := by omega
    have i6 : ¬ 60 ≤ (i : Int) := by omega
    have i7 : (i : Int) < 60 := by omega
    have i8 : i < 60 := hi
    clear hU hb1 u1 hb hi
    go_enter Tryz.func55, Tryz.ntmps55
    go_wp2
    obtain ⟨V, hV⟩ : ∃ V, W i = V := ⟨_, rfl⟩
    have HV := hid hV
    clear hV
    have US : BoxA w1.drew bx 2 (i : Int) d ∧ w1.drew.cell? ⟨m, 2 + i, none⟩ = some (.int .i64 V) ∧ w1.drew.frozen? ⟨m, 2 + i, none⟩ = false := by
      obtain ⟨D, A9, c9, hd9, _⟩ := H1.out.doc
      exact ⟨HB.out, by rw [← HV.out]; exact hd9.word i8, hd9.fz (2 + i)⟩
    refine t_start (fun w9 => BoxA w9 bx 2 (i : Int) d ∧ w9.cell? ⟨m, 2 + i, none⟩ = some (.int .i64 V) ∧ w9.frozen? ⟨m, 2 + i, none⟩ = false) 8 (by kernel_rfl) ?_
    refine t_take 0 (some 97) (v := ?_) US rfl rfl (by kernel_rfl) (by kernel_rfl) (by kernel_rfl) (by kernel_rfl) (fun _ _ _ h => h) (by rfl) (fun w9 hS => ?_) ?_
    rotate_left
    · go_simp <;> with_reducible rfl
    try simp only [Act.put, List.setIfInBounds_toArray, List.set_cons_zero, List.set_cons_succ]
    refine t_take 1 (some 98) (v := ?_) US rfl rfl (by kernel_rfl) (by kernel_rfl) (by kernel_rfl) (by kernel_rfl) (fun _ _ _ h => h) (by rfl) (fun w9 hS => ?_) ?_
    rotate_left
    · go_simp <;> with_reducible rfl
    try simp only [Act.put, List.setIfInBounds_toArray, List.set_cons_zero, List.set_cons_succ]
    refine t_take 2 (some 99) (v := ?_) US rfl rfl (by kernel_rfl) (by kernel_rfl) (by kernel_rfl) (by kernel_rfl) (fun _ _ _ h => h) (by rfl) (fun w9 hS => ?_) ?_
    rotate_left
    · obtain ⟨s0, s1, s2⟩ := hS.1.cells; go_simp <;> with_reducible rfl
    try simp only [Act.put, List.setIfInBounds_toArray, List.set_cons_zero, List.set_cons_succ]
    refine t_take 3 (some 100) (v := ?_) US rfl rfl (by kernel_rfl) (by kernel_rfl) (by kernel_rfl) (by kernel_rfl) (fun _ _ _ h => h) (by rfl) (fun w9 hS => ?_) ?_
    rotate_left
    · go_simp <;> with_reducible rfl
    try simp only [Act.put, List.setIfInBounds_toArray, List.set_cons_zero, List.set_cons_succ]
    refine t_take 4 (some 101) (v := ?_) US rfl rfl (by kernel_rfl) (by kernel_rfl) (by kernel_rfl) (by kernel_rfl) (fun _ _ _ h => h) (by rfl) (fun w9 hS => ?_) ?_
    rotate_left
    · obtain ⟨s0, s1, s2⟩ := hS.1.cells; go_simp <;> with_reducible rfl
    try simp only [Act.put, List.setIfInBounds_toArray, List.set_cons_zero, List.set_cons_succ]
    refine t_op 5 (by kernel_rfl) rfl (by rfl) (fun K9 hK9 => ?_)
    go_simp
    refine hK9.out _ _ US ?_
    clear hK9 K9
    try simp only [Act.put, List.setIfInBounds_toArray, List.set_cons_zero, List.set_cons_succ]
    refine t_op 6 (by kernel_rfl) rfl (by rfl) (fun K9 hK9 => ?_)
    go_simp
    refine hK9.out _ _ US ?_
    clear hK9 K9
    try simp only [Act.put, List.setIfInBounds_toArray, List.set_cons_zero, List.set_cons_succ]
    refine t_take 7 (some 104) (v := ?_) US rfl rfl (by kernel_rfl) (by kernel_rfl) (by kernel_rfl) (by kernel_rfl) (fun _ _ _ h => h) (by rfl) (fun w9 hS => ?_) ?_
    rotate_left
    · go_simp <;> with_reducible rfl
    try simp only [Act.put, List.setIfInBounds_toArray, List.set_cons_zero, List.set_cons_succ]
    refine t_last (by kernel_rfl) rfl (by rfl) (fun K9 hK9 => ?_)
    obtain ⟨_, s8, s9⟩ := US
    go_simp
    refine hK9.out _ _ ?_
    clear hK9 K9
    try simp only [Act.put, List.setIfInBounds_toArray, List.set_cons_zero, List.set_cons_succ]
    refine t_done (by kernel_rfl) ?_
    obtain ⟨w2, hw2⟩ : ∃ w2, (w1.setCell ⟨m, 2 + i, none⟩ (.int .i64 d)).drew = w2 := ⟨_, rfl⟩
    have STEP : Hid (DocW w2 base m n T (wordsC (updW W i d)) ∧ Fr (DocB w1 base m) w1 w2) := hid (by
      obtain ⟨D, A9, c9, hd9, e9⟩ := H1.out.doc
      have S9 := hd9.setOwn (i := 2 + i) (v := .int .i64 d) (n' := n) (D' := D) (ws' := wordsC (updW W i d)) (A' := A9) (c' := c9) (docCs_word _ _ _ i8 _) hd9.row (fun b off e => ⟨off, e⟩) hd9.cap (fun d hd => hd)
      have f9 := (hd9.frm S9.2).drew
      rw [hw2] at f9
      refine ⟨⟨D, A9, c9, ?_, e9⟩, f9⟩
      rw [← hw2]
      exact S9.1.up (Up.drew _))
    rw [hw2]
    have H2 := hid (HU.out.doc H1.out.doc STEP.out.2)
    have Q2 := hid (Qt.doc H1.out.doc STEP.out.2 H1.out.low.2.2)
    have CS := set_calls w2 X n T W U i d H2 (hid (by have := hn.out; omega)) (hid i8) hd
    obtain ⟨d0, d1, d2⟩ := (HB.out.qt Q2.out).cells
    clear hw2 c0 c1 c2
    go_wp2_with fail
    refine CS.mono ?_
    rintro en w3 ⟨rfl, hr⟩
    have RES : Hid (ActI w3 X base m n T (updW W i d) l A k c ∧ Qt base w w3 ∧ n ≤ n + 1) := hid (by
      have hlow2 : base ≤ w2.heap.size := Nat.le_trans H1.out.low.2.2 STEP.out.2.size
      have Q3 := Qt.heap H2.out hr.out.2 ⟨H1.out.low.1, H1.out.low.2.1, hlow2⟩
      exact ⟨⟨⟨U, hr.out.1⟩, STEP.out.1.heap H2.out hr.out.2, (H1.out.row.qt Q2.out).qt Q3, H1.out.len, H1.out.cap, H1.out.nd, H1.out.inn, H1.out.small, ⟨H1.out.low.1, H1.out.low.2.1, Nat.le_trans hlow2 hr.out.2.size⟩⟩, ((Qt.up U1.out h.out.low.2.2).trans Q2.out).trans Q3, Nat.le_succ n⟩)
    clear hr CS d0 d1 d2
    go_wp2
    go_ret2
    exact ⟨n, T, updW W i d, l, A, k, c, rfl, RES⟩
end
end Go.Proofs.YtbcghggkfnagoaaGreatDoor

namespace Go.Proofs.YtbcghggkfnagoaaGreatDoor
open Go Go.RowKit Go.Maps Hach

section
variable (w : World) (X : HpX) (base m n : Nat) (T : List Trk) (W : Nat → Int) (l : List Nat) (A : Option Addr) (k c : Nat)
set_option maxRecDepth 100000 in
set_option maxHeartbeats 4000000 in
theorem act5_calls (a b d : Int) (h : Hid (ActI w X base m n T W l A k c)) (hn : Hid (n < 3000)) (ha : Hid (a ≠ 0 ∧ a ≠ 1 ∧ a ≠ 2 ∧ a ≠ 3 ∧ a ≠ 4)) :
    Calls Tryz.prog 55 #[.pointer (some ⟨X.h, 0, none⟩), .pointer (some ⟨m, 0, none⟩), .slice A k c, .agg #[.int .i64 a, .int .i64 b, .int .i64 d]] w (ActRet w X base m n) := by
  obtain ⟨w1, hw1⟩ : ∃ x, w.alloc (.cells #[.int .i64 a, .int .i64 b, .int .i64 d] 101) = x := ⟨_, rfl⟩
  obtain ⟨bx, hbx⟩ : ∃ b, w.heap.size = b := ⟨_, rfl⟩
  have u1 : Up w w1 := by rw [← hw1]; exact upAlD (Up.refl w) _
  have hb1 : BoxA w1 bx a b d := by rw [← hw1, ← hbx]; exact heap_alloc_new w _
  obtain ⟨c0, c1, c2⟩ := hb1.cells
  have U1 := hid u1
  have H1 := hid (h.out.up u1)
  obtain ⟨U, hU⟩ := H1.out.heap
  have HU := hid hU
  have HB := hid hb1
  obtain ⟨a0, a1, a2, a3, a4⟩ := ha.out
  have CN : Hid (w1.cell? ⟨m, 1, none⟩ = some (.int .i64 n)) := hid (by obtain ⟨D, A9, c9, hd9, _⟩ := H1.out.doc; exact hd9.c1)
  have cn := CN.out
  clear hU hb1 u1
  by_cases hb2 : b < 2
  · have CW := fun w' hu => giveBad_calls w' X n T W U b (hid (HU.out.up (w' := w') hu)) (hid (by have := hn.out; omega)) (hid (.inl (by omega)))
    have hd0 : decide (2 ≤ b) = false := decide_eq_false (by omega)
    go_enter Tryz.func55, Tryz.ntmps55
    go_wp2
    have US : Up w1 w1.drew := Up.drew w1
    refine s_start (fun w9 => Up w1 w9) (by kernel_rfl) ?_
    refine s_take 0 (some 175) (v := ?_) US rfl rfl (by kernel_rfl) (by kernel_rfl) (by kernel_rfl) (fun _ _ _ h => h) (by rfl) (fun w9 hS => ?_) ?_
    rotate_left
    · go_simp <;> with_reducible rfl
    try simp only [Act.put, List.setIfInBounds_toArray, List.set_cons_zero, List.set_cons_succ]
    refine s_take 1 (some 176) (v := ?_) US rfl rfl (by kernel_rfl) (by kernel_rfl) (by kernel_rfl) (fun _ _ _ h => h) (by rfl) (fun w9 hS => ?_) ?_
    rotate_left
    · go_simp <;> with_reducible rfl
    try simp only [Act.put, List.setIfInBounds_toArray, List.set_cons_zero, List.set_cons_succ]
    refine s_take 2 (some 177) (v := ?_) US rfl rfl (by kernel_rfl) (by kernel_rfl) (by kernel_rfl) (fun _ _ _ h => h) (by rfl) (fun w9 hS => ?_) ?_
    rotate_left
    · have s1 := hS.c c1; go_simp <;> with_reducible rfl
    try simp only [Act.put, List.setIfInBounds_toArray, List.set_cons_zero, List.set_cons_succ]
    refine s_take 3 (some 178) (v := ?_) US rfl rfl (by kernel_rfl) (by kernel_rfl) (by kernel_rfl) (fun _ _ _ h => h) (by rfl) (fun w9 hS => ?_) ?_
    rotate_left
    · go_simp <;> with_reducible rfl
    try simp only [Act.put, List.setIfInBounds_toArray, List.set_cons_zero, List.set_cons_succ]
    refine s_take 4 (some 179) (v := ?_) US rfl rfl (by kernel_rfl) (by kernel_rfl) (by kernel_rfl) (fun _ _ _ h => h) (by rfl) (fun w9 hS => ?_) ?_
    rotate_left
    · go_simp <;> with_reducible rfl
    try simp only [Act.put, List.setIfInBounds_toArray, List.set_cons_zero, List.set_cons_succ]
    refine s_skip 5 (some 180) US rfl rfl (by kernel_rfl) (by kernel_rfl) (by kernel_rfl) (fun _ _ _ h => h) (by rfl) ?_
    try simp only [Act.put, List.setIfInBounds_toArray, List.set_cons_zero, List.set_cons_succ]
    refine s_skip 6 (some 181) US rfl rfl (by kernel_rfl) (by kernel_rfl) (by kernel_rfl) (fun _ _ _ h => h) (by rfl) ?_
    try simp only [Act.put, List.setIfInBounds_toArray, List.set_cons_zero, List.set_cons_succ]
    refine s_skip 7 (some 182) US rfl rfl (by kernel_rfl) (by kernel_rfl) (by kernel_rfl) (fun _ _ _ h => h) (by rfl) ?_
    try simp only [Act.put, List.setIfInBounds_toArray, List.set_cons_zero, List.set_cons_succ]
    refine s_skip 8 (some 183) US rfl rfl (by kernel_rfl) (by kernel_rfl) (by kernel_rfl) (fun _ _ _ h => h) (by rfl) ?_
    try simp only [Act.put, List.setIfInBounds_toArray, List.set_cons_zero, List.set_cons_succ]
    refine s_skip 9 (some 184) US rfl rfl (by kernel_rfl) (by kernel_rfl) (by kernel_rfl) (fun _ _ _ h => h) (by rfl) ?_
    try simp only [Act.put, List.setIfInBounds_toArray, List.set_cons_zero, List.set_cons_succ]
    refine s_skip 10 (some 185) US rfl rfl (by kernel_rfl) (by kernel_rfl) (by kernel_rfl) (fun _ _ _ h => h) (by rfl) ?_
    try simp only [Act.put, List.setIfInBounds_toArray, List.set_cons_zero, List.set_cons_succ]
    refine s_skip 11 (some 186) US rfl rfl (by kernel_rfl) (by kernel_rfl) (by kernel_rfl) (fun _ _ _ h => h) (by rfl) ?_
    try simp only [Act.put, List.setIfInBounds_toArray, List.set_cons_zero, List.set_cons_succ]
    refine s_take 12 (some 187) (v := ?_) US rfl rfl (by kernel_rfl) (by kernel_rfl) (by kernel_rfl) (fun _ _ _ h => h) (by rfl) (fun w9 hS => ?_) ?_
    rotate_left
    · go_simp <;> with_reducible rfl
    try simp only [Act.put, List.setIfInBounds_toArray, List.set_cons_zero, List.set_cons_succ]
    refine s_take 13 (some 188) (v := ?_) US rfl rfl (by kernel_rfl) (by kernel_rfl) (by kernel_rfl) (fun _ _ _ h => h) (by rfl) (fun w9 hS => ?_) ?_
    rotate_left
    · go_simp <;> with_reducible rfl
    try simp only [Act.put, List.setIfInBounds_toArray, List.set_cons_zero, List.set_cons_succ]
    refine s_take 14 (some 189) (v := ?_) US rfl rfl (by kernel_rfl) (by kernel_rfl) (by kernel_rfl) (fun _ _ _ h => h) (by rfl) (fun w9 hS => ?_) ?_
    rotate_left
    · go_simp <;> with_reducible rfl
    try simp only [Act.put, List.setIfInBounds_toArray, List.set_cons_zero, List.set_cons_succ]
    refine s_take 15 (some 190) (v := ?_) US rfl rfl (by kernel_rfl) (by kernel_rfl) (by kernel_rfl) (fun _ _ _ h => h) (by rfl) (fun w9 hS => ?_) ?_
    rotate_left
    · go_simp <;> with_reducible rfl
    try simp only [Act.put, List.setIfInBounds_toArray, List.set_cons_zero, List.set_cons_succ]
    refine s_take 16 (some 191) (v := ?_) US rfl rfl (by kernel_rfl) (by kernel_rfl) (by kernel_rfl) (fun _ _ _ h => h) (by rfl) (fun w9 hS => ?_) ?_
    rotate_left
    · have s1 := hS.c c1; go_simp <;> with_reducible rfl
    try simp only [Act.put, List.setIfInBounds_toArray, List.set_cons_zero, List.set_cons_succ]
    refine s_op 17 (by kernel_rfl) rfl (by rfl) (fun K9 hK9 => ?_)
    go_simp
    refine (CW _ US).mono ?_
    rintro en w2 ⟨rfl, hr⟩
    replace US : Up w1 w2 := US.t hr.out
    have RES := hid (h.out.same (U1.out.t US))
    clear hr
    refine hK9.out _ _ US ?_
    clear hK9 K9
    try simp only [Act.put, List.setIfInBounds_toArray, List.set_cons_zero, List.set_cons_succ]
    refine s_take 18 (some 193) (v := ?_) US rfl rfl (by kernel_rfl) (by kernel_rfl) (by kernel_rfl) (fun _ _ _ h => h) (by rfl) (fun w9 hS => ?_) ?_
    rotate_left
    · go_simp <;> with_reducible rfl
    try simp only [Act.put, List.setIfInBounds_toArray, List.set_cons_zero, List.set_cons_succ]
    refine s_take 19 (some 194) (v := ?_) US rfl rfl (by kernel_rfl) (by kernel_rfl) (by kernel_rfl) (fun _ _ _ h => h) (by rfl) (fun w9 hS => ?_) ?_
    rotate_left
    · go_simp <;> with_reducible rfl
    try simp only [Act.put, List.setIfInBounds_toArray, List.set_cons_zero, List.set_cons_succ]
    refine s_take 20 (some 8) (v := ?_) US rfl rfl (by kernel_rfl) (by kernel_rfl) (by kernel_rfl) (fun _ _ _ h => h) (by rfl) (fun w9 hS => ?_) ?_
    rotate_left
    · go_simp <;> with_reducible rfl
    try simp only [Act.put, List.setIfInBounds_toArray, List.set_cons_zero, List.set_cons_succ]
    refine s_take 21 (some 9) (v := ?_) US rfl rfl (by kernel_rfl) (by kernel_rfl) (by kernel_rfl) (fun _ _ _ h => h) (by rfl) (fun w9 hS => ?_) ?_
    rotate_left
    · go_simp <;> with_reducible rfl
    try simp only [Act.put, List.setIfInBounds_toArray, List.set_cons_zero, List.set_cons_succ]
    refine s_done (by kernel_rfl) ?_
    clear US CW
    go_wp2
    go_ret2
    exact ⟨n, T, W, l, A, k, c, rfl, RES⟩
  · by_cases hbn : (n : Int) < b
    · have CW := fun w' hu => giveBad_calls w' X n T W U b (hid (HU.out.up (w' := w') hu)) (hid (by have := hn.out; omega)) (hid (.inr hbn))
      have hd0 : decide (2 ≤ b) = true := decide_eq_true (by omega)
      have hd1 : decide (b ≤ (n : Int)) = false := decide_eq_false (by omega)
      go_enter Tryz.func55, Tryz.ntmps55
      go_wp2
      have US : Up w1 w1.drew := Up.drew w1
      refine s_start (fun w9 => Up w1 w9) (by kernel_rfl) ?_
      refine s_take 0 (some 175) (v := ?_) US rfl rfl (by kernel_rfl) (by kernel_rfl) (by kernel_rfl) (fun _ _ _ h => h) (by rfl) (fun w9 hS => ?_) ?_
      rotate_left
      · go_simp <;> with_reducible rfl
      try simp only [Act.put, List.setIfInBounds_toArray, List.set_cons_zero, List.set_cons_succ]
      refine s_take 1 (some 176) (v := ?_) US rfl rfl (by kernel_rfl) (by kernel_rfl) (by kernel_rfl) (fun _ _ _ h => h) (by rfl) (fun w9 hS => ?_) ?_
      rotate_left
      · go_simp <;> with_reducible rfl
      try simp only [Act.put, List.setIfInBounds_toArray, List.set_cons_zero, List.set_cons_succ]
      refine s_take 2 (some 177) (v := ?_) US rfl rfl (by kernel_rfl) (by kernel_rfl) (by kernel_rfl) (fun _ _ _ h => h) (by rfl) (fun w9 hS => ?_) ?_
      rotate_left
      · have s1 := hS.c c1; go_simp <;> with_reducible rfl
      try simp only [Act.put, List.setIfInBounds_toArray, List.set_cons_zero, List.set_cons_succ]
      refine s_take 3 (some 178) (v := ?_) US rfl rfl (by kernel_rfl) (by kernel_rfl) (by kernel_rfl) (fun _ _ _ h => h) (by rfl) (fun w9 hS => ?_) ?_
      rotate_left
      · go_simp <;> with_reducible rfl
      try simp only [Act.put, List.setIfInBounds_toArray, List.set_cons_zero, List.set_cons_succ]
      refine s_take 4 (some 179) (v := ?_) US rfl rfl (by kernel_rfl) (by kernel_rfl) (by kernel_rfl) (fun _ _ _ h => h) (by rfl) (fun w9 hS => ?_) ?_
      rotate_left
      · go_simp <;> with_reducible rfl
      try simp only [Act.put, List.setIfInBounds_toArray, List.set_cons_zero, List.set_cons_succ]
      refine s_take 5 (some 180) (v := ?_) US rfl rfl (by kernel_rfl) (by kernel_rfl) (by kernel_rfl) (fun _ _ _ h => h) (by rfl) (fun w9 hS => ?_) ?_
      rotate_left
      · go_simp <;> with_reducible rfl
      try simp only [Act.put, List.setIfInBounds_toArray, List.set_cons_zero, List.set_cons_succ]
      refine s_take 6 (some 181) (v := ?_) US rfl rfl (by kernel_rfl) (by kernel_rfl) (by kernel_rfl) (fun _ _ _ h => h) (by rfl) (fun w9 hS => ?_) ?_
      rotate_left
      · have s1 := hS.c c1; go_simp <;> with_reducible rfl
      try simp only [Act.put, List.setIfInBounds_toArray, List.set_cons_zero, List.set_cons_succ]
      refine s_take 7 (some 182) (v := ?_) US rfl rfl (by kernel_rfl) (by kernel_rfl) (by kernel_rfl) (fun _ _ _ h => h) (by rfl) (fun w9 hS => ?_) ?_
      rotate_left
      · go_simp <;> with_reducible rfl
      try simp only [Act.put, List.setIfInBounds_toArray, List.set_cons_zero, List.set_cons_succ]
      refine s_take 8 (some 183) (v := ?_) US rfl rfl (by kernel_rfl) (by kernel_rfl) (by kernel_rfl) (fun _ _ _ h => h) (by rfl) (fun w9 hS => ?_) ?_
      rotate_left
      · go_simp <;> with_reducible rfl
      try simp only [Act.put, List.setIfInBounds_toArray, List.set_cons_zero, List.set_cons_succ]
      refine s_take 9 (some 184) (v := ?_) US rfl rfl (by kernel_rfl) (by kernel_rfl) (by kernel_rfl) (fun _ _ _ h => h) (by rfl) (fun w9 hS => ?_) ?_
      rotate_left
      · go_simp <;> with_reducible rfl
      try simp only [Act.put, List.setIfInBounds_toArray, List.set_cons_zero, List.set_cons_succ]
      refine s_take 10 (some 185) (v := ?_) US rfl rfl (by kernel_rfl) (by kernel_rfl) (by kernel_rfl) (fun _ _ _ h => h) (by rfl) (fun w9 hS => ?_) ?_
      rotate_left
      · have s1 := hS.c cn; go_simp <;> with_reducible rfl
      try simp only [Act.put, List.setIfInBounds_toArray, List.set_cons_zero, List.set_cons_succ]
      refine s_take 11 (some 186) (v := ?_) US rfl rfl (by kernel_rfl) (by kernel_rfl) (by kernel_rfl) (fun _ _ _ h => h) (by rfl) (fun w9 hS => ?_) ?_
      rotate_left
      · go_simp <;> with_reducible rfl
      try simp only [Act.put, List.setIfInBounds_toArray, List.set_cons_zero, List.set_cons_succ]
      refine s_take 12 (some 187) (v := ?_) US rfl rfl (by kernel_rfl) (by kernel_rfl) (by kernel_rfl) (fun _ _ _ h => h) (by rfl) (fun w9 hS => ?_) ?_
      rotate_left
      · go_simp <;> with_reducible rfl
      try simp only [Act.put, List.setIfInBounds_toArray, List.set_cons_zero, List.set_cons_succ]
      refine s_take 13 (some 188) (v := ?_) US rfl rfl (by kernel_rfl) (by kernel_rfl) (by kernel_rfl) (fun _ _ _ h => h) (by rfl) (fun w9 hS => ?_) ?_
      rotate_left
      · go_simp <;> with_reducible rfl
      try simp only [Act.put, List.setIfInBounds_toArray, List.set_cons_zero, List.set_cons_succ]
      refine s_take 14 (some 189) (v := ?_) US rfl rfl (by kernel_rfl) (by kernel_rfl) (by kernel_rfl) (fun _ _ _ h => h) (by rfl) (fun w9 hS => ?_) ?_
      rotate_left
      · go_simp <;> with_reducible rfl
      try simp only [Act.put, List.setIfInBounds_toArray, List.set_cons_zero, List.set_cons_succ]
      refine s_take 15 (some 190) (v := ?_) US rfl rfl (by kernel_rfl) (by kernel_rfl) (by kernel_rfl) (fun _ _ _ h => h) (by rfl) (fun w9 hS => ?_) ?_
      rotate_left
      · go_simp <;> with_reducible rfl
      try simp only [Act.put, List.setIfInBounds_toArray, List.set_cons_zero, List.set_cons_succ]
      refine s_take 16 (some 191) (v := ?_) US rfl rfl (by kernel_rfl) (by kernel_rfl) (by kernel_rfl) (fun _ _ _ h => h) (by rfl) (fun w9 hS => ?_) ?_
      rotate_left
      · have s1 := hS.c c1; go_simp <;> with_reducible rfl
      try simp only [Act.put, List.setIfInBounds_toArray, List.set_cons_zero, List.set_cons_succ]
      refine s_op 17 (by kernel_rfl) rfl (by rfl) (fun K9 hK9 => ?_)
      go_simp
      refine (CW _ US).mono ?_
      rintro en w2 ⟨rfl, hr⟩
      replace US : Up w1 w2 := US.t hr.out
      have RES := hid (h.out.same (U1.out.t US))
      clear hr
      refine hK9.out _ _ US ?_
      clear hK9 K9
      try simp only [Act.put, List.setIfInBounds_toArray, List.set_cons_zero, List.set_cons_succ]
      refine s_take 18 (some 193) (v := ?_) US rfl rfl (by kernel_rfl) (by kernel_rfl) (by kernel_rfl) (fun _ _ _ h => h) (by rfl) (fun w9 hS => ?_) ?_
      rotate_left
      · go_simp <;> with_reducible rfl
      try simp only [Act.put, List.setIfInBounds_toArray, List.set_cons_zero, List.set_cons_succ]
      refine s_take 19 (some 194) (v := ?_) US rfl rfl (by kernel_rfl) (by kernel_rfl) (by kernel_rfl) (fun _ _ _ h => h) (by rfl) (fun w9 hS => ?_) ?_
      rotate_left
      · go_simp <;> with_reducible rfl
      try simp only [Act.put, List.setIfInBounds_toArray, List.set_cons_zero, List.set_cons_succ]
      refine s_take 20 (some 8) (v := ?_) US rfl rfl (by kernel_rfl) (by kernel_rfl) (by kernel_rfl) (fun _ _ _ h => h) (by rfl) (fun w9 hS => ?_) ?_
      rotate_left
      · go_simp <;> with_reducible rfl
      try simp only [Act.put, List.setIfInBounds_toArray, List.set_cons_zero, List.set_cons_succ]
      refine s_take 21 (some 9) (v := ?_) US rfl rfl (by kernel_rfl) (by kernel_rfl) (by kernel_rfl) (fun _ _ _ h => h) (by rfl) (fun w9 hS => ?_) ?_
      rotate_left
      · go_simp <;> with_reducible rfl
      try simp only [Act.put, List.setIfInBounds_toArray, List.set_cons_zero, List.set_cons_succ]
      refine s_done (by kernel_rfl) ?_
      clear US CW
      go_wp2
      go_ret2
      exact ⟨n, T, W, l, A, k, c, rfl, RES⟩
    · have hd0 : decide (2 ≤ b) = true := decide_eq_true (by omega)
      have hd1 : decide (b ≤ (n : Int)) = true := decide_eq_true (by omega)
      go_enter Tryz.func55, Tryz.ntmps55
      go_wp2
      go_quiet (fail)
      have RES := hid (h.out.same (U1.out.t (Fr.below ((Fr.refl No w1).drewN nq) (Nat.le_refl _) (fun _ _ h => h))))
      go_wp2
      go_ret2
      exact ⟨n, T, W, l, A, k, c, rfl, RES⟩
end
end Go.Proofs.YtbcghggkfnagoaaGreatDoor
