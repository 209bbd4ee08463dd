/- THE WALK of hachurelaw08.act: Give. THE WALK of hachurelaw08.act: Trim. -/
import Derived.Test.YtbcghggkfnagoaaGreatDoorFAc3
set_option linter.unusedVariables false
set_option linter.unusedSimpArgs false
namespace Go.Proofs.YtbcghggkfnagoaaGreatDoor
open Go Go.RowKit Go.Maps Hach

theorem u64n {k : Nat} (h : k < 1000000000) : IntKind.u64.wrap (k : Int) = (k : Int) := u64w (by omega)
theorem IntRow.at {w : World} {b off i x : Nat} {l : List Nat} (h : IntRow w (some ⟨b, off, none⟩) l) (hx : l[i]? = some x) : w.cell? ⟨b, off + i, none⟩ = some (.int .i64 (x : Int)) := by
  obtain ⟨b', off', e, hc⟩ := h.1 i (natCell x) (by rw [List.getElem?_map, hx]; rfl)
  injection e with e
  injection e with e1 e2 _
  subst e1; subst e2
  exact hc
/-- A page has been given, and is taken no more. -/
theorem ActI.gave {w w3 w5 : World} {X : HpX} {base m n : Nat} {T : List Trk} {W : Nat → Int} {U : Nat → List UInt8} {l : List Nat} {A A5 : Option Addr} {k c c5 i i1 x : Nat} (h : ActI w X base m n T W l A k c) (hx : l[i]? = some x) (hi1 : i + 1 = i1) (hik : i < k) (hh : HeapW w3 X n (giveV T x) W U) (hd : DocW w3 base m n (giveV T x) (wordsC W)) (hq : Qt base w w3) (u5 : Up w3 w5) (hl : base ≤ w3.heap.size)
    (o5 : w5.ownsRow w3.heap.size 3 1 (.slice A5 (i + (k - i1)) c5) (i + (k - i1)) ((l.take i).map natCell ++ (l.drop i1).map natCell)) : ActI w5 X base m n (giveV T x) W (l.take i ++ l.drop i1) A5 (i + (k - i1)) c5 ∧ Qt base w w5 ∧ n ≤ n + 1 := by
  subst hi1
  have hs := split_at hx
  have hpm : l.Perm (x :: (l.take i ++ l.drop (i + 1))) := by
    conv => lhs; rw [hs]
    exact List.perm_middle
  have hnd2 : (x :: (l.take i ++ l.drop (i + 1))).Nodup := hpm.nodup_iff.1 h.nd
  rw [List.nodup_cons] at hnd2
  have hlp := hpm.length_eq
  rw [List.length_cons, h.len] at hlp
  rw [← List.map_append] at o5
  refine ⟨⟨⟨U, hh.up u5⟩, hd.up u5, IntRow.own o5, by omega, ?_, hnd2.2, fun z hz => ?_, giveV_small h.small x, ⟨h.low.1, h.low.2.1, Nat.le_trans hl u5.size⟩⟩, hq.trans (Qt.up u5 hl), Nat.le_succ n⟩
  · obtain ⟨_, _, e, h9⟩ := own_form o5
    injection e with _ _ e; omega
  · have hzl : z ∈ l := hpm.mem_iff.2 (List.mem_cons_of_mem _ hz)
    have := h.inn z hzl
    refine ⟨this.1, this.2.1, fun e => ?_⟩
    rcases (giveV_mem T x z).1 e with e | e
    · exact hnd2.1 (e ▸ hz)
    · exact this.2.2 e
section
variable (w : World) (X : HpX) (base m n : Nat) (T : List Trk) (W : Nat → Int) (l : List Nat) (A : Option Addr) (k c : Nat)
set_option maxRecDepth 100000 in
set_option maxHeartbeats 8000000 in
theorem act1_calls (b d : Int) (h : Hid (ActI w X base m n T W l A k c)) (hn : Hid (n < 3000)) (hb : Hid ((Lit.int .i64 b).wf = true)) :
    Calls Tryz.prog 55 #[.pointer (some ⟨X.h, 0, none⟩), .pointer (some ⟨m, 0, none⟩), .slice A k c, .agg #[.int .i64 1, .int .i64 b, .int .i64 d]] w (ActRet w X base m n) := by
  obtain ⟨w1, hw1⟩ : ∃ x, w.alloc (.cells #[.int .i64 1, .int .i64 b, .int .i64 d] 101) = x := ⟨_, rfl⟩
  obtain ⟨bx, hbx⟩ : ∃ b, w.heap.size = b := ⟨_, rfl⟩
  have u1 : Up w w1 := by rw [← hw1]; exact upAlD (Up.refl w) _
  have hb1 : BoxA w1 bx 1 b d := by rw [← hw1, ← hbx]; exact heap_alloc_new w _
  obtain ⟨c0, c1, c2⟩ := hb1.cells
  have U1 := hid u1
  have H1 := hid (h.out.up u1)
  obtain ⟨U, hU⟩ := H1.out.heap
  have HU := hid hU
  by_cases hk0 : k = 0
  · have RES := hid (h.out.same u1)
    clear hU hb1 u1
    have hk0' : (k : Int) = 0 := by omega
    subst hk0
    go_enter Tryz.func55, Tryz.ntmps55
    go_wp2
    go_ret2
    exact ⟨n, T, W, l, A, 0, c, rfl, RES⟩
  · obtain ⟨V, hV1, hV2, hV3⟩ := i64_of_u64 hb.out
    obtain ⟨i, hi⟩ : ∃ i, V % k = i := ⟨_, rfl⟩
    have hik : i < k := by rw [← hi]; exact Nat.mod_lt _ (by omega)
    have KN : Hid (k ≤ n ∧ n < 3000 ∧ i < k ∧ l.length = k) := hid ⟨H1.out.sizes.2, hn.out, hik, H1.out.len⟩
    have hrem : (V : Int).tmod (k : Int) = (i : Int) := by rw [← hi]; exact (Int.tmod_eq_emod_of_nonneg (by omega)).trans (by omega)
    have HREM := hid hrem
    have HV1 := hid hV1
    obtain ⟨x, hx⟩ : ∃ x, l[i]? = some x := ⟨_, List.getElem?_eq_getElem (by rw [H1.out.len]; exact hik)⟩
    obtain ⟨ob, oo, rfl, hcx⟩ := H1.out.row.1 i (natCell x) (by rw [List.getElem?_map, hx]; rfl)
    unfold natCell at hcx
    have hik2 : (i : Int) < (k : Int) := by omega
    have hkp : ¬ (k : Int) = 0 := by omega
    have HK1 : Hid (IntKind.u64.wrap (k : Int) = (k : Int)) := hid (u64n (by have := KN.out; omega))
    have HI1 : Hid (wrap64 (i : Int) = (i : Int)) := hid (w64p (by have := KN.out; omega))
    have HX := hid hx
    have HCX := hid hcx
    have XI := H1.out.inn x (List.mem_of_getElem? hx)
    have CG : ∀ w', HeapW w' X n T W U → Calls _ _ #[.pointer (some ⟨X.h, 0, none⟩), .int .i64 x] w' _ := fun w' hh => giveH_calls w' X n T W U x (hid hh) (hid (by have := hn.out; omega)) (hid XI)
    have CD : ∀ w', base ≤ w'.heap.size → DocW w' base m n T (wordsC W) → Calls _ _ #[.pointer (some ⟨m, 0, none⟩), .int .i64 x] w' _ := fun w' hl hd => dgive_calls w' base m n T (wordsC W) x (hid hd) (hid ⟨XI.1, XI.2.1⟩) (hid hl) (hid (by have := H1.out.sizes; have := hn.out; omega)) (hid H1.out.small)
    clear hU hb1 u1 hk0 hi hik hx XI hrem hV1 hV2 hV3
    obtain ⟨i1, hi1e⟩ : ∃ i1, i + 1 = i1 := ⟨_, rfl⟩
    have IK2 : Hid (i + 1 = i1 ∧ i < k ∧ k ≤ c ∧ k ≤ 3000 ∧ l.length = k) := hid ⟨hi1e, KN.out.2.2.1, h.out.cap, by have := KN.out; omega, KN.out.2.2.2⟩
    have HI1V : Hid (IntKind.i64.wrap ((i : Int) + 1) = (i1 : Int)) := hid ((IntWalk.i64_left _).trans (wS (by have := IK2.out; omega) hi1e))
    have HQ : Hid ((i1 : Int) ≤ k ∧ (k : Int) ≤ c ∧ (i : Int) ≤ c ∧ i ≤ i1 ∧ i1 ≤ k ∧ k ≤ c) := hid (by have := IK2.out; omega)
    obtain ⟨o2, hcase, OO⟩ : ∃ o2, ((c = i1 ∧ oo = o2) ∨ (¬ c = i1 ∧ o2 = oo + i1)) ∧ Hid (∀ w9, Rd w9 (some ⟨ob, oo, none⟩) (l.map natCell) → Rd w9 (some ⟨ob, o2, none⟩) ((l.drop i1).map natCell)) := by
      by_cases e : c = i1
      · exact ⟨oo, .inl ⟨e, rfl⟩, hid (fun w9 _ => by rw [List.drop_of_length_le (by have := IK2.out; omega)]; exact Rd.nil _ _)⟩
      · exact ⟨oo + i1, .inr ⟨e, rfl⟩, hid (fun w9 h9 => by rw [List.map_drop]; exact h9.drop i1)⟩
    clear hi1e
    have hV1 := HV1.out
    have hrem := HREM.out
    have hk1 := HK1.out
    have hi1 := HI1.out
    rcases hcase with ⟨q4, rfl⟩ | ⟨q4, rfl⟩
    all_goals
      have HQ4 := hid q4
      clear q4
      go_enter Tryz.func55, Tryz.ntmps55
      go_wp2
      have US : w1.drew.cell? ⟨ob, oo + i, none⟩ = some (.int .i64 (x : Int)) := HCX.out
      -- R9
      refine s_start (fun w9 => w9.cell? ⟨ob, oo + i, none⟩ = some (.int .i64 (x : Int))) (by kernel_rfl) ?_
      refine s_take 0 (some 55) (v := ?_) US rfl rfl (by kernel_rfl) (by kernel_rfl) (by kernel_rfl) (fun _ _ _ h => h) (by rfl) (fun w9 hS => ?_) ?_
      rotate_left
      · go_simp <;> with_reducible rfl
      try simp only [Act.put, List.setIfInBounds_toArray, List.set_cons_zero, List.set_cons_succ]
      refine s_take 1 (some 56) (v := ?_) US rfl rfl (by kernel_rfl) (by kernel_rfl) (by kernel_rfl) (fun _ _ _ h => h) (by rfl) (fun w9 hS => ?_) ?_
      rotate_left
      · go_simp <;> with_reducible rfl
      try simp only [Act.put, List.setIfInBounds_toArray, List.set_cons_zero, List.set_cons_succ]
      refine s_take 2 (some 57) (v := ?_) US rfl rfl (by kernel_rfl) (by kernel_rfl) (by kernel_rfl) (fun _ _ _ h => h) (by rfl) (fun w9 hS => ?_) ?_
      rotate_left
      · go_simp <;> with_reducible rfl
      try simp only [Act.put, List.setIfInBounds_toArray, List.set_cons_zero, List.set_cons_succ]
      refine s_take 3 (some 58) (v := ?_) US rfl rfl (by kernel_rfl) (by kernel_rfl) (by kernel_rfl) (fun _ _ _ h => h) (by rfl) (fun w9 hS => ?_) ?_
      rotate_left
      · go_simp <;> with_reducible rfl
      try simp only [Act.put, List.setIfInBounds_toArray, List.set_cons_zero, List.set_cons_succ]
      refine s_take 4 (some 59) (v := ?_) US rfl rfl (by kernel_rfl) (by kernel_rfl) (by kernel_rfl) (fun _ _ _ h => h) (by rfl) (fun w9 hS => ?_) ?_
      rotate_left
      · have s1 := hS; go_simp <;> with_reducible rfl
      try simp only [Act.put, List.setIfInBounds_toArray, List.set_cons_zero, List.set_cons_succ]
      refine s_take 6 (some 61) (v := ?_) US rfl rfl (by kernel_rfl) (by kernel_rfl) (by kernel_rfl) (fun _ _ _ h => h) (by rfl) (fun w9 hS => ?_) ?_
      rotate_left
      · go_simp <;> with_reducible rfl
      try simp only [Act.put, List.setIfInBounds_toArray, List.set_cons_zero, List.set_cons_succ]
      refine s_take 7 (some 62) (v := ?_) US rfl rfl (by kernel_rfl) (by kernel_rfl) (by kernel_rfl) (fun _ _ _ h => h) (by rfl) (fun w9 hS => ?_) ?_
      rotate_left
      · go_simp <;> with_reducible rfl
      try simp only [Act.put, List.setIfInBounds_toArray, List.set_cons_zero, List.set_cons_succ]
      refine s_take 8 (some 63) (v := ?_) US rfl rfl (by kernel_rfl) (by kernel_rfl) (by kernel_rfl) (fun _ _ _ h => h) (by rfl) (fun w9 hS => ?_) ?_
      rotate_left
      · go_simp <;> with_reducible rfl
      try simp only [Act.put, List.setIfInBounds_toArray, List.set_cons_zero, List.set_cons_succ]
      refine s_take 9 (some 64) (v := ?_) US rfl rfl (by kernel_rfl) (by kernel_rfl) (by kernel_rfl) (fun _ _ _ h => h) (by rfl) (fun w9 hS => ?_) ?_
      rotate_left
      · go_simp <;> with_reducible rfl
      try simp only [Act.put, List.setIfInBounds_toArray, List.set_cons_zero, List.set_cons_succ]
      refine s_take 10 (some 65) (v := ?_) US rfl rfl (by kernel_rfl) (by kernel_rfl) (by kernel_rfl) (fun _ _ _ h => h) (by rfl) (fun w9 hS => ?_) ?_
      rotate_left
      · have s1 := hS; go_simp <;> with_reducible rfl
      try simp only [Act.put, List.setIfInBounds_toArray, List.set_cons_zero, List.set_cons_succ]
      refine s_op 5 (by kernel_rfl) rfl (by rfl) (fun K9 hK9 => ?_)
      go_simp
      refine (CG _ (HU.out.up (Up.drew w1))).mono ?_
      rintro en w2 ⟨rfl, hr⟩
      have Q2 : Hid (Qt base w1.drew w2) := hid (Qt.heap (HU.out.up (Up.drew w1)) hr.out.2 H1.out.low)
      have R2 := hid ((H1.out.row.up (Up.drew w1)).qt Q2.out)
      have D2 := hid ((H1.out.doc.up (Up.drew w1)).heap (HU.out.up (Up.drew w1)) hr.out.2)
      have HW2 := hid hr.out.1
      have L2 : Hid (base ≤ w2.heap.size) := hid (Nat.le_trans H1.out.low.2.2 hr.out.2.size)
      replace US : w2.cell? ⟨ob, oo + i, none⟩ = some (.int .i64 (x : Int)) := R2.out.at HX.out
      clear hr CG
      refine hK9.out _ _ US ?_
      clear hK9 K9
      try simp only [Act.put, List.setIfInBounds_toArray, List.set_cons_zero, List.set_cons_succ]
      refine s_op 11 (by kernel_rfl) rfl (by rfl) (fun K9 hK9 => ?_)
      go_simp
      refine (CD _ L2.out D2.out).mono ?_
      rintro en w3 ⟨rfl, hr⟩
      have Q3 := hid (Qt.doc D2.out hr.out.2 L2.out)
      have R3 := hid (R2.out.qt Q3.out)
      have HW3 := hid (HW2.out.doc D2.out hr.out.2)
      have D3 := hid hr.out.1
      have L3 : Hid (base ≤ w3.heap.size) := hid (Nat.le_trans L2.out hr.out.2.size)
      replace US : w3.cell? ⟨ob, oo + i, none⟩ = some (.int .i64 (x : Int)) := R3.out.at HX.out
      clear hr CD
      refine hK9.out _ _ US ?_
      clear hK9 K9
      try simp only [Act.put, List.setIfInBounds_toArray, List.set_cons_zero, List.set_cons_succ]
      refine s_take 12 (some 67) (v := ?_) US rfl rfl (by kernel_rfl) (by kernel_rfl) (by kernel_rfl) (fun _ _ _ h => h) (by rfl) (fun w9 hS => ?_) ?_
      rotate_left
      · go_simp <;> with_reducible rfl
      try simp only [Act.put, List.setIfInBounds_toArray, List.set_cons_zero, List.set_cons_succ]
      refine s_take 13 (some 13) (v := ?_) US rfl rfl (by kernel_rfl) (by kernel_rfl) (by kernel_rfl) (fun _ _ _ h => h) (by rfl) (fun w9 hS => ?_) ?_
      rotate_left
      · go_simp <;> with_reducible rfl
      try simp only [Act.put, List.setIfInBounds_toArray, List.set_cons_zero, List.set_cons_succ]
      refine s_done (by kernel_rfl) ?_
      have QQ : Hid (Qt base w w3) := hid (((Qt.up (U1.out.t (Up.drew w1)) h.out.low.2.2).trans Q2.out).trans Q3.out)
      clear US Q2 Q3 R2 D2 HW2 L2
      go_wp2
      clear hV1 hrem hk1 hi1 hcx c0 c1 c2 hik2 hkp
      have R1 : Hid (Rd w3 (some ⟨ob, oo, none⟩) ((l.take i).map natCell)) := hid (by rw [List.map_take]; exact R3.out.1.take i)
      have R2 := hid (OO.out _ R3.out.1)
      have US : Up w3 w3.drew := Up.drew w3
      obtain ⟨q1, q2, q3, q7, q8, q9⟩ := HQ.out
      have q4 := HQ4.out
      refine s_start (fun w9 => Up w3 w9) (by kernel_rfl) ?_
      refine s_take 1 (some 69) (v := ?_) US rfl rfl (by kernel_rfl) (by kernel_rfl) (by kernel_rfl) (fun _ _ _ h => h) (by rfl) (fun w9 hS => ?_) ?_
      rotate_left
      · go_simp <;> with_reducible rfl
      try simp only [Act.put, List.setIfInBounds_toArray, List.set_cons_zero, List.set_cons_succ]
      refine s_take 2 (some 70) (v := ?_) US rfl rfl (by kernel_rfl) (by kernel_rfl) (by kernel_rfl) (fun _ _ _ h => h) (by rfl) (fun w9 hS => ?_) ?_
      rotate_left
      · go_simp <;> with_reducible rfl
      try simp only [Act.put, List.setIfInBounds_toArray, List.set_cons_zero, List.set_cons_succ]
      refine s_take 3 (some 71) (v := ?_) US rfl rfl (by kernel_rfl) (by kernel_rfl) (by kernel_rfl) (fun _ _ _ h => h) (by rfl) (fun w9 hS => ?_) ?_
      rotate_left
      · go_simp <;> with_reducible rfl
      try simp only [Act.put, List.setIfInBounds_toArray, List.set_cons_zero, List.set_cons_succ]
      refine s_take 5 (some 73) (v := ?_) US rfl rfl (by kernel_rfl) (by kernel_rfl) (by kernel_rfl) (fun _ _ _ h => h) (by rfl) (fun w9 hS => ?_) ?_
      rotate_left
      · go_simp <;> with_reducible rfl
      try simp only [Act.put, List.setIfInBounds_toArray, List.set_cons_zero, List.set_cons_succ]
      refine s_take 6 (some 74) (v := ?_) US rfl rfl (by kernel_rfl) (by kernel_rfl) (by kernel_rfl) (fun _ _ _ h => h) (by rfl) (fun w9 hS => ?_) ?_
      rotate_left
      · go_simp <;> with_reducible rfl
      try simp only [Act.put, List.setIfInBounds_toArray, List.set_cons_zero, List.set_cons_succ]
      refine s_take 7 (some 75) (v := ?_) US rfl rfl (by kernel_rfl) (by kernel_rfl) (by kernel_rfl) (fun _ _ _ h => h) (by rfl) (fun w9 hS => ?_) ?_
      rotate_left
      · have hv := HI1V.out; go_simp <;> with_reducible rfl
      try simp only [Act.put, List.setIfInBounds_toArray, List.set_cons_zero, List.set_cons_succ]
      refine s_take 8 (some 76) (v := ?_) US rfl rfl (by kernel_rfl) (by kernel_rfl) (by kernel_rfl) (fun _ _ _ h => h) (by rfl) (fun w9 hS => ?_) ?_
      rotate_left
      · go_simp <;> with_reducible rfl
      try simp only [Act.put, List.setIfInBounds_toArray, List.set_cons_zero, List.set_cons_succ]
      refine s_take 10 (some 78) (v := ?_) US rfl rfl (by kernel_rfl) (by kernel_rfl) (by kernel_rfl) (fun _ _ _ h => h) (by rfl) (fun w9 hS => ?_) ?_
      rotate_left
      · go_simp <;> with_reducible rfl
      try simp only [Act.put, List.setIfInBounds_toArray, List.set_cons_zero, List.set_cons_succ]
      refine s_op 0 (by kernel_rfl) rfl (by rfl) (fun K9 hK9 => ?_)
      go_simp
      have u0 : Up w3 (w3.drew.alloc (.cells #[] 3)) := upAlD (Up.drew w3) _
      have U0 := hid u0
      replace US : Up w3 (w3.drew.alloc (.cells #[] 3)) := u0
      clear u0
      refine hK9.out _ _ US ?_
      clear hK9 K9
      try simp only [Act.put, List.setIfInBounds_toArray, List.set_cons_zero, List.set_cons_succ]
      refine s_op 4 (by kernel_rfl) rfl (by rfl) (fun K9 hK9 => ?_)
      show Oper.wp _ ⟨some 72, _, _, _, _, _⟩ _ _ _ _
      refine wp_append elemIN (.tmp 68) (.tmp 71) rfl rfl (own_lit0 w3.drew w3.heap.size 3 1 (Nat.le_refl _)) rfl (R1.out.grown U0.out) (by rw [List.length_map, List.length_take]; have := IK2.out; omega) (natCell_one _) (by have := IK2.out; simp only [maxLen]; omega) (by have := IK2.out; omega) U0.out.size ?_
      intro A4 c4 w4 o4 g4 d4
      have U4 := hid (below_append U0.out (Nat.le_refl _) U0.out.size (own_lit0 w3.drew w3.heap.size 3 1 (Nat.le_refl _)) g4)
      have O4 := hid o4
      clear o4 g4 d4
      replace US : Up w3 w4 := U4.out
      refine hK9.out _ _ US ?_
      clear hK9 K9
      try simp only [Act.put, List.setIfInBounds_toArray, List.set_cons_zero, List.set_cons_succ]
      refine s_op 9 (by kernel_rfl) rfl (by rfl) (fun K9 hK9 => ?_)
      rw [Nat.zero_add]
      have o4 := O4.out
      rw [Nat.zero_add, List.nil_append] at o4
      show Oper.wp _ ⟨some 77, _, _, _, _, _⟩ _ _ _ _
      refine wp_append elemIN (.tmp 72) (.tmp 76) rfl rfl o4 rfl (R2.out.grown U4.out) (by rw [List.length_map, List.length_drop]; have := IK2.out; omega) (natCell_one _) (by have := IK2.out; simp only [maxLen]; omega) (by have := IK2.out; omega) U4.out.size ?_
      intro A5 c5 w5 o5 g5 d5
      have U5 := hid (below_append U4.out (Nat.le_refl _) U4.out.size o4 g5)
      have O5 := hid o5
      clear o5 g5 d5 o4
      replace US : Up w3 w5 := U5.out
      refine hK9.out _ _ US ?_
      clear hK9 K9
      try simp only [Act.put, List.setIfInBounds_toArray, List.set_cons_zero, List.set_cons_succ]
      refine s_take 11 (some 8) (v := ?_) US rfl rfl (by kernel_rfl) (by kernel_rfl) (by kernel_rfl) (fun _ _ _ h => h) (by rfl) (fun w9 hS => ?_) ?_
      rotate_left
      · go_simp <;> with_reducible rfl
      try simp only [Act.put, List.setIfInBounds_toArray, List.set_cons_zero, List.set_cons_succ]
      refine s_take 12 (some 9) (v := ?_) US rfl rfl (by kernel_rfl) (by kernel_rfl) (by kernel_rfl) (fun _ _ _ h => h) (by rfl) (fun w9 hS => ?_) ?_
      rotate_left
      · go_simp <;> with_reducible rfl
      try simp only [Act.put, List.setIfInBounds_toArray, List.set_cons_zero, List.set_cons_succ]
      refine s_done (by kernel_rfl) ?_
      have RES : Hid (ActI w5 X base m n (giveV T x) W (l.take i ++ l.drop i1) A5 (i + (k - i1)) c5 ∧ Qt base w w5 ∧ n ≤ n + 1) := hid (ActI.gave h.out HX.out IK2.out.1 IK2.out.2.1 HW3.out D3.out QQ.out U5.out L3.out O5.out)
      clear US q4 q7 q8 q9 U0 U4 O4
      go_wp2
      go_ret2
      exact ⟨n, giveV T x, W, l.take i ++ l.drop i1, A5, i + (k - i1), c5, rfl, RES⟩
end
end Go.Proofs.YtbcghggkfnagoaaGreatDoor

namespace Go.Proofs.YtbcghggkfnagoaaGreatDoor
open Go Go.RowKit Go.Maps Hach

section
variable (w : World) (X : HpX) (base m n : Nat) (T : List Trk) (W : Nat → Int) (l : List Nat) (A : Option Addr) (k c : Nat)
set_option maxRecDepth 100000 in
set_option maxHeartbeats 8000000 in
theorem act3_calls (b d : Int) (h : Hid (ActI w X base m n T W l A k c)) (hn : Hid (n < 3000)) :
    Calls Tryz.prog 55 #[.pointer (some ⟨X.h, 0, none⟩), .pointer (some ⟨m, 0, none⟩), .slice A k c, .agg #[.int .i64 3, .int .i64 b, .int .i64 d]] w (ActRet w X base m n) := by
  obtain ⟨w1, hw1⟩ : ∃ x, w.alloc (.cells #[.int .i64 3, .int .i64 b, .int .i64 d] 101) = x := ⟨_, rfl⟩
  obtain ⟨bx, hbx⟩ : ∃ b, w.heap.size = b := ⟨_, rfl⟩
  have u1 : Up w w1 := by rw [← hw1]; exact upAlD (Up.refl w) _
  have hb1 : BoxA w1 bx 3 b d := by rw [← hw1, ← hbx]; exact heap_alloc_new w _
  have U1 := hid u1
  have H1 := hid (h.out.up u1)
  have HB := hid hb1
  have c0 := hb1.cells.1
  obtain ⟨U, hU⟩ := H1.out.heap
  have HU := hid hU
  have KN : Hid (k ≤ n ∧ n < 3000 ∧ l.length = k) := hid ⟨H1.out.sizes.2, hn.out, H1.out.len⟩
  clear hU hb1 u1
  go_enter Tryz.func55, Tryz.ntmps55
  go_wp2
  go_loopw [117] (fun iv wr => ∃ s : Nat, iv = .int .i64 s ∧ s ≤ k ∧ wr = w1 ∧ Hid (∀ x ∈ l.take s, (x : Int) ≤ b)) (fun iv _ => k - (intOf iv).toNat)
  case atStart => exact ⟨0, rfl, Nat.zero_le _, rfl, hid (fun x hx => by simp at hx)⟩
  case round =>
    obtain ⟨s, rfl, hs, hwr, iv⟩ := hrel
    subst hwr
    by_cases hlt : (s : Int) < k
    · obtain ⟨x, hx⟩ : ∃ x, l[s]? = some x := ⟨_, List.getElem?_eq_getElem (by have := KN.out; omega)⟩
      obtain ⟨ob, oo, rfl, hcz⟩ := H1.out.row.1 s (natCell x) (by rw [List.getElem?_map, hx]; rfl)
      clear hcz
      have hcx := H1.out.row.at hx
      have c1 := HB.out.cells.2.1
      have SK : Hid (s < k ∧ k < 3000) := hid (by have := KN.out; omega)
      by_cases hxb : b < (x : Int)
      · have RES := hid (h.out.same U1.out)
        clear iv hx hs
        go_wp2
        go_ret2
        exact ⟨n, T, W, l, _, k, c, rfl, RES⟩
      · have NEXT : Hid (∀ y ∈ l.take (s + 1), (y : Int) ≤ b) := hid (fun y hy => by
          rw [List.take_add_one, hx, List.mem_append] at hy
          rcases hy with hy | hy
          · exact iv.out y hy
          · have : y = x := by simpa using hy
            subst this; omega)
        clear iv hx hs
        go_wp2
        go_roundw
        case rel => exact ⟨s + 1, by first | rfl | rw [wS (K := s + 1) (by have := SK.out; omega) rfl], SK.out.1, (by first | trivial | rfl), NEXT⟩
        case measure => have := SK.out; first | rw [wS (K := s + 1) (by omega) rfl] | skip
                        simp only [intOf]; omega
    · have ALL : Hid (∀ x ∈ l, (x : Int) ≤ b) := hid (fun x hx => iv.out x (by rw [List.take_of_length_le (by have := KN.out; omega)]; exact hx))
      clear iv hs
      by_cases hbad : b < 1 ∨ (n : Int) < b
      · have CT := fun w' hu => trimBad_calls w' X n T W U b (hid (HU.out.up (w' := w') hu)) (hid (by have := hn.out; omega)) (hid hbad)
        have CD : ∀ w', DocW w' base m n T (wordsC W) → Calls _ _ #[.pointer (some ⟨m, 0, none⟩), .int .i64 b] w' _ := fun w' hd => dtrimBad_calls w' base m n T (wordsC W) b (hid hd) (hid hbad)
        clear hbad
        go_wp2
        have US : wr.drew.cell? ⟨bx, 1, none⟩ = some (.int .i64 b) := HB.out.cells.2.1
        refine s_start (fun w9 => w9.cell? ⟨bx, 1, none⟩ = some (.int .i64 b)) (by kernel_rfl) ?_
        refine s_take 0 (some 127) (v := ?_) US rfl rfl (by kernel_rfl) (by kernel_rfl) (by kernel_rfl) (fun _ _ _ h => h) (by rfl) (fun w9 hS => ?_) ?_
        rotate_left
        · go_simp <;> with_reducible rfl
        try simp only [Act.put, List.setIfInBounds_toArray, List.set_cons_zero, List.set_cons_succ]
        refine s_take 1 (some 128) (v := ?_) US rfl rfl (by kernel_rfl) (by kernel_rfl) (by kernel_rfl) (fun _ _ _ h => h) (by rfl) (fun w9 hS => ?_) ?_
        rotate_left
        · go_simp <;> with_reducible rfl
        try simp only [Act.put, List.setIfInBounds_toArray, List.set_cons_zero, List.set_cons_succ]
        refine s_take 2 (some 129) (v := ?_) US rfl rfl (by kernel_rfl) (by kernel_rfl) (by kernel_rfl) (fun _ _ _ h => h) (by rfl) (fun w9 hS => ?_) ?_
        rotate_left
        · go_simp <;> with_reducible rfl
        try simp only [Act.put, List.setIfInBounds_toArray, List.set_cons_zero, List.set_cons_succ]
        refine s_take 3 (some 130) (v := ?_) US rfl rfl (by kernel_rfl) (by kernel_rfl) (by kernel_rfl) (fun _ _ _ h => h) (by rfl) (fun w9 hS => ?_) ?_
        rotate_left
        · have s1 := hS; go_simp <;> with_reducible rfl
        try simp only [Act.put, List.setIfInBounds_toArray, List.set_cons_zero, List.set_cons_succ]
        refine s_take 5 (some 132) (v := ?_) US rfl rfl (by kernel_rfl) (by kernel_rfl) (by kernel_rfl) (fun _ _ _ h => h) (by rfl) (fun w9 hS => ?_) ?_
        rotate_left
        · go_simp <;> with_reducible rfl
        try simp only [Act.put, List.setIfInBounds_toArray, List.set_cons_zero, List.set_cons_succ]
        refine s_take 6 (some 133) (v := ?_) US rfl rfl (by kernel_rfl) (by kernel_rfl) (by kernel_rfl) (fun _ _ _ h => h) (by rfl) (fun w9 hS => ?_) ?_
        rotate_left
        · go_simp <;> with_reducible rfl
        try simp only [Act.put, List.setIfInBounds_toArray, List.set_cons_zero, List.set_cons_succ]
        refine s_take 7 (some 134) (v := ?_) US rfl rfl (by kernel_rfl) (by kernel_rfl) (by kernel_rfl) (fun _ _ _ h => h) (by rfl) (fun w9 hS => ?_) ?_
        rotate_left
        · have s1 := hS; go_simp <;> with_reducible rfl
        try simp only [Act.put, List.setIfInBounds_toArray, List.set_cons_zero, List.set_cons_succ]
        refine s_op 4 (by kernel_rfl) rfl (by rfl) (fun K9 hK9 => ?_)
        go_simp
        refine (CT _ (Up.drew wr)).mono ?_
        rintro en w2 ⟨rfl, hr⟩
        have U2 : Hid (Up wr w2) := hid ((Up.drew wr).t hr.out)
        replace US : w2.cell? ⟨bx, 1, none⟩ = some (.int .i64 b) := U2.out.c HB.out.cells.2.1
        clear hr CT
        refine hK9.out _ _ US ?_
        clear hK9 K9
        try simp only [Act.put, List.setIfInBounds_toArray, List.set_cons_zero, List.set_cons_succ]
        refine s_op 8 (by kernel_rfl) rfl (by rfl) (fun K9 hK9 => ?_)
        go_simp
        refine (CD w2 (H1.out.doc.up U2.out)).mono ?_
        rintro en w3 ⟨rfl, hw3⟩
        obtain rfl := hw3.symm
        clear hw3 CD
        refine hK9.out _ _ US ?_
        clear hK9 K9
        try simp only [Act.put, List.setIfInBounds_toArray, List.set_cons_zero, List.set_cons_succ]
        refine s_take 9 (some 136) (v := ?_) US rfl rfl (by kernel_rfl) (by kernel_rfl) (by kernel_rfl) (fun _ _ _ h => h) (by rfl) (fun w9 hS => ?_) ?_
        rotate_left
        · go_simp <;> with_reducible rfl
        try simp only [Act.put, List.setIfInBounds_toArray, List.set_cons_zero, List.set_cons_succ]
        refine s_take 10 (some 8) (v := ?_) US rfl rfl (by kernel_rfl) (by kernel_rfl) (by kernel_rfl) (fun _ _ _ h => h) (by rfl) (fun w9 hS => ?_) ?_
        rotate_left
        · go_simp <;> with_reducible rfl
        try simp only [Act.put, List.setIfInBounds_toArray, List.set_cons_zero, List.set_cons_succ]
        refine s_take 11 (some 9) (v := ?_) US rfl rfl (by kernel_rfl) (by kernel_rfl) (by kernel_rfl) (fun _ _ _ h => h) (by rfl) (fun w9 hS => ?_) ?_
        rotate_left
        · go_simp <;> with_reducible rfl
        try simp only [Act.put, List.setIfInBounds_toArray, List.set_cons_zero, List.set_cons_succ]
        refine s_done (by kernel_rfl) ?_
        have RES := hid (h.out.same (U1.out.t U2.out))
        clear US
        go_wp2
        go_ret2
        exact ⟨n, T, W, l, A, k, c, rfl, RES⟩
      · obtain ⟨k2, rfl⟩ : ∃ k2 : Nat, b = k2 := ⟨b.toNat, by omega⟩
        have K2 : Hid (1 ≤ k2 ∧ k2 ≤ n) := hid (by omega)
        have CT := fun w' hu => trim_calls w' X n T W U k2 (hid (HU.out.up (w' := w') hu)) (hid (by have := hn.out; omega)) K2
        have CD : ∀ w', base ≤ w'.heap.size → DocW w' base m n T (wordsC W) → Calls _ _ #[.pointer (some ⟨m, 0, none⟩), .int .i64 (k2 : Int)] w' _ := fun w' hl hd => dtrim_calls w' base m n T (wordsC W) k2 (hid hd) (hid (by have := K2.out; have := hn.out; omega)) (hid hl) (hid H1.out.tn.1) (hid H1.out.tn.2.1) (hid (by have := H1.out.sizes; have := hn.out; omega))
        clear hbad
        go_wp2
        have US : wr.drew.cell? ⟨bx, 1, none⟩ = some (.int .i64 (k2 : Int)) := HB.out.cells.2.1
        refine s_start (fun w9 => w9.cell? ⟨bx, 1, none⟩ = some (.int .i64 (k2 : Int))) (by kernel_rfl) ?_
        refine s_take 0 (some 127) (v := ?_) US rfl rfl (by kernel_rfl) (by kernel_rfl) (by kernel_rfl) (fun _ _ _ h => h) (by rfl) (fun w9 hS => ?_) ?_
        rotate_left
        · go_simp <;> with_reducible rfl
        try simp only [Act.put, List.setIfInBounds_toArray, List.set_cons_zero, List.set_cons_succ]
        refine s_take 1 (some 128) (v := ?_) US rfl rfl (by kernel_rfl) (by kernel_rfl) (by kernel_rfl) (fun _ _ _ h => h) (by rfl) (fun w9 hS => ?_) ?_
        rotate_left
        · go_simp <;> with_reducible rfl
        try simp only [Act.put, List.setIfInBounds_toArray, List.set_cons_zero, List.set_cons_succ]
        refine s_take 2 (some 129) (v := ?_) US rfl rfl (by kernel_rfl) (by kernel_rfl) (by kernel_rfl) (fun _ _ _ h => h) (by rfl) (fun w9 hS => ?_) ?_
        rotate_left
        · go_simp <;> with_reducible rfl
        try simp only [Act.put, List.setIfInBounds_toArray, List.set_cons_zero, List.set_cons_succ]
        refine s_take 3 (some 130) (v := ?_) US rfl rfl (by kernel_rfl) (by kernel_rfl) (by kernel_rfl) (fun _ _ _ h => h) (by rfl) (fun w9 hS => ?_) ?_
        rotate_left
        · have s1 := hS; go_simp <;> with_reducible rfl
        try simp only [Act.put, List.setIfInBounds_toArray, List.set_cons_zero, List.set_cons_succ]
        refine s_take 5 (some 132) (v := ?_) US rfl rfl (by kernel_rfl) (by kernel_rfl) (by kernel_rfl) (fun _ _ _ h => h) (by rfl) (fun w9 hS => ?_) ?_
        rotate_left
        · go_simp <;> with_reducible rfl
        try simp only [Act.put, List.setIfInBounds_toArray, List.set_cons_zero, List.set_cons_succ]
        refine s_take 6 (some 133) (v := ?_) US rfl rfl (by kernel_rfl) (by kernel_rfl) (by kernel_rfl) (fun _ _ _ h => h) (by rfl) (fun w9 hS => ?_) ?_
        rotate_left
        · go_simp <;> with_reducible rfl
        try simp only [Act.put, List.setIfInBounds_toArray, List.set_cons_zero, List.set_cons_succ]
        refine s_take 7 (some 134) (v := ?_) US rfl rfl (by kernel_rfl) (by kernel_rfl) (by kernel_rfl) (fun _ _ _ h => h) (by rfl) (fun w9 hS => ?_) ?_
        rotate_left
        · have s1 := hS; go_simp <;> with_reducible rfl
        try simp only [Act.put, List.setIfInBounds_toArray, List.set_cons_zero, List.set_cons_succ]
        refine s_op 4 (by kernel_rfl) rfl (by rfl) (fun K9 hK9 => ?_)
        go_simp
        refine (CT _ (Up.drew wr)).mono ?_
        rintro en w2 ⟨rfl, U', hr⟩
        have Q2 : Hid (Qt base wr.drew w2) := hid (Qt.heap (HU.out.up (Up.drew wr)) hr.out.2 H1.out.low)
        have D2 := hid ((H1.out.doc.up (Up.drew wr)).heap (HU.out.up (Up.drew wr)) hr.out.2)
        have HW2 := hid hr.out.1
        have L2 : Hid (base ≤ w2.heap.size) := hid (Nat.le_trans H1.out.low.2.2 hr.out.2.size)
        replace US : w2.cell? ⟨bx, 1, none⟩ = some (.int .i64 (k2 : Int)) := (HB.out.qt (w := wr.drew) Q2.out).cells.2.1
        clear hr CT
        refine hK9.out _ _ US ?_
        clear hK9 K9
        try simp only [Act.put, List.setIfInBounds_toArray, List.set_cons_zero, List.set_cons_succ]
        refine s_op 8 (by kernel_rfl) rfl (by rfl) (fun K9 hK9 => ?_)
        go_simp
        refine (CD w2 L2.out D2.out).mono ?_
        rintro en w3 ⟨rfl, hr⟩
        have Q3 := hid (Qt.doc D2.out hr.out.2 L2.out)
        have HW3 := hid (HW2.out.doc D2.out hr.out.2)
        have D3 := hid hr.out.1
        have L3 : Hid (base ≤ w3.heap.size) := hid (Nat.le_trans L2.out hr.out.2.size)
        replace US : w3.cell? ⟨bx, 1, none⟩ = some (.int .i64 (k2 : Int)) := ((HB.out.qt (w := wr.drew) Q2.out).qt Q3.out).cells.2.1
        clear hr CD
        refine hK9.out _ _ US ?_
        clear hK9 K9
        try simp only [Act.put, List.setIfInBounds_toArray, List.set_cons_zero, List.set_cons_succ]
        refine s_take 9 (some 136) (v := ?_) US rfl rfl (by kernel_rfl) (by kernel_rfl) (by kernel_rfl) (fun _ _ _ h => h) (by rfl) (fun w9 hS => ?_) ?_
        rotate_left
        · go_simp <;> with_reducible rfl
        try simp only [Act.put, List.setIfInBounds_toArray, List.set_cons_zero, List.set_cons_succ]
        refine s_take 10 (some 8) (v := ?_) US rfl rfl (by kernel_rfl) (by kernel_rfl) (by kernel_rfl) (fun _ _ _ h => h) (by rfl) (fun w9 hS => ?_) ?_
        rotate_left
        · go_simp <;> with_reducible rfl
        try simp only [Act.put, List.setIfInBounds_toArray, List.set_cons_zero, List.set_cons_succ]
        refine s_take 11 (some 9) (v := ?_) US rfl rfl (by kernel_rfl) (by kernel_rfl) (by kernel_rfl) (fun _ _ _ h => h) (by rfl) (fun w9 hS => ?_) ?_
        rotate_left
        · go_simp <;> with_reducible rfl
        try simp only [Act.put, List.setIfInBounds_toArray, List.set_cons_zero, List.set_cons_succ]
        refine s_done (by kernel_rfl) ?_
        have RES : Hid (ActI w3 X base m k2 (trimV T k2) W l A k c ∧ Qt base w w3 ∧ k2 ≤ n + 1) := hid ⟨⟨⟨U', HW3.out⟩, D3.out, ((H1.out.row.up (Up.drew wr)).qt Q2.out).qt Q3.out, H1.out.len, H1.out.cap, H1.out.nd, fun z hz => ⟨(H1.out.inn z hz).1, by have := ALL.out z hz; omega, fun e => by
          unfold trimV at e
          rw [foldG_mem] at e
          rcases e with e | e
          · exact (H1.out.inn z hz).2.2 (of_decide_eq_true (List.mem_filter.1 e).2)
          · simp [allT] at e⟩, foldG_small _ (fun t ht => by cases ht), ⟨H1.out.low.1, H1.out.low.2.1, L3.out⟩⟩, ((Qt.up (U1.out.t (Up.drew wr)) h.out.low.2.2).trans Q2.out).trans Q3.out, by have := K2.out; omega⟩
        clear US
        go_wp2
        go_ret2
        exact ⟨k2, trimV T k2, W, l, A, k, c, rfl, RES⟩
end
end Go.Proofs.YtbcghggkfnagoaaGreatDoor
