/- THE WALK of the document's out. -/
import Derived.Test.YtlikggeceeennaaRf1
set_option linter.unusedVariables false
set_option linter.unusedSimpArgs false
namespace Go.Proofs.Ytlikggeceeennaa
open Go Go.RowKit Hach

theorem own_any (A : Option Addr) (n c m d : Nat) : (Value.slice A n c).ownBlock = (Value.slice A m d).ownBlock := by cases A <;> rfl
theorem rowC_one (x : RowR) : ∀ u ∈ rowC x, u.oneCell' = true := by
  intro u hu
  unfold rowC at hu
  simp only [List.mem_cons, List.not_mem_nil, or_false] at hu
  rcases hu with rfl | rfl | rfl | rfl <;> rfl
set_option maxRecDepth 100000 in
set_option maxHeartbeats 1000000 in
theorem rout_calls (w : World) (base b : Nat) (room hit miss : Int) (A : Option Addr) (c : Nat) (R : List RowR) (i : Nat) (h : Hid (RefAt w base b room hit miss A c R)) (hl : Hid (R.length < 1000000)) (hi : Hid (i < R.length)) :
    Calls Try.prog 134 #[ptr b, .int .i64 i] w fun en w' => en = .returned (.tuple #[]) ∧ Hid (∃ A' c', RefAt w' base b room hit miss A' c' (R.take i ++ R.drop (i + 1)) ∧ Below base w w' ∧ Fr (fun k => k = b) w w' ∧ ∀ k, (Value.slice A' (R.take i ++ R.drop (i + 1)).length c').ownBlock = some k → w.heap.size ≤ k) := by
  have c1 := h.out.c1
  obtain ⟨n, hn⟩ : ∃ n, R.length = n := ⟨_, rfl⟩
  have hrd := Rd.own h.out.rows
  obtain ⟨g, off, rfl, q0, _⟩ := h.out.at (Up.refl w) hi.out
  have hnc : n ≤ c := by
    obtain ⟨A', c', e, hh⟩ := own_form h.out.rows
    injection e with _ _ e
    omega
  have hin : i < n := by rw [← hn]; exact hi.out
  rw [hn] at c1
  have i0 : (0 : Int) ≤ (i : Int) := by omega
  have i1 : (i : Int) ≤ (c : Int) := by omega
  have i2 : IntKind.i64.wrap ((i : Int) + 1) = (i : Int) + 1 := by rw [IntKind.wrap_i64]; have := hl.out; omega
  have i3 : (0 : Int) ≤ (i : Int) + 1 := by omega
  have i4 : (i : Int) + 1 ≤ (n : Int) := by omega
  have i5 : (n : Int) ≤ (c : Int) := by omega
  have fz := h.out.fz 1
  have HN := hid hn
  have HI := hid (And.intro hin hnc)
  have HRD := hid hrd
  clear hn hrd q0 hin hnc
  unfold ptr
  go_enter Try.func134, Try.ntmps134
  go_wp2
  have HT : Hid (Rd w (some ⟨g, off, none⟩) ((R.take i).flatMap rowC)) := hid (by rw [flat_take rowC_length]; exact HRD.out.take _)
  have HTL : Hid (((R.take i).flatMap rowC).length = i * 4) := hid (by rw [flat_length rowC_length, List.length_take, HN.out]; have := HI.out.1; rw [Nat.min_eq_left (by omega)])
  have HD : Hid (Rd w (if c = i + 1 then some ⟨g, off, none⟩ else some ⟨g, off + (i + 1) * 4, none⟩) ((R.drop (i + 1)).flatMap rowC)) := hid (by
    by_cases hc : c = i + 1
    · rw [List.drop_of_length_le (by rw [HN.out]; have := HI.out.2; omega)]; exact Rd.nil _ _
    · rw [if_neg hc, flat_drop rowC_length]; exact HRD.out.drop _)
  have HDL : Hid (((R.drop (i + 1)).flatMap rowC).length = (n - (i + 1)) * 4) := hid (by rw [flat_length rowC_length, List.length_drop, HN.out])
  have HB : Hid (i < 1000000 ∧ n < 1000000) := hid ⟨by have := HI.out.1; have := hl.out; have := HN.out; omega, by have := hl.out; have := HN.out; omega⟩
  have US : Up w w.drew := Up.drew w
  have BS := hid h.out.bs
  refine t_start (Up w) 19 (by kernel_rfl) ?_
  refine t_take 0 (some 4) (v := ?_) US rfl rfl (by kernel_rfl) (by kernel_rfl) (by kernel_rfl) (by kernel_rfl) (fun _ _ _ h => h) (by rfl) (fun w9 hS => ?_) ?_
  rotate_left
  · go_simp <;> with_reducible rfl
  try simp only [Act.put, List.setIfInBounds_toArray, List.set_cons_zero, List.set_cons_succ]
  refine t_take 2 (some 6) (v := ?_) US rfl rfl (by kernel_rfl) (by kernel_rfl) (by kernel_rfl) (by kernel_rfl) (fun _ _ _ h => h) (by rfl) (fun w9 hS => ?_) ?_
  rotate_left
  · go_simp <;> with_reducible rfl
  try simp only [Act.put, List.setIfInBounds_toArray, List.set_cons_zero, List.set_cons_succ]
  refine t_take 3 (some 7) (v := ?_) US rfl rfl (by kernel_rfl) (by kernel_rfl) (by kernel_rfl) (by kernel_rfl) (fun _ _ _ h => h) (by rfl) (fun w9 hS => ?_) ?_
  rotate_left
  · go_simp <;> with_reducible rfl
  try simp only [Act.put, List.setIfInBounds_toArray, List.set_cons_zero, List.set_cons_succ]
  refine t_take 4 (some 8) (v := ?_) US rfl rfl (by kernel_rfl) (by kernel_rfl) (by kernel_rfl) (by kernel_rfl) (fun _ _ _ h => h) (by rfl) (fun w9 hS => ?_) ?_
  rotate_left
  · go_simp <;> with_reducible rfl
  try simp only [Act.put, List.setIfInBounds_toArray, List.set_cons_zero, List.set_cons_succ]
  refine t_take 5 (some 9) (v := ?_) US rfl rfl (by kernel_rfl) (by kernel_rfl) (by kernel_rfl) (by kernel_rfl) (fun _ _ _ h => h) (by rfl) (fun w9 hS => ?_) ?_
  rotate_left
  · have e0 := hS.c c1; go_simp <;> with_reducible rfl
  try simp only [Act.put, List.setIfInBounds_toArray, List.set_cons_zero, List.set_cons_succ]
  refine t_take 6 (some 10) (v := ?_) US rfl rfl (by kernel_rfl) (by kernel_rfl) (by kernel_rfl) (by kernel_rfl) (fun _ _ _ h => h) (by rfl) (fun w9 hS => ?_) ?_
  rotate_left
  · go_simp <;> with_reducible rfl
  try simp only [Act.put, List.setIfInBounds_toArray, List.set_cons_zero, List.set_cons_succ]
  refine t_take 7 (some 11) (v := ?_) US rfl rfl (by kernel_rfl) (by kernel_rfl) (by kernel_rfl) (by kernel_rfl) (fun _ _ _ h => h) (by rfl) (fun w9 hS => ?_) ?_
  rotate_left
  · go_simp <;> with_reducible rfl
  try simp only [Act.put, List.setIfInBounds_toArray, List.set_cons_zero, List.set_cons_succ]
  refine t_take 9 (some 13) (v := ?_) US rfl rfl (by kernel_rfl) (by kernel_rfl) (by kernel_rfl) (by kernel_rfl) (fun _ _ _ h => h) (by rfl) (fun w9 hS => ?_) ?_
  rotate_left
  · go_simp <;> with_reducible rfl
  try simp only [Act.put, List.setIfInBounds_toArray, List.set_cons_zero, List.set_cons_succ]
  refine t_take 10 (some 14) (v := ?_) US rfl rfl (by kernel_rfl) (by kernel_rfl) (by kernel_rfl) (by kernel_rfl) (fun _ _ _ h => h) (by rfl) (fun w9 hS => ?_) ?_
  rotate_left
  · go_simp <;> with_reducible rfl
  try simp only [Act.put, List.setIfInBounds_toArray, List.set_cons_zero, List.set_cons_succ]
  refine t_take 11 (some 15) (v := ?_) US rfl rfl (by kernel_rfl) (by kernel_rfl) (by kernel_rfl) (by kernel_rfl) (fun _ _ _ h => h) (by rfl) (fun w9 hS => ?_) ?_
  rotate_left
  · go_simp <;> with_reducible rfl
  try simp only [Act.put, List.setIfInBounds_toArray, List.set_cons_zero, List.set_cons_succ]
  refine t_take 12 (some 16) (v := ?_) US rfl rfl (by kernel_rfl) (by kernel_rfl) (by kernel_rfl) (by kernel_rfl) (fun _ _ _ h => h) (by rfl) (fun w9 hS => ?_) ?_
  rotate_left
  · have e0 := hS.c c1; go_simp <;> with_reducible rfl
  try simp only [Act.put, List.setIfInBounds_toArray, List.set_cons_zero, List.set_cons_succ]
  refine t_take 13 (some 17) (v := ?_) US rfl rfl (by kernel_rfl) (by kernel_rfl) (by kernel_rfl) (by kernel_rfl) (fun _ _ _ h => h) (by rfl) (fun w9 hS => ?_) ?_
  rotate_left
  · go_simp <;> with_reducible rfl
  try simp only [Act.put, List.setIfInBounds_toArray, List.set_cons_zero, List.set_cons_succ]
  refine t_take 14 (some 18) (v := ?_) US rfl rfl (by kernel_rfl) (by kernel_rfl) (by kernel_rfl) (by kernel_rfl) (fun _ _ _ h => h) (by rfl) (fun w9 hS => ?_) ?_
  rotate_left
  · go_simp <;> with_reducible rfl
  try simp only [Act.put, List.setIfInBounds_toArray, List.set_cons_zero, List.set_cons_succ]
  refine t_take 15 (some 19) (v := ?_) US rfl rfl (by kernel_rfl) (by kernel_rfl) (by kernel_rfl) (by kernel_rfl) (fun _ _ _ h => h) (by rfl) (fun w9 hS => ?_) ?_
  rotate_left
  · go_simp <;> with_reducible rfl
  try simp only [Act.put, List.setIfInBounds_toArray, List.set_cons_zero, List.set_cons_succ]
  refine t_op 1 (by kernel_rfl) rfl (by rfl) (fun K9 hK9 => ?_)
  go_simp
  replace US : Up w ((w.alloc (.cells #[] 174)).drew) := US.t (show Up w.drew (w.drew.alloc (.cells #[] 174)) from (Below.refl _ _).alloc (Nat.le_refl _) _)
  have O1 := hid (show ((w.alloc (.cells #[] 174)).drew).ownsRow w.heap.size 174 4 (.slice (some ⟨w.heap.size, 0, none⟩) 0 0) 0 [] from own_lit0 w w.heap.size 174 4 (Nat.le_refl _))
  refine hK9.out _ _ US ?_
  clear hK9 K9
  try simp only [Act.put, List.setIfInBounds_toArray, List.set_cons_zero, List.set_cons_succ]
  refine t_op 8 (by kernel_rfl) rfl (by rfl) (fun K9 hK9 => ?_)
  refine wp_append elemRow (.tmp 5) (.tmp 11) rfl rfl O1.out rfl (HT.out.grown US) HTL.out (flat_one rowC_one _) (by have := HB.out.1; simp only [maxLen]; omega) (by have := HB.out.1; omega) US.size ?_
  intro A1 k1 w1 o1 g1 d1
  replace US : Up w w1 := below_append US (Nat.le_refl _) US.size O1.out g1
  simp only [Nat.zero_add, List.nil_append] at o1
  have O2 := hid o1
  clear o1 g1 O1 d1
  rw [Nat.zero_add]
  refine hK9.out _ _ US ?_
  clear hK9 K9
  try simp only [Act.put, List.setIfInBounds_toArray, List.set_cons_zero, List.set_cons_succ]
  refine t_op 16 (by kernel_rfl) rfl (by rfl) (fun K9 hK9 => ?_)
  refine wp_append elemRow (.tmp 12) (.tmp 19) rfl rfl O2.out rfl (HD.out.grown US) HDL.out (flat_one rowC_one _) (by have := HB.out.1; have := HB.out.2; simp only [maxLen]; omega) (by have := HB.out.1; have := HB.out.2; omega) US.size ?_
  intro A2 k2 w2 o2 g2 d2
  replace US : Up w w2 := below_append US (Nat.le_refl _) US.size O2.out g2
  have O3 := hid o2
  clear o2 g2 O2 d2
  have c12 := US.c c1
  have fz2 : w2.frozen? ⟨b, 1, none⟩ = false := (h.out.up US).fz 1
  refine hK9.out _ _ US ?_
  clear hK9 K9
  try simp only [Act.put, List.setIfInBounds_toArray, List.set_cons_zero, List.set_cons_succ]
  refine t_op 17 (by kernel_rfl) rfl (by rfl) (fun K9 hK9 => ?_)
  go_simp
  refine hK9.out _ _ US ?_
  clear hK9 K9
  try simp only [Act.put, List.setIfInBounds_toArray, List.set_cons_zero, List.set_cons_succ]
  refine t_take 18 (some 22) (v := ?_) US rfl rfl (by kernel_rfl) (by kernel_rfl) (by kernel_rfl) (by kernel_rfl) (fun _ _ _ h => h) (by rfl) (fun w9 hS => ?_) ?_
  rotate_left
  · go_simp <;> with_reducible rfl
  try simp only [Act.put, List.setIfInBounds_toArray, List.set_cons_zero, List.set_cons_succ]
  refine t_last (by kernel_rfl) rfl (by rfl) (fun K9 hK9 => ?_)
  go_simp
  refine hK9.out _ _ ?_
  clear hK9 K9
  try simp only [Act.put, List.setIfInBounds_toArray, List.set_cons_zero, List.set_cons_succ]
  refine t_done (by kernel_rfl) ?_
  clear c12 fz2
  go_end0
  refine ⟨rfl, hid ⟨A2, k2, ⟨?_, ?_, ?_, h.out.low⟩, ?_, ?_, fun k hk => (own_block O3.out k ((own_any _ _ _ _ _).trans hk)).1⟩⟩
  · rw [heap_setCell_same w2 b 1 _ _ _ (h.out.up US).own]
    rw [show (R.take i ++ R.drop (i + 1)).length = i + (n - (i + 1)) by rw [List.length_append, List.length_take, List.length_drop, HN.out]; have := HI.out.1; omega]
    rfl
  · rw [show (R.take i ++ R.drop (i + 1)).length = i + (n - (i + 1)) by rw [List.length_append, List.length_take, List.length_drop, HN.out]; have := HI.out.1; omega, List.flatMap_append]
    exact ((Fr.refl (fun k => k = b) w2).setCell (p := ⟨b, 1, none⟩) (fun _ => rfl) _).own (own_base O3.out h.out.bs) (fun k hk e => own_ne O3.out (h.out.up US).own (by decide) (by rw [hk, e]))
  · intro x hx
    have hxR : x ∈ R := by
      rcases List.mem_append.1 hx with hx | hx
      · exact List.mem_of_mem_take hx
      · exact List.mem_of_mem_drop hx
    have := (h.out.up US).data x hxR
    exact ((Fr.refl (fun k => k = b) w2).setCell (p := ⟨b, 1, none⟩) (fun _ => rfl) _).own this (fun k hk e => own_ne this (h.out.up US).own (by decide) (by rw [hk, e]))
  · exact Below.setCell (US.mono BS.out) (p := ⟨b, 1, none⟩) h.out.low _
  · exact (Fr.mono (T := fun k => k = b) (Fr.of_below US) (fun _ f => f.elim)).setCell (p := ⟨b, 1, none⟩) (fun _ => rfl) _
end Go.Proofs.Ytlikggeceeennaa
