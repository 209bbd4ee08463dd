/- THE WALK of the document's Copy. -/
import Derived.Test.YtlikggeceeennaaRf6
import Derived.Test.YtlikggeceeennaaK8
set_option linter.unusedVariables false
set_option linter.unusedSimpArgs false
namespace Go.Proofs.Ytlikggeceeennaa
open Go Go.RowKit Hach

def RCopyRet (w : World) (room hits miss : Int) (V : List Vis) (en : Ending) (w' : World) : Prop := ∃ b, en = .returned (ptr b) ∧ Hid (RefM w' w.heap.size b room hits miss V ∧ Up w w')
set_option maxRecDepth 100000 in
set_option maxHeartbeats 2000000 in
theorem rcopy_calls (w : World) (base b : Nat) (room hits miss : Int) (V : List Vis) (h : Hid (RefM w base b room hits miss V)) (hl : Hid (V.length < 1000000)) :
    Calls Try.prog 34 #[ptr b] w (RCopyRet w room hits miss V) := by
  obtain ⟨A, c, R, h1, hv⟩ := h.out
  have H1 := hid h1
  have HV := hid hv
  obtain ⟨n, hn⟩ : ∃ n, R.length = n := ⟨_, rfl⟩
  have HN := hid hn
  have c0 := h1.c0
  have c1 := h1.c1
  have c2 := h1.c2
  have c3 := h1.c3
  rw [hn] at c1
  clear h1 hv hn
  unfold ptr
  go_enter Try.func34, Try.ntmps34
  go_wp2
  have HL : Hid (n < 1000000) := hid (by have h1 := HV.out; have h2 := hl.out; rw [← h1, List.length_map, HN.out] at h2; exact h2)
  have HR := hid (Rd.own H1.out.rows)
  have US : Up w w.drew := Up.drew w
  refine s_start (fun w9 => Up w w9) (by kernel_rfl) ?_
  refine s_take 0 (some 3) (v := ?_) US rfl rfl (by kernel_rfl) (by kernel_rfl) (by kernel_rfl) (fun _ _ _ h => h) (by rfl) (fun w9 hS => ?_) ?_
  rotate_left
  · go_simp <;> with_reducible rfl
  try simp only [Act.put, List.setIfInBounds_toArray, List.set_cons_zero, List.set_cons_succ]
  refine s_take 1 (some 4) (v := ?_) US rfl rfl (by kernel_rfl) (by kernel_rfl) (by kernel_rfl) (fun _ _ _ h => h) (by rfl) (fun w9 hS => ?_) ?_
  rotate_left
  · go_simp <;> with_reducible rfl
  try simp only [Act.put, List.setIfInBounds_toArray, List.set_cons_zero, List.set_cons_succ]
  refine s_take 2 (some 5) (v := ?_) US rfl rfl (by kernel_rfl) (by kernel_rfl) (by kernel_rfl) (fun _ _ _ h => h) (by rfl) (fun w9 hS => ?_) ?_
  rotate_left
  · go_simp <;> with_reducible rfl
  try simp only [Act.put, List.setIfInBounds_toArray, List.set_cons_zero, List.set_cons_succ]
  refine s_take 3 (some 6) (v := ?_) US rfl rfl (by kernel_rfl) (by kernel_rfl) (by kernel_rfl) (fun _ _ _ h => h) (by rfl) (fun w9 hS => ?_) ?_
  rotate_left
  · have f0 := hS.c c0; go_simp <;> with_reducible rfl
  try simp only [Act.put, List.setIfInBounds_toArray, List.set_cons_zero, List.set_cons_succ]
  refine s_take 5 (some 8) (v := ?_) US rfl rfl (by kernel_rfl) (by kernel_rfl) (by kernel_rfl) (fun _ _ _ h => h) (by rfl) (fun w9 hS => ?_) ?_
  rotate_left
  · go_simp <;> with_reducible rfl
  try simp only [Act.put, List.setIfInBounds_toArray, List.set_cons_zero, List.set_cons_succ]
  refine s_take 6 (some 9) (v := ?_) US rfl rfl (by kernel_rfl) (by kernel_rfl) (by kernel_rfl) (fun _ _ _ h => h) (by rfl) (fun w9 hS => ?_) ?_
  rotate_left
  · go_simp <;> with_reducible rfl
  try simp only [Act.put, List.setIfInBounds_toArray, List.set_cons_zero, List.set_cons_succ]
  refine s_take 7 (some 10) (v := ?_) US rfl rfl (by kernel_rfl) (by kernel_rfl) (by kernel_rfl) (fun _ _ _ h => h) (by rfl) (fun w9 hS => ?_) ?_
  rotate_left
  · go_simp <;> with_reducible rfl
  try simp only [Act.put, List.setIfInBounds_toArray, List.set_cons_zero, List.set_cons_succ]
  refine s_take 8 (some 11) (v := ?_) US rfl rfl (by kernel_rfl) (by kernel_rfl) (by kernel_rfl) (fun _ _ _ h => h) (by rfl) (fun w9 hS => ?_) ?_
  rotate_left
  · have f0 := hS.c c1; go_simp <;> with_reducible rfl
  try simp only [Act.put, List.setIfInBounds_toArray, List.set_cons_zero, List.set_cons_succ]
  refine s_take 10 (some 13) (v := ?_) US rfl rfl (by kernel_rfl) (by kernel_rfl) (by kernel_rfl) (fun _ _ _ h => h) (by rfl) (fun w9 hS => ?_) ?_
  rotate_left
  · go_simp <;> with_reducible rfl
  try simp only [Act.put, List.setIfInBounds_toArray, List.set_cons_zero, List.set_cons_succ]
  refine s_take 11 (some 14) (v := ?_) US rfl rfl (by kernel_rfl) (by kernel_rfl) (by kernel_rfl) (fun _ _ _ h => h) (by rfl) (fun w9 hS => ?_) ?_
  rotate_left
  · go_simp <;> with_reducible rfl
  try simp only [Act.put, List.setIfInBounds_toArray, List.set_cons_zero, List.set_cons_succ]
  refine s_take 12 (some 15) (v := ?_) US rfl rfl (by kernel_rfl) (by kernel_rfl) (by kernel_rfl) (fun _ _ _ h => h) (by rfl) (fun w9 hS => ?_) ?_
  rotate_left
  · go_simp <;> with_reducible rfl
  try simp only [Act.put, List.setIfInBounds_toArray, List.set_cons_zero, List.set_cons_succ]
  refine s_take 13 (some 16) (v := ?_) US rfl rfl (by kernel_rfl) (by kernel_rfl) (by kernel_rfl) (fun _ _ _ h => h) (by rfl) (fun w9 hS => ?_) ?_
  rotate_left
  · have f0 := hS.c c2; go_simp <;> with_reducible rfl
  try simp only [Act.put, List.setIfInBounds_toArray, List.set_cons_zero, List.set_cons_succ]
  refine s_take 14 (some 17) (v := ?_) US rfl rfl (by kernel_rfl) (by kernel_rfl) (by kernel_rfl) (fun _ _ _ h => h) (by rfl) (fun w9 hS => ?_) ?_
  rotate_left
  · go_simp <;> with_reducible rfl
  try simp only [Act.put, List.setIfInBounds_toArray, List.set_cons_zero, List.set_cons_succ]
  refine s_take 15 (some 18) (v := ?_) US rfl rfl (by kernel_rfl) (by kernel_rfl) (by kernel_rfl) (fun _ _ _ h => h) (by rfl) (fun w9 hS => ?_) ?_
  rotate_left
  · go_simp <;> with_reducible rfl
  try simp only [Act.put, List.setIfInBounds_toArray, List.set_cons_zero, List.set_cons_succ]
  refine s_take 16 (some 19) (v := ?_) US rfl rfl (by kernel_rfl) (by kernel_rfl) (by kernel_rfl) (fun _ _ _ h => h) (by rfl) (fun w9 hS => ?_) ?_
  rotate_left
  · go_simp <;> with_reducible rfl
  try simp only [Act.put, List.setIfInBounds_toArray, List.set_cons_zero, List.set_cons_succ]
  refine s_take 17 (some 20) (v := ?_) US rfl rfl (by kernel_rfl) (by kernel_rfl) (by kernel_rfl) (fun _ _ _ h => h) (by rfl) (fun w9 hS => ?_) ?_
  rotate_left
  · have f0 := hS.c c3; go_simp <;> with_reducible rfl
  try simp only [Act.put, List.setIfInBounds_toArray, List.set_cons_zero, List.set_cons_succ]
  refine s_op 4 (by kernel_rfl) rfl (by rfl) (fun K9 hK9 => ?_)
  go_simp
  have O1 := own_lit0 w.drew w.heap.size 174 4 (Nat.le_refl _)
  replace US : Up w (w.drew.alloc (.cells #[] 174)) := upAl US _
  refine hK9.out _ _ US ?_
  clear hK9 K9
  try simp only [Act.put, List.setIfInBounds_toArray, List.set_cons_zero, List.set_cons_succ]
  refine s_op 9 (by kernel_rfl) rfl (by rfl) (fun K9 hK9 => ?_)
  refine wp_append elemRow (.tmp 7) (.tmp 11) rfl rfl O1 rfl (HR.out.grown US) (by rw [flat_length rowC_length, HN.out]) (flat_one rowC_one _) (by have := HL.out; simp only [maxLen]; omega) (by have := HL.out; omega) US.size ?_
  intro A9 c9 w9 o9 g9 d9
  rw [Nat.zero_add] at o9 ⊢
  have O9 := hid o9
  replace US : Up w w9 := below_append US (Nat.le_refl _) US.size O1 g9
  clear o9 g9 d9 O1
  refine hK9.out _ _ US ?_
  clear hK9 K9
  try simp only [Act.put, List.setIfInBounds_toArray, List.set_cons_zero, List.set_cons_succ]
  refine s_take 18 (some 21) (v := ?_) US rfl rfl (by kernel_rfl) (by kernel_rfl) (by kernel_rfl) (fun _ _ _ h => h) (by rfl) (fun w9 hS => ?_) ?_
  rotate_left
  · go_simp <;> with_reducible rfl
  try simp only [Act.put, List.setIfInBounds_toArray, List.set_cons_zero, List.set_cons_succ]
  refine s_op 19 (by kernel_rfl) rfl (by rfl) (fun K9 hK9 => ?_)
  go_simp
  have UZ := hid US
  replace US : Up w (w9.alloc (.cells #[.int .i64 room, .slice A9 n c9, .int .i64 hits, .int .i64 miss] 130)) := upAl US _
  refine hK9.out _ _ US ?_
  clear hK9 K9
  try simp only [Act.put, List.setIfInBounds_toArray, List.set_cons_zero, List.set_cons_succ]
  refine s_take 20 (some 2) (v := ?_) US rfl rfl (by kernel_rfl) (by kernel_rfl) (by kernel_rfl) (fun _ _ _ h => h) (by rfl) (fun w9 hS => ?_) ?_
  rotate_left
  · go_simp <;> with_reducible rfl
  try simp only [Act.put, List.setIfInBounds_toArray, List.set_cons_zero, List.set_cons_succ]
  refine s_done (by kernel_rfl) ?_
  rename_i K1 h1
  first | (refine h1 _ _ ?_; clear h1 K1) | skip
  have kx : (w9.alloc (.cells #[.int .i64 room, .slice A9 n c9, .int .i64 hits, .int .i64 miss] 130)).heap[w9.heap.size]? = some (.cells #[.int .i64 room, .slice A9 n c9, .int .i64 hits, .int .i64 miss] 130 (0, 0)) := heap_alloc_new w9 _
  have RES := hid (show RefM (w9.alloc (.cells #[.int .i64 room, .slice A9 n c9, .int .i64 hits, .int .i64 miss] 130)) w.heap.size w9.heap.size room hits miss V ∧ Up w (w9.alloc (.cells #[.int .i64 room, .slice A9 n c9, .int .i64 hits, .int .i64 miss] 130)) from
    ⟨⟨A9, c9, R, ⟨by rw [HN.out]; exact kx, by rw [HN.out]; exact World.ownsRow.alloc O9.out _, fun x hx => (H1.out.up US).data x hx, UZ.out.size⟩, HV.out⟩, US⟩)
  clear kx US
  go_wp2
  go_ret
  exact ⟨_, rfl, RES⟩
end Go.Proofs.Ytlikggeceeennaa
