/- THE WALK of the cache's Copy. -/
import Derived.Test.YtlikggeceeennaaCop1
set_option linter.unusedVariables false
set_option linter.unusedSimpArgs false
namespace Go.Proofs.Ytlikggeceeennaa
open Go Go.RowKit Hach

theorem CacheAt.low {w : World} {base base' g mp r : Nat} {room hits miss : Int} {es : List Ent} (h : CacheAt w base g room mp r hits miss es) (hb : base' ≤ base) : CacheAt w base' g room mp r hits miss es :=
  ⟨h.own, h.ring, h.row, h.nodup, fun x hx => ⟨(h.ents x hx).1, by
    obtain ⟨a0, ⟨A, c, a1, ao⟩, a2, a3⟩ := (h.ents x hx).2
    exact ⟨a0, ⟨A, c, a1, own_base ao hb⟩, a2, a3⟩⟩, h.map, h.pages, h.wf, Nat.le_trans hb h.lows.1, Nat.le_trans hb h.lows.2.1, Nat.le_trans hb h.lows.2.2.1, fun x hx => Nat.le_trans hb (h.lows.2.2.2 x hx)⟩
theorem entersCopy (args : Array Value) (w : World) : (callFunc 94 args).run Try.prog w = .ok (.enter 94 args) w := by go_simp
/-- What goes on while the row is copied: es are the copies of done. -/
def CopyI (W0 : World) (g : Nat) (room : Int) (mp r : Nat) (hits miss : Int) (bx : Nat) (all : List Ent) (wr : World) (done rest : List Ent) : Prop :=
  done ++ rest = all ∧ Up W0 wr ∧ (wr.heap[bx]? = some (.cells #[ptr g] 26 (0, 0)) ∧ W0.heap.size ≤ bx) ∧ ∃ es, es.map vis = done.map vis ∧ CacheAt wr W0.heap.size g room mp r hits miss es
set_option maxRecDepth 100000 in
set_option maxHeartbeats 2000000 in
theorem copyRow_calls (W0 w : World) (base g0 : Nat) (mp0 r0 : Nat) (all : List Ent) (g : Nat) (room : Int) (mp r : Nat) (hits miss : Int) (bx : Nat) (h0 : Hid (CacheAt W0 base g0 room mp0 r0 hits miss all)) (hl : Hid (all.length < 1000000)) (h : Hid (CopyI W0 g room mp r hits miss bx all w [] all)) :
    Calls Try.prog 64 #[ptr g0, .func (.func 94) #[] #[ptr bx]] w fun en w' => en = .returned (.tuple #[]) ∧ Hid (∃ done, CopyI W0 g room mp r hits miss bx all w' done []) := by
  refine rowAll_calls _ #[ptr bx] w base g0 room mp0 r0 hits miss all (CopyI W0 g room mp r hits miss bx all) (hid (fun wr done rest iv => by have := h0.out.up iv.2.1; rwa [← iv.1] at this)) (hid (fun wr done x rest iv => ?_)) entersCopy h
  obtain ⟨he, hu, hb, es, hv, ca⟩ := iv
  have hx : x ∈ all := by rw [← he]; simp
  have hnd := h0.out.pages
  have hlen : es.length < 1000000 := by
    have h1 := congrArg List.length hv
    rw [List.length_map, List.length_map] at h1
    have h2 := congrArg List.length he
    rw [List.length_append] at h2
    have := hl.out; omega
  refine (copy1_calls W0 wr base g room mp r hits miss es x bx (hid (h0.out.ents x hx)) (hid hu) (hid ca) (hid hb) (hid (h0.out.wf x hx)) (hid ?_) (hid hlen)).mono ?_
  · intro hm
    rw [← vis_page, hv, vis_page] at hm
    rw [← he, List.map_append, List.map_cons, List.nodup_append] at hnd
    exact hnd.2.2 _ hm _ List.mem_cons_self rfl
  · rintro en w' ⟨rfl, hh⟩
    obtain ⟨y, hy, ca', bl, kb⟩ := hh.out
    exact ⟨rfl, hid ⟨done ++ [x], by rw [← he, List.append_assoc]; rfl, hu.trans bl, ⟨kb, hb.2⟩, es ++ [y], by rw [List.map_append, List.map_append, hv]; simp [hy], ca'⟩⟩
def CopyRet (w : World) (room hits miss : Int) (V : List Vis) (en : Ending) (w' : World) : Prop := ∃ g mp, en = .returned (ptr g) ∧ Hid (CacheM w' w.heap.size g mp room hits miss V ∧ Up w w')
set_option maxRecDepth 100000 in
set_option maxHeartbeats 2000000 in
theorem copy_calls (w : World) (base g mp : Nat) (room hits miss : Int) (V : List Vis) (h : Hid (CacheM w base g mp room hits miss V)) (hr : Hid (1 ≤ room ∧ room ≤ 4096)) (hl : Hid (V.length < 1000000)) :
    Calls Try.prog 33 #[ptr g] w (CopyRet w room hits miss V) := by
  obtain ⟨r, es, h1, hv⟩ := h.out
  have c0 := h1.own.c0
  have c2 := h1.own.c2
  have c3 := h1.own.c3
  have c4 := h1.own.c4
  have H1 := hid h1
  have HV := hid hv
  clear h1 hv
  unfold ptr at c2 ⊢
  go_enter Try.func33, Try.ntmps33
  go_wp2_with (go_at_call 60; refine (made_calls _ g r c2).mono ?_; rintro e w' ⟨rfl, rfl⟩)
  refine (new_calls w room hr.out.1 hr.out.2).mono ?_
  rintro en w1 ⟨g', mp', r', rfl, hh⟩
  have C1 := hid hh.out.1
  have U1 := hid (show Up w w1 from hh.out.2)
  have GL := hid (Array.getElem?_eq_some_iff.1 H1.out.own).1
  clear hh c0 c2
  replace c3 := U1.out.c c3
  replace c4 := U1.out.c c4
  unfold ptr
  have kx : (w1.alloc (.cells #[.pointer (some ⟨g', 0, none⟩)] 26)).heap[w1.heap.size]? = some (.cells #[.pointer (some ⟨g', 0, none⟩)] 26 (0, 0)) := heap_alloc_new w1 _
  have uA : Up w1 (w1.alloc (.cells #[.pointer (some ⟨g', 0, none⟩)] 26)) := upAl (Up.refl _) _
  go_wp2
  generalize hwA : w1.alloc (.cells #[.pointer (some ⟨g', 0, none⟩)] 26) = wA at *
  have HX := hid (show w1.heap.size = w1.heap.size from rfl)
  have BX : Hid (w.heap.size ≤ w1.heap.size ∧ g' < w1.heap.size ∧ g < w.heap.size ∧ w.heap.size ≤ g') := hid ⟨U1.out.size, (Array.getElem?_eq_some_iff.1 C1.out.own).1, GL.out, C1.out.lows.1⟩
  have C2 := hid ((C1.out.up (uA.t (Up.drew wA))))
  have a3 : wA.drew.cell? ⟨g, 3, none⟩ = some (.int .i64 hits) := uA.c c3
  have a4 : wA.drew.cell? ⟨g, 4, none⟩ = some (.int .i64 miss) := uA.c c4
  have UA := hid (U1.out.t (uA.t (Up.drew wA)))
  have KX := hid (show wA.drew.heap[w1.heap.size]? = some (.cells #[.pointer (some ⟨g', 0, none⟩)] 26 (0, 0)) from kx)
  clear kx hwA uA c3 c4 HX C1 U1
  generalize w1.heap.size = bx at *
  have C3 := hid (CacheAt.count C2.out 3 hits hits 0 rfl)
  have C4 := hid (CacheAt.count C3.out 4 miss hits miss rfl)
  have d3 := C2.out.own.c3
  have d4 := C3.out.own.c4
  have f3 := C2.out.own.free 3
  have f4 := C3.out.own.free 4
  have d40 : wA.cell? ⟨g', 4, none⟩ = some (.int .i64 0) := C2.out.own.c4
  have f40 : wA.frozen? ⟨g', 4, none⟩ = false := C2.out.own.free 4
  have ngb : ¬ g' = bx := by have := BX.out; omega
  have ngg : ¬ g' = g := by have := BX.out; omega
  have US := show wA.drew.cell? ⟨bx, 0, none⟩ = some (.pointer (some ⟨g', 0, none⟩)) ∧ wA.drew.cell? ⟨g, 3, none⟩ = some (.int .i64 hits) ∧ wA.drew.cell? ⟨g, 4, none⟩ = some (.int .i64 miss) from ⟨(cell_one KX.out).1, a3, a4⟩
  have US3 := hid (show (wA.drew.setCell ⟨g', 3, none⟩ (.int .i64 hits)).cell? ⟨bx, 0, none⟩ = some (.pointer (some ⟨g', 0, none⟩)) ∧ (wA.drew.setCell ⟨g', 3, none⟩ (.int .i64 hits)).cell? ⟨g, 3, none⟩ = some (.int .i64 hits) ∧ (wA.drew.setCell ⟨g', 3, none⟩ (.int .i64 hits)).cell? ⟨g, 4, none⟩ = some (.int .i64 miss) from
    ⟨set_far US.1 (fun e9 => ngb e9.1), set_far a3 (fun e9 => ngg e9.1), set_far a4 (fun e9 => ngg e9.1)⟩)
  have US4 := show ((wA.drew.setCell ⟨g', 3, none⟩ (.int .i64 hits)).setCell ⟨g', 4, none⟩ (.int .i64 miss)).cell? ⟨bx, 0, none⟩ = some (.pointer (some ⟨g', 0, none⟩)) ∧ ((wA.drew.setCell ⟨g', 3, none⟩ (.int .i64 hits)).setCell ⟨g', 4, none⟩ (.int .i64 miss)).cell? ⟨g, 3, none⟩ = some (.int .i64 hits) ∧ ((wA.drew.setCell ⟨g', 3, none⟩ (.int .i64 hits)).setCell ⟨g', 4, none⟩ (.int .i64 miss)).cell? ⟨g, 4, none⟩ = some (.int .i64 miss) from
    ⟨set_far US3.out.1 (fun e9 => ngb e9.1), set_far US3.out.2.1 (fun e9 => ngg e9.1), set_far US3.out.2.2 (fun e9 => ngg e9.1)⟩
  clear a3 a4 ngb ngg
  refine s_start (fun w9 => w9.cell? ⟨bx, 0, none⟩ = some (.pointer (some ⟨g', 0, none⟩)) ∧ w9.cell? ⟨g, 3, none⟩ = some (.int .i64 hits) ∧ w9.cell? ⟨g, 4, none⟩ = some (.int .i64 miss)) (by kernel_rfl) ?_
  refine s_take 0 (some 12) (v := ?_) US rfl rfl (by kernel_rfl) (by kernel_rfl) (by kernel_rfl) (fun _ _ _ h => h) (by rfl) (fun w9 hS => ?_) ?_
  rotate_left
  · obtain ⟨s0, _, _⟩ := hS; go_simp <;> with_reducible rfl
  try simp only [Act.put, List.setIfInBounds_toArray, List.set_cons_zero, List.set_cons_succ]
  refine s_take 1 (some 13) (v := ?_) US rfl rfl (by kernel_rfl) (by kernel_rfl) (by kernel_rfl) (fun _ _ _ h => h) (by rfl) (fun w9 hS => ?_) ?_
  rotate_left
  · obtain ⟨s0, _, _⟩ := hS; go_simp <;> with_reducible rfl
  try simp only [Act.put, List.setIfInBounds_toArray, List.set_cons_zero, List.set_cons_succ]
  refine s_take 2 (some 14) (v := ?_) US rfl rfl (by kernel_rfl) (by kernel_rfl) (by kernel_rfl) (fun _ _ _ h => h) (by rfl) (fun w9 hS => ?_) ?_
  rotate_left
  · go_simp <;> with_reducible rfl
  try simp only [Act.put, List.setIfInBounds_toArray, List.set_cons_zero, List.set_cons_succ]
  refine s_take 3 (some 15) (v := ?_) US rfl rfl (by kernel_rfl) (by kernel_rfl) (by kernel_rfl) (fun _ _ _ h => h) (by rfl) (fun w9 hS => ?_) ?_
  rotate_left
  · go_simp <;> with_reducible rfl
  try simp only [Act.put, List.setIfInBounds_toArray, List.set_cons_zero, List.set_cons_succ]
  refine s_take 4 (some 16) (v := ?_) US rfl rfl (by kernel_rfl) (by kernel_rfl) (by kernel_rfl) (fun _ _ _ h => h) (by rfl) (fun w9 hS => ?_) ?_
  rotate_left
  · go_simp <;> with_reducible rfl
  try simp only [Act.put, List.setIfInBounds_toArray, List.set_cons_zero, List.set_cons_succ]
  refine s_take 5 (some 17) (v := ?_) US rfl rfl (by kernel_rfl) (by kernel_rfl) (by kernel_rfl) (fun _ _ _ h => h) (by rfl) (fun w9 hS => ?_) ?_
  rotate_left
  · obtain ⟨_, s1, _⟩ := hS; go_simp <;> with_reducible rfl
  try simp only [Act.put, List.setIfInBounds_toArray, List.set_cons_zero, List.set_cons_succ]
  refine s_take 6 (some 18) (v := ?_) US rfl rfl (by kernel_rfl) (by kernel_rfl) (by kernel_rfl) (fun _ _ _ h => h) (by rfl) (fun w9 hS => ?_) ?_
  rotate_left
  · go_simp <;> with_reducible rfl
  try simp only [Act.put, List.setIfInBounds_toArray, List.set_cons_zero, List.set_cons_succ]
  refine s_take 7 (some 19) (v := ?_) US rfl rfl (by kernel_rfl) (by kernel_rfl) (by kernel_rfl) (fun _ _ _ h => h) (by rfl) (fun w9 hS => ?_) ?_
  rotate_left
  · go_simp <;> with_reducible rfl
  try simp only [Act.put, List.setIfInBounds_toArray, List.set_cons_zero, List.set_cons_succ]
  refine s_take 8 (some 20) (v := ?_) US rfl rfl (by kernel_rfl) (by kernel_rfl) (by kernel_rfl) (fun _ _ _ h => h) (by rfl) (fun w9 hS => ?_) ?_
  rotate_left
  · go_simp <;> with_reducible rfl
  try simp only [Act.put, List.setIfInBounds_toArray, List.set_cons_zero, List.set_cons_succ]
  refine s_take 9 (some 21) (v := ?_) US rfl rfl (by kernel_rfl) (by kernel_rfl) (by kernel_rfl) (fun _ _ _ h => h) (by rfl) (fun w9 hS => ?_) ?_
  rotate_left
  · obtain ⟨_, _, s2⟩ := hS; go_simp <;> with_reducible rfl
  try simp only [Act.put, List.setIfInBounds_toArray, List.set_cons_zero, List.set_cons_succ]
  refine s_take 10 (some 22) (v := ?_) US rfl rfl (by kernel_rfl) (by kernel_rfl) (by kernel_rfl) (fun _ _ _ h => h) (by rfl) (fun w9 hS => ?_) ?_
  rotate_left
  · go_simp <;> with_reducible rfl
  try simp only [Act.put, List.setIfInBounds_toArray, List.set_cons_zero, List.set_cons_succ]
  refine s_take 11 (some 23) (v := ?_) US rfl rfl (by kernel_rfl) (by kernel_rfl) (by kernel_rfl) (fun _ _ _ h => h) (by rfl) (fun w9 hS => ?_) ?_
  rotate_left
  · go_simp <;> with_reducible rfl
  try simp only [Act.put, List.setIfInBounds_toArray, List.set_cons_zero, List.set_cons_succ]
  refine s_op 12 (by kernel_rfl) rfl (by rfl) (fun K9 hK9 => ?_)
  go_simp
  replace US := hid US3.out
  refine hK9.out _ _ US.out ?_
  replace US := US.out
  clear hK9 K9
  try simp only [Act.put, List.setIfInBounds_toArray, List.set_cons_zero, List.set_cons_succ]
  refine s_take 13 (some 24) (v := ?_) US rfl rfl (by kernel_rfl) (by kernel_rfl) (by kernel_rfl) (fun _ _ _ h => h) (by rfl) (fun w9 hS => ?_) ?_
  rotate_left
  · go_simp <;> with_reducible rfl
  try simp only [Act.put, List.setIfInBounds_toArray, List.set_cons_zero, List.set_cons_succ]
  refine s_take 14 (some 25) (v := ?_) US rfl rfl (by kernel_rfl) (by kernel_rfl) (by kernel_rfl) (fun _ _ _ h => h) (by rfl) (fun w9 hS => ?_) ?_
  rotate_left
  · go_simp <;> with_reducible rfl
  try simp only [Act.put, List.setIfInBounds_toArray, List.set_cons_zero, List.set_cons_succ]
  refine s_op 15 (by kernel_rfl) rfl (by rfl) (fun K9 hK9 => ?_)
  go_simp
  replace US := US4
  refine hK9.out _ _ US ?_
  clear hK9 K9
  try simp only [Act.put, List.setIfInBounds_toArray, List.set_cons_zero, List.set_cons_succ]
  refine s_done (by kernel_rfl) ?_
  rename_i K1 h1
  first | (refine h1 _ _ ?_; clear h1 K1) | skip
  have B4 := hid (show Below w.heap.size w ((wA.setCell ⟨g', 3, none⟩ (.int .i64 hits)).setCell ⟨g', 4, none⟩ (.int .i64 miss)).drew from (UA.out.setCell (p := ⟨g', 3, none⟩) BX.out.2.2.2 _).setCell (p := ⟨g', 4, none⟩) BX.out.2.2.2 _)
  have C4 := hid (show CacheAt ((wA.setCell ⟨g', 3, none⟩ (.int .i64 hits)).setCell ⟨g', 4, none⟩ (.int .i64 miss)).drew w.heap.size g' room mp' r' hits miss [] from C4.out)
  have K4 := hid (show ((wA.setCell ⟨g', 3, none⟩ (.int .i64 hits)).setCell ⟨g', 4, none⟩ (.int .i64 miss)).drew.heap[bx]? = some (.cells #[ptr g'] 26 (0, 0)) from by
    show ((((wA.setCell ⟨g', 3, none⟩ (.int .i64 hits)).setCell ⟨g', 4, none⟩ (.int .i64 miss))).heap[bx]? = _)
    rw [Below.heap_setCell _ _ _ _ (show bx ≠ g' by have := BX.out; omega), Below.heap_setCell _ _ _ _ (show bx ≠ g' by have := BX.out; omega)]; exact KX.out)
  clear US US3 US4 d3 d4 f3 f4 d40 f40 C2 C3 KX UA
  generalize ((wA.setCell ⟨g', 3, none⟩ (.int .i64 hits)).setCell ⟨g', 4, none⟩ (.int .i64 miss)).drew = w4 at *
  have START : Hid (CopyI w g' room mp' r' hits miss bx es w4 [] es) := hid ⟨rfl, B4.out, ⟨K4.out, BX.out.1⟩, [], rfl, C4.out⟩
  clear K4 C4 B4
  go_wp2_with fail
  refine (copyRow_calls w w4 base g mp r es g' room mp' r' hits miss bx H1 (hid (by have h1 := HV.out; have h2 := hl.out; rw [← h1, List.length_map] at h2; exact h2)) START).mono ?_
  rintro en w5 ⟨rfl, hh⟩
  obtain ⟨done, he, u5, hb5, es', hv', ca⟩ := hh.out
  have k5 := (cell_one hb5.1).1
  rw [List.append_nil] at he
  have RES := hid (show CacheM w5 w.heap.size g' mp' room hits miss V ∧ Up w w5 from ⟨⟨r', es', ca, by rw [hv', he]; exact HV.out⟩, u5⟩)
  clear hh he u5 hb5 hv' ca
  unfold ptr at k5
  go_wp2
  go_ret
  exact ⟨g', mp', rfl, RES⟩
end Go.Proofs.Ytlikggeceeennaa
