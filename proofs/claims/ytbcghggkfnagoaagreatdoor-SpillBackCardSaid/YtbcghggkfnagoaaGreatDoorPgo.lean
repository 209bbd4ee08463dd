/- THE PAGER's methods in a transaction: made, ready, within, alive, Pages, Busy, Get. -/
import Derived.Test.YtbcghggkfnagoaaGreatDoorPgm
set_option linter.unusedVariables false
set_option linter.unusedSimpArgs false
namespace Go.Proofs.YtbcghggkfnagoaaGreatDoor
open Go Go.RowKit Go.Maps Hach

section
variable (w : World) (p : Nat) (q : PgN) (t : Value) (dead : Bool)
theorem pmade_calls (h : Hid (PagerAt w p q t dead)) : Calls Tryz.prog 130 #[.pointer (some ⟨p, 0, none⟩)] w fun en w' => en = .returned (.bool true) ∧ w' = w := by
  obtain ⟨e0, _⟩ := h.out.cells
  go_enter Tryz.func130, Tryz.ntmps130
  go_wp2
  go_ret
  exact ⟨rfl, rfl⟩
theorem pready_calls (h : Hid (PagerAt w p q t dead)) : Calls Tryz.prog 116 #[.pointer (some ⟨p, 0, none⟩)] w fun en w' => en = .returned (.int .i64 (if dead then 4 else 0)) ∧ w' = w := by
  obtain ⟨_, _, _, _, e4, _⟩ := h.out.cells
  cases dead
  · go_enter Tryz.func116, Tryz.ntmps116
    go_wp2_with (go_at_call 130; refine (pmade_calls w p q t false h).mono ?_; rintro e w' ⟨rfl, hw⟩; obtain rfl := hw.symm)
    go_ret
    exact ⟨rfl, rfl⟩
  · go_enter Tryz.func116, Tryz.ntmps116
    go_wp2_with (go_at_call 130; refine (pmade_calls w p q t true h).mono ?_; rintro e w' ⟨rfl, hw⟩; obtain rfl := hw.symm)
    go_ret
    exact ⟨rfl, rfl⟩
theorem pwithin_calls (b : Nat) (h : Hid (PagerAt w p q (.pointer (some ⟨b, 0, none⟩)) false)) : Calls Tryz.prog 86 #[.pointer (some ⟨p, 0, none⟩)] w fun en w' => en = .returned (.int .i64 0) ∧ w' = w := by
  obtain ⟨_, _, _, e3, _⟩ := h.out.cells
  go_enter Tryz.func86, Tryz.ntmps86
  go_wp2_with (go_at_call 116; refine (pready_calls w p q _ false h).mono ?_; rintro e w' ⟨rfl, hw⟩; obtain rfl := hw.symm)
  go_ret
  exact ⟨rfl, rfl⟩
theorem palive_calls (h : Hid (PagerAt w p q t dead)) : Calls Tryz.prog 71 #[.pointer (some ⟨p, 0, none⟩)] w fun en w' => en = .returned (.bool (!dead)) ∧ w' = w := by
  obtain ⟨_, _, _, _, e4, _⟩ := h.out.cells
  go_enter Tryz.func71, Tryz.ntmps71
  go_wp2_with (go_at_call 130; refine (pmade_calls w p q t dead h).mono ?_; rintro e w' ⟨rfl, hw⟩; obtain rfl := hw.symm)
  go_ret
  exact ⟨rfl, rfl⟩
set_option maxRecDepth 100000 in
set_option maxHeartbeats 2000000 in
theorem pbegin_calls (cnt : Nat) (h : Hid (PagerAt w p q (.pointer none) false)) (hc : Hid (q.count = cnt)) : Calls Tryz.prog 47 #[.pointer (some ⟨p, 0, none⟩)] w fun en w' => en = .returned (.int .i64 0) ∧ ∃ t m, Hid (TranAt w' p q t m (.slice none 0 0) 0 cnt [] ∧ Fr (fun k => k = p) w w' ∧ w.heap.size ≤ t ∧ w.heap.size ≤ m) := by
  obtain ⟨_, _, e2, e3, _⟩ := h.out.cells
  rw [hc.out] at e2
  have f3 := h.out.free 3
  have hmm := @run_makeMap Tryz.prog
  obtain ⟨u1, hu1⟩ : ∃ u, u = w.alloc (.map #[] 0) := ⟨_, rfl⟩
  obtain ⟨u2, hu2⟩ : ∃ u, u = u1.alloc (.cells (tranCs cnt w.heap.size (.slice none 0 0) 0) 131) := ⟨_, rfl⟩
  have U1 : Up w u1 := by rw [hu1]; exact upAlD (Up.refl w) _
  have U2 : Up u1 u2 := by rw [hu2]; exact upAlD (Up.refl u1) _
  have hp2 : PagerAt u2 p q (.pointer none) false := h.out.fr (Fr.of_below (U1.t U2)) id
  have hz : u1.heap.size = w.heap.size + 1 := by rw [hu1]; simp
  have ht2 : u2.heap[u1.heap.size]? = some (.cells (tranCs cnt w.heap.size (.slice none 0 0) 0) 131 (0, 0)) := by rw [hu2]; exact heap_alloc_new u1 _
  have hm2 : MapP u2 w.heap.size [] := MapP.up (by rw [hu1]; exact MapP.made w) U2
  have k1 := heap_setCell_same _ p 3 _ _ (.pointer (some ⟨u1.heap.size, 0, none⟩)) hp2
  have hlt := (Array.getElem?_eq_some_iff.1 h.out).1
  have hf : Fr (fun k => k = p) u2 (u2.setCell ⟨p, 3, none⟩ (.pointer (some ⟨u1.heap.size, 0, none⟩))) := (Fr.refl (fun k => k = p) u2).setCell (p := ⟨p, 3, none⟩) (fun _ => rfl) _
  have RES : Hid (TranAt (u2.setCell ⟨p, 3, none⟩ (.pointer (some ⟨u1.heap.size, 0, none⟩))) p q u1.heap.size w.heap.size (.slice none 0 0) 0 cnt [] ∧ Fr (fun k => k = p) w (u2.setCell ⟨p, 3, none⟩ (.pointer (some ⟨u1.heap.size, 0, none⟩))) ∧ w.heap.size ≤ u1.heap.size ∧ w.heap.size ≤ w.heap.size) :=
    hid ⟨⟨k1, (hf.block u1.heap.size (Array.getElem?_eq_some_iff.1 ht2).1 (by omega)).trans ht2, hm2.kept hf (by omega), fun y hy => by cases hy⟩, ((Fr.of_below (U1.t U2)).mono (fun _ e => e.elim)).trans' hf, by omega, Nat.le_refl _⟩
  rw [hz, hu2, hu1] at RES
  rw [hu2, hu1] at hp2
  have E3 := hp2.cells.2.2.2.1
  have F3 := hp2.free 3
  clear k1 hf hm2 ht2 hp2 U1 U2 hlt hu1 hu2 hz f3
  unfold tranCs at E3 F3
  go_enter Tryz.func47, Tryz.ntmps47
  go_wp2_with (go_at_call 116; refine (pready_calls w p q _ false h).mono ?_; rintro e w' ⟨rfl, hw⟩; obtain rfl := hw.symm)
  go_ret
  exact ⟨rfl, _, _, RES⟩
end
section
variable (w : World) (p t m : Nat) (q : PgN) (mv : Value) (last : Int) (n : Nat) (L : PgL)
theorem ppages_calls (h : Hid (TranAt w p q t m mv last n L)) : Calls Tryz.prog 18 #[.pointer (some ⟨p, 0, none⟩)] w fun en w' => en = .returned (.int .i64 n) ∧ w' = w := by
  obtain ⟨_, _, _, e3, _⟩ := h.out.own.cells
  obtain ⟨f0, _⟩ := h.out.cells
  have H := hid h.out.own
  go_enter Tryz.func18, Tryz.ntmps18
  go_wp2_with (go_at_call 71; refine (palive_calls w p q _ false H).mono ?_; rintro e w' ⟨rfl, hw⟩; obtain rfl := hw.symm)
  go_ret
  exact ⟨rfl, rfl⟩
theorem pbusy_calls (h : Hid (TranAt w p q t m mv last n L)) : Calls Tryz.prog 25 #[.pointer (some ⟨p, 0, none⟩)] w fun en w' => en = .returned (.bool true) ∧ w' = w := by
  obtain ⟨_, _, _, e3, _⟩ := h.out.own.cells
  have H := hid h.out.own
  go_enter Tryz.func25, Tryz.ntmps25
  go_wp2_with (go_at_call 71; refine (palive_calls w p q _ false H).mono ?_; rintro e w' ⟨rfl, hw⟩; obtain rfl := hw.symm)
  go_ret
  exact ⟨rfl, rfl⟩
set_option maxRecDepth 100000 in
set_option maxHeartbeats 2000000 in
theorem pgetNo_calls (h : Hid (TranAt w p q t m mv last n L)) (i : Int) (hi : Hid (i < 1 ∨ (n : Int) < i)) : Calls Tryz.prog 44 #[.pointer (some ⟨p, 0, none⟩), .int .i64 i] w fun en w' => en = .returned (.tuple #[.slice none 0 0, .int .i64 11]) ∧ w' = w := by
  have H := hid h.out.own
  by_cases h1 : i < 1
  · go_enter Tryz.func44, Tryz.ntmps44
    go_wp2_with (go_at_call 116; refine (pready_calls w p q _ false H).mono ?_; rintro e w' ⟨rfl, hw⟩; obtain rfl := hw.symm)
    go_ret2
    exact ⟨rfl, rfl⟩
  · have h2 : (n : Int) < i := hi.out.resolve_left h1
    go_enter Tryz.func44, Tryz.ntmps44
    go_wp2_with (first | (go_at_call 116; refine (pready_calls w p q _ false H).mono ?_; rintro e w' ⟨rfl, hw⟩; obtain rfl := hw.symm) | (go_at_call 18; refine (ppages_calls w p t m q mv last n L h).mono ?_; rintro e w' ⟨rfl, hw⟩; obtain rfl := hw.symm))
    go_ret2
    exact ⟨rfl, rfl⟩
set_option maxRecDepth 100000 in
set_option maxHeartbeats 2000000 in
theorem pget_calls (h : Hid (TranAt w p q t m mv last n L)) (i : Nat) (hi : Hid (1 ≤ i ∧ i ≤ n ∧ n < 1000000)) (x : PgX) (hx : Hid (gget L i = some x)) :
    Calls Tryz.prog 44 #[.pointer (some ⟨p, 0, none⟩), .int .i64 i] w fun en w' => ∃ A c, en = .returned (.tuple #[.slice A 512 c, .int .i64 0]) ∧ Hid (OwnB w' w.heap.size A c x.bs ∧ Up w w') := by
  obtain ⟨_, _, _, e3, _⟩ := h.out.own.cells
  obtain ⟨_, f1, _⟩ := h.out.cells
  have H := hid h.out.own
  have lk := h.out.map.look (p := (i : Int)) (wf_nat (by have := hi.out; omega))
  have hr := h.out.rows _ (gget_mem hx.out)
  have hpv : pgAt L i = pgV x.g x.c := by unfold pgAt; rw [hx.out]
  rw [hpv, hx.out] at lk
  unfold pgV at lk
  have h1 : ¬ (i : Int) < 1 := by have := hi.out; omega
  have h2 : ¬ (n : Int) < i := by have := hi.out; omega
  have CL := clone_calls w (some ⟨x.g, 0, none⟩) x.bs x.c (by rw [hr.len]; decide) (hid hr.bytes)
  rw [hr.len] at CL
  have HR := hid hr
  clear hr hpv
  go_enter Tryz.func44, Tryz.ntmps44
  go_wp2_with (first | (go_at_call 116; refine (pready_calls w p q _ false H).mono ?_; rintro e w' ⟨rfl, hw⟩; obtain rfl := hw.symm) | (go_at_call 18; refine (ppages_calls w p t m q mv last n L h).mono ?_; rintro e w' ⟨rfl, hw⟩; obtain rfl := hw.symm) | fail)
  refine CL.mono ?_
  rintro en w2 ⟨A, c, rfl, o2, b2⟩
  rw [HR.out.len]
  have O2 := hid o2
  have B2 := hid b2
  clear o2 b2
  go_wp2
  go_ret2
  exact ⟨A, c, rfl, hid ⟨O2.out, B2.out⟩⟩
end
end Go.Proofs.YtbcghggkfnagoaaGreatDoor
