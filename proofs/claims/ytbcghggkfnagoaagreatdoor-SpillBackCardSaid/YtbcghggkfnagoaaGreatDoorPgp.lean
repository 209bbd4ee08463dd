/- THE PAGER's Put and Grow in a transaction. THE PAGER's Grow in a transaction. -/
import Derived.Test.YtbcghggkfnagoaaGreatDoorPgo
import Derived.Test.YtbcghggkfnagoaaGreatDoorDskB
set_option linter.unusedVariables false
set_option linter.unusedSimpArgs false
namespace Go.Proofs.YtbcghggkfnagoaaGreatDoor
open Go Go.RowKit Go.Maps Hach

theorem own_pgRow {w : World} {base c : Nat} {A : Option Addr} {xs : List UInt8} (hl : xs.length = 512) (h : OwnB w base A c xs) : ∃ g, A = some ⟨g, 0, none⟩ ∧ PgRow w ⟨g, c, xs⟩ ∧ base ≤ g := by
  have h' : w.ownsRow base 5 1 (.slice A xs.length c) xs.length (xs.map byteCell) := h
  rcases h'.2 with ⟨_, h0⟩ | ⟨g, cap, cur, hv, hb, hg, hnc, _⟩
  · rw [hl] at h0; cases h0
  · injection hv with e1 e2 e3
    have hcap : xs.length ≤ c := by rw [e3]; exact hnc
    subst e1; subst e3
    refine ⟨g, rfl, ⟨⟨⟨cur, (0, 0), hg⟩, fun j v hj => ?_⟩, hl, by show 512 ≤ c; omega⟩, hb⟩
    have hjl := (List.getElem?_eq_some_iff.1 hj).1
    rw [secC_length] at hjl
    have hjl' : j < xs.length := hjl
    show w.cell? ⟨g, 0 + j, none⟩ = some v
    rw [Nat.zero_add, h'.cellAt j (by omega)]
    exact hj
section
variable {w w2 w3 : World} {p t m : Nat} {q : PgN} {mv : Value} {last : Int} {n : Nat} {L : PgL}
theorem TranAt.put (h : TranAt w p q t m mv last n L) (hu : Up w w2) {i : Int} {x : PgX} (hx : PgRow w2 x) (hm : MapP w3 m (gput L i x)) (hg : w2.grownBy w3 (some m)) : TranAt w3 p q t m mv last n (gput L i x) ∧ Fr (fun k => k = m) w w3 := by
  have h2 := h.up hu
  have hf : Fr (fun k => k = m) w2 w3 := (Fr.of_grown hg).mono (fun k e => Option.some.inj e)
  obtain ⟨n1, n2, n3, n4⟩ := h2.ne
  have hxm : x.g ≠ m := by
    intro e
    obtain ⟨cs, fr, hb⟩ := hx.row.1
    obtain ⟨es, cl, hm2⟩ := h2.map.isMap
    rw [e, hm2] at hb; cases hb
  refine ⟨⟨h2.own.fr hf n2, (hf.block t (Array.getElem?_eq_some_iff.1 h2.tran).1 n3).trans h2.tran, hm, fun y hy => ?_⟩, ((Fr.of_below hu).mono (fun _ e => e.elim)).trans' hf⟩
  rcases mem_gput hy with rfl | ⟨hy, _⟩
  · exact hx.fr hf hxm
  · exact (h2.rows y hy).fr hf (n4 y hy).2.2
end
set_option maxRecDepth 100000 in
set_option maxHeartbeats 2000000 in
theorem pput_calls (w : World) (p t m : Nat) (q : PgN) (mv : Value) (last : Int) (n : Nat) (L : PgL) (h : Hid (TranAt w p q t m mv last n L)) (i : Nat) (hi : Hid (1 ≤ i ∧ i ≤ n ∧ n < 1000000)) (hL : Hid (L.length < 1000000))
    (A : Option Addr) (xs : List UInt8) (c : Nat) (hxs : Hid (xs.length = 512)) (hb : Hid (Bytes w A xs)) :
    Calls Tryz.prog 48 #[.pointer (some ⟨p, 0, none⟩), .int .i64 i, .slice A 512 c] w fun en w' => en = .returned (.int .i64 0) ∧ ∃ g c', Hid (TranAt w' p q t m mv last n (gput L i ⟨g, c', xs⟩) ∧ Fr (fun k => k = m) w w' ∧ w.heap.size ≤ g) := by
  obtain ⟨_, _, _, e3, _⟩ := h.out.own.cells
  obtain ⟨f0, f1, _⟩ := h.out.cells
  have H := hid h.out.own
  have h1 : ¬ (i : Int) < 1 := by have := hi.out; omega
  have h2 : ¬ (n : Int) < i := by have := hi.out; omega
  have CL : ∀ w', Up w w' → Calls _ _ #[.slice A xs.length c] w' _ := fun w' hu => clone_calls w' A xs c (by rw [hxs.out]; decide) (hid (hb.out.grown hu))
  rw [hxs.out] at CL
  go_enter Tryz.func48, Tryz.ntmps48
  go_wp2_with (go_at_call 86; refine (pwithin_calls w p q t H).mono ?_; rintro e w' ⟨rfl, hw⟩; obtain rfl := hw.symm)
  have US : w.drew.cell? ⟨p, 3, none⟩ = some (.pointer (some ⟨t, 0, none⟩)) ∧ w.drew.cell? ⟨t, 1, none⟩ = some (.map (some m)) := ⟨e3, f1⟩
  refine t_start (fun w9 => w9.cell? ⟨p, 3, none⟩ = some (.pointer (some ⟨t, 0, none⟩)) ∧ w9.cell? ⟨t, 1, none⟩ = some (.map (some m))) 10 (by kernel_rfl) ?_
  refine t_take 0 (some 32) (v := ?_) US rfl rfl (by kernel_rfl) (by kernel_rfl) (by kernel_rfl) (by kernel_rfl) (fun _ _ _ h => h) (by rfl) (fun w9 hS => ?_) ?_
  rotate_left
  · go_simp <;> with_reducible rfl
  try simp only [Act.put, List.setIfInBounds_toArray, List.set_cons_zero, List.set_cons_succ]
  refine t_take 1 (some 33) (v := ?_) US rfl rfl (by kernel_rfl) (by kernel_rfl) (by kernel_rfl) (by kernel_rfl) (fun _ _ _ h => h) (by rfl) (fun w9 hS => ?_) ?_
  rotate_left
  · go_simp <;> with_reducible rfl
  try simp only [Act.put, List.setIfInBounds_toArray, List.set_cons_zero, List.set_cons_succ]
  refine t_take 2 (some 34) (v := ?_) US rfl rfl (by kernel_rfl) (by kernel_rfl) (by kernel_rfl) (by kernel_rfl) (fun _ _ _ h => h) (by rfl) (fun w9 hS => ?_) ?_
  rotate_left
  · go_simp <;> with_reducible rfl
  try simp only [Act.put, List.setIfInBounds_toArray, List.set_cons_zero, List.set_cons_succ]
  refine t_take 3 (some 35) (v := ?_) US rfl rfl (by kernel_rfl) (by kernel_rfl) (by kernel_rfl) (by kernel_rfl) (fun _ _ _ h => h) (by rfl) (fun w9 hS => ?_) ?_
  rotate_left
  · obtain ⟨s0, s1⟩ := hS; go_simp <;> with_reducible rfl
  try simp only [Act.put, List.setIfInBounds_toArray, List.set_cons_zero, List.set_cons_succ]
  refine t_take 4 (some 36) (v := ?_) US rfl rfl (by kernel_rfl) (by kernel_rfl) (by kernel_rfl) (by kernel_rfl) (fun _ _ _ h => h) (by rfl) (fun w9 hS => ?_) ?_
  rotate_left
  · go_simp <;> with_reducible rfl
  try simp only [Act.put, List.setIfInBounds_toArray, List.set_cons_zero, List.set_cons_succ]
  refine t_take 5 (some 37) (v := ?_) US rfl rfl (by kernel_rfl) (by kernel_rfl) (by kernel_rfl) (by kernel_rfl) (fun _ _ _ h => h) (by rfl) (fun w9 hS => ?_) ?_
  rotate_left
  · go_simp <;> with_reducible rfl
  try simp only [Act.put, List.setIfInBounds_toArray, List.set_cons_zero, List.set_cons_succ]
  refine t_take 6 (some 38) (v := ?_) US rfl rfl (by kernel_rfl) (by kernel_rfl) (by kernel_rfl) (by kernel_rfl) (fun _ _ _ h => h) (by rfl) (fun w9 hS => ?_) ?_
  rotate_left
  · obtain ⟨s0, s1⟩ := hS; go_simp <;> with_reducible rfl
  try simp only [Act.put, List.setIfInBounds_toArray, List.set_cons_zero, List.set_cons_succ]
  refine t_take 7 (some 39) (v := ?_) US rfl rfl (by kernel_rfl) (by kernel_rfl) (by kernel_rfl) (by kernel_rfl) (fun _ _ _ h => h) (by rfl) (fun w9 hS => ?_) ?_
  rotate_left
  · go_simp <;> with_reducible rfl
  try simp only [Act.put, List.setIfInBounds_toArray, List.set_cons_zero, List.set_cons_succ]
  refine t_take 8 (some 40) (v := ?_) US rfl rfl (by kernel_rfl) (by kernel_rfl) (by kernel_rfl) (by kernel_rfl) (fun _ _ _ h => h) (by rfl) (fun w9 hS => ?_) ?_
  rotate_left
  · go_simp <;> with_reducible rfl
  try simp only [Act.put, List.setIfInBounds_toArray, List.set_cons_zero, List.set_cons_succ]
  refine t_op 9 (by kernel_rfl) rfl (by rfl) (fun K9 hK9 => ?_)
  go_simp
  go_at_call 117
  refine (CL _ (Up.drew w)).mono ?_
  rintro en w2 ⟨A2, c2, rfl, o2, b2⟩
  rw [hxs.out]
  have U2 : Hid (Up w w2) := hid ((Up.drew w).t b2)
  obtain ⟨g2, rfl, hrow, hg2⟩ := own_pgRow hxs.out o2
  have HROW := hid hrow
  obtain ⟨w3, hupd, hm3, hg3⟩ := (h.out.map.up U2.out).put (p := (i : Int)) ⟨g2, c2, xs⟩ (wf_nat (by have := hi.out; omega)) hL.out
  have PP := TranAt.put h.out U2.out HROW.out hm3 hg3
  have RES := hid (And.intro PP.1 (And.intro PP.2 (show w.heap.size ≤ g2 from hg2)))
  clear PP
  unfold pgV at hupd
  replace US := (show w2.cell? ⟨p, 3, none⟩ = some (.pointer (some ⟨t, 0, none⟩)) ∧ w2.cell? ⟨t, 1, none⟩ = some (.map (some m)) from ⟨U2.out.c e3, U2.out.c f1⟩)
  clear o2 b2 hrow hg2 hm3 hg3
  refine hK9.out _ _ US ?_
  clear hK9 K9
  try simp only [Act.put, List.setIfInBounds_toArray, List.set_cons_zero, List.set_cons_succ]
  refine t_last (by kernel_rfl) rfl (by rfl) (fun K9 hK9 => ?_)
  go_simp
  refine hK9.out _ _ ?_
  clear hK9 K9
  try simp only [Act.put, List.setIfInBounds_toArray, List.set_cons_zero, List.set_cons_succ]
  refine t_done (by kernel_rfl) ?_
  first | (rename_i K1 h1; refine h1 _ _ ?_; clear h1 K1) | skip
  clear US hupd
  go_wp2
  go_ret
  exact ⟨rfl, g2, c2, RES⟩
end Go.Proofs.YtbcghggkfnagoaaGreatDoor

namespace Go.Proofs.YtbcghggkfnagoaaGreatDoor
open Go Go.RowKit Go.Maps Hach

theorem pgrowFull_calls (w : World) (p t m : Nat) (q : PgN) (mv : Value) (last : Int) (L : PgL) (h : Hid (TranAt w p q t m mv last 4000 L)) :
    Calls Tryz.prog 45 #[.pointer (some ⟨p, 0, none⟩)] w fun en w' => en = .returned (.tuple #[.int .i64 0, .int .i64 3]) ∧ w' = w := by
  obtain ⟨_, _, _, e3, _⟩ := h.out.own.cells
  obtain ⟨f0, f1, _⟩ := h.out.cells
  have H := hid h.out.own
  go_enter Tryz.func45, Tryz.ntmps45
  go_wp2_with (go_at_call 86; refine (pwithin_calls w p q t H).mono ?_; rintro e w' ⟨rfl, hw⟩; obtain rfl := hw.symm)
  go_ret2
  exact ⟨rfl, rfl⟩
def noPage : List UInt8 := List.replicate 512 0
theorem noPage_len : noPage.length = 512 := List.length_replicate
theorem mk512 (W : World) : ∃ w', (Instr.makeSlice 64 (.int .i64 512) (.int .i64 512)).run Tryz.prog W = .ok (.slice (some ⟨W.heap.size, 0, none⟩) 512 512) w' ∧ OwnB w' W.heap.size (some ⟨W.heap.size, 0, none⟩) 512 noPage ∧ Up W w' := by
  obtain ⟨i, hi, hz0, hz1, hz2⟩ := info_parts elemB.hi
  obtain ⟨w', hrun, ho, hg⟩ := run_makeSlice_full (P := Tryz.prog) (w := W) W.heap.size 64 5 i (.int .u8 0) 1 elemB.ht hi hz0 hz1 .i64 .i64 512 (by decide) (by rw [hz2]; decide) (by decide) (Nat.le_refl _)
  refine ⟨w', hrun, ?_, Fr.below (Fr.of_grown hg) (Nat.le_refl _) (fun k _ => by simp)⟩
  have e : (madeCells (Value.int .u8 0).cells (512 * 1)).toList = (List.replicate 512 (0 : UInt8)).map byteCell := by
    rw [Nat.mul_one]; show (madeCells #[Value.int IntKind.u8 0] 512).toList = _
    rw [toList_madeCells_one, List.map_replicate]; rfl
  rw [e] at ho
  unfold OwnB noPage
  rw [List.length_replicate]
  exact ho
set_option maxRecDepth 100000 in
set_option maxHeartbeats 2000000 in
theorem pgrow_calls (w : World) (p t m : Nat) (q : PgN) (mv : Value) (last : Int) (n : Nat) (L : PgL) (h : Hid (TranAt w p q t m mv last n L)) (hn : Hid (n < 4000)) (hL : Hid (L.length < 1000000)) :
    Calls Tryz.prog 45 #[.pointer (some ⟨p, 0, none⟩)] w fun en w' => en = .returned (.tuple #[.int .i64 (n + 1 : Nat), .int .i64 0]) ∧ ∃ g c, Hid (TranAt w' p q t m mv last (n + 1) (gput L (n + 1 : Nat) ⟨g, c, noPage⟩) ∧ Fr (fun k => k = t ∨ k = m) w w') := by
  obtain ⟨_, _, _, e3, _⟩ := h.out.own.cells
  obtain ⟨f0, f1, _⟩ := h.out.cells
  have z0 := h.out.free 0
  have H := hid h.out.own
  obtain ⟨n1, hn1⟩ : ∃ x, n + 1 = x := ⟨_, rfl⟩
  rw [hn1]
  have hf : Fr (fun k => k = t) w (w.setCell ⟨t, 0, none⟩ (.int .i64 n1)) := (Fr.refl (fun k => k = t) w).setCell (p := ⟨t, 0, none⟩) (fun _ => rfl) _
  obtain ⟨d1, d2, d3, d4⟩ := h.out.ne
  have T1 : Hid (TranAt (w.setCell ⟨t, 0, none⟩ (.int .i64 n1)) p q t m mv last n1 L) := hid ⟨h.out.own.fr hf d1, heap_setCell_same _ t 0 _ _ (.int .i64 n1) h.out.tran, h.out.map.kept hf (fun e => d3 e.symm), fun y hy => (h.out.rows y hy).fr hf (d4 y hy).2.1⟩
  have F1 := hid hf
  have hne : ¬ (n : Int) = 4000 := by have := hn.out; omega
  have hw1 : wrap64 ((n : Int) + 1) = (n1 : Int) := by have := hn.out; unfold wrap64; omega
  clear hf d1 d2 d3 d4
  go_enter Tryz.func45, Tryz.ntmps45
  go_wp2_with (go_at_call 86; refine (pwithin_calls w p q t H).mono ?_; rintro e w' ⟨rfl, hw⟩; obtain rfl := hw.symm)
  rw [hw1]
  obtain ⟨w1, hw1'⟩ : ∃ x, w.setCell ⟨t, 0, none⟩ (.int .i64 n1) = x := ⟨_, rfl⟩
  have N1 : Hid (n1 ≤ 4000) := hid (by have := hn.out; omega)
  rw [hw1'] at T1 F1 ⊢
  clear hw1' hw1
  clear hn1
  have s3 := T1.out.own.cells.2.2.2.1
  have s1 := T1.out.cells.2.1
  have s0 := T1.out.cells.1
  have US : w1.drew.cell? ⟨p, 3, none⟩ = some (.pointer (some ⟨t, 0, none⟩)) ∧ w1.drew.cell? ⟨t, 1, none⟩ = some (.map (some m)) ∧ w1.drew.cell? ⟨t, 0, none⟩ = some (.int .i64 n1) := ⟨s3, s1, s0⟩
  clear e3 f0 f1 z0
  refine t_start (fun w9 => w9.cell? ⟨p, 3, none⟩ = some (.pointer (some ⟨t, 0, none⟩)) ∧ w9.cell? ⟨t, 1, none⟩ = some (.map (some m)) ∧ w9.cell? ⟨t, 0, none⟩ = some (.int .i64 n1)) 15 (by kernel_rfl) ?_
  refine t_take 0 (some 30) (v := ?_) US rfl rfl (by kernel_rfl) (by kernel_rfl) (by kernel_rfl) (by kernel_rfl) (fun _ _ _ h => h) (by rfl) (fun w9 hS => ?_) ?_
  rotate_left
  · go_simp <;> with_reducible rfl
  try simp only [Act.put, List.setIfInBounds_toArray, List.set_cons_zero, List.set_cons_succ]
  refine t_take 1 (some 31) (v := ?_) US rfl rfl (by kernel_rfl) (by kernel_rfl) (by kernel_rfl) (by kernel_rfl) (fun _ _ _ h => h) (by rfl) (fun w9 hS => ?_) ?_
  rotate_left
  · go_simp <;> with_reducible rfl
  try simp only [Act.put, List.setIfInBounds_toArray, List.set_cons_zero, List.set_cons_succ]
  refine t_take 2 (some 32) (v := ?_) US rfl rfl (by kernel_rfl) (by kernel_rfl) (by kernel_rfl) (by kernel_rfl) (fun _ _ _ h => h) (by rfl) (fun w9 hS => ?_) ?_
  rotate_left
  · go_simp <;> with_reducible rfl
  try simp only [Act.put, List.setIfInBounds_toArray, List.set_cons_zero, List.set_cons_succ]
  refine t_take 3 (some 33) (v := ?_) US rfl rfl (by kernel_rfl) (by kernel_rfl) (by kernel_rfl) (by kernel_rfl) (fun _ _ _ h => h) (by rfl) (fun w9 hS => ?_) ?_
  rotate_left
  · obtain ⟨s0, s1, s2⟩ := hS; go_simp <;> with_reducible rfl
  try simp only [Act.put, List.setIfInBounds_toArray, List.set_cons_zero, List.set_cons_succ]
  refine t_take 4 (some 34) (v := ?_) US rfl rfl (by kernel_rfl) (by kernel_rfl) (by kernel_rfl) (by kernel_rfl) (fun _ _ _ h => h) (by rfl) (fun w9 hS => ?_) ?_
  rotate_left
  · go_simp <;> with_reducible rfl
  try simp only [Act.put, List.setIfInBounds_toArray, List.set_cons_zero, List.set_cons_succ]
  refine t_take 5 (some 35) (v := ?_) US rfl rfl (by kernel_rfl) (by kernel_rfl) (by kernel_rfl) (by kernel_rfl) (fun _ _ _ h => h) (by rfl) (fun w9 hS => ?_) ?_
  rotate_left
  · go_simp <;> with_reducible rfl
  try simp only [Act.put, List.setIfInBounds_toArray, List.set_cons_zero, List.set_cons_succ]
  refine t_take 6 (some 36) (v := ?_) US rfl rfl (by kernel_rfl) (by kernel_rfl) (by kernel_rfl) (by kernel_rfl) (fun _ _ _ h => h) (by rfl) (fun w9 hS => ?_) ?_
  rotate_left
  · obtain ⟨s0, s1, s2⟩ := hS; go_simp <;> with_reducible rfl
  try simp only [Act.put, List.setIfInBounds_toArray, List.set_cons_zero, List.set_cons_succ]
  refine t_take 7 (some 37) (v := ?_) US rfl rfl (by kernel_rfl) (by kernel_rfl) (by kernel_rfl) (by kernel_rfl) (fun _ _ _ h => h) (by rfl) (fun w9 hS => ?_) ?_
  rotate_left
  · go_simp <;> with_reducible rfl
  try simp only [Act.put, List.setIfInBounds_toArray, List.set_cons_zero, List.set_cons_succ]
  refine t_take 8 (some 38) (v := ?_) US rfl rfl (by kernel_rfl) (by kernel_rfl) (by kernel_rfl) (by kernel_rfl) (fun _ _ _ h => h) (by rfl) (fun w9 hS => ?_) ?_
  rotate_left
  · go_simp <;> with_reducible rfl
  try simp only [Act.put, List.setIfInBounds_toArray, List.set_cons_zero, List.set_cons_succ]
  refine t_take 9 (some 39) (v := ?_) US rfl rfl (by kernel_rfl) (by kernel_rfl) (by kernel_rfl) (by kernel_rfl) (fun _ _ _ h => h) (by rfl) (fun w9 hS => ?_) ?_
  rotate_left
  · go_simp <;> with_reducible rfl
  try simp only [Act.put, List.setIfInBounds_toArray, List.set_cons_zero, List.set_cons_succ]
  refine t_take 10 (some 40) (v := ?_) US rfl rfl (by kernel_rfl) (by kernel_rfl) (by kernel_rfl) (by kernel_rfl) (fun _ _ _ h => h) (by rfl) (fun w9 hS => ?_) ?_
  rotate_left
  · obtain ⟨s0, s1, s2⟩ := hS; go_simp <;> with_reducible rfl
  try simp only [Act.put, List.setIfInBounds_toArray, List.set_cons_zero, List.set_cons_succ]
  refine t_take 11 (some 41) (v := ?_) US rfl rfl (by kernel_rfl) (by kernel_rfl) (by kernel_rfl) (by kernel_rfl) (fun _ _ _ h => h) (by rfl) (fun w9 hS => ?_) ?_
  rotate_left
  · go_simp <;> with_reducible rfl
  try simp only [Act.put, List.setIfInBounds_toArray, List.set_cons_zero, List.set_cons_succ]
  refine t_take 12 (some 42) (v := ?_) US rfl rfl (by kernel_rfl) (by kernel_rfl) (by kernel_rfl) (by kernel_rfl) (fun _ _ _ h => h) (by rfl) (fun w9 hS => ?_) ?_
  rotate_left
  · go_simp <;> with_reducible rfl
  try simp only [Act.put, List.setIfInBounds_toArray, List.set_cons_zero, List.set_cons_succ]
  refine t_take 13 (some 43) (v := ?_) US rfl rfl (by kernel_rfl) (by kernel_rfl) (by kernel_rfl) (by kernel_rfl) (fun _ _ _ h => h) (by rfl) (fun w9 hS => ?_) ?_
  rotate_left
  · obtain ⟨s0, s1, s2⟩ := hS; go_simp <;> with_reducible rfl
  try simp only [Act.put, List.setIfInBounds_toArray, List.set_cons_zero, List.set_cons_succ]
  refine t_op 14 (by kernel_rfl) rfl (by rfl) (fun K9 hK9 => ?_)
  go_simp
  obtain ⟨w2, hmk, o2, b2⟩ := mk512 w1.drew
  rw [hmk]
  have U2 : Hid (Up w1 w2) := hid ((Up.drew w1).t b2)
  obtain ⟨g2, hg2', hrow, hg2⟩ := own_pgRow noPage_len o2
  injection hg2' with hg2'
  injection hg2' with hg2'
  subst hg2'
  have HROW := hid hrow
  obtain ⟨w3, hupd, hm3, hg3⟩ := (T1.out.map.up U2.out).put (p := (n1 : Int)) ⟨_, 512, noPage⟩ (wf_nat (by have := N1.out; omega)) hL.out
  have RES := hid (TranAt.put T1.out U2.out HROW.out hm3 hg3)
  replace hupd := (show (Instr.mapUpdate 128 (.map (some m)) (.int .i64 n1) (.slice (some ⟨w1.heap.size, 0, none⟩) 512 512)).run Tryz.prog w2 = .ok () w3 from hupd)
  replace US := (show w2.cell? ⟨p, 3, none⟩ = some (.pointer (some ⟨t, 0, none⟩)) ∧ w2.cell? ⟨t, 1, none⟩ = some (.map (some m)) ∧ w2.cell? ⟨t, 0, none⟩ = some (.int .i64 n1) from ⟨U2.out.c s3, U2.out.c s1, U2.out.c s0⟩)
  clear o2 b2 hrow hg2 hm3 hg3 hmk
  refine hK9.out _ _ US ?_
  clear hK9 K9
  try simp only [Act.put, List.setIfInBounds_toArray, List.set_cons_zero, List.set_cons_succ]
  refine t_last (by kernel_rfl) rfl (by rfl) (fun K9 hK9 => ?_)
  go_simp
  refine hK9.out _ _ ?_
  clear hK9 K9
  try simp only [Act.put, List.setIfInBounds_toArray, List.set_cons_zero, List.set_cons_succ]
  refine t_done (by kernel_rfl) ?_
  first | (rename_i K1 h1; refine h1 _ _ ?_; clear h1 K1) | skip
  obtain ⟨_, _, _, r3, _⟩ := RES.out.1.own.cells
  obtain ⟨r0, _⟩ := RES.out.1.cells
  clear US hupd s0 s1 s3
  go_wp2
  go_ret2
  exact ⟨rfl, _, _, hid ⟨RES.out.1, (F1.out.mono (fun k e => .inl e)).trans' (RES.out.2.mono (fun k e => .inr e))⟩⟩
end Go.Proofs.YtbcghggkfnagoaaGreatDoor
