/- THE PAGER's Put and Grow in a transaction. -/
import Derived.Test.YtbcghggkfnagoaaGreatDoorPgo
import Derived.Test.YtbcghggkfnagoaaGreatDoorDskB
set_option linter.unusedVariables false
set_option linter.unusedSimpArgs false
namespace Go.Proofs.YtbcghggkfnagoaaGreatDoor
open Go Go.RowKit Go.Maps Hach

theorem own_pgRow {w : World} {base c : Nat} {A : Option Addr} {xs : List UInt8} (hl : xs.length = 512) (h : OwnB w base A c xs) : ∃ g, A = some ⟨g, 0, none⟩ ∧ PgRow w ⟨g, c, xs⟩ ∧ base ≤ g := by
  have h' : w.ownsRow base 5 1 (.slice A xs.length c) xs.length (xs.map byteCell) := h
  rcases h'.2 with ⟨_, h0⟩ | ⟨g, cap, cur, hv, hb, hg, hnc, _⟩
  · rw [hl] at h0; cases h0
  · injection hv with e1 e2 e3
    have hcap : xs.length ≤ c := by rw [e3]; exact hnc
    subst e1; subst e3
    refine ⟨g, rfl, ⟨⟨⟨cur, (0, 0), hg⟩, fun j v hj => ?_⟩, hl, by show 512 ≤ c; omega⟩, hb⟩
    have hjl := (List.getElem?_eq_some_iff.1 hj).1
    rw [secC_length] at hjl
    have hjl' : j < xs.length := hjl
    show w.cell? ⟨g, 0 + j, none⟩ = some v
    rw [Nat.zero_add, h'.cellAt j (by omega)]
    exact hj
section
variable {w w2 w3 : World} {p t m : Nat} {q : PgN} {mv : Value} {last : Int} {n : Nat} {L : PgL}
theorem TranAt.put (h : TranAt w p q t m mv last n L) (hu : Up w w2) {i : Int} {x : PgX} (hx : PgRow w2 x) (hm : MapP w3 m (gput L i x)) (hg : w2.grownBy w3 (some m)) : TranAt w3 p q t m mv last n (gput L i x) ∧ Fr (fun k => k = m) w w3 := by
  have h2 := h.up hu
  have hf : Fr (fun k => k = m) w2 w3 := (Fr.of_grown hg).mono (fun k e => Option.some.inj e)
  obtain ⟨n1, n2, n3, n4⟩ := h2.ne
  have hxm : x.g ≠ m := by
    intro e
    obtain ⟨cs, fr, hb⟩ := hx.row.1
    obtain ⟨es, cl, hm2⟩ := h2.map.isMap
    rw [e, hm2] at hb; cases hb
  refine ⟨⟨h2.own.fr hf n2, (hf.block t (Array.getElem?_eq_some_iff.1 h2.tran).1 n3).trans h2.tran, hm, fun y hy => ?_⟩, ((Fr.of_below hu).mono (fun _ e => e.elim)).trans' hf⟩
  rcases mem_gput hy with rfl | ⟨hy, _⟩
  · exact hx.fr hf hxm
  · exact (h2.rows y hy).fr hf (n4 y hy).2.2
end
set_option maxRecDepth 100000 in
set_option maxHeartbeats 2000000 in
theorem pput_calls (w : World) (p t m : Nat) (q : PgN) (mv : Value) (last : Int) (n : Nat) (L : PgL) (h : Hid (TranAt w p q t m mv last n L)) (i : Nat) (hi : Hid (1 ≤ i ∧ i ≤ n ∧ n < 1000000)) (hL : Hid (L.length < 1000000))
    (A : Option Addr) (xs : List UInt8) (c : Nat) (hxs : Hid (xs.length = 512)) (hb : Hid (Bytes w A xs)) :
    Calls Tryz.prog 48 #[.pointer (some ⟨p, 0, none⟩), .int .i64 i, .slice A 512 c] w fun en w' => en = .returned (.int .i64 0) ∧ ∃ g c', Hid (TranAt w' p q t m mv last n (gput L i ⟨g, c', xs⟩) ∧ Fr (fun k => k = m) w w' ∧ w.heap.size ≤ g) := by
  obtain ⟨_, _, _, e3, _⟩ := h.out.own.cells
  obtain ⟨f0, f1, _⟩ := h.out.cells
  have H := hid h.out.own
  have h1 : ¬ (i : Int) < 1 := by have := hi.out; omega
  have h2 : ¬ (n : Int) < i := by have := hi.out; omega
  have CL : ∀ w', Up w w' → Calls _ _ #[.slice A xs.length c] w' _ := fun w' hu => clone_calls w' A xs c (by rw [hxs.out]; decide) (hid (hb.out.grown hu))
  rw [hxs.out] at CL
  go_enter Tryz.func48, Tryz.ntmps48
  go_wp2_with (go_at_call 86; refine (pwithin_calls w p q t H).mono ?_; rintro e w' ⟨rfl, hw⟩; obtain rfl := hw.symm)
  have US : w.drew.cell? ⟨p, 3, none⟩ = some (.pointer (some ⟨t, 0, none⟩)) ∧ w.drew.cell? ⟨t, 1, none⟩ = some (.map (some m)) := ⟨e3, f1⟩
  refine t_start (fun w9 => w9.cell? ⟨p, 3, none⟩ = some (.pointer (some ⟨t, 0, none⟩)) ∧ w9.cell? ⟨t, 1, none⟩ = some (.map (some m))) 10 (by kernel_rfl) ?_
  refine t_take 0 (some 32) (v := ?_) US rfl rfl (by kernel_rfl) (by kernel_rfl) (by kernel_rfl) (by kernel_rfl) (fun _ _ _ h => h) (by rfl) (fun w9 hS => ?_) ?_
  rotate_left
  · go_simp <;> with_reducible rfl
  try simp only [Act.put, List.setIfInBounds_toArray, List.set_cons_zero, List.set_cons_succ]
  refine t_take 1 (some 33) (v := ?_) US rfl rfl (by kernel_rfl) (by kernel_rfl) (by kernel_rfl) (by kernel_rfl) (fun _ _ _ h => h) (by rfl) (fun w9 hS => ?_) ?_
  rotate_left
  · go_simp <;> with_reducible rfl
  try simp only [Act.put, List.setIfInBounds_toArray, List.set_cons_zero, List.set_cons_succ]
  refine t_take 2 (some 34) (v := ?_) US rfl rfl (by kernel_rfl) (by kernel_rfl) (by kernel_rfl) (by kernel_rfl) (fun _ _ _ h => h) (by rfl) (fun w9 hS => ?_) ?_
  rotate_left
  · go_simp <;> with_reducible rfl
  try simp only [Act.put, List.setIfInBounds_toArray, List.set_cons_zero, List.set_cons_succ]
  refine t_take 3 (some 35) (v := ?_) US rfl rfl (by kernel_rfl) (by kernel_rfl) (by kernel_rfl) (by kernel_rfl) (fun _ _ _ h => h) (by rfl) (fun w9 hS => ?_) ?_
  rotate_left
  · obtain ⟨s0, s1⟩ := hS; go_simp <;> with_reducible rfl
  try simp only [Act.put, List.setIfInBounds_toArray, List.set_cons_zero, List.set_cons_succ]
  refine t_take 4 (some 36) (v := ?_) US rfl rfl (by kernel_rfl) (by kernel_rfl) (by kernel_rfl) (by kernel_rfl) (fun _ _ _ h => h) (by rfl) (fun w9 hS => ?_) ?_
  rotate_left
  · go_simp <;> with_reducible rfl
  try simp only [Act.put, List.setIfInBounds_toArray, List.set_cons_zero, List.set_cons_succ]
  refine t_take 5 (some 37) (v := ?_) US rfl rfl (by kernel_rfl) (by kernel_rfl) (by kernel_rfl) (by kernel_rfl) (fun _ _ _ h => h) (by rfl) (fun w9 hS => ?_) ?_
  rotate_left
  · go_simp <;> with_reducible rfl
  try simp only [Act.put, List.setIfInBounds_toArray, List.set_cons_zero, List.set_cons_succ]
  refine t_take 6 (some 38) (v := ?_) US rfl rfl (by kernel_rfl) (by kernel_rfl) (by kernel_rfl) (by kernel_rfl) (fun _ _ _ h => h) (by rfl) (fun w9 hS => ?_) ?_
  rotate_left
  · obtain ⟨s0, s1⟩ := hS; go_simp <;> with_reducible rfl
  try simp only [Act.put, List.setIfInBounds_toArray, List.set_cons_zero, List.set_cons_succ]
  refine t_take 7 (some 39) (v := ?_) US rfl rfl (by kernel_rfl) (by kernel_rfl) (by kernel_rfl) (by kernel_rfl) (fun _ _ _ h => h) (by rfl) (fun w9 hS => ?_) ?_
  rotate_left
  · go_simp <;> with_reducible rfl
  try simp only [Act.put, List.setIfInBounds_toArray, List.set_cons_zero, List.set_cons_succ]
  refine t_take 8 (some 40) (v := ?_) US rfl rfl (by kernel_rfl) (by kernel_rfl) (by kernel_rfl) (by kernel_rfl) (fun _ _ _ h => h) (by rfl) (fun w9 hS => ?_) ?_
  rotate_left
  · go_simp <;> with_reducible rfl
  try simp only [Act.put, List.setIfInBounds_toArray, List.set_cons_zero, List.set_cons_succ]
  refine t_op 9 (by kernel_rfl) rfl (by rfl) (fun K9 hK9 => ?_)
  go_simp
  go_at_call 117
  refine (CL _ (Up.drew w)).mono ?_
  rintro en w2 ⟨A2, c2, rfl, o2, b2⟩
  rw [hxs.out]
  have U2 : Hid (Up w w2) := hid ((Up.drew w).t b2)
  obtain ⟨g2, rfl, hrow, hg2⟩ := own_pgRow hxs.out o2
  have HROW := hid hrow
  obtain ⟨w3, hupd, hm3, hg3⟩ := (h.out.map.up U2.out).put (p := (i : Int)) ⟨g2, c2, xs⟩ (wf_nat (by have := hi.out; omega)) hL.out
  have PP := TranAt.put h.out U2.out HROW.out hm3 hg3
  have RES := hid (And.intro PP.1 (And.intro PP.2 (show w.heap.size ≤ g2 from hg2)))
  clear PP
  unfold pgV at hupd
  replace US := (show w2.cell? ⟨p, 3, none⟩ = some (.pointer (some ⟨t, 0, none⟩)) ∧ w2.cell? ⟨t, 1, none⟩ = some (.map (some m)) from ⟨U2.out.c e3, U2.out.c f1⟩)
  clear o2 b2 hrow hg2 hm3 hg3
  refine hK9.out _ _ US ?_
  clear hK9 K9
  try simp only [Act.put, List.setIfInBounds_toArray, List.set_cons_zero, List.set_cons_succ]
  refine t_last (by kernel_rfl) rfl (by rfl) (fun K9 hK9 => ?_)
  go_simp
  refine hK9.out _ _ ?_
  clear hK9 K9
  try simp only [Act.put, List.setIfInBounds_toArray, List.set_cons_zero, List.set_cons_succ]
  refine t_done (by kernel_rfl) ?_
  first | (rename_i K1 h1; refine h1 _ _ ?_; clear h1 K1) | skip
  clear US hupd
  go_wp2
  go_ret
  exact ⟨rfl, g2, c2, RES⟩
end Go.Proofs.YtbcghggkfnagoaaGreatDoor
