/- THE WALKS of the document's Get. -/
import Derived.Test.YtlikggeceeennaaRf4
set_option linter.unusedVariables false
set_option linter.unusedSimpArgs false
namespace Go.Proofs.Ytlikggeceeennaa
open Go Go.RowKit Hach

section
variable {w w' : World} {base b : Nat} {room hit miss : Int} {A : Option Addr} {c : Nat} {R : List RowR}
/-- Another number of hits or misses. -/
theorem RefAt.count (h : RefAt w base b room hit miss A c R) (i : Nat) (v hit' miss' : Int)
    (hi : (#[Value.int .i64 room, .slice A R.length c, .int .i64 hit, .int .i64 miss].setIfInBounds i (.int .i64 v)) = #[Value.int .i64 room, .slice A R.length c, .int .i64 hit', .int .i64 miss']) :
    RefAt (w.setCell ⟨b, i, none⟩ (.int .i64 v)) base b room hit' miss' A c R ∧ Below base w (w.setCell ⟨b, i, none⟩ (.int .i64 v)) ∧ Fr (RefS w b) w (w.setCell ⟨b, i, none⟩ (.int .i64 v)) := by
  have hf : Fr (fun k => k = b) w (w.setCell ⟨b, i, none⟩ (.int .i64 v)) := (Fr.refl (fun k => k = b) w).setCell (p := ⟨b, i, none⟩) (fun _ => rfl) _
  refine ⟨⟨by rw [heap_setCell_same w b i _ _ _ h.own, hi], hf.own h.rows (fun k hk e => own_ne h.rows h.own (by decide) (by rw [hk, e])), fun x hx => ?_, h.low⟩, (Below.refl base w).setCell h.low _, frR_b hf⟩
  exact hf.own (h.data x hx) (fun k hk e => own_ne (h.data x hx) h.own (by decide) (by rw [hk, e]))
end
/-- A row's cells in a block of their own. -/
def RowAt (w : World) (rb : Nat) (x : RowR) : Prop := w.cell? ⟨rb, 0, none⟩ = some (.int .i64 x.page) ∧ w.cell? ⟨rb, 1, none⟩ = some (.slice x.A 512 x.c) ∧ w.cell? ⟨rb, 2, none⟩ = some (.int .i64 x.pins) ∧ w.cell? ⟨rb, 3, none⟩ = some (.bool x.dirty)
theorem RowAt.fr {w w' : World} {rb : Nat} {x : RowR} {S : Nat → Prop} (h : RowAt w rb x) (hf : Fr S w w') (hS : ¬ S rb) : RowAt w' rb x := ⟨hf.cell h.1 hS, hf.cell h.2.1 hS, hf.cell h.2.2.1 hS, hf.cell h.2.2.2 hS⟩
theorem RowAt.up {w w' : World} {rb : Nat} {x : RowR} (h : RowAt w rb x) (hu : Up w w') : RowAt w' rb x := h.fr (Fr.of_below hu) id
theorem RowAt.new (w : World) (x : RowR) : RowAt (w.alloc (.cells #[.int .i64 x.page, .slice x.A 512 x.c, .int .i64 x.pins, .bool x.dirty] 174)) w.heap.size x := by
  have h : ∀ i v, (#[Value.int .i64 x.page, .slice x.A 512 x.c, .int .i64 x.pins, .bool x.dirty] : Array Value)[i]? = some v → (w.alloc (.cells #[.int .i64 x.page, .slice x.A 512 x.c, .int .i64 x.pins, .bool x.dirty] 174)).cell? ⟨w.heap.size, i, none⟩ = some v := fun i v hv => by
    unfold World.cell?
    rw [show (⟨w.heap.size, i, none⟩ : Addr).block = w.heap.size from rfl, heap_alloc_new]
    exact hv
  exact ⟨h 0 _ rfl, h 1 _ rfl, h 2 _ rfl, h 3 _ rfl⟩
theorem rgetMiss_calls (w : World) (base b : Nat) (room hit miss : Int) (V : List Vis) (p : Int) (h : Hid (RefM w base b room hit miss V)) (hno : Hid (p ∉ V.map (·.1))) (hl : Hid (V.length < 1000000)) (hm : IntKind.i64.wrap (miss + 1) = miss + 1) :
    Calls Try.prog 84 #[ptr b, .int .i64 p] w (StepR w base b room hit (miss + 1) V (.tuple #[.slice none 0 0, .bool false])) := by
  obtain ⟨A, c, R, h1, rfl⟩ := h.out
  have H1 := hid h1
  have HL : Hid (R.length < 1000000) := hid (by have := hl.out; rwa [List.length_map] at this)
  have HF : Hid (findI p 0 R = -1) := hid (findI_miss 0 (by rw [← visR_page]; exact hno.out))
  clear h1
  unfold ptr
  go_enter Try.func84, Try.ntmps84
  go_wp2_with fail
  refine (find_calls w base b room hit miss A c R p H1 HL).mono ?_
  rintro en w1 ⟨rfl, u1⟩
  rw [HF.out]
  have H2 := H1.out.up u1
  have c3 := H2.c3
  have f3 := H2.fz 3
  obtain ⟨k1, k2, k3⟩ := H2.count 3 (miss + 1) hit (miss + 1) rfl
  have K := hid (And.intro k1 (And.intro ((u1.mono H1.out.bs).trans k2) (frR_trans (frR_up u1) k3)))
  clear H2 k1 k2 k3 u1
  go_wp2
  go_ret2
  exact ⟨rfl, hid ⟨⟨_, _, _, K.out.1, rfl⟩, K.out.2.1, K.out.2.2⟩⟩

set_option maxRecDepth 100000 in
set_option maxHeartbeats 2000000 in
theorem rgetHit_calls (w : World) (base b : Nat) (room hit miss : Int) (V1 V2 : List Vis) (v : Vis) (h : Hid (RefM w base b room hit miss (V1 ++ v :: V2))) (hno : Hid (v.1 ∉ V1.map (·.1))) (hl : Hid ((V1 ++ v :: V2).length < 1000000)) (hh : IntKind.i64.wrap (hit + 1) = hit + 1) :
    Calls Try.prog 84 #[ptr b, .int .i64 v.1] w fun en w' => ∃ A c, en = .returned (.tuple #[.slice A 512 c, .bool true]) ∧ Hid (Bytes w' A v.2.1 ∧ RefM w' base b room (hit + 1) miss ((V1 ++ V2) ++ [v]) ∧ Below base w w' ∧ Fr (RefS w b) w w') := by
  obtain ⟨A, c, R1, x, R2, h1, rfl, rfl, rfl⟩ := h.out.split
  have H1 := hid h1
  have HL : Hid ((R1 ++ x :: R2).length < 1000000) := hid (by have := hl.out; simpa using this)
  have HF : Hid (findI x.page 0 (R1 ++ x :: R2) = (R1.length : Int)) := hid (by rw [findI_hit 0 (by rw [← visR_page]; exact hno.out), Nat.zero_add])
  clear h1
  show Calls _ _ #[ptr b, .int .i64 x.page] w _
  unfold ptr
  go_enter Try.func84, Try.ntmps84
  go_wp2_with fail
  refine (find_calls w base b room hit miss A c (R1 ++ x :: R2) x.page H1 HL).mono ?_
  rintro en w1 ⟨rfl, u1⟩
  rw [HF.out]
  have H2 := H1.out.up u1
  have c2 := H2.c2
  have f2 := H2.fz 2
  obtain ⟨k1, k2, k3⟩ := H2.count 2 (hit + 1) (hit + 1) miss rfl
  have c1 := k1.c1
  obtain ⟨g, rfl, hlt, _, q0, q1, q2, q3, qf⟩ := k1.at0 (Up.refl _)
  have i1 : (0 : Int) ≤ (R1.length : Int) := by omega
  have i2 : (R1.length : Int) < ((R1 ++ x :: R2).length : Int) := by simp; omega
  have i3 : ¬ ((R1.length : Int) < 0) := by omega
  have K := hid (And.intro k1 (And.intro ((u1.mono H1.out.bs).trans k2) (frR_trans (frR_up u1) k3)))
  obtain ⟨n, hn⟩ : ∃ n, (R1 ++ x :: R2).length = n := ⟨_, rfl⟩
  rw [hn] at c1 i2
  have HN := hid hn
  clear H2 k1 k2 k3 u1 qf hn
  go_wp2_with fail
  have hsz : (w1.setCell ⟨b, 2, none⟩ (.int .i64 (hit + 1))).heap.size = w1.heap.size := by simp
  generalize w1.setCell ⟨b, 2, none⟩ (.int .i64 (hit + 1)) = W2 at *
  rw [← hsz]
  have u3 : Up W2 (W2.alloc (.cells #[.int .i64 x.page, .slice x.A 512 x.c, .int .i64 x.pins, .bool x.dirty] 174)) := (Below.refl _ _).alloc (Nat.le_refl _) _
  have hr := RowAt.new W2 x
  have hlt3 : W2.heap.size < (W2.alloc (.cells #[.int .i64 x.page, .slice x.A 512 x.c, .int .i64 x.pins, .bool x.dirty] 174)).heap.size := by simp
  have HLT := hid hlt3
  have KK := hid (And.intro (K.out.1.up u3) (And.intro ((K.out.2.1).trans (u3.mono (RefM.bs ⟨_, _, _, K.out.1, rfl⟩))) (frR_trans K.out.2.2 (frR_up u3))))
  have hrb : Hid (W2.heap.size ≠ b) := hid (fun e => by have := K.out.1.lt; omega)
  have HD := hid ((K.out.1.data x (by simp)))
  have U3 := hid u3
  have HR := hid hr
  clear u3 hr K hsz hlt3 q0 q1 q2 q3 c1
  generalize W2.alloc (.cells #[.int .i64 x.page, .slice x.A 512 x.c, .int .i64 x.pins, .bool x.dirty] 174) = W3 at *
  generalize hrn : W2.heap.size = rb at *
  refine (rout_split W3 base b room (hit + 1) miss (some ⟨g, 0, none⟩) c R1 R2 x (hid KK.out.1) HL).mono ?_
  rintro en W4 ⟨rfl, hh⟩
  obtain ⟨A4, c4, ra4, b4, f4, n4⟩ := hh.out
  have hr4 := HR.out.fr f4 hrb.out
  have HD4 := hid (Fr.own f4 (Fr.own (Fr.of_below U3.out) HD.out (fun _ _ => id)) (fun k hk e => own_ne (Fr.own (Fr.of_below U3.out) HD.out (fun _ _ => id)) KK.out.1.own (by decide) (by rw [hk, e])))
  have RA4 := hid ra4
  have KB := hid (And.intro (KK.out.2.1.trans b4) (frR_trans KK.out.2.2 (frR_b f4)))
  have HR4 := hid hr4
  have NB4 : Hid ((Value.slice A4 (R1 ++ R2).length c4).ownBlock ≠ some rb) := hid (fun e => by have := n4 rb e; have := HLT.out; omega)
  obtain ⟨r0, r1, r2, r3⟩ := hr4
  have c14 := ra4.c1
  obtain ⟨m, hm⟩ : ∃ m, (R1 ++ R2).length = m := ⟨_, rfl⟩
  rw [hm] at c14
  have HM := hid hm
  have BM : Hid (m < 1000000) := hid (by rw [← hm]; have := HL.out; simp only [List.length_append, List.length_cons] at this ⊢; omega)
  clear hm ra4 b4 f4 hh KK HR U3 HD HN n4 HLT
  go_wp2_with fail
  have US : W4.drew.cell? ⟨b, 1, none⟩ = some (.slice A4 m c4) ∧ RowAt W4.drew rb x := ⟨c14, HR4.out⟩
  refine t_start (fun w' => w'.cell? ⟨b, 1, none⟩ = some (.slice A4 m c4) ∧ RowAt w' rb x) 10 (by kernel_rfl) ?_
  refine t_take 0 (some 37) (v := ?_) US rfl rfl (by kernel_rfl) (by kernel_rfl) (by kernel_rfl) (by kernel_rfl) (fun _ _ _ h => h) (by rfl) (fun w9 hS => ?_) ?_
  rotate_left
  · go_simp <;> with_reducible rfl
  try simp only [Act.put, List.setIfInBounds_toArray, List.set_cons_zero, List.set_cons_succ]
  refine t_take 1 (some 38) (v := ?_) US rfl rfl (by kernel_rfl) (by kernel_rfl) (by kernel_rfl) (by kernel_rfl) (fun _ _ _ h => h) (by rfl) (fun w9 hS => ?_) ?_
  rotate_left
  · go_simp <;> with_reducible rfl
  try simp only [Act.put, List.setIfInBounds_toArray, List.set_cons_zero, List.set_cons_succ]
  refine t_take 2 (some 39) (v := ?_) US rfl rfl (by kernel_rfl) (by kernel_rfl) (by kernel_rfl) (by kernel_rfl) (fun _ _ _ h => h) (by rfl) (fun w9 hS => ?_) ?_
  rotate_left
  · go_simp <;> with_reducible rfl
  try simp only [Act.put, List.setIfInBounds_toArray, List.set_cons_zero, List.set_cons_succ]
  refine t_take 3 (some 40) (v := ?_) US rfl rfl (by kernel_rfl) (by kernel_rfl) (by kernel_rfl) (by kernel_rfl) (fun _ _ _ h => h) (by rfl) (fun w9 hS => ?_) ?_
  rotate_left
  · go_simp <;> with_reducible rfl
  try simp only [Act.put, List.setIfInBounds_toArray, List.set_cons_zero, List.set_cons_succ]
  refine t_take 4 (some 41) (v := ?_) US rfl rfl (by kernel_rfl) (by kernel_rfl) (by kernel_rfl) (by kernel_rfl) (fun _ _ _ h => h) (by rfl) (fun w9 hS => ?_) ?_
  rotate_left
  · have e0 := hS.1; go_simp <;> with_reducible rfl
  try simp only [Act.put, List.setIfInBounds_toArray, List.set_cons_zero, List.set_cons_succ]
  refine t_take 5 (some 42) (v := ?_) US rfl rfl (by kernel_rfl) (by kernel_rfl) (by kernel_rfl) (by kernel_rfl) (fun _ _ _ h => h) (by rfl) (fun w9 hS => ?_) ?_
  rotate_left
  · obtain ⟨_, e0, e1, e2, e3⟩ := hS; go_simp <;> with_reducible rfl
  try simp only [Act.put, List.setIfInBounds_toArray, List.set_cons_zero, List.set_cons_succ]
  refine t_op 6 (by kernel_rfl) rfl (by rfl) (fun K9 hK9 => ?_)
  go_simp
  have u5 : Up W4 ((W4.alloc (.cells #[.int .i64 x.page, .slice x.A 512 x.c, .int .i64 x.pins, .bool x.dirty] 174)).drew) := ((Below.refl W4.heap.size W4).alloc (Nat.le_refl _) (.cells #[.int .i64 x.page, .slice x.A 512 x.c, .int .i64 x.pins, .bool x.dirty] 174)).drew
  have U5 := hid u5
  replace US : ((W4.alloc (.cells #[.int .i64 x.page, .slice x.A 512 x.c, .int .i64 x.pins, .bool x.dirty] 174)).drew).cell? ⟨b, 1, none⟩ = some (.slice A4 m c4) ∧ RowAt ((W4.alloc (.cells #[.int .i64 x.page, .slice x.A 512 x.c, .int .i64 x.pins, .bool x.dirty] 174)).drew) rb x := ⟨u5.c c14, HR4.out.up u5⟩
  have ROW := hid (show ((W4.alloc (.cells #[.int .i64 x.page, .slice x.A 512 x.c, .int .i64 x.pins, .bool x.dirty] 174)).drew).ownsRow base 174 4 (.slice A4 m c4) m ((R1 ++ R2).flatMap rowC) from by have := Fr.own (Fr.of_below u5) RA4.out.rows (fun _ _ => id); rwa [HM.out] at this)
  clear u5
  refine hK9.out _ _ US ?_
  clear hK9 K9
  try simp only [Act.put, List.setIfInBounds_toArray, List.set_cons_zero, List.set_cons_succ]
  refine t_op 7 (by kernel_rfl) rfl (by rfl) (fun K9 hK9 => ?_)
  refine wp_append (news := rowC x) elemRow (.tmp 41) (.tmp 43) rfl rfl ROW.out rfl (show Rd ((W4.alloc (.cells #[.int .i64 x.page, .slice x.A 512 x.c, .int .i64 x.pins, .bool x.dirty] 174)).drew) (some ⟨W4.heap.size, 0, none⟩) (rowC x) from Rd.new W4 174 (0, 0) (rowC x)) rfl (rowC_one x) (by have := BM.out; simp only [maxLen]; omega) (by have := BM.out; omega) (Nat.le_trans RA4.out.bs U5.out.size) ?_
  intro A6 k6 w6 o6 g6 d6
  have fr6 : Fr (fun k => some k = (Value.slice A4 m c4).ownBlock) W4 w6 := ((Fr.of_below U5.out).mono (fun _ f => f.elim)).trans' (Fr.of_grown g6)
  have O6 := hid (And.intro o6 (And.intro fr6 (HR4.out.fr fr6 (fun e => NB4.out (by rw [HM.out]; exact e.symm)))))
  have c16 : w6.cell? ⟨b, 1, none⟩ = some (.slice A4 m c4) := fr6.cell c14 (fun e => own_ne RA4.out.rows RA4.out.own (by decide) (by rw [HM.out]; exact e.symm))
  have fz6 : w6.frozen? ⟨b, 1, none⟩ = false := by unfold World.frozen?; rw [show (⟨b, 1, none⟩ : Addr).block = b from rfl, fr6.block b RA4.out.lt (fun e => own_ne RA4.out.rows RA4.out.own (by decide) (by rw [HM.out]; exact e.symm)), RA4.out.own]; simp
  clear o6 g6 d6 fr6 ROW U5
  replace US : w6.cell? ⟨b, 1, none⟩ = some (.slice A4 m c4) ∧ RowAt w6 rb x := ⟨c16, O6.out.2.2⟩
  refine hK9.out _ _ US ?_
  clear hK9 K9
  try simp only [Act.put, List.setIfInBounds_toArray, List.set_cons_zero, List.set_cons_succ]
  refine t_op 8 (by kernel_rfl) rfl (by rfl) (fun K9 hK9 => ?_)
  go_simp
  refine hK9.out _ _ US ?_
  clear hK9 K9
  try simp only [Act.put, List.setIfInBounds_toArray, List.set_cons_zero, List.set_cons_succ]
  refine t_take 9 (some 46) (v := ?_) US rfl rfl (by kernel_rfl) (by kernel_rfl) (by kernel_rfl) (by kernel_rfl) (fun _ _ _ h => h) (by rfl) (fun w9 hS => ?_) ?_
  rotate_left
  · go_simp <;> with_reducible rfl
  try simp only [Act.put, List.setIfInBounds_toArray, List.set_cons_zero, List.set_cons_succ]
  refine t_last (by kernel_rfl) rfl (by rfl) (fun K9 hK9 => ?_)
  go_simp
  refine hK9.out _ _ ?_
  clear hK9 K9
  try simp only [Act.put, List.setIfInBounds_toArray, List.set_cons_zero, List.set_cons_succ]
  refine t_done (by kernel_rfl) ?_
  rename_i K1 h1
  refine h1 _ _ ?_
  clear h1 K1
  have HW7 : Hid (RefAt (w6.setCell ⟨b, 1, none⟩ (.slice A6 (m + 1) k6)) base b room (hit + 1) miss A6 k6 ((R1 ++ R2) ++ [x]) ∧ Below base w (w6.setCell ⟨b, 1, none⟩ (.slice A6 (m + 1) k6)) ∧ Fr (RefS w b) w (w6.setCell ⟨b, 1, none⟩ (.slice A6 (m + 1) k6)) ∧ RowAt (w6.setCell ⟨b, 1, none⟩ (.slice A6 (m + 1) k6)) rb x ∧ (w6.setCell ⟨b, 1, none⟩ (.slice A6 (m + 1) k6)).ownsRow 0 5 1 (.slice x.A 512 x.c) 512 (x.data.map byteCell)) := by
    have hf : Fr (fun k => k = b) w6 (w6.setCell ⟨b, 1, none⟩ (.slice A6 (m + 1) k6)) := (Fr.refl (fun k => k = b) w6).setCell (p := ⟨b, 1, none⟩) (fun _ => rfl) _
    have e : ((R1 ++ R2) ++ [x]).length = m + 1 := by rw [List.length_append, HM.out]; rfl
    have hb6 : w6.heap[b]? = _ := (O6.out.2.1.block b RA4.out.lt (fun hk => own_ne RA4.out.rows RA4.out.own (by decide) (by rw [HM.out]; exact hk.symm))).trans RA4.out.own
    have dat : ∀ (y : RowR), W4.ownsRow 0 5 1 (.slice y.A 512 y.c) 512 (y.data.map byteCell) → (w6.setCell ⟨b, 1, none⟩ (.slice A6 (m + 1) k6)).ownsRow 0 5 1 (.slice y.A 512 y.c) 512 (y.data.map byteCell) := fun y o => by
      have o5 := Fr.own O6.out.2.1 o (fun k hk e => by
        rcases RA4.out.rows.2 with ⟨hv, _⟩ | ⟨g9, cap9, cur9, hv, _, hg9, _⟩
        · rw [HM.out] at hv; rw [hv] at e; cases e
        · rw [HM.out] at hv; rw [hv] at e
          obtain rfl : g9 = k := by simpa [Value.ownBlock] using e.symm
          exact own_ne o hg9 (by decide) hk)
      exact hf.own o5 (fun k hk e => own_ne o5 hb6 (by decide) (by rw [hk, e]))
    have hle : base ≤ W4.heap.size := RA4.out.bs
    have b6 : Below base W4 w6 := Fr.below O6.out.2.1 hle (fun k hk hh => by have := (own_block RA4.out.rows k (by rw [HM.out]; exact hh.symm)).1; omega)
    have f6 : Fr (RefS W4 b) W4 w6 := O6.out.2.1.mono (fun k hk => by
      rcases RA4.out.rows.2 with ⟨hv, _⟩ | ⟨g9, cap9, cur9, hv, _, hg9, _⟩
      · rw [HM.out] at hv; rw [hv] at hk; cases hk
      · rw [HM.out] at hv; rw [hv] at hk
        obtain rfl : g9 = k := by simpa [Value.ownBlock] using hk.symm
        exact .inr ⟨_, _, hg9⟩)
    refine hid ⟨⟨?_, ?_, fun y hy => ?_, RA4.out.low⟩, Below.setCell (KB.out.1.trans b6) (p := ⟨b, 1, none⟩) RA4.out.low _, frR_trans KB.out.2 (frR_trans f6 (frR_b hf)), RowAt.fr O6.out.2.2 hf (fun e => hrb.out e), dat x HD4.out⟩
    · rw [heap_setCell_same w6 b 1 _ _ _ hb6, e]; rfl
    · rw [e, List.flatMap_append]; exact hf.own (by simpa [rowC] using O6.out.1) (fun k hk e => own_ne O6.out.1 hb6 (by decide) (by rw [hk, e]))
    · refine dat y ?_
      rcases List.mem_append.1 hy with hy | hy
      · exact RA4.out.data y hy
      · rw [List.mem_singleton.1 hy]; exact HD4.out
  clear O6 c16 fz6
  generalize w6.setCell ⟨b, 1, none⟩ (.slice A6 (m + 1) k6) = W7 at *
  have u8 : Up W7 (W7.alloc (.cells #[] 5)) := (Below.refl _ _).alloc (Nat.le_refl _) _
  have q1 := u8.c HW7.out.2.2.2.1.2.1
  have HU := hid u8
  clear u8
  go_wp2_with (at_builtin; refine hold ?_)
  have O1 := own_lit0 W7 W7.heap.size 5 1 (Nat.le_refl _)
  refine hid (wl_append elemB rfl (.tmp 47) (.tmp 49) rfl rfl O1 rfl ((Rd.own HW7.out.2.2.2.2).grown HU.out) (by have := HW7.out.2.2.2.2.1; simpa using this) (byteCells_one _) (by simp only [maxLen]; omega) (by omega) HU.out.size ?_)
  intro A9 k9 w9 o9 g9 _
  have u9 : Up W7 w9 := below_append HU.out (Nat.le_refl _) HU.out.size O1 g9
  simp only [Nat.zero_add, List.nil_append] at o9
  rw [Nat.zero_add]
  have O9 := hid o9
  have U9 := hid u9
  clear o9 g9 O1 u9 q1
  go_wp2
  go_ret2
  exact ⟨A9, k9, rfl, hid ⟨Rd.bytes (Rd.own O9.out), ⟨A6, k6, _, HW7.out.1.up U9.out, by simp only [List.map_append, List.map_cons, List.map_nil]⟩, HW7.out.2.1.trans (U9.out.mono HW7.out.1.bs), frR_trans HW7.out.2.2.1 (frR_up U9.out)⟩⟩
end Go.Proofs.Ytlikggeceeennaa
