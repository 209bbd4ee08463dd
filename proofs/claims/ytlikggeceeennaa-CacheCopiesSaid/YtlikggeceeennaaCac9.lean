/- THE WALKS of some and its closure. -/
import Derived.Test.YtlikggeceeennaaCac8
import Derived.Test.YtlikggeceeennaaK5
set_option linter.unusedVariables false
set_option linter.unusedSimpArgs false
namespace Go.Proofs.Ytlikggeceeennaa
open Go Go.RowKit Hach

def intCell (p : Int) : Value := .int .i64 p
theorem elemI : Elem Try.prog 44 3 (.int .i64 0) 1 8 := ⟨Try.underlying44, by kernel_rfl, rfl, by decide⟩

/-- The list that some gathers. -/
def SomeSt (W0 w : World) (b1 b5 B m : Nat) (L : List Int) : Prop :=
  Up W0 w ∧ w.heap[b1]? = some (.cells #[.func (.func m) #[] #[]] 107 (0, 0)) ∧ (W0.heap.size ≤ b1 ∧ b1 < b5 ∧ b5 < B ∧ B ≤ w.heap.size) ∧
    ∃ A c, w.heap[b5]? = some (.cells #[.slice A L.length c] 44 (0, 0)) ∧ w.ownsRow B 3 1 (.slice A L.length c) L.length (L.map intCell)
theorem SomeSt.up {W0 w w' : World} {b1 b5 B m : Nat} {L : List Int} (h : SomeSt W0 w b1 b5 B m L) (hu : Up w w') : SomeSt W0 w' b1 b5 B m L := by
  obtain ⟨h1, h2, ⟨h3, h4, h5, h6⟩, A, c, h7, h8⟩ := h
  refine ⟨h1.t hu, ?_, ⟨h3, h4, h5, Nat.le_trans h6 hu.size⟩, A, c, ?_, (Fr.of_below hu).own h8 (fun _ _ => id)⟩
  · rw [← h2]; exact hu.block b1 (Array.getElem?_eq_some_iff.1 h2).1
  · rw [← h7]; exact hu.block b5 (Array.getElem?_eq_some_iff.1 h7).1
theorem cell_one {w : World} {b : Nat} {v : Value} {t : TypeId} (h : w.heap[b]? = some (.cells #[v] t (0, 0))) : w.cell? ⟨b, 0, none⟩ = some v ∧ w.frozen? ⟨b, 0, none⟩ = false := by
  constructor
  · unfold World.cell?; rw [show (⟨b, 0, none⟩ : Addr).block = b from rfl, h]; rfl
  · unfold World.frozen?; rw [show (⟨b, 0, none⟩ : Addr).block = b from rfl, h]; simp

theorem some_stored {W0 w2 w' : World} {b1 b5 B m : Nat} {L : List Int} {p : Int} {A A' : Option Addr} {c c' : Nat} (S2 : Hid (SomeSt W0 w2 b1 b5 B m L)) (K5 : Hid (w2.heap[b5]? = some (.cells #[.slice A L.length c] 44 (0, 0))))
    (ST : Hid (W0.heap.size ≤ B ∧ (w2.drew.alloc (.cells #[.int .i64 p] 3)).ownsRow B 3 1 (.slice A L.length c) L.length (L.map intCell) ∧ B ≤ w2.heap.size))
    (g' : (w2.drew.alloc (.cells #[.int .i64 p] 3)).grownBy w' (Value.slice A L.length c).ownBlock) (o' : w'.ownsRow B 3 1 (.slice A' (L.length + 1) c') (L.length + 1) (L.map intCell ++ [.int .i64 p])) (U7 : Up W0 w') :
    w'.heap[b5]? = some (.cells #[.slice A L.length c] 44 (0, 0)) ∧ Hid (SomeSt W0 (w'.setCell ⟨b5, 0, none⟩ (.slice A' (L.length + 1) c')) b1 b5 B m (L ++ [p])) := by
  obtain ⟨_, h1, ⟨h2, h3, h4, h5⟩, _⟩ := S2.out
  have U6 : Up w2 (w2.drew.alloc (.cells #[.int .i64 p] 3)) := (Up.drew w2).t (show Up _ _ from (Below.refl _ _).alloc (Nat.le_refl _) _)
  have low : ∀ b, b < B → w'.heap[b]? = w2.heap[b]? := fun b hb => by
    have e1 := U6.block b (by omega)
    rw [← e1]
    refine (Fr.of_grown g').block b (Nat.lt_of_lt_of_le (show b < w2.heap.size by omega) U6.size) (fun e => ?_)
    have := (own_block ST.out.2.1 b e.symm).1
    omega
  have k5 : w'.heap[b5]? = some (.cells #[.slice A L.length c] 44 (0, 0)) := (low b5 h4).trans K5.out
  refine ⟨k5, hid ⟨U7.setCell (p := ⟨b5, 0, none⟩) (by show W0.heap.size ≤ b5; omega) _, ?_, ⟨h2, h3, h4, ?_⟩, A', c', ?_, ?_⟩⟩
  · rw [Below.heap_setCell _ _ _ _ (show b1 ≠ b5 by omega), low b1 (by omega)]; exact h1
  · show B ≤ (w'.setCell _ _).heap.size; rw [show (w'.setCell ⟨b5, 0, none⟩ (.slice A' (L.length + 1) c')).heap.size = w'.heap.size by simp]; exact Nat.le_trans h5 (Nat.le_trans U6.size g'.size)
  · rw [heap_setCell_same _ b5 0 _ _ _ k5, List.length_append]; rfl
  · rw [List.length_append, List.map_append]
    exact Fr.own ((Fr.refl (fun k => k = b5) w').setCell (p := ⟨b5, 0, none⟩) (fun _ => rfl) _) o' (fun k hk e => by have := (own_block o' k hk).1; omega)

def Some1Ret (W0 : World) (b1 b5 B m : Nat) (L : List Int) (en : Ending) (w' : World) : Prop := en = .returned (.bool true) ∧ Hid (SomeSt W0 w' b1 b5 B m L)

set_option maxRecDepth 100000 in
set_option maxHeartbeats 1000000 in
theorem some1_calls (m : Nat) (so : Bool) (W0 w : World) (b1 b5 B : Nat) (e : Nat) (p : Int) (L : List Int) (h : Hid (SomeSt W0 w b1 b5 B m L)) (hx : W0.cell? ⟨e, 0, none⟩ = some (.int .i64 p)) (hl : Hid (L.length < 1000000))
    (hn : ∀ (args : Array Value) (w : World), (callFunc m args).run Try.prog w = .ok (.enter m args) w)
    (hm : Calls Try.prog m #[ptr e] w fun en w' => en = .returned (.bool so) ∧ Up w w') :
    Calls Try.prog 130 #[ptr e, ptr b1, ptr b5] w (Some1Ret W0 b1 b5 B m (if so = true then L ++ [p] else L)) := by
  obtain ⟨L', hL⟩ : ∃ L', (if so = true then L ++ [p] else L) = L' := ⟨_, rfl⟩
  rw [hL]
  have HL := hid hL
  clear hL
  have c1 := (cell_one h.out.2.1).1
  unfold ptr at hm ⊢
  go_enter Try.func130, Try.ntmps130
  go_wp2_with fail
  refine Calls.mono hm ?_
  rintro en w2 ⟨rfl, u2⟩
  have S2 := hid (h.out.up u2)
  clear c1 hm u2 h
  cases so with
  | false =>
    go_wp2
    go_ret
    have hL : L = L' := HL.out
    exact ⟨rfl, by rw [← hL]; exact S2⟩
  | true =>
    obtain ⟨hs1, hs2, ⟨hb1, hb2, hb3, hb4⟩, A, c, k5, o5⟩ := S2.out
    clear hs1 hs2
    have f5 := (cell_one k5).1
    have K5 := hid k5
    have U6 : Up w2 (w2.drew.alloc (.cells #[.int .i64 p] 3)) := (Up.drew w2).t (show Up _ _ from (Below.refl _ _).alloc (Nat.le_refl _) _)
    have ST := hid (show W0.heap.size ≤ B ∧ (w2.drew.alloc (.cells #[.int .i64 p] 3)).ownsRow B 3 1 (.slice A L.length c) L.length (L.map intCell) ∧ B ≤ w2.heap.size from ⟨by omega, (Fr.of_below U6).own o5 (fun _ _ => id), hb4⟩)
    clear k5 o5 hb1 hb2 hb3 hb4
    go_wp2
    have U0 : Up W0 w2.drew := S2.out.1.t (Up.drew w2)
    have U5 : Up W0 (w2.drew.alloc (.cells #[.int .i64 p] 3)) := U0.t (show Up _ _ from (Below.refl _ _).alloc (Nat.le_refl _) _)
    have f55 : (w2.alloc (.cells #[.int .i64 p] 3)).cell? ⟨b5, 0, none⟩ = some (.slice A L.length c) := U6.c f5
    refine anyb_start W0 (by kernel_rfl) ?_
    refine anyb_take 1 (some 9) (v := ?_) U0 rfl rfl (by kernel_rfl) (by kernel_rfl) (by kernel_rfl) (fun _ _ _ h => h) (by rfl) (fun w9 hS => ?_) ?_
    rotate_left
    · go_simp <;> with_reducible rfl
    try simp only [Act.put, List.setIfInBounds_toArray, List.set_cons_zero, List.set_cons_succ]
    refine anyb_take 2 (some 10) (v := ?_) U0 rfl rfl (by kernel_rfl) (by kernel_rfl) (by kernel_rfl) (fun _ _ _ h => h) (by rfl) (fun w9 hS => ?_) ?_
    rotate_left
    · go_simp <;> with_reducible rfl
    try simp only [Act.put, List.setIfInBounds_toArray, List.set_cons_zero, List.set_cons_succ]
    refine anyb_take 3 (some 11) (v := ?_) U0 rfl rfl (by kernel_rfl) (by kernel_rfl) (by kernel_rfl) (fun _ _ _ h => h) (by rfl) (fun w9 hS => ?_) ?_
    rotate_left
    · go_simp <;> with_reducible rfl
    try simp only [Act.put, List.setIfInBounds_toArray, List.set_cons_zero, List.set_cons_succ]
    refine anyb_take 4 (some 12) (v := ?_) U0 rfl rfl (by kernel_rfl) (by kernel_rfl) (by kernel_rfl) (fun _ _ _ h => h) (by rfl) (fun w9 hS => ?_) ?_
    rotate_left
    · have e0 := hS.c hx; go_simp <;> with_reducible rfl
    try simp only [Act.put, List.setIfInBounds_toArray, List.set_cons_zero, List.set_cons_succ]
    refine any_two 0 5 (by kernel_rfl) rfl rfl (by rfl) (by rfl) (fun K9 hK9 => ?_) (fun K9 hK9 => ?_)
    · go_simp
      refine hK9.out _ _ U0 ?_
      clear hK9 K9
      try simp only [Act.put, List.setIfInBounds_toArray, List.set_cons_zero, List.set_cons_succ]
      refine any_op 5 (by kernel_rfl) rfl (by rfl) (fun K9 hK9 => ?_)
      go_simp
      refine hK9.out _ _ U5 ?_
      clear hK9 K9
      try simp only [Act.put, List.setIfInBounds_toArray, List.set_cons_zero, List.set_cons_succ]
      refine any_op 6 (by kernel_rfl) rfl (by rfl) (fun K9 hK9 => ?_)
      refine wp_append elemI (.tmp 8) (.tmp 13) rfl rfl (ST.out.2.1) rfl (Rd.new w2.drew 3 (0, 0) [.int .i64 p]) rfl (by simp [Value.oneCell']) (by have := hl.out; simp only [maxLen]; omega) (by have := hl.out; omega) (Nat.le_trans ST.out.2.2 (U6.size)) ?_
      intro A' c' w' o' g' hb'
      have U7 : Up W0 w' := below_append U5 ST.out.1 (Nat.le_trans ST.out.2.2 (U6.size)) ST.out.2.1 g'
      refine hK9.out _ _ U7 ?_
      clear hK9 K9
      try simp only [Act.put, List.setIfInBounds_toArray, List.set_cons_zero, List.set_cons_succ]
      obtain ⟨k7, F7⟩ : w'.heap[b5]? = some (.cells #[.slice A L.length c] 44 (0, 0)) ∧ Hid (SomeSt W0 (w'.setCell ⟨b5, 0, none⟩ (.slice A' (L.length + 1) c')) b1 b5 B m (L ++ [p])) := some_stored S2 K5 ST g' o' U7
      have k8 := cell_one k7
      obtain ⟨k8, k9⟩ := k8
      have F8 := hid (show Up W0 (w'.setCell ⟨b5, 0, none⟩ (.slice A' (L.length + 1) c')) from F7.out.1)
      clear ST K5 g' o' hb' U7 U5
      refine any_op 7 (by kernel_rfl) rfl (by rfl) (fun K9 hK9 => ?_)
      go_simp
      refine hK9.out _ _ F8.out ?_
      clear hK9 K9
      try simp only [Act.put, List.setIfInBounds_toArray, List.set_cons_zero, List.set_cons_succ]
      refine any_done (by kernel_rfl) ?_
      rename_i K1 h1
      refine h1 _ _ ?_
      clear h1 K1
      go_wp2
      go_ret
      have hL : L ++ [p] = L' := HL.out
      exact ⟨rfl, by rw [← hL]; exact F7⟩
    · go_simp
      refine hK9.out _ _ U5 ?_
      clear hK9 K9
      try simp only [Act.put, List.setIfInBounds_toArray, List.set_cons_zero, List.set_cons_succ]
      refine any_op 0 (by kernel_rfl) rfl (by rfl) (fun K9 hK9 => ?_)
      go_simp
      refine hK9.out _ _ U5 ?_
      clear hK9 K9
      try simp only [Act.put, List.setIfInBounds_toArray, List.set_cons_zero, List.set_cons_succ]
      refine any_op 6 (by kernel_rfl) rfl (by rfl) (fun K9 hK9 => ?_)
      refine wp_append elemI (.tmp 8) (.tmp 13) rfl rfl (ST.out.2.1) rfl (Rd.new w2.drew 3 (0, 0) [.int .i64 p]) rfl (by simp [Value.oneCell']) (by have := hl.out; simp only [maxLen]; omega) (by have := hl.out; omega) (Nat.le_trans ST.out.2.2 (U6.size)) ?_
      intro A' c' w' o' g' hb'
      have U7 : Up W0 w' := below_append U5 ST.out.1 (Nat.le_trans ST.out.2.2 (U6.size)) ST.out.2.1 g'
      refine hK9.out _ _ U7 ?_
      clear hK9 K9
      try simp only [Act.put, List.setIfInBounds_toArray, List.set_cons_zero, List.set_cons_succ]
      obtain ⟨k7, F7⟩ : w'.heap[b5]? = some (.cells #[.slice A L.length c] 44 (0, 0)) ∧ Hid (SomeSt W0 (w'.setCell ⟨b5, 0, none⟩ (.slice A' (L.length + 1) c')) b1 b5 B m (L ++ [p])) := some_stored S2 K5 ST g' o' U7
      have k8 := cell_one k7
      obtain ⟨k8, k9⟩ := k8
      have F8 := hid (show Up W0 (w'.setCell ⟨b5, 0, none⟩ (.slice A' (L.length + 1) c')) from F7.out.1)
      clear ST K5 g' o' hb' U7 U5
      refine any_op 7 (by kernel_rfl) rfl (by rfl) (fun K9 hK9 => ?_)
      go_simp
      refine hK9.out _ _ F8.out ?_
      clear hK9 K9
      try simp only [Act.put, List.setIfInBounds_toArray, List.set_cons_zero, List.set_cons_succ]
      refine any_done (by kernel_rfl) ?_
      rename_i K1 h1
      refine h1 _ _ ?_
      clear h1 K1
      go_wp2
      go_ret
      have hL : L ++ [p] = L' := HL.out
      exact ⟨rfl, by rw [← hL]; exact F7⟩
end Go.Proofs.Ytlikggeceeennaa
