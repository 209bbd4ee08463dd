/- THE WALKS of the document's New, Peek, Pin, Free, Mark, Pins, Drop. -/
import Derived.Test.YtlikggeceeennaaRf2
set_option linter.unusedVariables false
set_option linter.unusedSimpArgs false
namespace Go.Proofs.Ytlikggeceeennaa
open Go Go.RowKit Hach

/-- What a step of the document's cache may write of the old blocks. -/
def RefS (w : World) (b k : Nat) : Prop := k = b ∨ ∃ cs fr, w.heap[k]? = some (.cells cs 174 fr)
def RefM (w : World) (base b : Nat) (room hit miss : Int) (V : List Vis) : Prop := ∃ A c R, RefAt w base b room hit miss A c R ∧ R.map visR = V
section
variable {w w1 w2 : World} {base b : Nat} {room hit miss : Int} {A : Option Addr} {c : Nat} {R R1 R2 : List RowR} {x : RowR} {V V1 V2 : List Vis} {v : Vis}
theorem frR_trans (h : Fr (RefS w b) w w1) (k : Fr (RefS w1 b) w1 w2) : Fr (RefS w b) w w2 :=
  h.trans k (fun i hi hh => by
    by_cases h8 : RefS w b i
    · exact h8
    · rcases hh with h9 | ⟨cs, fr, h9⟩
      · exact .inl h9
      · exact .inr ⟨cs, fr, (h.block i hi h8).symm.trans h9⟩)
theorem frR_up (u : Up w w1) : Fr (RefS w b) w w1 := (Fr.of_below u).mono (fun _ h => h.elim)
theorem frR_b (h : Fr (fun k => k = b) w w1) : Fr (RefS w b) w w1 := h.mono (fun _ h => .inl h)
theorem RefM.up (h : RefM w base b room hit miss V) (hu : Up w w1) : RefM w1 base b room hit miss V := by
  obtain ⟨A, c, R, h1, h2⟩ := h
  exact ⟨A, c, R, h1.up hu, h2⟩
theorem RefM.bs (h : RefM w base b room hit miss V) : base ≤ w.heap.size := by
  obtain ⟨A, c, R, h1, h2⟩ := h
  exact h1.bs
theorem RefM.split (h : RefM w base b room hit miss (V1 ++ v :: V2)) : ∃ A c R1 x R2, RefAt w base b room hit miss A c (R1 ++ x :: R2) ∧ R1.map visR = V1 ∧ visR x = v ∧ R2.map visR = V2 := by
  obtain ⟨A, c, R, h1, h2⟩ := h
  obtain ⟨l1, x, l2, rfl, k1, k2, k3⟩ := map_split h2
  exact ⟨A, c, l1, x, l2, h1, k1, k2, k3⟩
theorem visR_page (R : List RowR) : (R.map visR).map (·.1) = R.map RowR.page := by rw [List.map_map]; rfl
theorem findI_hit (k : Nat) (h : x.page ∉ R1.map RowR.page) : findI x.page k (R1 ++ x :: R2) = ((k + R1.length : Nat) : Int) := by
  induction R1 generalizing k with
  | nil => simp [findI]
  | cons y l ih =>
    simp only [List.map_cons, List.mem_cons, not_or] at h
    rw [List.cons_append, findI, if_neg (fun e => h.1 e.symm), ih (k + 1) h.2, List.length_cons]
    congr 1; omega
theorem findI_miss {p : Int} (k : Nat) (h : p ∉ R.map RowR.page) : findI p k R = -1 := by
  induction R generalizing k with
  | nil => rfl
  | cons y l ih =>
    simp only [List.map_cons, List.mem_cons, not_or] at h
    rw [findI, if_neg (fun e => h.1 e.symm), ih (k + 1) h.2]
/-- Row number i, at its address. -/
theorem RefAt.at0 (h : RefAt w base b room hit miss A c (R1 ++ x :: R2)) (hu : Up w w1) :
    ∃ g, A = some ⟨g, 0, none⟩ ∧ g < w.heap.size ∧ (∃ cs fr, w.heap[g]? = some (.cells cs 174 fr)) ∧ w1.cell? ⟨g, R1.length * 4, none⟩ = some (.int .i64 x.page) ∧ w1.cell? ⟨g, R1.length * 4 + 1, none⟩ = some (.slice x.A 512 x.c) ∧
      w1.cell? ⟨g, R1.length * 4 + 2, none⟩ = some (.int .i64 x.pins) ∧ w1.cell? ⟨g, R1.length * 4 + 3, none⟩ = some (.bool x.dirty) ∧ ∀ i, w1.frozen? ⟨g, i, none⟩ = false := by
  have hi : R1.length < (R1 ++ x :: R2).length := by rw [List.length_append, List.length_cons]; omega
  obtain ⟨g, off, e, q0, q1, q2, q3⟩ := h.at hu hi
  have hx : (R1 ++ x :: R2)[R1.length] = x := by simp
  rw [hx] at q0 q1 q2 q3
  rcases h.rows.2 with ⟨hv, h0⟩ | ⟨g', cap, cur, hv, hb, hg, _⟩
  · rw [h0] at hi; omega
  · injection hv with hv _ _
    rw [e] at hv
    injection hv with hv
    injection hv with e1 e2 _
    subst e1; subst e2
    have hlt := (Array.getElem?_eq_some_iff.1 hg).1
    rw [Nat.zero_add] at q0 q1 q2 q3
    refine ⟨g, e, hlt, ⟨_, _, hg⟩, q0, q1, q2, q3, fun i => ?_⟩
    unfold World.frozen?
    rw [show (⟨g, i, none⟩ : Addr).block = g from rfl, hu.block g hlt, hg]; simp
theorem flat_set (j : Nat) (u : Value) (x' : RowR) (hj : j < 4) (hx : (rowC x).set j u = rowC x') : ((R1 ++ x :: R2).flatMap rowC).set (R1.length * 4 + j) u = (R1 ++ x' :: R2).flatMap rowC := by
  rw [List.flatMap_append, List.flatMap_append, List.flatMap_cons, List.flatMap_cons, List.set_append_right _ _ (by rw [flat_length rowC_length]; omega), flat_length rowC_length, show R1.length * 4 + j - R1.length * 4 = j by omega,
    List.set_append_left _ _ (by rw [rowC_length]; exact hj), hx]
/-- A cell of a row is another. -/
theorem RefAt.mod (h : RefAt w base b room hit miss A c (R1 ++ x :: R2)) {g : Nat} (hA : A = some ⟨g, 0, none⟩) (x' : RowR) (j : Nat) (u : Value) (hj : j < 4) (hx : (rowC x).set j u = rowC x') (hd : x'.data = x.data) (hA' : x'.A = x.A) (hc' : x'.c = x.c) :
    RefAt (w.setCell ⟨g, R1.length * 4 + j, none⟩ u) base b room hit miss A c (R1 ++ x' :: R2) ∧ Below base w (w.setCell ⟨g, R1.length * 4 + j, none⟩ u) ∧ Fr (RefS w b) w (w.setCell ⟨g, R1.length * 4 + j, none⟩ u) := by
  have e : (R1 ++ x' :: R2).length = (R1 ++ x :: R2).length := by simp
  have hi : R1.length < (R1 ++ x :: R2).length := by rw [List.length_append, List.length_cons]; omega
  rcases h.rows.2 with ⟨hv, h0⟩ | ⟨g', cap, cur, hv, hb, hg, _⟩
  · rw [h0] at hi; omega
  · injection hv with hv _ _
    rw [hA] at hv
    injection hv with hv
    injection hv with e1 _ _
    subst e1
    have hf : Fr (fun k => k = g) w (w.setCell ⟨g, R1.length * 4 + j, none⟩ u) := (Fr.refl (fun k => k = g) w).setCell (p := ⟨g, R1.length * 4 + j, none⟩) (fun _ => rfl) _
    have hgb : ¬ b = g := by
      rintro rfl
      have := h.own
      rw [hg] at this
      injection this with this; injection this with _ h2 _
      revert h2; decide
    have hrow := h.rows
    subst hA
    obtain ⟨o1, _⟩ := hrow.stored (R1.length * 4 + j) u
    rw [flat_set j u x' hj hx] at o1
    refine ⟨⟨?_, by rw [e]; exact o1, ?_, h.low⟩, (Below.refl base w).setCell hb _, hf.mono (fun k hk => .inr (by subst hk; exact ⟨_, _, hg⟩))⟩
    · rw [e]; exact (hf.block b h.lt hgb).trans h.own
    · intro y hy
      have key : w.ownsRow 0 5 1 (.slice y.A 512 y.c) 512 (y.data.map byteCell) := by
        rcases List.mem_append.1 hy with hy | hy
        · exact h.data y (by simp [hy])
        · rcases List.mem_cons.1 hy with rfl | hy
          · rw [hd, hA', hc']; exact h.data x (by simp)
          · exact h.data y (by simp [hy])
      exact hf.own key (fun k hk e => own_ne key hg (by decide) (by rw [hk, e]))
end
def StepR (w : World) (base b : Nat) (room hit miss : Int) (V : List Vis) (v : Value) (en : Ending) (w' : World) : Prop :=
  en = .returned v ∧ Hid (RefM w' base b room hit miss V ∧ Below base w w' ∧ Fr (RefS w b) w w')

theorem rnew_calls (w : World) (room : Int) (h1 : 1 ≤ room) (h2 : room ≤ 4096) :
    Calls Try.prog 29 #[.int .i64 room] w fun en w' => ∃ b, en = .returned (ptr b) ∧ Hid (RefM w' w.heap.size b room 0 0 [] ∧ Up w w' ∧ b < w'.heap.size) := by
  have d1 : ¬ room < 1 := by omega
  have d2 : ¬ (4096 : Int) < room := by omega
  clear h1 h2
  go_enter Try.func29, Try.ntmps29
  go_wp2
  go_ret
  have hn := heap_alloc_new w (.cells #[.int .i64 room, .slice none 0 0, .int .i64 0, .int .i64 0] 130 (0, 0))
  exact ⟨w.heap.size, rfl, hid ⟨⟨none, 0, [], ⟨hn, own_nil _ _ _ _, by simp, Nat.le_refl _⟩, rfl⟩, (Below.refl _ _).alloc (Nat.le_refl _) _, by simp⟩⟩
theorem rnewNo_calls (w : World) (room : Int) (h : room < 1 ∨ 4096 < room) :
    Calls Try.prog 29 #[.int .i64 room] w fun en w' => en = .returned (.pointer none) ∧ Up w w' := by
  by_cases h1 : room < 1
  · clear h
    go_enter Try.func29, Try.ntmps29
    go_wp2
    go_ret
    exact ⟨rfl, Up.refl _⟩
  · have h2 : 4096 < room := h.resolve_left h1
    clear h
    go_enter Try.func29, Try.ntmps29
    go_wp2
    go_ret
    exact ⟨rfl, Up.refl _⟩

/-! ### Pin -/
theorem rpinHit_calls (w : World) (base b : Nat) (room hit miss : Int) (V1 V2 : List Vis) (v : Vis) (h : Hid (RefM w base b room hit miss (V1 ++ v :: V2))) (hno : Hid (v.1 ∉ V1.map (·.1))) (hl : Hid ((V1 ++ v :: V2).length < 1000000)) (hw : Hid (IntKind.i64.wrap (v.2.2.1 + 1) = v.2.2.1 + 1)) :
    Calls Try.prog 86 #[ptr b, .int .i64 v.1] w (StepR w base b room hit miss (V1 ++ (v.1, v.2.1, v.2.2.1 + 1, v.2.2.2) :: V2) (.int .i64 0)) := by
  obtain ⟨A, c, R1, x, R2, h1, rfl, rfl, rfl⟩ := h.out.split
  have H1 := hid h1
  have HL : Hid ((R1 ++ x :: R2).length < 1000000) := hid (by have := hl.out; simpa using this)
  have HF : Hid (findI x.page 0 (R1 ++ x :: R2) = (R1.length : Int)) := hid (by rw [findI_hit 0 (by rw [← visR_page]; exact hno.out), Nat.zero_add])
  have hw' : IntKind.i64.wrap (x.pins + 1) = x.pins + 1 := hw.out
  clear h1 hw
  show Calls _ _ #[ptr b, .int .i64 x.page] w _
  unfold ptr
  go_enter Try.func86, Try.ntmps86
  go_wp2_with fail
  refine (find_calls w base b room hit miss A c (R1 ++ x :: R2) x.page H1 HL).mono ?_
  rintro en w1 ⟨rfl, u1⟩
  rw [HF.out]
  have H2 := H1.out.up u1
  have c1 := H2.c1
  obtain ⟨g, rfl, hlt, _, q0, q1, q2, q3, qf⟩ := H2.at0 (Up.refl w1)
  obtain ⟨k1, k2, k3⟩ := H2.mod rfl { x with pins := x.pins + 1 } 2 (.int .i64 (x.pins + 1)) (by decide) rfl rfl rfl rfl
  have K := hid (And.intro k1 (And.intro ((u1.mono H1.out.bs).trans k2) (frR_trans (frR_up u1) k3)))
  have f2 := qf (R1.length * 4 + 2)
  have i1 : (0 : Int) ≤ (R1.length : Int) := by omega
  have i2 : (R1.length : Int) < ((R1 ++ x :: R2).length : Int) := by simp; omega
  have i3 : ¬ ((R1.length : Int) < 0) := by omega
  generalize (R1 ++ x :: R2).length = n at *
  clear H2 k1 k2 k3 qf q0 q1 q3 u1
  go_wp2
  go_ret
  exact ⟨rfl, hid ⟨⟨_, _, _, K.out.1, by rw [List.map_append, List.map_cons]; rfl⟩, K.out.2.1, K.out.2.2⟩⟩
theorem rpinMiss_calls (w : World) (base b : Nat) (room hit miss : Int) (V : List Vis) (p : Int) (h : Hid (RefM w base b room hit miss V)) (hno : Hid (p ∉ V.map (·.1))) (hl : Hid (V.length < 1000000)) :
    Calls Try.prog 86 #[ptr b, .int .i64 p] w fun en w' => en = .returned (.int .i64 5) ∧ Up w w' := by
  obtain ⟨A, c, R, h1, rfl⟩ := h.out
  have H1 := hid h1
  have HL : Hid (R.length < 1000000) := hid (by have := hl.out; rwa [List.length_map] at this)
  have HF : Hid (findI p 0 R = -1) := hid (findI_miss 0 (by rw [← visR_page]; exact hno.out))
  clear h1
  unfold ptr
  go_enter Try.func86, Try.ntmps86
  go_wp2_with fail
  refine (find_calls w base b room hit miss A c R p H1 HL).mono ?_
  rintro en w1 ⟨rfl, u1⟩
  rw [HF.out]
  go_wp2
  go_ret
  exact ⟨rfl, u1⟩
end Go.Proofs.Ytlikggeceeennaa
