/- THE WALK of the pager's Shrink in a transaction. -/
import Derived.Test.YtbcghggkfnagoaaGreatDoorFreH
import Derived.Shelf.SlMaps.DeleteFunc
import Derived.BigQuiet
set_option linter.unusedVariables false
set_option linter.unusedSimpArgs false
namespace Go.Proofs.YtbcghggkfnagoaaGreatDoor
open Go.Shelf
def pdelLy_ren : Go.Shelf.Ren := ⟨fun | 5 => 120 | n => n, fun | 23 => 128 | 26 => 3 | 24 => 64 | 27 => 182 | 0 => 0 | 4 => 4 | n => n, fun | n => n⟩
theorem pdelLy : Go.Proofs.SlLaysDf.n5 Tryz.prog pdelLy_ren := {
  mixed := by kernel_rfl
  f5 := ⟨Tryz.f120.name, by decide, Tryz.func120.trans (congrArg some (by kernel_rfl))⟩
  t0 := Tryz.underlying0
  a0 := Tryz.isAgg0
  z0 := Tryz.sizeOf0
  v0 := Tryz.zeroValue0
  t4 := Tryz.underlying4
  a4 := Tryz.isAgg4
  z4 := Tryz.sizeOf4
  v4 := Tryz.zeroValue4
  t23 := Tryz.underlying128
  a23 := Tryz.isAgg128
  z23 := Tryz.sizeOf128
  v23 := Tryz.zeroValue128
  a24 := Tryz.isAgg64
  z24 := Tryz.sizeOf64
  a26 := Tryz.isAgg3
  z26 := Tryz.sizeOf3
  t27 := Tryz.underlying182
  a27 := Tryz.isAgg182
  z27 := Tryz.sizeOf182
  v27 := Tryz.zeroValue182 }

end Go.Proofs.YtbcghggkfnagoaaGreatDoor
namespace Go.Proofs.YtbcghggkfnagoaaGreatDoor
open Go Go.RowKit Go.Maps Go.Shelf Hach

theorem shr1_ent (args : Array Value) (w : World) : (callFunc 121 args).run Tryz.prog w = .ok (.enter 121 args) w := by go_simp
theorem shr1_calls (w : World) (k lim : Int) (v : Value) (bx : Nat) (hb : w.cell? ⟨bx, 0, none⟩ = some (.int .i64 lim)) :
    Calls Tryz.prog 121 #[.int .i64 k, v, .pointer (some ⟨bx, 0, none⟩)] w (fun en w' => en = .returned (.bool (decide (lim < k))) ∧ w' = w) := by
  go_enter Tryz.func121, Tryz.ntmps121
  go_wp2
  go_ret
  exact ⟨rfl, rfl⟩
def pgtP (lim : Int) (kl : Lit) (_ : DataW Unit) : Bool := match kl with | .int _ x => decide (lim < x) | _ => false
def pcut (L : PgL) (lim : Int) : PgL := L.filter fun p => decide (p.1 ≤ lim)
theorem pcut_dat (L : PgL) (lim : Int) : Lib.deleteFuncD (pgtP lim) (datL (L.map fun y => (y.1, encX y.2))) = datL ((pcut L lim).map fun y => (y.1, encX y.2)) := by
  show DataW.map (((L.map fun y => (y.1, encX y.2)).map entL).filter _) = _
  unfold datL pcut
  rw [List.filter_map, List.filter_map]
  congr 3
  refine List.filter_congr (fun p _ => ?_)
  show (!decide (lim < p.1)) = decide (p.1 ≤ lim)
  by_cases h : lim < p.1
  · rw [decide_eq_true h, decide_eq_false (by omega)]; rfl
  · rw [decide_eq_false h, decide_eq_true (by omega)]; rfl
theorem pdel_calls (w : World) (m : Nat) (L : PgL) (lim : Int) (bx : Nat) (h : Hid (MapP w m L)) (hb : w.cell? ⟨bx, 0, none⟩ = some (.int .i64 lim)) :
    Calls Tryz.prog 120 #[.map (some m), .func (.func 121) #[] #[.pointer (some ⟨bx, 0, none⟩)]] w (fun e w' => e = .returned (.tuple #[]) ∧ Hid (MapP w' m (pcut L lim) ∧ w.grownBy w' (some m))) := by
  refine (AnyDf.maps_DeleteFunc pdelLy keyI pgElem (pgtP lim) 121 #[.pointer (some ⟨bx, 0, none⟩)] m L.length _ w shr1_ent h.out ?_).mono ?_
  · intro W key val kl yd yp hg hkey hv
    obtain ⟨x, e1, e2, _⟩ := Maps.keyOf_int_inv Tryz.underlying3 hkey
    subst e1; subst e2
    have hbn : ¬ bx = m := by
      rintro rfl
      obtain ⟨es9, clock9, hb9⟩ := h.out.isMap
      unfold World.cell? at hb
      rw [show (⟨bx, 0, none⟩ : Addr).block = bx from rfl, hb9] at hb
      cases hb
    refine (shr1_calls W x lim val bx (hg.cell hb (fun e => hbn (Option.some.inj e)))).mono ?_
    rintro e w' ⟨rfl, rfl⟩
    exact ⟨rfl, World.grownBy.refl _ _⟩
  · rintro e w' ⟨rfl, h1, h2⟩
    exact ⟨rfl, hid ⟨MapP.of h1 (pcut_dat L lim), h2⟩⟩
set_option maxRecDepth 100000 in
set_option maxHeartbeats 4000000 in
theorem pshrink_calls (w : World) (p t m : Nat) (q : PgN) (mv : Value) (last : Int) (n : Nat) (L : PgL) (h : Hid (TranAt w p q t m mv last n L)) (k : Nat) (hk : Hid (k ≤ n ∧ n < 1000000)) :
    Calls Tryz.prog 50 #[.pointer (some ⟨p, 0, none⟩), .int .i64 k] w fun en w' => en = .returned (.int .i64 0) ∧ Hid (TranAt w' p q t m mv last k (pcut L k) ∧ Fr (fun k => k = t ∨ k = m) w w') := by
  obtain ⟨w1, hw1⟩ : ∃ x, w.alloc (.cells #[.int .i64 k] 3) = x := ⟨_, rfl⟩
  obtain ⟨bx, hbx⟩ : ∃ b, w.heap.size = b := ⟨_, rfl⟩
  have u1 : Up w w1 := by rw [← hw1]; exact upAlD (Up.refl w) _
  have T1 := hid (h.out.up u1)
  have hb1 : w1.heap[bx]? = some (.cells #[.int .i64 k] 3 (0, 0)) := by rw [← hw1, ← hbx]; exact heap_alloc_new w _
  have HB1 := hid hb1
  have cb : w1.cell? ⟨bx, 0, none⟩ = some (.int .i64 k) := by rw [cell_of_row _ _ _ _ _ _ hb1]; rfl
  obtain ⟨_, _, _, e3, _⟩ := T1.out.own.cells
  obtain ⟨f0, f1, _⟩ := T1.out.cells
  have z0 := T1.out.free 0
  have H := hid T1.out.own
  have hd0 : decide ((k : Int) < 0) = false := decide_eq_false (by omega)
  have hd1 : decide (n < k) = false := decide_eq_false (by have := hk.out; omega)
  have U1 := hid u1
  clear hb1 u1
  go_enter Tryz.func50, Tryz.ntmps50
  go_wp2_with fail
  refine (pwithin_calls w1 p q t H).mono ?_
  rintro e w' ⟨rfl, hw⟩
  obtain rfl := hw.symm
  clear hw
  go_wp2
  go_quiet (fail)
  obtain ⟨w2, hw2⟩ : ∃ w2, w1.drewN nq = w2 := ⟨_, rfl⟩
  have u2 : Up w1 w2 := by rw [← hw2]; exact Fr.below ((Fr.refl No w1).drewN nq) (Nat.le_refl _) (fun _ _ h => h)
  rw [hw2]
  have U2 := hid (U1.out.t (u2.t (Up.drew w2)))
  have T2 := hid (T1.out.up (u2.t (Up.drew w2)))
  have HB2 := hid (((u2.t (Up.drew w2)).block bx (Array.getElem?_eq_some_iff.1 HB1.out).1).trans HB1.out)
  clear u2 hw2 cb e3 f0 f1 z0 H hd0 hd1
  go_wp2
  have US : w2.drew.cell? ⟨p, 3, none⟩ = some (.pointer (some ⟨t, 0, none⟩)) ∧ w2.drew.cell? ⟨bx, 0, none⟩ = some (.int .i64 k) ∧ w2.drew.frozen? ⟨t, 0, none⟩ = false ∧ w2.drew.cell? ⟨t, 0, none⟩ = some (.int .i64 n) := ⟨T2.out.own.cells.2.2.2.1, by rw [cell_of_row _ _ _ _ _ _ HB2.out]; rfl, T2.out.free 0, T2.out.cells.1⟩
  refine t_start (fun w9 => w9.cell? ⟨p, 3, none⟩ = some (.pointer (some ⟨t, 0, none⟩)) ∧ w9.cell? ⟨bx, 0, none⟩ = some (.int .i64 k) ∧ w9.frozen? ⟨t, 0, none⟩ = false ∧ w9.cell? ⟨t, 0, none⟩ = some (.int .i64 n)) 7 (by kernel_rfl) ?_
  refine t_take 0 (some 26) (v := ?_) US rfl rfl (by kernel_rfl) (by kernel_rfl) (by kernel_rfl) (by kernel_rfl) (fun _ _ _ h => h) (by rfl) (fun w9 hS => ?_) ?_
  rotate_left
  · go_simp <;> with_reducible rfl
  try simp only [Act.put, List.setIfInBounds_toArray, List.set_cons_zero, List.set_cons_succ]
  refine t_take 1 (some 27) (v := ?_) US rfl rfl (by kernel_rfl) (by kernel_rfl) (by kernel_rfl) (by kernel_rfl) (fun _ _ _ h => h) (by rfl) (fun w9 hS => ?_) ?_
  rotate_left
  · go_simp <;> with_reducible rfl
  try simp only [Act.put, List.setIfInBounds_toArray, List.set_cons_zero, List.set_cons_succ]
  refine t_take 2 (some 28) (v := ?_) US rfl rfl (by kernel_rfl) (by kernel_rfl) (by kernel_rfl) (by kernel_rfl) (fun _ _ _ h => h) (by rfl) (fun w9 hS => ?_) ?_
  rotate_left
  · go_simp <;> with_reducible rfl
  try simp only [Act.put, List.setIfInBounds_toArray, List.set_cons_zero, List.set_cons_succ]
  refine t_take 3 (some 29) (v := ?_) US rfl rfl (by kernel_rfl) (by kernel_rfl) (by kernel_rfl) (by kernel_rfl) (fun _ _ _ h => h) (by rfl) (fun w9 hS => ?_) ?_
  rotate_left
  · obtain ⟨s0, s1, s2, s3⟩ := hS; go_simp <;> with_reducible rfl
  try simp only [Act.put, List.setIfInBounds_toArray, List.set_cons_zero, List.set_cons_succ]
  refine t_take 4 (some 30) (v := ?_) US rfl rfl (by kernel_rfl) (by kernel_rfl) (by kernel_rfl) (by kernel_rfl) (fun _ _ _ h => h) (by rfl) (fun w9 hS => ?_) ?_
  rotate_left
  · obtain ⟨s0, s1, s2, s3⟩ := hS; go_simp <;> with_reducible rfl
  try simp only [Act.put, List.setIfInBounds_toArray, List.set_cons_zero, List.set_cons_succ]
  refine t_op 5 (by kernel_rfl) rfl (by rfl) (fun K9 hK9 => ?_)
  go_simp
  refine hK9.out _ _ US ?_
  clear hK9 K9
  try simp only [Act.put, List.setIfInBounds_toArray, List.set_cons_zero, List.set_cons_succ]
  refine t_take 6 (some 32) (v := ?_) US rfl rfl (by kernel_rfl) (by kernel_rfl) (by kernel_rfl) (by kernel_rfl) (fun _ _ _ h => h) (by rfl) (fun w9 hS => ?_) ?_
  rotate_left
  · go_simp <;> with_reducible rfl
  try simp only [Act.put, List.setIfInBounds_toArray, List.set_cons_zero, List.set_cons_succ]
  refine t_last (by kernel_rfl) rfl (by rfl) (fun K9 hK9 => ?_)
  obtain ⟨s0, s1, s2, s3⟩ := US
  go_simp
  refine hK9.out _ _ ?_
  clear hK9 K9
  try simp only [Act.put, List.setIfInBounds_toArray, List.set_cons_zero, List.set_cons_succ]
  refine t_done (by kernel_rfl) ?_
  have hf : Fr (fun b => b = t) w2.drew (w2.drew.setCell ⟨t, 0, none⟩ (.int .i64 k)) := (Fr.refl (fun b => b = t) w2.drew).setCell (p := ⟨t, 0, none⟩) (fun _ => rfl) _
  have hbt : bx ≠ t := by
    intro e
    have h1 := T2.out.tran
    rw [← e, HB2.out] at h1
    injection h1 with h1; injection h1 with _ h1 _; exact absurd h1 (by decide)
  obtain ⟨d1, d2, d3, d4⟩ := T2.out.ne
  have T3 : Hid (TranAt (w2.drew.setCell ⟨t, 0, none⟩ (.int .i64 k)) p q t m mv last k L) := hid ⟨T2.out.own.fr hf d1, heap_setCell_same _ t 0 _ _ (.int .i64 k) T2.out.tran, T2.out.map.kept hf (fun e => d3 e.symm), fun y hy => (T2.out.rows y hy).fr hf (d4 y hy).2.1⟩
  have cb3 : (w2.drew.setCell ⟨t, 0, none⟩ (.int .i64 k)).cell? ⟨bx, 0, none⟩ = some (.int .i64 k) := hf.cell (by rw [cell_of_row _ _ _ _ _ _ HB2.out]; rfl) hbt
  have F3 : Hid (Fr (fun b => b = t ∨ b = m) w (w2.drew.setCell ⟨t, 0, none⟩ (.int .i64 k))) := hid (((Fr.of_below U2.out).mono (fun _ e => e.elim)).trans' (hf.mono (fun b e => .inl e)))
  clear d1 d2 d3 d4 hf hbt T2 U2 HB2
  rw [show w2.drew.setCell ⟨t, 0, none⟩ (.int .i64 k) = (w2.setCell ⟨t, 0, none⟩ (.int .i64 k)).drew from rfl] at T3 F3 cb3
  obtain ⟨w3, hw3⟩ : ∃ w3, (w2.setCell ⟨t, 0, none⟩ (.int .i64 k)).drew = w3 := ⟨_, rfl⟩
  rw [hw3] at T3 F3 cb3 ⊢
  clear hw3
  have s3 := T3.out.own.cells.2.2.2.1
  have s1 := T3.out.cells.2.1
  go_wp2_with fail
  refine (pdel_calls w3 m L k bx (hid T3.out.map) cb3).mono ?_
  rintro en w4 ⟨rfl, hr⟩
  have RES : Hid (TranAt w4 p q t m mv last k (pcut L k) ∧ Fr (fun b => b = t ∨ b = m) w w4) := hid (by
    have hf : Fr (fun b => b = m) w3 w4 := (Fr.of_grown hr.out.2).mono (fun b e => Option.some.inj e)
    obtain ⟨d1, d2, d3, d4⟩ := T3.out.ne
    refine ⟨⟨T3.out.own.fr hf d2, (hf.block t (Array.getElem?_eq_some_iff.1 T3.out.tran).1 d3).trans T3.out.tran, hr.out.1, fun y hy => ?_⟩, F3.out.trans' (hf.mono (fun b e => .inr e))⟩
    have hy := (List.mem_filter.1 hy).1
    exact (T3.out.rows y hy).fr hf (d4 y hy).2.2)
  clear hr s1 s3 cb3
  go_wp2
  go_ret
  exact ⟨rfl, RES⟩
theorem gget_pcut (L : PgL) (lim : Int) {k : Int} (h : k ≤ lim) : gget (pcut L lim) k = gget L k := by
  unfold pcut gget
  induction L with
  | nil => rfl
  | cons z r ih =>
    rw [List.filter_cons]
    by_cases hz : z.1 ≤ lim
    · rw [if_pos (decide_eq_true hz), List.find?_cons, List.find?_cons]
      by_cases e : z.1 = k
      · simp [e]
      · simp only [e, decide_false]; exact ih
    · rw [if_neg (by rw [decide_eq_false hz]; decide), List.find?_cons]
      have : ¬ z.1 = k := by omega
      simp only [this, decide_false]
      exact ih
theorem ChainT.pcut {L : PgL} {T : List Trk} {k : Nat} (h : ChainT L T) (hk : ∀ x ∈ allT T, x ≤ k) : ChainT (pcut L k) T := by
  induction T with
  | nil => exact trivial
  | cons t r ih =>
    rw [allT_cons] at hk
    obtain ⟨⟨y, hy, hb⟩, hr⟩ := h
    refine ⟨⟨y, ?_, hb⟩, ih hr (fun x hx => hk x (by simp [hx]))⟩
    have := hk t.1 List.mem_cons_self
    rw [gget_pcut _ _ (by omega)]
    exact hy
theorem HeapS.shrink {L : PgL} {n : Nat} {T : List Trk} {W : Nat → Int} {U : Nat → List UInt8} (h : HeapS L n T W U) {k : Nat} (h1 : 1 ≤ k) (hk : k ≤ n) (hT : ∀ x ∈ allT T, x ≤ k) : HeapS (pcut L k) k T W U := by
  obtain ⟨x, hx, hr⟩ := h.root
  refine ⟨⟨h.keys.srt.filter _, fun y hy => ?_⟩, fun y hy => h.lens y (List.mem_filter.1 hy).1, h1, ⟨x, by rw [gget_pcut _ _ (by omega)]; exact hx, hr⟩, h.chain.pcut hT, h.nodup, fun x hx => ⟨(h.inn x hx).1, hT x hx⟩, fun i h2 hi hn => ?_, fun i h2 hi => by rw [gget_pcut _ _ (by omega)]; exact h.full i h2 (by omega)⟩
  · have hm := List.mem_filter.1 hy
    have := (h.keys.inn y hm.1).1
    have := of_decide_eq_true hm.2
    exact ⟨by omega, by omega⟩
  · rw [gget_pcut _ _ (by omega)]
    exact h.used i h2 (by omega) hn
end Go.Proofs.YtbcghggkfnagoaaGreatDoor
