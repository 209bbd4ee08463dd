/- PARTS OF A PROOF, one behind the other: THE WALK of the pager's Shrink in a transaction. THE WALK of free's Trim. THE WALK of free's Trim. THE DOCUMENT's HEAP: Trim. THE HEAP AND THE DOCUMENT's HEAP side by side: what a step of one leaves of the other. THE WALK of hachurelaw08.act: Take. THE WALK of hachurelaw08.act: Set, Word. THE WALK of hachurelaw08.act: Give of a page that may not be. THE WALK of hachurelaw08.act: Give. THE WALK of hachurelaw08.act: Trim. ACT, whatever it is; a row of acts as an argument. THE WALK of the document's Ints. ARGUMENTS, opened: a row of acts of layer 8. CONDITIONS: none of this text's own. -/
import Derived.Test.YtbcghggkfnagoaaGreatDoorQS18
import Derived.Test.YtbcghggkfnagoaaGreatDoorQS17
import Derived.Test.YtbcghggkfnagoaaGreatDoorQS14
import Derived.Test.YtbcghggkfnagoaaGreatDoorQS8
import Derived.Shelf.SlMaps.DeleteFunc
import Derived.BigQuiet
set_option linter.unusedVariables false
set_option linter.unusedSimpArgs false
namespace Go.Proofs.YtbcghggkfnagoaaGreatDoor
open Go.Shelf
def pdelLy_ren : Go.Shelf.Ren := ⟨fun | 5 => 120 | n => n, fun | 23 => 128 | 26 => 3 | 24 => 64 | 27 => 182 | 0 => 0 | 4 => 4 | n => n, fun | n => n⟩
theorem pdelLy : Go.Proofs.SlLaysDf.n5 Tryz.prog pdelLy_ren := {
  mixed := by kernel_rfl
  f5 := ⟨Tryz.f120.name, by decide, Tryz.func120.trans (congrArg some (by kernel_rfl))⟩
  t0 := Tryz.underlying0
  a0 := Tryz.isAgg0
  z0 := Tryz.sizeOf0
  v0 := Tryz.zeroValue0
  t4 := Tryz.underlying4
  a4 := Tryz.isAgg4
  z4 := Tryz.sizeOf4
  v4 := Tryz.zeroValue4
  t23 := Tryz.underlying128
  a23 := Tryz.isAgg128
  z23 := Tryz.sizeOf128
  v23 := Tryz.zeroValue128
  a24 := Tryz.isAgg64
  z24 := Tryz.sizeOf64
  a26 := Tryz.isAgg3
  z26 := Tryz.sizeOf3
  t27 := Tryz.underlying182
  a27 := Tryz.isAgg182
  z27 := Tryz.sizeOf182
  v27 := Tryz.zeroValue182 }

end Go.Proofs.YtbcghggkfnagoaaGreatDoor
namespace Go.Proofs.YtbcghggkfnagoaaGreatDoor
open Go Go.RowKit Go.Maps Go.Shelf Hach

theorem shr1_ent (args : Array Value) (w : World) : (callFunc 121 args).run Tryz.prog w = .ok (.enter 121 args) w := by go_simp
theorem shr1_calls (w : World) (k lim : Int) (v : Value) (bx : Nat) (hb : w.cell? ⟨bx, 0, none⟩ = some (.int .i64 lim)) :
    Calls Tryz.prog 121 #[.int .i64 k, v, .pointer (some ⟨bx, 0, none⟩)] w (fun en w' => en = .returned (.bool (decide (lim < k))) ∧ w' = w) := by
  go_enter Tryz.func121, Tryz.ntmps121
  go_wp2
  go_ret
  exact ⟨rfl, rfl⟩
def pgtP (lim : Int) (kl : Lit) (_ : DataW Unit) : Bool := match kl with | .int _ x => decide (lim < x) | _ => false
def pcut (L : PgL) (lim : Int) : PgL := L.filter fun p => decide (p.1 ≤ lim)
theorem pcut_dat (L : PgL) (lim : Int) : Lib.deleteFuncD (pgtP lim) (datL (L.map fun y => (y.1, encX y.2))) = datL ((pcut L lim).map fun y => (y.1, encX y.2)) := by
  show DataW.map (((L.map fun y => (y.1, encX y.2)).map entL).filter _) = _
  unfold datL pcut
  rw [List.filter_map, List.filter_map]
  congr 3
  refine List.filter_congr (fun p _ => ?_)
  show (!decide (lim < p.1)) = decide (p.1 ≤ lim)
  by_cases h : lim < p.1
  · rw [decide_eq_true h, decide_eq_false (by omega)]; rfl
  · rw [decide_eq_false h, decide_eq_true (by omega)]; rfl
theorem pdel_calls (w : World) (m : Nat) (L : PgL) (lim : Int) (bx : Nat) (h : Hid (MapP w m L)) (hb : w.cell? ⟨bx, 0, none⟩ = some (.int .i64 lim)) :
    Calls Tryz.prog 120 #[.map (some m), .func (.func 121) #[] #[.pointer (some ⟨bx, 0, none⟩)]] w (fun e w' => e = .returned (.tuple #[]) ∧ Hid (MapP w' m (pcut L lim) ∧ w.grownBy w' (some m))) := by
  refine (AnyDf.maps_DeleteFunc pdelLy keyI pgElem (pgtP lim) 121 #[.pointer (some ⟨bx, 0, none⟩)] m L.length _ w shr1_ent h.out ?_).mono ?_
  · intro W key val kl yd yp hg hkey hv
    obtain ⟨x, e1, e2, _⟩ := Maps.keyOf_int_inv Tryz.underlying3 hkey
    subst e1; subst e2
    have hbn : ¬ bx = m := by
      rintro rfl
      obtain ⟨es9, clock9, hb9⟩ := h.out.isMap
      unfold World.cell? at hb
      rw [show (⟨bx, 0, none⟩ : Addr).block = bx from rfl, hb9] at hb
      cases hb
    refine (shr1_calls W x lim val bx (hg.cell hb (fun e => hbn (Option.some.inj e)))).mono ?_
    rintro e w' ⟨rfl, rfl⟩
    exact ⟨rfl, World.grownBy.refl _ _⟩
  · rintro e w' ⟨rfl, h1, h2⟩
    exact ⟨rfl, hid ⟨MapP.of h1 (pcut_dat L lim), h2⟩⟩
set_option maxRecDepth 100000 in
set_option maxHeartbeats 4000000 in
theorem pshrink_calls (w : World) (p t m : Nat) (q : PgN) (mv : Value) (last : Int) (n : Nat) (L : PgL) (h : Hid (TranAt w p q t m mv last n L)) (k : Nat) (hk : Hid (k ≤ n ∧ n < 1000000)) :
    Calls Tryz.prog 50 #[.pointer (some ⟨p, 0, none⟩), .int .i64 k] w fun en w' => en = .returned (.int .i64 0) ∧ Hid (TranAt w' p q t m mv last k (pcut L k) ∧ Fr (fun k => k = t ∨ k = m) w w') := by
  obtain ⟨w1, hw1⟩ : ∃ x, w.alloc (.cells #[.int .i64 k] 3) = x := ⟨_, rfl⟩
  obtain ⟨bx, hbx⟩ : ∃ b, w.heap.size = b := ⟨_, rfl⟩
  have u1 : Up w w1 := by rw [← hw1]; exact upAlD (Up.refl w) _
  have T1 := hid (h.out.up u1)
  have hb1 : w1.heap[bx]? = some (.cells #[.int .i64 k] 3 (0, 0)) := by rw [← hw1, ← hbx]; exact heap_alloc_new w _
  have HB1 := hid hb1
  have cb : w1.cell? ⟨bx, 0, none⟩ = some (.int .i64 k) := by rw [cell_of_row _ _ _ _ _ _ hb1]; rfl
  obtain ⟨_, _, _, e3, _⟩ := T1.out.own.cells
  obtain ⟨f0, f1, _⟩ := T1.out.cells
  have z0 := T1.out.free 0
  have H := hid T1.out.own
  have hd0 : decide ((k : Int) < 0) = false := decide_eq_false (by omega)
  have hd1 : decide (n < k) = false := decide_eq_false (by have := hk.out; omega)
  have U1 := hid u1
  clear hb1 u1
  go_enter Tryz.func50, Tryz.ntmps50
  go_wp2_with fail
  refine (pwithin_calls w1 p q t H).mono ?_
  rintro e w' ⟨rfl, hw⟩
  obtain rfl := hw.symm
  clear hw
  go_wp2
  go_quiet (fail)
  obtain ⟨w2, hw2⟩ : ∃ w2, w1.drewN nq = w2 := ⟨_, rfl⟩
  have u2 : Up w1 w2 := by rw [← hw2]; exact Fr.below ((Fr.refl No w1).drewN nq) (Nat.le_refl _) (fun _ _ h => h)
  rw [hw2]
  have U2 := hid (U1.out.t (u2.t (Up.drew w2)))
  have T2 := hid (T1.out.up (u2.t (Up.drew w2)))
  have HB2 := hid (((u2.t (Up.drew w2)).block bx (Array.getElem?_eq_some_iff.1 HB1.out).1).trans HB1.out)
  clear u2 hw2 cb e3 f0 f1 z0 H hd0 hd1
  go_wp2
  have US : w2.drew.cell? ⟨p, 3, none⟩ = some (.pointer (some ⟨t, 0, none⟩)) ∧ w2.drew.cell? ⟨bx, 0, none⟩ = some (.int .i64 k) ∧ w2.drew.frozen? ⟨t, 0, none⟩ = false ∧ w2.drew.cell? ⟨t, 0, none⟩ = some (.int .i64 n) := ⟨T2.out.own.cells.2.2.2.1, by rw [cell_of_row _ _ _ _ _ _ HB2.out]; rfl, T2.out.free 0, T2.out.cells.1⟩
  refine t_start (fun w9 => w9.cell? ⟨p, 3, none⟩ = some (.pointer (some ⟨t, 0, none⟩)) ∧ w9.cell? ⟨bx, 0, none⟩ = some (.int .i64 k) ∧ w9.frozen? ⟨t, 0, none⟩ = false ∧ w9.cell? ⟨t, 0, none⟩ = some (.int .i64 n)) 7 (by kernel_rfl) ?_
  refine t_tk 0 26 (v := ?_) US (fun w9 hS => ?_) ?_
  rotate_left
  · go_simp <;> with_reducible rfl
  try simp only [pz]
  refine t_tk 1 27 (v := ?_) US (fun w9 hS => ?_) ?_
  rotate_left
  · go_simp <;> with_reducible rfl
  try simp only [pz]
  refine t_tk 2 28 (v := ?_) US (fun w9 hS => ?_) ?_
  rotate_left
  · go_simp <;> with_reducible rfl
  try simp only [pz]
  refine t_tk 3 29 (v := ?_) US (fun w9 hS => ?_) ?_
  rotate_left
  · obtain ⟨s0, s1, s2, s3⟩ := hS; go_simp <;> with_reducible rfl
  try simp only [pz]
  refine t_tk 4 30 (v := ?_) US (fun w9 hS => ?_) ?_
  rotate_left
  · obtain ⟨s0, s1, s2, s3⟩ := hS; go_simp <;> with_reducible rfl
  try simp only [pz]
  refine t_op 5 (by kernel_rfl) rfl (by rfl) (fun K9 hK9 => ?_)
  go_simp
  refine hK9.out _ _ US ?_
  clear hK9 K9
  try simp only [pz]
  refine t_tk 6 32 (v := ?_) US (fun w9 hS => ?_) ?_
  rotate_left
  · go_simp <;> with_reducible rfl
  try simp only [pz]
  refine t_last (by kernel_rfl) rfl (by rfl) (fun K9 hK9 => ?_)
  obtain ⟨s0, s1, s2, s3⟩ := US
  go_simp
  refine hK9.out _ _ ?_
  clear hK9 K9
  try simp only [pz]
  refine t_done (by kernel_rfl) ?_
  have hf : Fr (fun b => b = t) w2.drew (w2.drew.setCell ⟨t, 0, none⟩ (.int .i64 k)) := (Fr.refl (fun b => b = t) w2.drew).setCell (p := ⟨t, 0, none⟩) (fun _ => rfl) _
  have hbt : bx ≠ t := by
    intro e
    have h1 := T2.out.tran
    rw [← e, HB2.out] at h1
    injection h1 with h1; injection h1 with _ h1 _; exact absurd h1 (by decide)
  obtain ⟨d1, d2, d3, d4⟩ := T2.out.ne
  have T3 : Hid (TranAt (w2.drew.setCell ⟨t, 0, none⟩ (.int .i64 k)) p q t m mv last k L) := hid ⟨T2.out.own.fr hf d1, heap_setCell_same _ t 0 _ _ (.int .i64 k) T2.out.tran, T2.out.map.kept hf (fun e => d3 e.symm), fun y hy => (T2.out.rows y hy).fr hf (d4 y hy).2.1⟩
  have cb3 : (w2.drew.setCell ⟨t, 0, none⟩ (.int .i64 k)).cell? ⟨bx, 0, none⟩ = some (.int .i64 k) := hf.cell (by rw [cell_of_row _ _ _ _ _ _ HB2.out]; rfl) hbt
  have F3 : Hid (Fr (fun b => b = t ∨ b = m) w (w2.drew.setCell ⟨t, 0, none⟩ (.int .i64 k))) := hid (((Fr.of_below U2.out).mono (fun _ e => e.elim)).trans' (hf.mono (fun b e => .inl e)))
  clear d1 d2 d3 d4 hf hbt T2 U2 HB2
  rw [show w2.drew.setCell ⟨t, 0, none⟩ (.int .i64 k) = (w2.setCell ⟨t, 0, none⟩ (.int .i64 k)).drew from rfl] at T3 F3 cb3
  obtain ⟨w3, hw3⟩ : ∃ w3, (w2.setCell ⟨t, 0, none⟩ (.int .i64 k)).drew = w3 := ⟨_, rfl⟩
  rw [hw3] at T3 F3 cb3 ⊢
  clear hw3
  have s3 := T3.out.own.cells.2.2.2.1
  have s1 := T3.out.cells.2.1
  go_wp2_with fail
  refine (pdel_calls w3 m L k bx (hid T3.out.map) cb3).mono ?_
  rintro en w4 ⟨rfl, hr⟩
  have RES : Hid (TranAt w4 p q t m mv last k (pcut L k) ∧ Fr (fun b => b = t ∨ b = m) w w4) := hid (by
    have hf : Fr (fun b => b = m) w3 w4 := (Fr.of_grown hr.out.2).mono (fun b e => Option.some.inj e)
    obtain ⟨d1, d2, d3, d4⟩ := T3.out.ne
    refine ⟨⟨T3.out.own.fr hf d2, (hf.block t (Array.getElem?_eq_some_iff.1 T3.out.tran).1 d3).trans T3.out.tran, hr.out.1, fun y hy => ?_⟩, F3.out.trans' (hf.mono (fun b e => .inr e))⟩
    have hy := (List.mem_filter.1 hy).1
    exact (T3.out.rows y hy).fr hf (d4 y hy).2.2)
  clear hr s1 s3 cb3
  go_wp2
  go_ret
  exact ⟨rfl, RES⟩
theorem gget_pcut (L : PgL) (lim : Int) {k : Int} (h : k ≤ lim) : gget (pcut L lim) k = gget L k := by
  unfold pcut gget
  induction L with
  | nil => rfl
  | cons z r ih =>
    rw [List.filter_cons]
    by_cases hz : z.1 ≤ lim
    · rw [if_pos (decide_eq_true hz), List.find?_cons, List.find?_cons]
      by_cases e : z.1 = k
      · simp [e]
      · simp only [e, decide_false]; exact ih
    · rw [if_neg (by rw [decide_eq_false hz]; decide), List.find?_cons]
      have : ¬ z.1 = k := by omega
      simp only [this, decide_false]
      exact ih
theorem ChainT.pcut {L : PgL} {T : List Trk} {k : Nat} (h : ChainT L T) (hk : ∀ x ∈ allT T, x ≤ k) : ChainT (pcut L k) T := by
  induction T with
  | nil => exact trivial
  | cons t r ih =>
    rw [allT_cons] at hk
    obtain ⟨⟨y, hy, hb⟩, hr⟩ := h
    refine ⟨⟨y, ?_, hb⟩, ih hr (fun x hx => hk x (by simp [hx]))⟩
    have := hk t.1 List.mem_cons_self
    rw [gget_pcut _ _ (by omega)]
    exact hy
theorem HeapS.shrink {L : PgL} {n : Nat} {T : List Trk} {W : Nat → Int} {U : Nat → List UInt8} (h : HeapS L n T W U) {k : Nat} (h1 : 1 ≤ k) (hk : k ≤ n) (hT : ∀ x ∈ allT T, x ≤ k) : HeapS (pcut L k) k T W U := by
  obtain ⟨x, hx, hr⟩ := h.root
  refine ⟨⟨h.keys.srt.filter _, fun y hy => ?_⟩, fun y hy => h.lens y (List.mem_filter.1 hy).1, h1, ⟨x, by rw [gget_pcut _ _ (by omega)]; exact hx, hr⟩, h.chain.pcut hT, h.nodup, fun x hx => ⟨(h.inn x hx).1, hT x hx⟩, fun i h2 hi hn => ?_, fun i h2 hi => by rw [gget_pcut _ _ (by omega)]; exact h.full i h2 (by omega)⟩
  · have hm := List.mem_filter.1 hy
    have := (h.keys.inn y hm.1).1
    have := of_decide_eq_true hm.2
    exact ⟨by omega, by omega⟩
  · rw [gget_pcut _ _ (by omega)]
    exact h.used i h2 (by omega) hn
end Go.Proofs.YtbcghggkfnagoaaGreatDoor

namespace Go.Proofs.YtbcghggkfnagoaaGreatDoor
open Go Go.RowKit Go.Maps Hach

/-! ### plain laws -/
theorem srt_eq : ∀ {l1 l2 : List Nat}, l1.Pairwise (· < ·) → l2.Pairwise (· < ·) → (∀ x, x ∈ l1 ↔ x ∈ l2) → l1 = l2
  | [], [], _, _, _ => rfl
  | [], b :: r, _, _, h => absurd ((h b).2 List.mem_cons_self) (by simp)
  | a :: r, [], _, _, h => absurd ((h a).1 List.mem_cons_self) (by simp)
  | a :: r1, b :: r2, h1, h2, h => by
    rw [List.pairwise_cons] at h1 h2
    have hab : a = b := by
      have ha := (h a).1 List.mem_cons_self
      have hb := (h b).2 List.mem_cons_self
      rcases List.mem_cons.1 ha with e | e
      · exact e
      · rcases List.mem_cons.1 hb with e2 | e2
        · exact e2.symm
        · have := h2.1 a e; have := h1.1 b e2; omega
    subst hab
    rw [srt_eq h1.2 h2.2 fun x => ?_]
    constructor
    · intro hx
      have := h1.1 x hx
      rcases List.mem_cons.1 ((h x).1 (List.mem_cons_of_mem _ hx)) with e | e
      · omega
      · exact e
    · intro hx
      have := h2.1 x hx
      rcases List.mem_cons.1 ((h x).2 (List.mem_cons_of_mem _ hx)) with e | e
      · omega
      · exact e
def trimL (T : List Trk) (k : Nat) : List Nat := (List.range (k + 1)).filter fun x => decide (x ∈ allT T)
def trimV (T : List Trk) (k : Nat) : List Trk := (trimL T k).foldl giveV []
theorem foldG_mem (l : List Nat) : ∀ (T : List Trk) (z : Nat), z ∈ allT (l.foldl giveV T) ↔ z ∈ l ∨ z ∈ allT T := by
  induction l with
  | nil => intro T z; simp
  | cons a r ih =>
    intro T z
    rw [List.foldl_cons, ih, giveV_mem, List.mem_cons]
    constructor
    · rintro (h | h | h)
      · exact .inl (.inr h)
      · exact .inl (.inl h)
      · exact .inr h
    · rintro ((h | h) | h)
      · exact .inr (.inl h)
      · exact .inl h
      · exact .inr (.inr h)
theorem lt_of_le_nodup {l : List Nat} (h : l.Pairwise (· ≤ ·)) (hn : l.Nodup) : l.Pairwise (· < ·) := by
  have := h.and hn
  exact this.imp (fun ⟨a, b⟩ => by omega)
theorem cut_eq {T : List Trk} {r : List Nat} {k s : Nat} (hp : r.Perm (allT T)) (hs : r.Pairwise (· < ·)) (h1 : ∀ x ∈ r.take s, x ≤ k) (h2 : ∀ x ∈ r.drop s, k < x) : r.take s = trimL T k := by
  refine srt_eq (hs.sublist (List.take_sublist _ _)) (List.pairwise_lt_range.filter _) fun x => ?_
  unfold trimL
  rw [List.mem_filter, List.mem_range, decide_eq_true_eq, ← hp.mem_iff]
  constructor
  · intro hx
    exact ⟨by have := h1 x hx; omega, List.mem_of_mem_take hx⟩
  · rintro ⟨hk, hx⟩
    rw [← List.take_append_drop s r, List.mem_append] at hx
    rcases hx with hx | hx
    · exact hx
    · have := h2 x hx; omega
theorem rising_nat (l : List Nat) : ∃ r : List Nat, (rising (l.map fun x : Nat => (x : Int))) = r.map (fun x : Nat => (x : Int)) ∧ r.Perm l ∧ r.Pairwise (· ≤ ·) := by
  have hp : (rising (l.map fun x : Nat => (x : Int))).Perm (l.map fun x : Nat => (x : Int)) := List.mergeSort_perm _ _
  have hs : (rising (l.map fun x : Nat => (x : Int))).Pairwise fun a b => (decide (a ≤ b)) = true := List.pairwise_mergeSort (fun a b c h1 h2 => by simp at *; omega) (fun a b => by simp; omega) _
  refine ⟨(rising (l.map fun x : Nat => (x : Int))).map Int.toNat, ?_, ?_, ?_⟩
  · rw [List.map_map]
    conv => lhs; rw [← List.map_id (rising (l.map fun x : Nat => (x : Int)))]
    refine List.map_congr_left fun x hx => ?_
    obtain ⟨y, _, rfl⟩ := List.mem_map.1 (hp.mem_iff.1 hx)
    simp
  · have := hp.map Int.toNat
    rw [List.map_map] at this
    refine this.trans ?_
    have e : l.map (Int.toNat ∘ fun x : Nat => (x : Int)) = l := by
      conv => rhs; rw [← List.map_id l]
      exact List.map_congr_left fun x _ => by simp
    rw [e]
  · rw [List.pairwise_map]
    exact hs.imp fun h => by have := of_decide_eq_true h; omega
theorem HeapS.zero {L : PgL} {n : Nat} {T : List Trk} {W : Nat → Int} {U : Nat → List UInt8} (h : HeapS L n T W U) {x : PgX} (hx : gget L (1 : Nat) = some x) : ∃ U', ∀ g c, HeapS (gput L (1 : Nat) ⟨g, c, mkPut (mkPut x.bs 8 (Oct.be 0 4)) 12 (Oct.be 0 4)⟩) n [] W U' := by
  obtain ⟨x', hx', hr⟩ := h.root
  obtain rfl : x = x' := Option.some.inj (hx.symm.trans hx')
  have lx := h.lens _ (gget_mem hx)
  have R1 := hr.first' lx (f' := 0) (by decide)
  have R2 := R1.count' (mk4_len lx (by decide) _) (c' := 0) (by decide)
  refine ⟨fun i => ((gget L i).map PgX.bs).getD [], fun g c => ⟨h.keys.put ⟨by omega, h.one⟩ _, gput_lens h.lens (mk4_len (mk4_len lx (by decide) _) (by decide) _), h.one, ⟨⟨g, c, _⟩, ?_, R2⟩, trivial, List.nodup_nil, fun z hz => by simp [allT] at hz, fun i h2 hi hn => ?_, full_put h.full⟩⟩
  · rw [gget_put, if_pos rfl]; try rfl
  · rw [gget_put, if_neg (by omega)]
    obtain ⟨y, hy⟩ := h.full i (by omega) hi
    exact ⟨y, hy, by rw [hy]; rfl⟩
section
variable (w : World) (X : HpX) (n : Nat) (T : List Trk) (W : Nat → Int) (U : Nat → List UInt8)
set_option maxRecDepth 100000 in
set_option maxHeartbeats 2000000 in
theorem trimBad_calls (i : Int) (hh : Hid (HeapW w X n T W U)) (hn : Hid (n ≤ 4000)) (hi : Hid (i < 1 ∨ (n : Int) < i)) :
    Calls Tryz.prog 63 #[.pointer (some ⟨X.h, 0, none⟩), .int .i64 i] w fun en w' => en = .returned (.int .i64 11) ∧ Hid (Up w w') := by
  have CA := allH_calls w X n T W U hh hn
  by_cases hi1 : i < 1
  · go_enter Tryz.func63, Tryz.ntmps63
    go_wp2_with (go_at_call 17; refine CA.mono ?_; rintro en w2 ⟨A, c, k, rfl, hr⟩)
    go_ret
    exact ⟨rfl, hid hr.out.2.2⟩
  · have hi2 : (n : Int) < i := hi.out.resolve_left hi1
    obtain ⟨L, hp, hs⟩ := hh.out
    obtain ⟨h, p, t, m, q, mv, last⟩ := X
    have HP := hid hp
    simp only at HP
    have CA' : Calls _ _ #[.pointer (some ⟨h, 0, none⟩)] w _ := CA
    clear hp hs hh CA
    show Calls _ _ #[.pointer (some ⟨h, 0, none⟩), _] _ _
    go_enter Tryz.func63, Tryz.ntmps63
    go_wp2_with (go_at_call 17; refine CA'.mono ?_; rintro en w2 ⟨A, c, k, rfl, hr⟩; have e20 := (HP.out.up hr.out.2.2).cell)
    have U2 := hid hr.out.2.2
    have HP2 := hid (HP.out.up hr.out.2.2)
    clear hr
    refine (ppages_calls w2 p t m q mv last n L (hid HP2.out.tran)).mono ?_
    rintro en w' ⟨rfl, hw⟩
    obtain rfl := hw.symm
    clear hw e20
    go_wp2
    go_ret
    exact ⟨rfl, U2⟩
end
end Go.Proofs.YtbcghggkfnagoaaGreatDoor

namespace Go.Proofs.YtbcghggkfnagoaaGreatDoor
open Go Go.RowKit Go.Maps Hach

def TrimI (w wr : World) (X : HpX) (n : Nat) (W : Nat → Int) (U : Nat → List UInt8) (r : List Nat) (A : Option Addr) (s : Nat) : Prop :=
  HeapW wr X n ((r.take s).foldl giveV []) W U ∧ Fr (HpS X) w wr ∧ Rd wr A (r.map natCell) ∧ ∀ b off, A = some ⟨b, off, none⟩ → w.heap.size ≤ b
set_option maxRecDepth 100000 in
set_option maxHeartbeats 4000000 in
theorem trim_calls (w : World) (X : HpX) (n : Nat) (T : List Trk) (W : Nat → Int) (U : Nat → List UInt8) (k : Nat) (hh : Hid (HeapW w X n T W U)) (hn : Hid (n ≤ 4000)) (hk : Hid (1 ≤ k ∧ k ≤ n)) :
    Calls Tryz.prog 63 #[.pointer (some ⟨X.h, 0, none⟩), .int .i64 k] w fun en w' => en = .returned (.int .i64 0) ∧ ∃ U', Hid (HeapW w' X k (trimV T k) W U' ∧ Fr (HpS X) w w') := by
  have CA := allH_calls w X n T W U hh hn
  have XT : Hid (X.t < w.heap.size ∧ X.m < w.heap.size) := hid (HeapW.step (w' := w) hh.out)
  obtain ⟨L, hp, hs⟩ := hh.out
  have hi1 : ¬ (k : Int) < 1 := by have := hk.out; omega
  have hi2 : ¬ (n : Int) < (k : Int) := by have := hk.out; omega
  have INN := hid hs.inn
  have ND := hid hs.nodup
  have N1 : Hid (1 ≤ n) := hid hs.one
  have HLL : Hid (L.length < 900000) := hid (by have := hs.keys.len; have := hn.out; omega)
  obtain ⟨x, hx, hr⟩ := hs.root
  have HLX := hid (hs.lens _ (gget_mem hx))
  obtain ⟨U', hz⟩ := hs.zero hx
  have HZ := hid hz
  have HX := hid hx
  have HP := hid hp
  clear hp hs hx hr hz hh
  obtain ⟨h, p, t, m, q, mv, last⟩ := X
  simp only at HP
  obtain ⟨RB, hRB⟩ : ∃ r, mkPut (mkPut x.bs 8 (Oct.be 0 4)) 12 (Oct.be 0 4) = r := ⟨_, rfl⟩
  rw [hRB] at HZ
  have HRB := hid hRB
  clear hRB
  have CA' : Calls _ _ #[.pointer (some ⟨h, 0, none⟩)] w _ := CA
  clear CA
  show Calls _ _ #[.pointer (some ⟨h, 0, none⟩), _] _ _
  go_enter Tryz.func63, Tryz.ntmps63
  go_wp2_with (go_at_call 17; refine CA'.mono ?_; rintro en w2 ⟨A, c, kk, rfl, hr⟩; have e20 := (HP.out.up hr.out.2.2).cell)
  have U2 := hid hr.out.2.2
  have HP2 := hid (HP.out.up hr.out.2.2)
  have OA := hid hr.out.2.1
  have KK : Hid (kk = (allT T).length) := hid hr.out.1
  clear hr CA'
  refine (ppages_calls w2 p t m q mv last n L (hid HP2.out.tran)).mono ?_
  rintro en w' ⟨rfl, hw⟩
  obtain rfl := hw.symm
  clear hw
  go_wp2_with (go_at_call 66; refine (hroot_calls w2 h p t m q mv last n L HP2 (hid (by have := hn.out; have := N1.out; omega)) x HX).mono ?_; rintro en w3 ⟨g, c3, rfl, hr⟩)
  have U3 : Hid (Up w w3) := hid (U2.out.t hr.out.2.1)
  have OR := hid hr.out.1
  have GR : Hid (w2.heap.size ≤ g) := hid hr.out.2.2.2.2
  have XL : Hid (x.bs.length = 512 ∧ 512 ≤ c3) := hid ⟨hr.out.2.2.1, hr.out.2.2.2.1⟩
  have OA3 : Hid (OwnN w3 w.heap.size A c (allT T)) := hid ((Fr.of_below hr.out.2.1).own OA.out (fun _ _ => id))
  have AB : Hid (∀ b, (Value.slice A (allT T).length c).ownBlock = some b → b ≠ g) := hid (fun b hb e => by have := (own_block OA.out b hb).2; have := GR.out; omega)
  clear hr OA e20
  refine (fset_calls w3 w2.heap.size g c3 x.bs 512 8 4 (0 : Int) 0 (hid (u64w (by decide))) (hid (by decide)) (hid XL.out.1) (hid ⟨by decide, by decide, by decide, by decide, XL.out.2⟩) OR).mono ?_
  rintro en w4 ⟨rfl, hr⟩
  have O4 := hid hr.out.1
  have F4 : Hid (Fr (fun k => k = g) w3 w4) := hid hr.out.2
  clear hr OR
  go_wp2_with fail
  refine (fset_calls w4 w2.heap.size g c3 _ 512 12 4 (0 : Int) 0 (hid (u64w (by decide))) (hid (by decide)) (hid (mk4_len XL.out.1 (by decide) 0)) (hid ⟨by decide, by decide, by decide, by decide, XL.out.2⟩) O4).mono ?_
  rintro en w5 ⟨rfl, hr⟩
  have O5 := hid hr.out.1
  have RL : Hid ((mkPut (mkPut x.bs 8 (Oct.be 0 4)) 12 (Oct.be 0 4)).length = 512) := hid (mk4_len (mk4_len XL.out.1 (by decide) 0) (by decide) 0)
  rw [HRB.out] at O5 RL
  have F5 : Hid (Fr (fun k => k = g) w3 w5) := hid (F4.out.trans' hr.out.2)
  have U5 : Hid (Up w w5) := hid (U3.out.trans (F5.out.below U3.out.size (fun k hk e => by have := GR.out; have := U2.out.size; omega)))
  have OA5 : Hid (OwnN w5 w.heap.size A c (allT T)) := hid (F5.out.own OA3.out (fun b hb e => AB.out b hb e))
  have HP5 := hid (HP.out.up U5.out)
  clear hr O4 F4 F5 OA3 HP2
  have e50 := HP5.out.cell
  go_wp2_with fail
  refine (pput_calls w5 p t m q mv last n L (hid HP5.out.tran) 1 (hid (by have := hn.out; have := N1.out; omega)) (hid (by have := HLL.out; omega)) _ RB c3 RL (hid O5.out.bytes)).mono ?_
  rintro en w6 ⟨rfl, g6, c6, hr⟩
  have HW6 : Hid (HeapW w6 ⟨h, p, t, m, q, mv, last⟩ n [] W U') := hid ⟨_, HP5.out.step hr.out.1 (hr.out.2.1.mono (fun k e => .inr e)), HZ.out g6 c6⟩
  have F6 : Hid (Fr (fun b => b = t ∨ b = m) w w6) := hid (((Fr.of_below U5.out).mono (fun _ e => e.elim)).trans' (hr.out.2.1.mono (fun k e => .inr e)))
  have OA6 : Hid (OwnN w6 w.heap.size A c (allT T)) := hid (hr.out.2.1.own OA5.out (fun b hb e => by have := (own_block OA5.out b hb).1; have h9 := XT.out.2; omega))
  clear hr OA5 e50 O5 HP5 U5
  have CS := sort_calls w6 w.heap.size kk c A ((allT T).map fun x : Nat => (x : Int)) (hid (by rw [List.length_map]; exact KK.out)) (hid (by
    have h9 := OA6.out
    unfold OwnN at h9
    rw [← KK.out] at h9
    rw [List.map_map]
    exact h9)) (hid (by have h1 := KK.out; have h2 := allT_len ND.out INN.out; have h3 := hn.out; omega))
  go_wp2_with fail
  refine CS.mono ?_
  rintro en w7 ⟨rfl, hr⟩
  obtain ⟨r, hr1, hr2, hr3⟩ := rising_nat (allT T)
  have START : Hid (TrimI w w7 ⟨h, p, t, m, q, mv, last⟩ n W U' r A 0) := hid (by
    have h7 := hr.out
    rw [hr1, List.map_map] at h7
    have hb := own_block h7.1
    have hf := Fr.of_grown h7.2
    have ho6 := OA6.out
    unfold OwnN at ho6
    rw [← KK.out] at ho6
    refine ⟨HW6.out.fr hf (fun b _ e => apart_own (A := none) (c := 0) (base := w.heap.size) (n := kk) (l := allT T) ho6 e.symm), F6.out.trans hf (fun b hb9 e => absurd (own_block ho6 b e.symm).1 (by omega)), Rd.own h7.1, fun b off e => ?_⟩
    subst e
    exact (hb b rfl).1)
  have SRT : Hid (r.Perm (allT T) ∧ r.Pairwise (· < ·) ∧ r.length = kk) := hid ⟨hr2, lt_of_le_nodup hr3 (hr2.nodup_iff.2 ND.out), by rw [hr2.length_eq]; exact KK.out.symm⟩
  clear hr CS hr1 hr2 hr3 OA6 HW6 F6
  go_wp2
  go_loopw [58] (fun iv wr => ∃ s : Nat, iv = .int .i64 s ∧ s ≤ kk ∧ Hid (TrimI w wr ⟨h, p, t, m, q, mv, last⟩ n W U' r A s ∧ ∀ x ∈ r.take s, x ≤ k)) (fun iv _ => kk - (intOf iv).toNat)
  case atStart => exact ⟨0, rfl, Nat.zero_le _, hid ⟨START.out, fun x hx => by simp at hx⟩⟩
  case round =>
    clear START
    obtain ⟨s, rfl, hs, iv⟩ := hrel
    by_cases hgo : ∃ x, r[s]? = some x ∧ x ≤ k
    · obtain ⟨z, hz, hzk⟩ := hgo
      obtain ⟨ab, ao, rfl, hcz⟩ := iv.out.1.2.2.1 s (natCell z) (by rw [List.getElem?_map, hz]; rfl)
      unfold natCell at hcz
      have hsk : s < kk := by rw [← SRT.out.2.2]; exact (List.getElem?_eq_some_iff.1 hz).1
      have hlt : (s : Int) < kk := by omega
      have hzk2 : ¬ (k : Int) < (z : Int) := by omega
      have htk : r.take (s + 1) = r.take s ++ [z] := by rw [List.take_add_one, hz]; rfl
      have hzm := SRT.out.1.mem_iff.1 (List.mem_of_getElem? hz)
      have hnx : z ∉ allT ((r.take s).foldl giveV []) := by
        rw [foldG_mem]
        rintro (hm | hm)
        · have h2 := SRT.out.2.1.sublist (List.take_sublist (s + 1) r)
          rw [htk, List.pairwise_append] at h2
          have := h2.2.2 z hm z (List.mem_singleton.2 rfl)
          omega
        · simp [allT] at hm
      have CG := giveH_calls wr ⟨h, p, t, m, q, mv, last⟩ n _ W U' z (hid iv.out.1.1) hn (hid ⟨(INN.out z hzm).1, (INN.out z hzm).2, hnx⟩)
      have CG' : Calls _ _ #[.pointer (some ⟨h, 0, none⟩), _] wr _ := CG
      have TK := hid (And.intro htk (show z ≤ k ∧ s < kk ∧ kk ≤ 4000 from ⟨hzk, hsk, by rw [KK.out]; have := allT_len ND.out INN.out; have := hn.out; omega⟩))
      have IV := iv
      clear iv hz hzk hsk htk hzm hnx CG hs
      go_wp2_with fail
      refine CG'.mono ?_
      rintro en w8 ⟨rfl, hr⟩
      have NEXT : Hid (TrimI w w8 ⟨h, p, t, m, q, mv, last⟩ n W U' r (some ⟨ab, ao, none⟩) (s + 1) ∧ ∀ x ∈ r.take (s + 1), x ≤ k) := hid (by
        refine ⟨⟨?_, IV.out.1.2.1.trans' hr.out.2, IV.out.1.2.2.1.fr hr.out.2 (fun b off e hb => ?_), IV.out.1.2.2.2⟩, fun x hx => ?_⟩
        · rw [TK.out.1, List.foldl_append]; exact hr.out.1
        · have h1 := IV.out.1.2.2.2 b off e
          have h2 := XT.out
          rcases hb with hb | hb
          · have hb' : b = t := hb
            omega
          · have hb' : b = m := hb
            omega
        · rw [TK.out.1, List.mem_append] at hx
          rcases hx with hx | hx
          · exact IV.out.2 x hx
          · rw [List.mem_singleton.1 hx]; exact TK.out.2.1)
      clear hr CG'
      go_wp2
      go_roundw
      case rel => exact ⟨s + 1, by first | rfl | rw [wS (K := s + 1) (by have := TK.out; omega) rfl], TK.out.2.2.1, NEXT⟩
      case measure => have := TK.out; first | rw [wS (K := s + 1) (by omega) rfl] | skip
                      simp only [intOf]; omega
    · have stop : (∃ z, r[s]? = some z ∧ k < z) ∨ ¬ (s : Int) < kk := by
        by_cases hsk : s < kk
        · obtain ⟨z, hz⟩ : ∃ z, r[s]? = some z := ⟨_, List.getElem?_eq_getElem (by rw [SRT.out.2.2]; exact hsk)⟩
          exact .inl ⟨z, hz, Nat.lt_of_not_le fun e => hgo ⟨z, hz, e⟩⟩
        · exact .inr (by omega)
      have FIN : Hid (r.take s = trimL T k) := hid (by
        refine cut_eq SRT.out.1 SRT.out.2.1 iv.out.2 fun x hx => ?_
        rcases stop with ⟨z, hz, hzk⟩ | hsk
        · rw [List.drop_eq_getElem_cons (List.getElem?_eq_some_iff.1 hz).1, (List.getElem?_eq_some_iff.1 hz).2] at hx
          rcases List.mem_cons.1 hx with rfl | hx
          · exact hzk
          · have h2 := SRT.out.2.1.sublist (List.drop_sublist s r)
            rw [List.drop_eq_getElem_cons (List.getElem?_eq_some_iff.1 hz).1, (List.getElem?_eq_some_iff.1 hz).2, List.pairwise_cons] at h2
            have := h2.1 x hx
            omega
        · rw [List.drop_of_length_le (by rw [SRT.out.2.2]; omega)] at hx; simp at hx)
      have H8 : Hid (HeapW wr ⟨h, p, t, m, q, mv, last⟩ n (trimV T k) W U' ∧ Fr (HpS ⟨h, p, t, m, q, mv, last⟩) w wr) := hid ⟨by have := iv.out.1.1; rw [FIN.out] at this; exact this, iv.out.1.2.1⟩
      have RD := hid iv.out.1.2.2.1
      clear iv hs hgo
      refine Or.elim stop ?stopA ?stopB
      case' stopA =>
        rintro ⟨z, hz, hzk⟩
        obtain ⟨ab, ao, rfl, hcz⟩ := RD.out s (natCell z) (by rw [List.getElem?_map, hz]; rfl)
        unfold natCell at hcz
        have hsk : s < kk := by rw [← SRT.out.2.2]; exact (List.getElem?_eq_some_iff.1 hz).1
        have hlt : (s : Int) < kk := by omega
        have hzk2 : (k : Int) < (z : Int) := by omega
        clear hz hsk hzk
      case' stopB => intro hlt
      all_goals
        clear stop
        obtain ⟨L8, hp8, hs8⟩ := H8.out.1
        have HP8 : Hid (HeapP wr h p q t m mv last n L8) := hid hp8
        have HS8 := hid hs8
        have e80 := HP8.out.cell
        clear hp8 hs8
        go_wp2_with fail
        refine (pshrink_calls wr p t m q mv last n L8 (hid HP8.out.tran) k (hid (by have := hk.out; have := hn.out; omega))).mono ?_
        rintro en w9 ⟨rfl, hr⟩
        have RES : Hid (HeapW w9 ⟨h, p, t, m, q, mv, last⟩ k (trimV T k) W U' ∧ Fr (HpS ⟨h, p, t, m, q, mv, last⟩) w w9) := hid ⟨⟨_, HP8.out.step hr.out.1 hr.out.2, HS8.out.shrink hk.out.1 hk.out.2 (fun x hx => by
          unfold trimV at hx
          rw [foldG_mem] at hx
          rcases hx with hx | hx
          · unfold trimL at hx
            have := List.mem_range.1 (List.mem_filter.1 hx).1
            omega
          · simp [allT] at hx)⟩, H8.out.2.trans' hr.out.2⟩
        clear hr e80
        go_wp2
        go_ret
        exact ⟨rfl, U', RES⟩
end Go.Proofs.YtbcghggkfnagoaaGreatDoor

namespace Go.Proofs.YtbcghggkfnagoaaGreatDoor
open Go Go.RowKit Go.Maps Hach

def Small (T : List Trk) : Prop := ∀ t ∈ T, t.2.length ≤ 126
theorem giveV_small {T : List Trk} (h : Small T) (i : Nat) : Small (giveV T i) := by
  match T, h with
  | [], _ => intro t ht; rw [List.mem_singleton.1 ht]; exact Nat.zero_le _
  | (f, ls) :: r, h =>
    unfold giveV
    simp only
    by_cases hl : ls.length < 126
    · rw [if_pos hl]
      intro t ht
      rcases List.mem_cons.1 ht with rfl | ht
      · show (ls ++ [i]).length ≤ 126
        rw [List.length_append]; simp only [List.length_cons, List.length_nil]; omega
      · exact h t (List.mem_cons_of_mem _ ht)
    · rw [if_neg hl]
      intro t ht
      rcases List.mem_cons.1 ht with rfl | ht
      · exact Nat.zero_le _
      · exact h t ht
theorem foldG_small (l : List Nat) : ∀ {T : List Trk}, Small T → Small (l.foldl giveV T) := by
  induction l with
  | nil => intro T h; exact h
  | cons a r ih => intro T h; exact ih (giveV_small h a)
theorem foldG_len (l : List Nat) : ∀ (T : List Trk), (allT (l.foldl giveV T)).length = l.length + (allT T).length := by
  induction l with
  | nil => intro T; simp
  | cons a r ih => intro T; rw [List.foldl_cons, ih, giveV_len, List.length_cons]; omega
theorem takeV_small {T : List Trk} (h : Small T) (n : Nat) : Small (takeV T n).2.2 := by
  match T, h with
  | [], h => exact h
  | (f, ls) :: r, h =>
    cases hg : ls.getLast? with
    | none =>
      rw [show takeV ((f, ls) :: r) n = (f, n, r) by unfold takeV; simp only [hg]]
      exact fun t ht => h t (List.mem_cons_of_mem _ ht)
    | some x =>
      rw [show takeV ((f, ls) :: r) n = (x, n, (f, ls.dropLast) :: r) by unfold takeV; simp only [hg]]
      intro t ht
      rcases List.mem_cons.1 ht with rfl | ht
      · have := h (f, ls) List.mem_cons_self
        show ls.dropLast.length ≤ 126
        rw [List.length_dropLast]; simp only at this; omega
      · exact h t (List.mem_cons_of_mem _ ht)
def trimP (T : List Trk) (j : Nat) : List Trk := ((List.range j).filter fun x => decide (x ∈ allT T)).foldl giveV []
theorem trimP_succ (T : List Trk) (j : Nat) : trimP T (j + 1) = if j ∈ allT T then giveV (trimP T j) j else trimP T j := by
  unfold trimP
  rw [List.range_succ, List.filter_append, List.foldl_append]
  by_cases h : j ∈ allT T
  · rw [if_pos h, List.filter_cons, if_pos (decide_eq_true h)]; rfl
  · rw [if_neg h, List.filter_cons, if_neg (by simpa using h)]; rfl
theorem trimP_len (T : List Trk) (j : Nat) : (allT (trimP T j)).length ≤ j := by
  unfold trimP
  rw [foldG_len]
  have := List.length_filter_le (fun x => decide (x ∈ allT T)) (List.range j)
  rw [List.length_range] at this
  show _ + 0 ≤ _
  omega
theorem trimP_small (T : List Trk) (j : Nat) : Small (trimP T j) := foldG_small _ (fun t ht => by cases ht)
def IntRow (w : World) (A : Option Addr) (l : List Nat) : Prop := Rd w A (l.map natCell) ∧ ∀ b off, A = some ⟨b, off, none⟩ → ∃ cs fr, w.heap[b]? = some (.cells cs 3 fr)
theorem IntRow.own {w : World} {base n c : Nat} {A : Option Addr} {l : List Nat} (h : w.ownsRow base 3 1 (.slice A n c) n (l.map natCell)) : IntRow w A l := ⟨Rd.own h, fun b off e => by subst e; exact own_obj h rfl⟩
theorem IntRow.up {w w' : World} {A : Option Addr} {l : List Nat} (h : IntRow w A l) (hu : Up w w') : IntRow w' A l := ⟨h.1.grown hu, fun b off e => by
  obtain ⟨cs, fr, hb⟩ := h.2 b off e
  exact ⟨cs, fr, (hu.block b (blk_lt hb)).trans hb⟩⟩
theorem IntRow.fr {w w' : World} {A : Option Addr} {l : List Nat} {S : Nat → Prop} (h : IntRow w A l) (hf : Fr S w w') (hS : ∀ k cs fr, S k → w.heap[k]? ≠ some (.cells cs 3 fr)) : IntRow w' A l := ⟨h.1.fr hf fun b off e hs => by
  obtain ⟨cs, fr, hb⟩ := h.2 b off e
  exact hS _ _ _ hs hb, fun b off e => by
  obtain ⟨cs, fr, hb⟩ := h.2 b off e
  exact ⟨cs, fr, (hf.block b (blk_lt hb) (fun hs => hS _ _ _ hs hb)).trans hb⟩⟩
theorem DocW.notInt {w : World} {base m n : Nat} {T : List Trk} {ws : List Value} (h : DocW w base m n T ws) : ∀ k cs fr, DocB w base m k → w.heap[k]? ≠ some (.cells cs 3 fr) := by
  obtain ⟨D, A, c, hd, _⟩ := h
  rintro k cs fr ⟨_, rfl | ⟨cs', hb⟩⟩ e
  · rw [hd.own] at e; injection e with e; injection e with _ e _; exact absurd e (by decide)
  · rw [hb] at e; injection e with e; injection e with _ e _; exact absurd e (by decide)
theorem fr_docs {w a b : World} {base m : Nat} (h1 : Fr (DocB w base m) w a) (h2 : Fr (DocB a base m) a b) : Fr (DocB w base m) w b := by
  refine h1.trans h2 fun k hk ⟨hb, hm⟩ => ⟨hb, ?_⟩
  rcases hm with e | ⟨cs, hc⟩
  · exact .inl e
  · by_cases hd : DocB w base m k
    · exact hd.2
    · exact .inr ⟨cs, (h1.block k hk hd).symm.trans hc⟩
set_option maxRecDepth 100000 in
set_option maxHeartbeats 2000000 in
theorem dtrimBad_calls (w : World) (base m n : Nat) (T : List Trk) (ws : List Value) (i : Int) (h : Hid (DocW w base m n T ws)) (hi : Hid (i < 1 ∨ (n : Int) < i)) :
    Calls Tryz.prog 127 #[.pointer (some ⟨m, 0, none⟩), .int .i64 i] w fun en w' => en = .returned (.int .i64 11) ∧ w' = w := by
  obtain ⟨D, A, c, hd, rfl⟩ := h.out
  have e1 := hd.c1
  clear hd h
  by_cases h1 : i < 1
  · go_enter Tryz.func127, Tryz.ntmps127
    go_wp2
    go_ret
    exact ⟨rfl, rfl⟩
  · have h2 := hi.out.resolve_left h1
    go_enter Tryz.func127, Tryz.ntmps127
    go_wp2
    go_ret
    exact ⟨rfl, rfl⟩
set_option maxRecDepth 100000 in
set_option maxHeartbeats 4000000 in
theorem dtrim_calls (w : World) (base m n : Nat) (T : List Trk) (ws : List Value) (k : Nat) (h : Hid (DocW w base m n T ws)) (hk : Hid (1 ≤ k ∧ k ≤ n ∧ n ≤ 4000)) (hbs : Hid (base ≤ w.heap.size)) (hnd : Hid ((allT T).Nodup)) (hin : Hid (∀ x ∈ allT T, 2 ≤ x ∧ x ≤ n)) (hT : Hid ((allT T).length < 100000)) :
    Calls Tryz.prog 127 #[.pointer (some ⟨m, 0, none⟩), .int .i64 k] w (DocStep w base m k (trimV T k) ws (.int .i64 0)) := by
  obtain ⟨D, A, c, hd, e⟩ := h.out
  have e1 := hd.c1
  have hdl : D.length < 100000 := by
    have h9 := hT.out
    rw [e] at h9
    have : D.length ≤ (allT (D.map dtT)).length := by
      clear h9 e1 hd e
      induction D with
      | nil => simp
      | cons a r ih => rw [List.map_cons, allT_cons]; simp only [List.length_cons, List.length_append]; omega
    omega
  have CA := dall_calls w base m n D ws A c (hid hd) (hid (by rw [← e]; exact hT.out)) (hid hdl)
  rw [← e] at CA
  have HD := hid hd
  have i1 : ¬ (k : Int) < 1 := by have := hk.out; omega
  have i2 : ¬ (n : Int) < (k : Int) := by have := hk.out; omega
  clear hd hdl h e
  go_enter Tryz.func127, Tryz.ntmps127
  go_wp2_with fail
  refine CA.mono ?_
  rintro en w2 ⟨A2, c2, kk, rfl, hr⟩
  have D2 := HD.out.up hr.out.2.2
  have c20 := D2.c0
  have f20 := D2.fz 0
  have S2 := D2.setOwn (i := 0) (v := .slice none 0 0) (n' := n) (D' := []) (ws' := ws) (A' := none) (c' := 0) rfl (Rd.nil _ _) (fun b off e => by cases e) (Nat.zero_le _) (fun d hd => by cases hd)
  have START : Hid (DocW (w2.setCell ⟨m, 0, none⟩ (.slice none 0 0)) base m n (trimP T 2) ws ∧ Fr (DocB w base m) w (w2.setCell ⟨m, 0, none⟩ (.slice none 0 0)) ∧ IntRow (w2.setCell ⟨m, 0, none⟩ (.slice none 0 0)) A2 (allT T)) := hid (by
    refine ⟨⟨[], none, 0, S2.1, ?_⟩, ?_, ?_⟩
    · have e0 : 0 ∉ allT T := fun e => by have := hin.out 0 e; omega
      have e1 : 1 ∉ allT T := fun e => by have := hin.out 1 e; omega
      rw [trimP_succ, if_neg e1, trimP_succ, if_neg e0]; rfl
    · exact ((Fr.of_below hr.out.2.2).mono (fun _ e => e.elim)).trans' (S2.2.mono fun k e => ⟨by rw [e]; exact HD.out.low, .inl e⟩)
    · refine (IntRow.own hr.out.2.1).fr S2.2 fun k cs fr e he => ?_
      subst e
      rw [D2.own] at he; injection he with he; injection he with _ he _; exact absurd he (by decide))
  have KK : Hid (kk = (allT T).length) := hid hr.out.1
  clear hr D2 S2 CA
  go_wp2
  obtain ⟨w3, hw3⟩ : ∃ w3, w2.setCell ⟨m, 0, none⟩ (.slice none 0 0) = w3 := ⟨_, rfl⟩
  rw [hw3] at START ⊢
  clear hw3 c20 f20 e1
  go_loopw [6] (fun iv wr => ∃ j : Nat, iv = .int .i64 j ∧ 2 ≤ j ∧ j ≤ k + 1 ∧ Hid (DocW wr base m n (trimP T j) ws ∧ Fr (DocB w base m) w wr ∧ IntRow wr A2 (allT T))) (fun iv _ => k + 1 - (intOf iv).toNat)
  case atStart => exact ⟨2, rfl, Nat.le_refl _, by have := hk.out; omega, START⟩
  case round =>
    clear START
    obtain ⟨j, rfl, h2, hj, iv⟩ := hrel
    by_cases hjk : (j : Int) ≤ k
    · have JK : Hid (2 ≤ j ∧ j ≤ k ∧ k ≤ n ∧ n ≤ 4000) := hid (by have := hk.out; omega)
      have START2 : Hid (DocW wr base m n (if j ∈ (allT T).take 0 then giveV (trimP T j) j else trimP T j) ws ∧ Fr (DocB w base m) w wr ∧ IntRow wr A2 (allT T)) := hid (by rw [List.take_zero, if_neg (by simp)]; exact iv.out)
      clear iv h2 hj
      obtain ⟨wo, rfl⟩ : ∃ wo : World, wo = wr := ⟨_, rfl⟩
      go_wp2
      go_loopw [31] (fun iv wr => ∃ s : Nat, iv = .int .i64 s ∧ s ≤ kk ∧ Hid (DocW wr base m n (if j ∈ (allT T).take s then giveV (trimP T j) j else trimP T j) ws ∧ Fr (DocB w base m) w wr ∧ IntRow wr A2 (allT T))) (fun iv _ => kk - (intOf iv).toNat)
      case atStart => exact ⟨0, rfl, Nat.zero_le _, START2⟩
      case round =>
        clear START2
        obtain ⟨s, rfl, hs, iv⟩ := hrel
        by_cases hlt : (s : Int) < kk
        · obtain ⟨x, hx⟩ : ∃ x, (allT T)[s]? = some x := ⟨_, List.getElem?_eq_getElem (by have := KK.out; omega)⟩
          obtain ⟨ab, ao, rfl, hcx⟩ := iv.out.2.2.1 s (natCell x) (by rw [List.getElem?_map, hx]; rfl)
          unfold natCell at hcx
          have htk : (allT T).take (s + 1) = (allT T).take s ++ [x] := by rw [List.take_add_one, hx]; rfl
          have SK : Hid (s < kk ∧ kk < 100000) := hid ⟨by omega, by rw [KK.out]; exact hT.out⟩
          by_cases hxj : x = j
          · subst hxj
            have hnx : x ∉ (allT T).take s := by
              have h3 := hnd.out.sublist (List.take_sublist (s + 1) (allT T))
              rw [htk, List.nodup_append] at h3
              exact fun e => h3.2.2 x e x (List.mem_singleton.2 rfl) rfl
            have IV : Hid (DocW wr base m n (trimP T x) ws ∧ Fr (DocB w base m) w wr ∧ IntRow wr (some ⟨ab, ao, none⟩) (allT T)) := hid (by have := iv.out; rw [if_neg hnx] at this; exact this)
            have HIN : Hid (x ∈ (allT T).take (s + 1)) := hid (by rw [htk]; simp)
            have CG := dgive_calls wr base m n _ ws x (hid IV.out.1) (hid (by have := JK.out; omega)) (hid (Nat.le_trans hbs.out IV.out.2.1.size)) (hid (by have := trimP_len T x; have := JK.out; omega)) (hid (trimP_small T x))
            clear iv hx htk hnx hs
            go_wp2_with fail
            refine CG.mono ?_
            rintro en w8 ⟨rfl, hr⟩
            have NEXT : Hid (DocW w8 base m n (if x ∈ (allT T).take (s + 1) then giveV (trimP T x) x else trimP T x) ws ∧ Fr (DocB w base m) w w8 ∧ IntRow w8 (some ⟨ab, ao, none⟩) (allT T)) := hid (by
              rw [if_pos HIN.out]
              exact ⟨hr.out.1, fr_docs IV.out.2.1 hr.out.2, IV.out.2.2.fr hr.out.2 IV.out.1.notInt⟩)
            clear hr CG
            go_wp2
            go_roundw
            case rel => exact ⟨s + 1, by first | rfl | rw [wS (K := s + 1) (by have := SK.out; omega) rfl], SK.out.1, NEXT⟩
            case measure => have := SK.out; first | rw [wS (K := s + 1) (by omega) rfl] | skip
                            simp only [intOf]; omega
          · have hxi : ¬ (x : Int) = (j : Int) := by omega
            have NEXT : Hid (DocW wr base m n (if j ∈ (allT T).take (s + 1) then giveV (trimP T j) j else trimP T j) ws ∧ Fr (DocB w base m) w wr ∧ IntRow wr (some ⟨ab, ao, none⟩) (allT T)) := hid (by
              have e : (j ∈ (allT T).take (s + 1)) ↔ (j ∈ (allT T).take s) := by
                rw [htk, List.mem_append, List.mem_singleton]
                exact ⟨fun h => h.elim id (fun e => absurd e.symm hxj), .inl⟩
              have h9 := iv.out
              by_cases hm : j ∈ (allT T).take s
              · rw [if_pos hm] at h9
                rw [if_pos (e.2 hm)]
                exact h9
              · rw [if_neg hm] at h9
                rw [if_neg (fun h => hm (e.1 h))]
                exact h9)
            clear iv hx htk hs hxj
            go_wp2
            go_roundw
            case rel => exact ⟨s + 1, by first | rfl | rw [wS (K := s + 1) (by have := SK.out; omega) rfl], SK.out.1, NEXT⟩
            case measure => have := SK.out; first | rw [wS (K := s + 1) (by omega) rfl] | skip
                            simp only [intOf]; omega
        · have ht : (allT T).take s = allT T := List.take_of_length_le (by have := KK.out; omega)
          have NEXT : Hid (DocW wr base m n (trimP T (j + 1)) ws ∧ Fr (DocB w base m) w wr ∧ IntRow wr A2 (allT T)) := hid (by
            have h9 := iv.out
            rw [ht] at h9
            rw [trimP_succ]
            exact h9)
          clear iv ht hs
          go_wp2
          go_roundw
          case rel => exact ⟨j + 1, by first | rfl | rw [wS (K := j + 1) (by have := JK.out; omega) rfl], by have := JK.out; omega, by have := JK.out; omega, NEXT⟩
          case measure => have := JK.out; first | rw [wS (K := j + 1) (by omega) rfl] | skip
                          simp only [intOf]; omega
    · have hjk1 : j = k + 1 := by omega
      subst hjk1
      obtain ⟨D9, A9, c9, d9, e9⟩ := iv.out.1
      have c91 := d9.c1
      have f91 := d9.fz 1
      have S9 := d9.setOwn (i := 1) (v := .int .i64 k) (n' := k) (D' := D9) (ws' := ws) (A' := A9) (c' := c9) rfl d9.row (fun b off e => ⟨off, e⟩) d9.cap (fun d hd => hd)
      have RES : Hid (DocW (wr.setCell ⟨m, 1, none⟩ (.int .i64 k)) base m k (trimV T k) ws ∧ Fr (DocB w base m) w (wr.setCell ⟨m, 1, none⟩ (.int .i64 k))) := hid ⟨⟨D9, A9, c9, S9.1, e9⟩, iv.out.2.1.trans' (S9.2.mono fun b e => ⟨by rw [e]; exact HD.out.low, .inl e⟩)⟩
      clear iv d9 e9 S9 h2 hj
      go_wp2
      go_ret
      exact ⟨rfl, RES⟩
end Go.Proofs.YtbcghggkfnagoaaGreatDoor

namespace Go.Proofs.YtbcghggkfnagoaaGreatDoor
open Go Go.RowKit Go.Maps Hach

structure Qt (base : Nat) (w w' : World) : Prop where
  low : Below base w w'
  keep : ∀ (k : Nat) (cs : Array Value) (ty : TypeId) (fr : Nat × Nat), (ty = 3 ∨ ty = 101) → w.heap[k]? = some (.cells cs ty fr) → w'.heap[k]? = some (.cells cs ty fr)
section
variable {w w' w2 : World} {base m n n' : Nat} {X : HpX} {T T2 : List Trk} {W : Nat → Int} {U : Nat → List UInt8} {ws : List Value}
theorem Qt.refl (base : Nat) (w : World) : Qt base w w := ⟨Below.refl _ _, fun _ _ _ _ _ h => h⟩
theorem Qt.trans (h : Qt base w w') (k : Qt base w' w2) : Qt base w w2 := ⟨h.low.trans k.low, fun k0 cs ty fr ht hb => k.keep _ _ _ _ ht (h.keep _ _ _ _ ht hb)⟩
theorem Qt.up (hu : Up w w') (hb : base ≤ w.heap.size) : Qt base w w' := ⟨Below.mono hu hb, fun k cs ty fr _ hk => (hu.block k (blk_lt hk)).trans hk⟩
theorem HeapW.types (h : HeapW w X n T W U) : (∃ cs fr, w.heap[X.t]? = some (.cells cs 131 fr)) ∧ ∃ es cl, w.heap[X.m]? = some (.map es cl) := by
  obtain ⟨L, hp, _⟩ := h
  exact ⟨⟨_, _, hp.tran.tran⟩, hp.tran.map.isMap⟩
theorem HeapW.tyS (h : HeapW w X n T W U) : ∀ (k : Nat) (cs : Array Value) (ty : TypeId) (fr : Nat × Nat), HpS X k → w.heap[k]? = some (.cells cs ty fr) → ty = 131 := by
  obtain ⟨⟨cs', fr', ht⟩, es, cl, hm⟩ := h.types
  rintro k cs ty fr (rfl | rfl) hk
  · rw [ht] at hk; injection hk with hk; injection hk with _ hk _; exact hk.symm
  · rw [hm] at hk; cases hk
theorem Qt.heap (h : HeapW w X n T W U) (hf : Fr (HpS X) w w') (hl : base ≤ X.t ∧ base ≤ X.m ∧ base ≤ w.heap.size) : Qt base w w' :=
  ⟨hf.below hl.2.2 (fun k hk e => by rcases e with e | e <;> omega), fun k cs ty fr ht hk => (hf.block k (blk_lt hk) (fun e => by
    have := h.tyS k cs ty fr e hk
    rcases ht with rfl | rfl <;> exact absurd this (by decide))).trans hk⟩
theorem DocW.tyB (h : DocW w base m n T ws) : ∀ (k : Nat) (cs : Array Value) (ty : TypeId) (fr : Nat × Nat), DocB w base m k → w.heap[k]? = some (.cells cs ty fr) → ty = 99 ∨ ty = 186 := by
  obtain ⟨D, A, c, hd, _⟩ := h
  rintro k cs ty fr ⟨_, rfl | ⟨cs', hb⟩⟩ e
  · rw [hd.own] at e; injection e with e; injection e with _ e _; exact .inl e.symm
  · rw [hb] at e; injection e with e; injection e with _ e _; exact .inr e.symm
theorem DocW.cells (h : DocW w base m n T ws) : ∀ k, DocB w base m k → ∃ cs ty fr, w.heap[k]? = some (.cells cs ty fr) := by
  obtain ⟨D, A, c, hd, _⟩ := h
  rintro k ⟨_, rfl | ⟨cs', hb⟩⟩
  · exact ⟨_, _, _, hd.own⟩
  · exact ⟨_, _, _, hb⟩
theorem Qt.doc (h : DocW w base m n T ws) (hf : Fr (DocB w base m) w w') (hl : base ≤ w.heap.size) : Qt base w w' :=
  ⟨hf.below hl (fun k hk e => by have := e.1; omega), fun k cs ty fr ht hk => (hf.block k (blk_lt hk) (fun e => by
    have := h.tyB k cs ty fr e hk
    rcases ht with rfl | rfl <;> rcases this with this | this <;> exact absurd this (by decide))).trans hk⟩
theorem DocW.up (h : DocW w base m n T ws) (hu : Up w w') : DocW w' base m n T ws := by
  obtain ⟨D, A, c, hd, e⟩ := h
  exact ⟨D, A, c, hd.up hu, e⟩
theorem DocW.heap (h : DocW w base m n' T2 ws) (hh : HeapW w X n T W U) (hf : Fr (HpS X) w w') : DocW w' base m n' T2 ws := by
  obtain ⟨D, A, c, hd, e⟩ := h
  refine ⟨D, A, c, hd.fr hf fun k cs ty fr hs hk => ?_, e⟩
  have := hh.tyS k cs ty fr hs hk
  subst this
  exact ⟨by decide, by decide, by decide⟩
theorem HeapW.doc (h : HeapW w X n T W U) (hd : DocW w base m n' T2 ws) (hf : Fr (DocB w base m) w w') : HeapW w' X n T W U := by
  obtain ⟨L, hp, hs⟩ := h
  refine ⟨L, ?_, hs⟩
  have h1 := hp.own
  have h2 := hp.tran.tran
  have h3 : w.heap[X.p]? = some (.cells (pagerCs X.q (.pointer (some ⟨X.t, 0, none⟩)) false) 80 (0, 0)) := hp.tran.own
  obtain ⟨es, cl, hm⟩ := hp.tran.map.isMap
  have key : ∀ {k : Nat} {cs : Array Value} {t : TypeId} {fr : Nat × Nat}, w.heap[k]? = some (.cells cs t fr) → t ≠ 99 → t ≠ 186 → ¬ DocB w base m k := fun hk a b e => by
    rcases hd.tyB _ _ _ _ e hk with e | e
    · exact a e
    · exact b e
  have e1 := key h1 (by decide) (by decide)
  have e2 := key h2 (by decide) (by decide)
  have e3 := key h3 (by decide) (by decide)
  have e4 : ¬ DocB w base m X.m := fun e => by
    obtain ⟨cs, ty, fr, hc⟩ := hd.cells _ e
    rw [hm] at hc; cases hc
  refine ⟨(hf.block X.h (blk_lt h1) e1).trans h1, hp.tran.own.fr hf e3, (hf.block X.t (blk_lt h2) e2).trans h2, hp.tran.map.kept hf e4, fun y hy => ?_⟩
  have hr := hp.tran.rows y hy
  obtain ⟨cs, fr, hb⟩ := hr.row.1
  exact hr.fr hf (key hb (by decide) (by decide))
theorem IntRow.qt {A : Option Addr} {l : List Nat} (h : IntRow w A l) (hq : Qt base w w') : IntRow w' A l := by
  refine ⟨fun j u hj => ?_, fun b off e => ?_⟩
  · obtain ⟨b, off, e, hc⟩ := h.1 j u hj
    obtain ⟨cs, fr, hb⟩ := h.2 b off e
    have hb' := hq.keep b cs _ fr (.inl rfl) hb
    exact ⟨b, off, e, by rw [cell_of_row _ _ _ _ _ _ hb']; rw [cell_of_row _ _ _ _ _ _ hb] at hc; exact hc⟩
  · obtain ⟨cs, fr, hb⟩ := h.2 b off e
    exact ⟨cs, fr, hq.keep b cs _ fr (.inl rfl) hb⟩
def BoxA (w : World) (bx : Nat) (a b c : Int) : Prop := w.heap[bx]? = some (.cells #[.int .i64 a, .int .i64 b, .int .i64 c] 101 (0, 0))
theorem BoxA.qt {bx : Nat} {a b c : Int} (h : BoxA w bx a b c) (hq : Qt base w w') : BoxA w' bx a b c := hq.keep bx _ _ _ (.inr rfl) h
theorem BoxA.cells {bx : Nat} {a b c : Int} (h : BoxA w bx a b c) : w.cell? ⟨bx, 0, none⟩ = some (.int .i64 a) ∧ w.cell? ⟨bx, 1, none⟩ = some (.int .i64 b) ∧ w.cell? ⟨bx, 2, none⟩ = some (.int .i64 c) := by
  refine ⟨?_, ?_, ?_⟩ <;> (rw [cell_of_row _ _ _ _ _ _ h]; rfl)
end
structure ActI (w : World) (X : HpX) (base m n : Nat) (T : List Trk) (W : Nat → Int) (l : List Nat) (A : Option Addr) (k c : Nat) : Prop where
  heap : ∃ U, HeapW w X n T W U
  doc : DocW w base m n T (wordsC W)
  row : IntRow w A l
  len : l.length = k
  cap : k ≤ c
  nd : l.Nodup
  inn : ∀ x ∈ l, 2 ≤ x ∧ x ≤ n ∧ x ∉ allT T
  small : Small T
  low : base ≤ X.t ∧ base ≤ X.m ∧ base ≤ w.heap.size
section
variable {w w' : World} {X : HpX} {base m n : Nat} {T : List Trk} {W : Nat → Int} {l : List Nat} {A : Option Addr} {k c : Nat}
theorem ActI.tn (h : ActI w X base m n T W l A k c) : (allT T).Nodup ∧ (∀ x ∈ allT T, 2 ≤ x ∧ x ≤ n) ∧ 1 ≤ n := by
  obtain ⟨U, L, hp, hs⟩ := h.heap
  exact ⟨hs.nodup, hs.inn, hs.one⟩
theorem ActI.sizes (h : ActI w X base m n T W l A k c) : (allT T).length ≤ n ∧ k ≤ n := by
  have ht := h.tn
  refine ⟨allT_len ht.1 ht.2.1, ?_⟩
  have h1 := nodup_len n (l.map fun x => x - 1) (by
    rw [List.Nodup, List.pairwise_map]
    refine List.Pairwise.imp_of_mem ?_ h.nd
    intro a b ha hb hne e
    have := h.inn a ha; have := h.inn b hb
    exact hne (by omega)) (fun x hx => by
    obtain ⟨y, hy, rfl⟩ := List.mem_map.1 hx
    have := h.inn y hy; omega)
  rw [List.length_map, h.len] at h1
  exact h1
theorem ActI.up (h : ActI w X base m n T W l A k c) (hu : Up w w') : ActI w' X base m n T W l A k c := by
  obtain ⟨U, hU⟩ := h.heap
  exact ⟨⟨U, hU.up hu⟩, h.doc.up hu, h.row.up hu, h.len, h.cap, h.nd, h.inn, h.small, ⟨h.low.1, h.low.2.1, Nat.le_trans h.low.2.2 hu.size⟩⟩
end
def ActRet (w : World) (X : HpX) (base m n : Nat) (en : Ending) (w' : World) : Prop :=
  ∃ n' T' W' l' A' k' c', en = .returned (.tuple #[.slice A' k' c', .bool true]) ∧ Hid (ActI w' X base m n' T' W' l' A' k' c' ∧ Qt base w w' ∧ n' ≤ n + 1)
end Go.Proofs.YtbcghggkfnagoaaGreatDoor

namespace Go.Proofs.YtbcghggkfnagoaaGreatDoor
open Go Go.RowKit Go.Maps Hach

theorem takeV_facts (T : List Trk) (n : Nat) (hd : (allT T).Nodup) (hi : ∀ x ∈ allT T, 2 ≤ x ∧ x ≤ n) (h1 : 1 ≤ n) : (takeV T n).2.1 ≤ n + 1 ∧ n ≤ (takeV T n).2.1 ∧ 2 ≤ (takeV T n).1 ∧ (takeV T n).1 ≤ (takeV T n).2.1 ∧ (takeV T n).1 ∉ allT (takeV T n).2.2 ∧ (∀ x, x ∈ allT (takeV T n).2.2 → x ∈ allT T) ∧ ((takeV T n).1 ∈ allT T ∨ n < (takeV T n).1) := by
  match T, hd, hi with
  | [], _, _ => exact ⟨Nat.le_refl _, Nat.le_succ n, by show 2 ≤ n + 1; omega, Nat.le_refl _, by show n + 1 ∉ allT []; simp [allT], fun x hx => hx, .inr (Nat.lt_succ_self n)⟩
  | (f, ls) :: r, hd, hi =>
    cases hg : ls.getLast? with
    | none =>
      obtain rfl := List.getLast?_eq_none_iff.1 hg
      rw [show takeV ((f, []) :: r) n = (f, n, r) from rfl]
      rw [allT_cons] at hd hi ⊢
      have hf := hi f List.mem_cons_self
      have hd' := (List.nodup_cons.1 hd).1
      exact ⟨by show n ≤ n + 1; omega, Nat.le_refl _, hf.1, hf.2, hd', fun x hx => List.mem_cons_of_mem _ hx, .inl List.mem_cons_self⟩
    | some x =>
      have e := getLast_split hg
      rw [show takeV ((f, ls) :: r) n = (x, n, (f, ls.dropLast) :: r) by unfold takeV; simp only [hg]]
      obtain ⟨l0, hl0⟩ : ∃ l0, ls.dropLast = l0 := ⟨_, rfl⟩
      rw [hl0] at e ⊢
      subst e
      rw [allT_cons] at hd hi ⊢
      rw [allT_cons]
      simp only [List.append_assoc, List.singleton_append] at hd hi ⊢
      have hx := hi x (by simp)
      refine ⟨by omega, Nat.le_refl _, hx.1, hx.2, ?_, fun y hy => ?_, .inl (by simp)⟩
      · have hp : (f :: (l0 ++ x :: allT r)).Perm (x :: (f :: (l0 ++ allT r))) := (List.Perm.cons _ List.perm_middle).trans (List.Perm.swap _ _ _)
        exact (List.nodup_cons.1 (hp.nodup_iff.1 hd)).1
      · simp only [List.mem_cons, List.mem_append] at hy ⊢
        rcases hy with hy | hy | hy
        · exact .inl hy
        · exact .inr (.inl hy)
        · exact .inr (.inr (.inr hy))
set_option maxRecDepth 100000 in
set_option maxHeartbeats 4000000 in
theorem act0_calls (w : World) (X : HpX) (base m n : Nat) (T : List Trk) (W : Nat → Int) (l : List Nat) (A : Option Addr) (k c : Nat) (b d : Int) (h : Hid (ActI w X base m n T W l A k c)) (hn : Hid (n < 3000)) :
    Calls Tryz.prog 55 #[.pointer (some ⟨X.h, 0, none⟩), .pointer (some ⟨m, 0, none⟩), .slice A k c, .agg #[.int .i64 0, .int .i64 b, .int .i64 d]] w (ActRet w X base m n) := by
  obtain ⟨w1, hw1⟩ : ∃ x, w.alloc (.cells #[.int .i64 0, .int .i64 b, .int .i64 d] 101) = x := ⟨_, rfl⟩
  obtain ⟨bx, hbx⟩ : ∃ b, w.heap.size = b := ⟨_, rfl⟩
  have u1 : Up w w1 := by rw [← hw1]; exact upAlD (Up.refl w) _
  have hb1 : BoxA w1 bx 0 b d := by rw [← hw1, ← hbx]; exact heap_alloc_new w _
  obtain ⟨c0, c1, c2⟩ := hb1.cells
  have U1 := hid u1
  have H1 := hid (h.out.up u1)
  have LW : Hid (base ≤ w.heap.size) := hid h.out.low.2.2
  obtain ⟨U, hU⟩ := H1.out.heap
  obtain ⟨f1, f2, f3, f4, f5, f6, f7⟩ := takeV_facts T n H1.out.tn.1 H1.out.tn.2.1 H1.out.tn.2.2
  have CT := takeH_calls w1 X n T W U (hid hU) (hid (by have := hn.out; omega))
  obtain ⟨x, hx⟩ : ∃ x, (takeV T n).1 = x := ⟨_, rfl⟩
  obtain ⟨n', hn'⟩ : ∃ x, (takeV T n).2.1 = x := ⟨_, rfl⟩
  obtain ⟨T', hT'⟩ : ∃ x, (takeV T n).2.2 = x := ⟨_, rfl⟩
  have CD : ∀ w', DocW w' base m n T (wordsC W) → Calls _ _ _ w' _ := fun w' hd => dtake_calls w' base m n T (wordsC W) (hid hd) (hid (by have := hn.out; omega)) (hid (by have := H1.out.sizes; have := hn.out; omega))
  unfold TakeH at CT
  have HT : Hid (Small T') := hid (by rw [← hT']; exact takeV_small H1.out.small n)
  rw [hx, hn', hT'] at CT CD
  rw [hx, hn'] at f4
  rw [hx, hT'] at f5
  rw [hx] at f3 f7
  rw [hn'] at f1 f2
  rw [hT'] at f6
  have FX := hid (And.intro f1 (And.intro f2 (And.intro f3 (And.intro f4 (And.intro f5 (And.intro f6 f7))))))
  have KB : Hid (k ≤ 3000) := hid (by have := H1.out.sizes; have := hn.out; omega)
  have HU := hid hU
  clear f1 f2 f3 f4 f5 f6 f7 hx hn' hT' u1 hb1 hU h
  go_enter Tryz.func55, Tryz.ntmps55
  go_wp2_with fail
  refine CT.mono ?_
  rintro en w2 ⟨rfl, hr⟩
  have Q2 : Hid (Qt base w1 w2) := hid (Qt.heap HU.out hr.out.2 H1.out.low)
  have D2 := hid (H1.out.doc.heap HU.out hr.out.2)
  have H2 := hid hr.out.1
  have R2 := hid (H1.out.row.qt Q2.out)
  have B2 : Hid (base ≤ w2.heap.size) := hid (Nat.le_trans H1.out.low.2.2 hr.out.2.size)
  have u3 := upAlD (Up.refl w2) (.cells #[] 3)
  have o3 := own_lit0 w2 w2.heap.size 3 1 (Nat.le_refl _)
  have R3 := hid (R2.out.1.grown u3)
  have U3 := hid u3
  clear hr CT u3 c0 c1 c2
  go_wp2_with (at_builtin; refine hold ?_)
  refine hid (wl_append elemIN rfl (.tmp 27) (.tmp 28) rfl rfl o3 rfl R3.out (by rw [List.length_map, H1.out.len, Nat.mul_one]) (natCell_one _) (by have := KB.out; simp only [maxLen]; omega) (by have := KB.out; omega) U3.out.size ?_)
  intro A4 c4 w4 o4 g4 d4
  rw [Nat.zero_add] at o4 ⊢
  have U4 : Hid (Up w2 w4) := hid (below_append U3.out (Nat.le_refl _) U3.out.size o3 g4)
  have o5 := World.ownsRow.alloc o4 (.cells #[.int .i64 x] 3)
  have U5 : Hid (Up w2 (w4.alloc (.cells #[.int .i64 x] 3))) := hid (U4.out.t (upAlD (Up.refl w4) _))
  clear o3 o4 g4 d4
  go_wp2_with (at_builtin; refine hold ?_)
  refine hid (wl_append elemIN rfl (.tmp 29) (.tmp 31) rfl rfl o5 rfl (Rd.new w4 3 (0, 0) [.int .i64 x]) rfl (by simp [Value.oneCell']) (by have := KB.out; simp only [maxLen]; omega) (by have := KB.out; omega) U5.out.size ?_)
  intro A6 c6 w6 o6 g6 d6
  have U6 : Hid (Up w2 w6) := hid (below_append U5.out (Nat.le_refl _) U5.out.size o5 g6)
  have O6 := hid o6
  clear o5 o6 g6 d6
  go_wp2_with fail
  refine (CD w6 (D2.out.up U6.out)).mono ?_
  rintro en w7 ⟨rfl, hr⟩
  have Q7 : Hid (Qt base w6 w7) := hid (Qt.doc (D2.out.up U6.out) hr.out.2 (Nat.le_trans B2.out U6.out.size))
  have RES : Hid (ActI w7 X base m n' T' W (l ++ [x]) A6 (k + 1) c6 ∧ Qt base w w7 ∧ n' ≤ n + 1) := hid (by
    obtain ⟨f1, f2, f3, f4, f5, f6, f7⟩ := FX.out
    refine ⟨⟨⟨_, (H2.out.up U6.out).doc (D2.out.up U6.out) hr.out.2⟩, hr.out.1, ?_, by rw [List.length_append, H1.out.len]; rfl, ?_, ?_, fun z hz => ?_, HT.out, ⟨H1.out.low.1, H1.out.low.2.1, Nat.le_trans (Nat.le_trans B2.out U6.out.size) hr.out.2.size⟩⟩, ?_, f1⟩
    · have h6 := O6.out
      have e : (l.map natCell ++ [natCell x]) = (l ++ [x]).map natCell := by rw [List.map_append]; rfl
      have h7 : w6.ownsRow w2.heap.size 3 1 (.slice A6 (k + 1) c6) (k + 1) ((l ++ [x]).map natCell) := by rw [← e]; exact h6
      exact (IntRow.own h7).qt Q7.out
    · obtain ⟨_, _, e, h9⟩ := own_form O6.out
      injection e with _ _ e; omega
    · rw [List.nodup_append]
      refine ⟨H1.out.nd, by simp, fun p hp q hq e => ?_⟩
      rw [List.mem_singleton.1 hq] at e
      subst e
      have := H1.out.inn p hp
      rcases f7 with f7 | f7
      · exact this.2.2 f7
      · omega
    · rcases List.mem_append.1 hz with hz | hz
      · have := H1.out.inn z hz
        exact ⟨this.1, by omega, fun e => this.2.2 (f6 z e)⟩
      · rw [List.mem_singleton.1 hz]; exact ⟨f3, f4, f5⟩
    · exact (((Qt.up U1.out LW.out).trans Q2.out).trans (Qt.up U6.out B2.out)).trans Q7.out)
  clear hr
  go_wp2
  go_ret2
  exact ⟨n', T', W, l ++ [x], A6, k + 1, c6, rfl, RES⟩
end Go.Proofs.YtbcghggkfnagoaaGreatDoor

namespace Go.Proofs.YtbcghggkfnagoaaGreatDoor
open Go Go.RowKit Go.Maps Hach

theorem wordsC_at (W : Nat → Int) {i : Nat} (h : i < 60) : (wordsC W)[i]? = some (.int .i64 (W i)) := by
  unfold wordsC
  rw [List.getElem?_map, List.getElem?_range h]; rfl
theorem wordsC_set (W : Nat → Int) {i : Nat} (h : i < 60) (N : Int) : (wordsC W).set i (.int .i64 N) = wordsC (updW W i N) := by
  apply List.ext_getElem?
  intro j
  by_cases hj : j < 60
  · rw [wordsC_at _ hj]
    unfold updW
    by_cases e : j = i
    · subst e
      rw [if_pos rfl, List.getElem?_set_self (by unfold wordsC; simpa using hj)]
    · rw [if_neg e, List.getElem?_set_ne (fun h => e h.symm), wordsC_at _ hj]
  · rw [List.getElem?_eq_none (by unfold wordsC; simp; omega), List.getElem?_eq_none (by unfold wordsC; simp; omega)]
theorem docCs_word (lv : Value) (n : Int) (W : Nat → Int) {i : Nat} (h : i < 60) (N : Int) : (docCs lv n (wordsC W)).setIfInBounds (2 + i) (.int .i64 N) = docCs lv n (wordsC (updW W i N)) := by
  unfold docCs
  rw [← wordsC_set W h N, List.setIfInBounds_toArray, show 2 + i = i + 1 + 1 by omega]; rfl
theorem DocAt.word {w : World} {base m : Nat} {n : Int} {D : List DT} {W : Nat → Int} {A : Option Addr} {c : Nat} (h : DocAt w base m n D (wordsC W) A c) {i : Nat} (hi : i < 60) : w.cell? ⟨m, 2 + i, none⟩ = some (.int .i64 (W i)) := by
  rw [cell_of_row _ _ _ _ _ _ h.own]
  unfold docCs
  rw [List.getElem?_toArray, show 2 + i = i + 1 + 1 by omega]
  exact wordsC_at W hi
section
variable (w : World) (X : HpX) (base m n : Nat) (T : List Trk) (W : Nat → Int) (l : List Nat) (A : Option Addr) (k c : Nat)
theorem ActI.same {w w' : World} {X : HpX} {base m n : Nat} {T : List Trk} {W : Nat → Int} {l : List Nat} {A : Option Addr} {k c : Nat} (h : ActI w X base m n T W l A k c) (hu : Up w w') : ActI w' X base m n T W l A k c ∧ Qt base w w' ∧ n ≤ n + 1 := ⟨h.up hu, Qt.up hu h.low.2.2, Nat.le_succ n⟩
set_option maxRecDepth 100000 in
set_option maxHeartbeats 4000000 in
theorem act4_calls (b d : Int) (h : Hid (ActI w X base m n T W l A k c)) (hn : Hid (n < 3000)) :
    Calls Tryz.prog 55 #[.pointer (some ⟨X.h, 0, none⟩), .pointer (some ⟨m, 0, none⟩), .slice A k c, .agg #[.int .i64 4, .int .i64 b, .int .i64 d]] w (ActRet w X base m n) := by
  obtain ⟨w1, hw1⟩ : ∃ x, w.alloc (.cells #[.int .i64 4, .int .i64 b, .int .i64 d] 101) = x := ⟨_, rfl⟩
  obtain ⟨bx, hbx⟩ : ∃ b, w.heap.size = b := ⟨_, rfl⟩
  have u1 : Up w w1 := by rw [← hw1]; exact upAlD (Up.refl w) _
  have hb1 : BoxA w1 bx 4 b d := by rw [← hw1, ← hbx]; exact heap_alloc_new w _
  obtain ⟨c0, c1, c2⟩ := hb1.cells
  have U1 := hid u1
  have H1 := hid (h.out.up u1)
  obtain ⟨U, hU⟩ := H1.out.heap
  have HU := hid hU
  have HB := hid hb1
  by_cases hb : b < 0 ∨ 60 ≤ b
  · have CW := wordBad_calls w1 X n T W U b HU (hid (by have := hn.out; omega)) (hid hb)
    rcases hb with hb | hb
    all_goals
      clear hU hb1 u1
      go_enter Tryz.func55, Tryz.ntmps55
      go_wp2_with fail
      refine CW.mono ?_
      rintro en w2 ⟨rfl, hr⟩
      obtain ⟨d0, d1, d2⟩ := (HB.out.qt (Qt.up hr.out H1.out.low.2.2)).cells
      go_wp2
      have RES := hid (h.out.same (U1.out.t hr.out))
      clear hr CW d0 d1 d2 c0 c1 c2
      go_ret2
      exact ⟨n, T, W, l, A, k, c, rfl, RES⟩
  · obtain ⟨i, rfl⟩ : ∃ i : Nat, b = i := ⟨b.toNat, by omega⟩
    have hi : i < 60 := by omega
    have CW := word_calls w1 X n T W U i HU (hid (by have := hn.out; omega)) (hid hi)
    have i0 : ¬ (i : Int) < 0 := by omega
    have i6 : ¬ 60 ≤ (i : Int) := by omega
    have i7 : (i : Int) < 60 := by omega
    have i8 : i < 60 := hi
    obtain ⟨V, hV⟩ : ∃ V, W i = V := ⟨_, rfl⟩
    rw [hV] at CW
    have HV := hid hV
    clear hU hb1 u1 hb hi hV
    go_enter Tryz.func55, Tryz.ntmps55
    go_wp2_with fail
    refine CW.mono ?_
    rintro en w2 ⟨rfl, hr⟩
    obtain ⟨d0, d1, d2⟩ := (HB.out.qt (Qt.up hr.out H1.out.low.2.2)).cells
    have dw : w2.cell? ⟨m, 2 + i, none⟩ = some (.int .i64 V) := by
      obtain ⟨D, A9, c9, hd, _⟩ := (H1.out.doc.up hr.out)
      rw [hd.word i8, HV.out]
    have U2 := hid (U1.out.t hr.out)
    clear hr CW c0 c1 c2
    go_wp2
    go_quiet (fail)
    have RES := hid (h.out.same (U2.out.t (Fr.below ((Fr.refl No w2).drewN nq) (Nat.le_refl _) (fun _ _ h => h))))
    clear d0 d1 d2 dw
    go_wp2
    go_ret2
    exact ⟨n, T, W, l, A, k, c, rfl, RES⟩
set_option maxRecDepth 100000 in
set_option maxHeartbeats 4000000 in
theorem act2_calls (b d : Int) (h : Hid (ActI w X base m n T W l A k c)) (hn : Hid (n < 3000)) (hd : Hid ((Lit.int .i64 d).wf = true)) :
    Calls Tryz.prog 55 #[.pointer (some ⟨X.h, 0, none⟩), .pointer (some ⟨m, 0, none⟩), .slice A k c, .agg #[.int .i64 2, .int .i64 b, .int .i64 d]] w (ActRet w X base m n) := by
  obtain ⟨w1, hw1⟩ : ∃ x, w.alloc (.cells #[.int .i64 2, .int .i64 b, .int .i64 d] 101) = x := ⟨_, rfl⟩
  obtain ⟨bx, hbx⟩ : ∃ b, w.heap.size = b := ⟨_, rfl⟩
  have u1 : Up w w1 := by rw [← hw1]; exact upAlD (Up.refl w) _
  have hb1 : BoxA w1 bx 2 b d := by rw [← hw1, ← hbx]; exact heap_alloc_new w _
  obtain ⟨c0, c1, c2⟩ := hb1.cells
  have U1 := hid u1
  have H1 := hid (h.out.up u1)
  obtain ⟨U, hU⟩ := H1.out.heap
  have HU := hid hU
  have HB := hid hb1
  by_cases hb : b < 0 ∨ 60 ≤ b
  · have CW := setBad_calls w1 X n T W U b d HU (hid (by have := hn.out; omega)) (hid hb)
    rcases hb with hb | hb
    all_goals
      clear hU hb1 u1
      go_enter Tryz.func55, Tryz.ntmps55
      go_wp2_with fail
      refine CW.mono ?_
      rintro en w2 ⟨rfl, hr⟩
      have RES := hid (h.out.same (U1.out.t hr.out))
      clear hr CW
      go_wp2
      go_ret2
      exact ⟨n, T, W, l, A, k, c, rfl, RES⟩
  · obtain ⟨i, rfl⟩ : ∃ i : Nat, b = i := ⟨b.toNat, by omega⟩
    have hi : i < 60 := by omega
    have i0 : ¬ (i : Int) < 0 := by omega
    have i6 : ¬ 60 ≤ (i : Int) := by omega
    have i7 : (i : Int) < 60 := by omega
    have i8 : i < 60 := hi
    clear hU hb1 u1 hb hi
    go_enter Tryz.func55, Tryz.ntmps55
    go_wp2
    obtain ⟨V, hV⟩ : ∃ V, W i = V := ⟨_, rfl⟩
    have HV := hid hV
    clear hV
    have US : BoxA w1.drew bx 2 (i : Int) d ∧ w1.drew.cell? ⟨m, 2 + i, none⟩ = some (.int .i64 V) ∧ w1.drew.frozen? ⟨m, 2 + i, none⟩ = false := by
      obtain ⟨D, A9, c9, hd9, _⟩ := H1.out.doc
      exact ⟨HB.out, by rw [← HV.out]; exact hd9.word i8, hd9.fz (2 + i)⟩
    refine t_start (fun w9 => BoxA w9 bx 2 (i : Int) d ∧ w9.cell? ⟨m, 2 + i, none⟩ = some (.int .i64 V) ∧ w9.frozen? ⟨m, 2 + i, none⟩ = false) 8 (by kernel_rfl) ?_
    refine t_tk 0 97 (v := ?_) US (fun w9 hS => ?_) ?_
    rotate_left
    · go_simp <;> with_reducible rfl
    try simp only [pz]
    refine t_tk 1 98 (v := ?_) US (fun w9 hS => ?_) ?_
    rotate_left
    · go_simp <;> with_reducible rfl
    try simp only [pz]
    refine t_tk 2 99 (v := ?_) US (fun w9 hS => ?_) ?_
    rotate_left
    · obtain ⟨s0, s1, s2⟩ := hS.1.cells; go_simp <;> with_reducible rfl
    try simp only [pz]
    refine t_tk 3 100 (v := ?_) US (fun w9 hS => ?_) ?_
    rotate_left
    · go_simp <;> with_reducible rfl
    try simp only [pz]
    refine t_tk 4 101 (v := ?_) US (fun w9 hS => ?_) ?_
    rotate_left
    · obtain ⟨s0, s1, s2⟩ := hS.1.cells; go_simp <;> with_reducible rfl
    try simp only [pz]
    refine t_op 5 (by kernel_rfl) rfl (by rfl) (fun K9 hK9 => ?_)
    go_simp
    refine hK9.out _ _ US ?_
    clear hK9 K9
    try simp only [pz]
    refine t_op 6 (by kernel_rfl) rfl (by rfl) (fun K9 hK9 => ?_)
    go_simp
    refine hK9.out _ _ US ?_
    clear hK9 K9
    try simp only [pz]
    refine t_tk 7 104 (v := ?_) US (fun w9 hS => ?_) ?_
    rotate_left
    · go_simp <;> with_reducible rfl
    try simp only [pz]
    refine t_last (by kernel_rfl) rfl (by rfl) (fun K9 hK9 => ?_)
    obtain ⟨_, s8, s9⟩ := US
    go_simp
    refine hK9.out _ _ ?_
    clear hK9 K9
    try simp only [pz]
    refine t_done (by kernel_rfl) ?_
    obtain ⟨w2, hw2⟩ : ∃ w2, (w1.setCell ⟨m, 2 + i, none⟩ (.int .i64 d)).drew = w2 := ⟨_, rfl⟩
    have STEP : Hid (DocW w2 base m n T (wordsC (updW W i d)) ∧ Fr (DocB w1 base m) w1 w2) := hid (by
      obtain ⟨D, A9, c9, hd9, e9⟩ := H1.out.doc
      have S9 := hd9.setOwn (i := 2 + i) (v := .int .i64 d) (n' := n) (D' := D) (ws' := wordsC (updW W i d)) (A' := A9) (c' := c9) (docCs_word _ _ _ i8 _) hd9.row (fun b off e => ⟨off, e⟩) hd9.cap (fun d hd => hd)
      have f9 := (hd9.frm S9.2).drew
      rw [hw2] at f9
      refine ⟨⟨D, A9, c9, ?_, e9⟩, f9⟩
      rw [← hw2]
      exact S9.1.up (Up.drew _))
    rw [hw2]
    have H2 := hid (HU.out.doc H1.out.doc STEP.out.2)
    have Q2 := hid (Qt.doc H1.out.doc STEP.out.2 H1.out.low.2.2)
    have CS := set_calls w2 X n T W U i d H2 (hid (by have := hn.out; omega)) (hid i8) hd
    obtain ⟨d0, d1, d2⟩ := (HB.out.qt Q2.out).cells
    clear hw2 c0 c1 c2
    go_wp2_with fail
    refine CS.mono ?_
    rintro en w3 ⟨rfl, hr⟩
    have RES : Hid (ActI w3 X base m n T (updW W i d) l A k c ∧ Qt base w w3 ∧ n ≤ n + 1) := hid (by
      have hlow2 : base ≤ w2.heap.size := Nat.le_trans H1.out.low.2.2 STEP.out.2.size
      have Q3 := Qt.heap H2.out hr.out.2 ⟨H1.out.low.1, H1.out.low.2.1, hlow2⟩
      exact ⟨⟨⟨U, hr.out.1⟩, STEP.out.1.heap H2.out hr.out.2, (H1.out.row.qt Q2.out).qt Q3, H1.out.len, H1.out.cap, H1.out.nd, H1.out.inn, H1.out.small, ⟨H1.out.low.1, H1.out.low.2.1, Nat.le_trans hlow2 hr.out.2.size⟩⟩, ((Qt.up U1.out h.out.low.2.2).trans Q2.out).trans Q3, Nat.le_succ n⟩)
    clear hr CS d0 d1 d2
    go_wp2
    go_ret2
    exact ⟨n, T, updW W i d, l, A, k, c, rfl, RES⟩
end
end Go.Proofs.YtbcghggkfnagoaaGreatDoor

namespace Go.Proofs.YtbcghggkfnagoaaGreatDoor
open Go Go.RowKit Go.Maps Hach

section
variable (w : World) (X : HpX) (base m n : Nat) (T : List Trk) (W : Nat → Int) (l : List Nat) (A : Option Addr) (k c : Nat)
set_option maxRecDepth 100000 in
set_option maxHeartbeats 4000000 in
theorem act5_calls (a b d : Int) (h : Hid (ActI w X base m n T W l A k c)) (hn : Hid (n < 3000)) (ha : Hid (a ≠ 0 ∧ a ≠ 1 ∧ a ≠ 2 ∧ a ≠ 3 ∧ a ≠ 4)) :
    Calls Tryz.prog 55 #[.pointer (some ⟨X.h, 0, none⟩), .pointer (some ⟨m, 0, none⟩), .slice A k c, .agg #[.int .i64 a, .int .i64 b, .int .i64 d]] w (ActRet w X base m n) := by
  obtain ⟨w1, hw1⟩ : ∃ x, w.alloc (.cells #[.int .i64 a, .int .i64 b, .int .i64 d] 101) = x := ⟨_, rfl⟩
  obtain ⟨bx, hbx⟩ : ∃ b, w.heap.size = b := ⟨_, rfl⟩
  have u1 : Up w w1 := by rw [← hw1]; exact upAlD (Up.refl w) _
  have hb1 : BoxA w1 bx a b d := by rw [← hw1, ← hbx]; exact heap_alloc_new w _
  obtain ⟨c0, c1, c2⟩ := hb1.cells
  have U1 := hid u1
  have H1 := hid (h.out.up u1)
  obtain ⟨U, hU⟩ := H1.out.heap
  have HU := hid hU
  have HB := hid hb1
  obtain ⟨a0, a1, a2, a3, a4⟩ := ha.out
  have CN : Hid (w1.cell? ⟨m, 1, none⟩ = some (.int .i64 n)) := hid (by obtain ⟨D, A9, c9, hd9, _⟩ := H1.out.doc; exact hd9.c1)
  have cn := CN.out
  clear hU hb1 u1
  by_cases hb2 : b < 2
  · have CW := fun w' hu => giveBad_calls w' X n T W U b (hid (HU.out.up (w' := w') hu)) (hid (by have := hn.out; omega)) (hid (.inl (by omega)))
    have hd0 : decide (2 ≤ b) = false := decide_eq_false (by omega)
    go_enter Tryz.func55, Tryz.ntmps55
    go_wp2
    have US : Up w1 w1.drew := Up.drew w1
    refine s_start (fun w9 => Up w1 w9) (by kernel_rfl) ?_
    refine s_tk 0 175 (v := ?_) US (fun w9 hS => ?_) ?_
    rotate_left
    · go_simp <;> with_reducible rfl
    try simp only [pz]
    refine s_tk 1 176 (v := ?_) US (fun w9 hS => ?_) ?_
    rotate_left
    · go_simp <;> with_reducible rfl
    try simp only [pz]
    refine s_tk 2 177 (v := ?_) US (fun w9 hS => ?_) ?_
    rotate_left
    · have s1 := hS.c c1; go_simp <;> with_reducible rfl
    try simp only [pz]
    refine s_tk 3 178 (v := ?_) US (fun w9 hS => ?_) ?_
    rotate_left
    · go_simp <;> with_reducible rfl
    try simp only [pz]
    refine s_tk 4 179 (v := ?_) US (fun w9 hS => ?_) ?_
    rotate_left
    · go_simp <;> with_reducible rfl
    try simp only [pz]
    refine s_skip 5 (some 180) US rfl rfl (by kernel_rfl) (by kernel_rfl) (by kernel_rfl) (fun _ _ _ h => h) (by rfl) ?_
    try simp only [pz]
    refine s_skip 6 (some 181) US rfl rfl (by kernel_rfl) (by kernel_rfl) (by kernel_rfl) (fun _ _ _ h => h) (by rfl) ?_
    try simp only [pz]
    refine s_skip 7 (some 182) US rfl rfl (by kernel_rfl) (by kernel_rfl) (by kernel_rfl) (fun _ _ _ h => h) (by rfl) ?_
    try simp only [pz]
    refine s_skip 8 (some 183) US rfl rfl (by kernel_rfl) (by kernel_rfl) (by kernel_rfl) (fun _ _ _ h => h) (by rfl) ?_
    try simp only [pz]
    refine s_skip 9 (some 184) US rfl rfl (by kernel_rfl) (by kernel_rfl) (by kernel_rfl) (fun _ _ _ h => h) (by rfl) ?_
    try simp only [pz]
    refine s_skip 10 (some 185) US rfl rfl (by kernel_rfl) (by kernel_rfl) (by kernel_rfl) (fun _ _ _ h => h) (by rfl) ?_
    try simp only [pz]
    refine s_skip 11 (some 186) US rfl rfl (by kernel_rfl) (by kernel_rfl) (by kernel_rfl) (fun _ _ _ h => h) (by rfl) ?_
    try simp only [pz]
    refine s_tk 12 187 (v := ?_) US (fun w9 hS => ?_) ?_
    rotate_left
    · go_simp <;> with_reducible rfl
    try simp only [pz]
    refine s_tk 13 188 (v := ?_) US (fun w9 hS => ?_) ?_
    rotate_left
    · go_simp <;> with_reducible rfl
    try simp only [pz]
    refine s_tk 14 189 (v := ?_) US (fun w9 hS => ?_) ?_
    rotate_left
    · go_simp <;> with_reducible rfl
    try simp only [pz]
    refine s_tk 15 190 (v := ?_) US (fun w9 hS => ?_) ?_
    rotate_left
    · go_simp <;> with_reducible rfl
    try simp only [pz]
    refine s_tk 16 191 (v := ?_) US (fun w9 hS => ?_) ?_
    rotate_left
    · have s1 := hS.c c1; go_simp <;> with_reducible rfl
    try simp only [pz]
    refine s_op 17 (by kernel_rfl) rfl (by rfl) (fun K9 hK9 => ?_)
    go_simp
    refine (CW _ US).mono ?_
    rintro en w2 ⟨rfl, hr⟩
    replace US : Up w1 w2 := US.t hr.out
    have RES := hid (h.out.same (U1.out.t US))
    clear hr
    refine hK9.out _ _ US ?_
    clear hK9 K9
    try simp only [pz]
    refine s_tk 18 193 (v := ?_) US (fun w9 hS => ?_) ?_
    rotate_left
    · go_simp <;> with_reducible rfl
    try simp only [pz]
    refine s_tk 19 194 (v := ?_) US (fun w9 hS => ?_) ?_
    rotate_left
    · go_simp <;> with_reducible rfl
    try simp only [pz]
    refine s_tk 20 8 (v := ?_) US (fun w9 hS => ?_) ?_
    rotate_left
    · go_simp <;> with_reducible rfl
    try simp only [pz]
    refine s_tk 21 9 (v := ?_) US (fun w9 hS => ?_) ?_
    rotate_left
    · go_simp <;> with_reducible rfl
    try simp only [pz]
    refine s_done (by kernel_rfl) ?_
    clear US CW
    go_wp2
    go_ret2
    exact ⟨n, T, W, l, A, k, c, rfl, RES⟩
  · by_cases hbn : (n : Int) < b
    · have CW := fun w' hu => giveBad_calls w' X n T W U b (hid (HU.out.up (w' := w') hu)) (hid (by have := hn.out; omega)) (hid (.inr hbn))
      have hd0 : decide (2 ≤ b) = true := decide_eq_true (by omega)
      have hd1 : decide (b ≤ (n : Int)) = false := decide_eq_false (by omega)
      go_enter Tryz.func55, Tryz.ntmps55
      go_wp2
      have US : Up w1 w1.drew := Up.drew w1
      refine s_start (fun w9 => Up w1 w9) (by kernel_rfl) ?_
      refine s_tk 0 175 (v := ?_) US (fun w9 hS => ?_) ?_
      rotate_left
      · go_simp <;> with_reducible rfl
      try simp only [pz]
      refine s_tk 1 176 (v := ?_) US (fun w9 hS => ?_) ?_
      rotate_left
      · go_simp <;> with_reducible rfl
      try simp only [pz]
      refine s_tk 2 177 (v := ?_) US (fun w9 hS => ?_) ?_
      rotate_left
      · have s1 := hS.c c1; go_simp <;> with_reducible rfl
      try simp only [pz]
      refine s_tk 3 178 (v := ?_) US (fun w9 hS => ?_) ?_
      rotate_left
      · go_simp <;> with_reducible rfl
      try simp only [pz]
      refine s_tk 4 179 (v := ?_) US (fun w9 hS => ?_) ?_
      rotate_left
      · go_simp <;> with_reducible rfl
      try simp only [pz]
      refine s_tk 5 180 (v := ?_) US (fun w9 hS => ?_) ?_
      rotate_left
      · go_simp <;> with_reducible rfl
      try simp only [pz]
      refine s_tk 6 181 (v := ?_) US (fun w9 hS => ?_) ?_
      rotate_left
      · have s1 := hS.c c1; go_simp <;> with_reducible rfl
      try simp only [pz]
      refine s_tk 7 182 (v := ?_) US (fun w9 hS => ?_) ?_
      rotate_left
      · go_simp <;> with_reducible rfl
      try simp only [pz]
      refine s_tk 8 183 (v := ?_) US (fun w9 hS => ?_) ?_
      rotate_left
      · go_simp <;> with_reducible rfl
      try simp only [pz]
      refine s_tk 9 184 (v := ?_) US (fun w9 hS => ?_) ?_
      rotate_left
      · go_simp <;> with_reducible rfl
      try simp only [pz]
      refine s_tk 10 185 (v := ?_) US (fun w9 hS => ?_) ?_
      rotate_left
      · have s1 := hS.c cn; go_simp <;> with_reducible rfl
      try simp only [pz]
      refine s_tk 11 186 (v := ?_) US (fun w9 hS => ?_) ?_
      rotate_left
      · go_simp <;> with_reducible rfl
      try simp only [pz]
      refine s_tk 12 187 (v := ?_) US (fun w9 hS => ?_) ?_
      rotate_left
      · go_simp <;> with_reducible rfl
      try simp only [pz]
      refine s_tk 13 188 (v := ?_) US (fun w9 hS => ?_) ?_
      rotate_left
      · go_simp <;> with_reducible rfl
      try simp only [pz]
      refine s_tk 14 189 (v := ?_) US (fun w9 hS => ?_) ?_
      rotate_left
      · go_simp <;> with_reducible rfl
      try simp only [pz]
      refine s_tk 15 190 (v := ?_) US (fun w9 hS => ?_) ?_
      rotate_left
      · go_simp <;> with_reducible rfl
      try simp only [pz]
      refine s_tk 16 191 (v := ?_) US (fun w9 hS => ?_) ?_
      rotate_left
      · have s1 := hS.c c1; go_simp <;> with_reducible rfl
      try simp only [pz]
      refine s_op 17 (by kernel_rfl) rfl (by rfl) (fun K9 hK9 => ?_)
      go_simp
      refine (CW _ US).mono ?_
      rintro en w2 ⟨rfl, hr⟩
      replace US : Up w1 w2 := US.t hr.out
      have RES := hid (h.out.same (U1.out.t US))
      clear hr
      refine hK9.out _ _ US ?_
      clear hK9 K9
      try simp only [pz]
      refine s_tk 18 193 (v := ?_) US (fun w9 hS => ?_) ?_
      rotate_left
      · go_simp <;> with_reducible rfl
      try simp only [pz]
      refine s_tk 19 194 (v := ?_) US (fun w9 hS => ?_) ?_
      rotate_left
      · go_simp <;> with_reducible rfl
      try simp only [pz]
      refine s_tk 20 8 (v := ?_) US (fun w9 hS => ?_) ?_
      rotate_left
      · go_simp <;> with_reducible rfl
      try simp only [pz]
      refine s_tk 21 9 (v := ?_) US (fun w9 hS => ?_) ?_
      rotate_left
      · go_simp <;> with_reducible rfl
      try simp only [pz]
      refine s_done (by kernel_rfl) ?_
      clear US CW
      go_wp2
      go_ret2
      exact ⟨n, T, W, l, A, k, c, rfl, RES⟩
    · have hd0 : decide (2 ≤ b) = true := decide_eq_true (by omega)
      have hd1 : decide (b ≤ (n : Int)) = true := decide_eq_true (by omega)
      go_enter Tryz.func55, Tryz.ntmps55
      go_wp2
      go_quiet (fail)
      have RES := hid (h.out.same (U1.out.t (Fr.below ((Fr.refl No w1).drewN nq) (Nat.le_refl _) (fun _ _ h => h))))
      go_wp2
      go_ret2
      exact ⟨n, T, W, l, A, k, c, rfl, RES⟩
end
end Go.Proofs.YtbcghggkfnagoaaGreatDoor

namespace Go.Proofs.YtbcghggkfnagoaaGreatDoor
open Go Go.RowKit Go.Maps Hach

theorem u64n {k : Nat} (h : k < 1000000000) : IntKind.u64.wrap (k : Int) = (k : Int) := u64w (by omega)
theorem IntRow.at {w : World} {b off i x : Nat} {l : List Nat} (h : IntRow w (some ⟨b, off, none⟩) l) (hx : l[i]? = some x) : w.cell? ⟨b, off + i, none⟩ = some (.int .i64 (x : Int)) := by
  obtain ⟨b', off', e, hc⟩ := h.1 i (natCell x) (by rw [List.getElem?_map, hx]; rfl)
  injection e with e
  injection e with e1 e2 _
  subst e1; subst e2
  exact hc
theorem ActI.gave {w w3 w5 : World} {X : HpX} {base m n : Nat} {T : List Trk} {W : Nat → Int} {U : Nat → List UInt8} {l : List Nat} {A A5 : Option Addr} {k c c5 i i1 x : Nat} (h : ActI w X base m n T W l A k c) (hx : l[i]? = some x) (hi1 : i + 1 = i1) (hik : i < k) (hh : HeapW w3 X n (giveV T x) W U) (hd : DocW w3 base m n (giveV T x) (wordsC W)) (hq : Qt base w w3) (u5 : Up w3 w5) (hl : base ≤ w3.heap.size)
    (o5 : w5.ownsRow w3.heap.size 3 1 (.slice A5 (i + (k - i1)) c5) (i + (k - i1)) ((l.take i).map natCell ++ (l.drop i1).map natCell)) : ActI w5 X base m n (giveV T x) W (l.take i ++ l.drop i1) A5 (i + (k - i1)) c5 ∧ Qt base w w5 ∧ n ≤ n + 1 := by
  subst hi1
  have hs := split_at hx
  have hpm : l.Perm (x :: (l.take i ++ l.drop (i + 1))) := by
    conv => lhs; rw [hs]
    exact List.perm_middle
  have hnd2 : (x :: (l.take i ++ l.drop (i + 1))).Nodup := hpm.nodup_iff.1 h.nd
  rw [List.nodup_cons] at hnd2
  have hlp := hpm.length_eq
  rw [List.length_cons, h.len] at hlp
  rw [← List.map_append] at o5
  refine ⟨⟨⟨U, hh.up u5⟩, hd.up u5, IntRow.own o5, by omega, ?_, hnd2.2, fun z hz => ?_, giveV_small h.small x, ⟨h.low.1, h.low.2.1, Nat.le_trans hl u5.size⟩⟩, hq.trans (Qt.up u5 hl), Nat.le_succ n⟩
  · obtain ⟨_, _, e, h9⟩ := own_form o5
    injection e with _ _ e; omega
  · have hzl : z ∈ l := hpm.mem_iff.2 (List.mem_cons_of_mem _ hz)
    have := h.inn z hzl
    refine ⟨this.1, this.2.1, fun e => ?_⟩
    rcases (giveV_mem T x z).1 e with e | e
    · exact hnd2.1 (e ▸ hz)
    · exact this.2.2 e
section
variable (w : World) (X : HpX) (base m n : Nat) (T : List Trk) (W : Nat → Int) (l : List Nat) (A : Option Addr) (k c : Nat)
set_option maxRecDepth 100000 in
set_option maxHeartbeats 8000000 in
theorem act1_calls (b d : Int) (h : Hid (ActI w X base m n T W l A k c)) (hn : Hid (n < 3000)) (hb : Hid ((Lit.int .i64 b).wf = true)) :
    Calls Tryz.prog 55 #[.pointer (some ⟨X.h, 0, none⟩), .pointer (some ⟨m, 0, none⟩), .slice A k c, .agg #[.int .i64 1, .int .i64 b, .int .i64 d]] w (ActRet w X base m n) := by
  obtain ⟨w1, hw1⟩ : ∃ x, w.alloc (.cells #[.int .i64 1, .int .i64 b, .int .i64 d] 101) = x := ⟨_, rfl⟩
  obtain ⟨bx, hbx⟩ : ∃ b, w.heap.size = b := ⟨_, rfl⟩
  have u1 : Up w w1 := by rw [← hw1]; exact upAlD (Up.refl w) _
  have hb1 : BoxA w1 bx 1 b d := by rw [← hw1, ← hbx]; exact heap_alloc_new w _
  obtain ⟨c0, c1, c2⟩ := hb1.cells
  have U1 := hid u1
  have H1 := hid (h.out.up u1)
  obtain ⟨U, hU⟩ := H1.out.heap
  have HU := hid hU
  by_cases hk0 : k = 0
  · have RES := hid (h.out.same u1)
    clear hU hb1 u1
    have hk0' : (k : Int) = 0 := by omega
    subst hk0
    go_enter Tryz.func55, Tryz.ntmps55
    go_wp2
    go_ret2
    exact ⟨n, T, W, l, A, 0, c, rfl, RES⟩
  · obtain ⟨V, hV1, hV2, hV3⟩ := i64_of_u64 hb.out
    obtain ⟨i, hi⟩ : ∃ i, V % k = i := ⟨_, rfl⟩
    have hik : i < k := by rw [← hi]; exact Nat.mod_lt _ (by omega)
    have KN : Hid (k ≤ n ∧ n < 3000 ∧ i < k ∧ l.length = k) := hid ⟨H1.out.sizes.2, hn.out, hik, H1.out.len⟩
    have hrem : (V : Int).tmod (k : Int) = (i : Int) := by rw [← hi]; exact (Int.tmod_eq_emod_of_nonneg (by omega)).trans (by omega)
    have HREM := hid hrem
    have HV1 := hid hV1
    obtain ⟨x, hx⟩ : ∃ x, l[i]? = some x := ⟨_, List.getElem?_eq_getElem (by rw [H1.out.len]; exact hik)⟩
    obtain ⟨ob, oo, rfl, hcx⟩ := H1.out.row.1 i (natCell x) (by rw [List.getElem?_map, hx]; rfl)
    unfold natCell at hcx
    have hik2 : (i : Int) < (k : Int) := by omega
    have hkp : ¬ (k : Int) = 0 := by omega
    have HK1 : Hid (IntKind.u64.wrap (k : Int) = (k : Int)) := hid (u64n (by have := KN.out; omega))
    have HI1 : Hid (wrap64 (i : Int) = (i : Int)) := hid (w64p (by have := KN.out; omega))
    have HX := hid hx
    have HCX := hid hcx
    have XI := H1.out.inn x (List.mem_of_getElem? hx)
    have CG : ∀ w', HeapW w' X n T W U → Calls _ _ #[.pointer (some ⟨X.h, 0, none⟩), .int .i64 x] w' _ := fun w' hh => giveH_calls w' X n T W U x (hid hh) (hid (by have := hn.out; omega)) (hid XI)
    have CD : ∀ w', base ≤ w'.heap.size → DocW w' base m n T (wordsC W) → Calls _ _ #[.pointer (some ⟨m, 0, none⟩), .int .i64 x] w' _ := fun w' hl hd => dgive_calls w' base m n T (wordsC W) x (hid hd) (hid ⟨XI.1, XI.2.1⟩) (hid hl) (hid (by have := H1.out.sizes; have := hn.out; omega)) (hid H1.out.small)
    clear hU hb1 u1 hk0 hi hik hx XI hrem hV1 hV2 hV3
    obtain ⟨i1, hi1e⟩ : ∃ i1, i + 1 = i1 := ⟨_, rfl⟩
    have IK2 : Hid (i + 1 = i1 ∧ i < k ∧ k ≤ c ∧ k ≤ 3000 ∧ l.length = k) := hid ⟨hi1e, KN.out.2.2.1, h.out.cap, by have := KN.out; omega, KN.out.2.2.2⟩
    have HI1V : Hid (IntKind.i64.wrap ((i : Int) + 1) = (i1 : Int)) := hid ((IntWalk.i64_left _).trans (wS (by have := IK2.out; omega) hi1e))
    have HQ : Hid ((i1 : Int) ≤ k ∧ (k : Int) ≤ c ∧ (i : Int) ≤ c ∧ i ≤ i1 ∧ i1 ≤ k ∧ k ≤ c) := hid (by have := IK2.out; omega)
    obtain ⟨o2, hcase, OO⟩ : ∃ o2, ((c = i1 ∧ oo = o2) ∨ (¬ c = i1 ∧ o2 = oo + i1)) ∧ Hid (∀ w9, Rd w9 (some ⟨ob, oo, none⟩) (l.map natCell) → Rd w9 (some ⟨ob, o2, none⟩) ((l.drop i1).map natCell)) := by
      by_cases e : c = i1
      · exact ⟨oo, .inl ⟨e, rfl⟩, hid (fun w9 _ => by rw [List.drop_of_length_le (by have := IK2.out; omega)]; exact Rd.nil _ _)⟩
      · exact ⟨oo + i1, .inr ⟨e, rfl⟩, hid (fun w9 h9 => by rw [List.map_drop]; exact h9.drop i1)⟩
    clear hi1e
    have hV1 := HV1.out
    have hrem := HREM.out
    have hk1 := HK1.out
    have hi1 := HI1.out
    rcases hcase with ⟨q4, rfl⟩ | ⟨q4, rfl⟩
    all_goals
      have HQ4 := hid q4
      clear q4
      go_enter Tryz.func55, Tryz.ntmps55
      go_wp2
      have US : w1.drew.cell? ⟨ob, oo + i, none⟩ = some (.int .i64 (x : Int)) := HCX.out
      -- R9
      refine s_start (fun w9 => w9.cell? ⟨ob, oo + i, none⟩ = some (.int .i64 (x : Int))) (by kernel_rfl) ?_
      refine s_tk 0 55 (v := ?_) US (fun w9 hS => ?_) ?_
      rotate_left
      · go_simp <;> with_reducible rfl
      try simp only [pz]
      refine s_tk 1 56 (v := ?_) US (fun w9 hS => ?_) ?_
      rotate_left
      · go_simp <;> with_reducible rfl
      try simp only [pz]
      refine s_tk 2 57 (v := ?_) US (fun w9 hS => ?_) ?_
      rotate_left
      · go_simp <;> with_reducible rfl
      try simp only [pz]
      refine s_tk 3 58 (v := ?_) US (fun w9 hS => ?_) ?_
      rotate_left
      · go_simp <;> with_reducible rfl
      try simp only [pz]
      refine s_tk 4 59 (v := ?_) US (fun w9 hS => ?_) ?_
      rotate_left
      · have s1 := hS; go_simp <;> with_reducible rfl
      try simp only [pz]
      refine s_tk 6 61 (v := ?_) US (fun w9 hS => ?_) ?_
      rotate_left
      · go_simp <;> with_reducible rfl
      try simp only [pz]
      refine s_tk 7 62 (v := ?_) US (fun w9 hS => ?_) ?_
      rotate_left
      · go_simp <;> with_reducible rfl
      try simp only [pz]
      refine s_tk 8 63 (v := ?_) US (fun w9 hS => ?_) ?_
      rotate_left
      · go_simp <;> with_reducible rfl
      try simp only [pz]
      refine s_tk 9 64 (v := ?_) US (fun w9 hS => ?_) ?_
      rotate_left
      · go_simp <;> with_reducible rfl
      try simp only [pz]
      refine s_tk 10 65 (v := ?_) US (fun w9 hS => ?_) ?_
      rotate_left
      · have s1 := hS; go_simp <;> with_reducible rfl
      try simp only [pz]
      refine s_op 5 (by kernel_rfl) rfl (by rfl) (fun K9 hK9 => ?_)
      go_simp
      refine (CG _ (HU.out.up (Up.drew w1))).mono ?_
      rintro en w2 ⟨rfl, hr⟩
      have Q2 : Hid (Qt base w1.drew w2) := hid (Qt.heap (HU.out.up (Up.drew w1)) hr.out.2 H1.out.low)
      have R2 := hid ((H1.out.row.up (Up.drew w1)).qt Q2.out)
      have D2 := hid ((H1.out.doc.up (Up.drew w1)).heap (HU.out.up (Up.drew w1)) hr.out.2)
      have HW2 := hid hr.out.1
      have L2 : Hid (base ≤ w2.heap.size) := hid (Nat.le_trans H1.out.low.2.2 hr.out.2.size)
      replace US : w2.cell? ⟨ob, oo + i, none⟩ = some (.int .i64 (x : Int)) := R2.out.at HX.out
      clear hr CG
      refine hK9.out _ _ US ?_
      clear hK9 K9
      try simp only [pz]
      refine s_op 11 (by kernel_rfl) rfl (by rfl) (fun K9 hK9 => ?_)
      go_simp
      refine (CD _ L2.out D2.out).mono ?_
      rintro en w3 ⟨rfl, hr⟩
      have Q3 := hid (Qt.doc D2.out hr.out.2 L2.out)
      have R3 := hid (R2.out.qt Q3.out)
      have HW3 := hid (HW2.out.doc D2.out hr.out.2)
      have D3 := hid hr.out.1
      have L3 : Hid (base ≤ w3.heap.size) := hid (Nat.le_trans L2.out hr.out.2.size)
      replace US : w3.cell? ⟨ob, oo + i, none⟩ = some (.int .i64 (x : Int)) := R3.out.at HX.out
      clear hr CD
      refine hK9.out _ _ US ?_
      clear hK9 K9
      try simp only [pz]
      refine s_tk 12 67 (v := ?_) US (fun w9 hS => ?_) ?_
      rotate_left
      · go_simp <;> with_reducible rfl
      try simp only [pz]
      refine s_tk 13 13 (v := ?_) US (fun w9 hS => ?_) ?_
      rotate_left
      · go_simp <;> with_reducible rfl
      try simp only [pz]
      refine s_done (by kernel_rfl) ?_
      have QQ : Hid (Qt base w w3) := hid (((Qt.up (U1.out.t (Up.drew w1)) h.out.low.2.2).trans Q2.out).trans Q3.out)
      clear US Q2 Q3 R2 D2 HW2 L2
      go_wp2
      clear hV1 hrem hk1 hi1 hcx c0 c1 c2 hik2 hkp
      have R1 : Hid (Rd w3 (some ⟨ob, oo, none⟩) ((l.take i).map natCell)) := hid (by rw [List.map_take]; exact R3.out.1.take i)
      have R2 := hid (OO.out _ R3.out.1)
      have US : Up w3 w3.drew := Up.drew w3
      obtain ⟨q1, q2, q3, q7, q8, q9⟩ := HQ.out
      have q4 := HQ4.out
      refine s_start (fun w9 => Up w3 w9) (by kernel_rfl) ?_
      refine s_tk 1 69 (v := ?_) US (fun w9 hS => ?_) ?_
      rotate_left
      · go_simp <;> with_reducible rfl
      try simp only [pz]
      refine s_tk 2 70 (v := ?_) US (fun w9 hS => ?_) ?_
      rotate_left
      · go_simp <;> with_reducible rfl
      try simp only [pz]
      refine s_tk 3 71 (v := ?_) US (fun w9 hS => ?_) ?_
      rotate_left
      · go_simp <;> with_reducible rfl
      try simp only [pz]
      refine s_tk 5 73 (v := ?_) US (fun w9 hS => ?_) ?_
      rotate_left
      · go_simp <;> with_reducible rfl
      try simp only [pz]
      refine s_tk 6 74 (v := ?_) US (fun w9 hS => ?_) ?_
      rotate_left
      · go_simp <;> with_reducible rfl
      try simp only [pz]
      refine s_tk 7 75 (v := ?_) US (fun w9 hS => ?_) ?_
      rotate_left
      · have hv := HI1V.out; go_simp <;> with_reducible rfl
      try simp only [pz]
      refine s_tk 8 76 (v := ?_) US (fun w9 hS => ?_) ?_
      rotate_left
      · go_simp <;> with_reducible rfl
      try simp only [pz]
      refine s_tk 10 78 (v := ?_) US (fun w9 hS => ?_) ?_
      rotate_left
      · go_simp <;> with_reducible rfl
      try simp only [pz]
      refine s_op 0 (by kernel_rfl) rfl (by rfl) (fun K9 hK9 => ?_)
      go_simp
      have u0 : Up w3 (w3.drew.alloc (.cells #[] 3)) := upAlD (Up.drew w3) _
      have U0 := hid u0
      replace US : Up w3 (w3.drew.alloc (.cells #[] 3)) := u0
      clear u0
      refine hK9.out _ _ US ?_
      clear hK9 K9
      try simp only [pz]
      refine s_op 4 (by kernel_rfl) rfl (by rfl) (fun K9 hK9 => ?_)
      show Oper.wp _ ⟨some 72, _, _, _, _, _⟩ _ _ _ _
      refine wp_append elemIN (.tmp 68) (.tmp 71) rfl rfl (own_lit0 w3.drew w3.heap.size 3 1 (Nat.le_refl _)) rfl (R1.out.grown U0.out) (by rw [List.length_map, List.length_take]; have := IK2.out; omega) (natCell_one _) (by have := IK2.out; simp only [maxLen]; omega) (by have := IK2.out; omega) U0.out.size ?_
      intro A4 c4 w4 o4 g4 d4
      have U4 := hid (below_append U0.out (Nat.le_refl _) U0.out.size (own_lit0 w3.drew w3.heap.size 3 1 (Nat.le_refl _)) g4)
      have O4 := hid o4
      clear o4 g4 d4
      replace US : Up w3 w4 := U4.out
      refine hK9.out _ _ US ?_
      clear hK9 K9
      try simp only [pz]
      refine s_op 9 (by kernel_rfl) rfl (by rfl) (fun K9 hK9 => ?_)
      rw [Nat.zero_add]
      have o4 := O4.out
      rw [Nat.zero_add, List.nil_append] at o4
      show Oper.wp _ ⟨some 77, _, _, _, _, _⟩ _ _ _ _
      refine wp_append elemIN (.tmp 72) (.tmp 76) rfl rfl o4 rfl (R2.out.grown U4.out) (by rw [List.length_map, List.length_drop]; have := IK2.out; omega) (natCell_one _) (by have := IK2.out; simp only [maxLen]; omega) (by have := IK2.out; omega) U4.out.size ?_
      intro A5 c5 w5 o5 g5 d5
      have U5 := hid (below_append U4.out (Nat.le_refl _) U4.out.size o4 g5)
      have O5 := hid o5
      clear o5 g5 d5 o4
      replace US : Up w3 w5 := U5.out
      refine hK9.out _ _ US ?_
      clear hK9 K9
      try simp only [pz]
      refine s_tk 11 8 (v := ?_) US (fun w9 hS => ?_) ?_
      rotate_left
      · go_simp <;> with_reducible rfl
      try simp only [pz]
      refine s_tk 12 9 (v := ?_) US (fun w9 hS => ?_) ?_
      rotate_left
      · go_simp <;> with_reducible rfl
      try simp only [pz]
      refine s_done (by kernel_rfl) ?_
      have RES : Hid (ActI w5 X base m n (giveV T x) W (l.take i ++ l.drop i1) A5 (i + (k - i1)) c5 ∧ Qt base w w5 ∧ n ≤ n + 1) := hid (ActI.gave h.out HX.out IK2.out.1 IK2.out.2.1 HW3.out D3.out QQ.out U5.out L3.out O5.out)
      clear US q4 q7 q8 q9 U0 U4 O4
      go_wp2
      go_ret2
      exact ⟨n, giveV T x, W, l.take i ++ l.drop i1, A5, i + (k - i1), c5, rfl, RES⟩
end
end Go.Proofs.YtbcghggkfnagoaaGreatDoor

namespace Go.Proofs.YtbcghggkfnagoaaGreatDoor
open Go Go.RowKit Go.Maps Hach

section
variable (w : World) (X : HpX) (base m n : Nat) (T : List Trk) (W : Nat → Int) (l : List Nat) (A : Option Addr) (k c : Nat)
set_option maxRecDepth 100000 in
set_option maxHeartbeats 8000000 in
theorem act3_calls (b d : Int) (h : Hid (ActI w X base m n T W l A k c)) (hn : Hid (n < 3000)) :
    Calls Tryz.prog 55 #[.pointer (some ⟨X.h, 0, none⟩), .pointer (some ⟨m, 0, none⟩), .slice A k c, .agg #[.int .i64 3, .int .i64 b, .int .i64 d]] w (ActRet w X base m n) := by
  obtain ⟨w1, hw1⟩ : ∃ x, w.alloc (.cells #[.int .i64 3, .int .i64 b, .int .i64 d] 101) = x := ⟨_, rfl⟩
  obtain ⟨bx, hbx⟩ : ∃ b, w.heap.size = b := ⟨_, rfl⟩
  have u1 : Up w w1 := by rw [← hw1]; exact upAlD (Up.refl w) _
  have hb1 : BoxA w1 bx 3 b d := by rw [← hw1, ← hbx]; exact heap_alloc_new w _
  have U1 := hid u1
  have H1 := hid (h.out.up u1)
  have HB := hid hb1
  have c0 := hb1.cells.1
  obtain ⟨U, hU⟩ := H1.out.heap
  have HU := hid hU
  have KN : Hid (k ≤ n ∧ n < 3000 ∧ l.length = k) := hid ⟨H1.out.sizes.2, hn.out, H1.out.len⟩
  clear hU hb1 u1
  go_enter Tryz.func55, Tryz.ntmps55
  go_wp2
  go_loopw [117] (fun iv wr => ∃ s : Nat, iv = .int .i64 s ∧ s ≤ k ∧ wr = w1 ∧ Hid (∀ x ∈ l.take s, (x : Int) ≤ b)) (fun iv _ => k - (intOf iv).toNat)
  case atStart => exact ⟨0, rfl, Nat.zero_le _, rfl, hid (fun x hx => by simp at hx)⟩
  case round =>
    obtain ⟨s, rfl, hs, hwr, iv⟩ := hrel
    subst hwr
    by_cases hlt : (s : Int) < k
    · obtain ⟨x, hx⟩ : ∃ x, l[s]? = some x := ⟨_, List.getElem?_eq_getElem (by have := KN.out; omega)⟩
      obtain ⟨ob, oo, rfl, hcz⟩ := H1.out.row.1 s (natCell x) (by rw [List.getElem?_map, hx]; rfl)
      clear hcz
      have hcx := H1.out.row.at hx
      have c1 := HB.out.cells.2.1
      have SK : Hid (s < k ∧ k < 3000) := hid (by have := KN.out; omega)
      by_cases hxb : b < (x : Int)
      · have RES := hid (h.out.same U1.out)
        clear iv hx hs
        go_wp2
        go_ret2
        exact ⟨n, T, W, l, _, k, c, rfl, RES⟩
      · have NEXT : Hid (∀ y ∈ l.take (s + 1), (y : Int) ≤ b) := hid (fun y hy => by
          rw [List.take_add_one, hx, List.mem_append] at hy
          rcases hy with hy | hy
          · exact iv.out y hy
          · have : y = x := by simpa using hy
            subst this; omega)
        clear iv hx hs
        go_wp2
        go_roundw
        case rel => exact ⟨s + 1, by first | rfl | rw [wS (K := s + 1) (by have := SK.out; omega) rfl], SK.out.1, (by first | trivial | rfl), NEXT⟩
        case measure => have := SK.out; first | rw [wS (K := s + 1) (by omega) rfl] | skip
                        simp only [intOf]; omega
    · have ALL : Hid (∀ x ∈ l, (x : Int) ≤ b) := hid (fun x hx => iv.out x (by rw [List.take_of_length_le (by have := KN.out; omega)]; exact hx))
      clear iv hs
      by_cases hbad : b < 1 ∨ (n : Int) < b
      · have CT := fun w' hu => trimBad_calls w' X n T W U b (hid (HU.out.up (w' := w') hu)) (hid (by have := hn.out; omega)) (hid hbad)
        have CD : ∀ w', DocW w' base m n T (wordsC W) → Calls _ _ #[.pointer (some ⟨m, 0, none⟩), .int .i64 b] w' _ := fun w' hd => dtrimBad_calls w' base m n T (wordsC W) b (hid hd) (hid hbad)
        clear hbad
        go_wp2
        have US : wr.drew.cell? ⟨bx, 1, none⟩ = some (.int .i64 b) := HB.out.cells.2.1
        refine s_start (fun w9 => w9.cell? ⟨bx, 1, none⟩ = some (.int .i64 b)) (by kernel_rfl) ?_
        refine s_tk 0 127 (v := ?_) US (fun w9 hS => ?_) ?_
        rotate_left
        · go_simp <;> with_reducible rfl
        try simp only [pz]
        refine s_tk 1 128 (v := ?_) US (fun w9 hS => ?_) ?_
        rotate_left
        · go_simp <;> with_reducible rfl
        try simp only [pz]
        refine s_tk 2 129 (v := ?_) US (fun w9 hS => ?_) ?_
        rotate_left
        · go_simp <;> with_reducible rfl
        try simp only [pz]
        refine s_tk 3 130 (v := ?_) US (fun w9 hS => ?_) ?_
        rotate_left
        · have s1 := hS; go_simp <;> with_reducible rfl
        try simp only [pz]
        refine s_tk 5 132 (v := ?_) US (fun w9 hS => ?_) ?_
        rotate_left
        · go_simp <;> with_reducible rfl
        try simp only [pz]
        refine s_tk 6 133 (v := ?_) US (fun w9 hS => ?_) ?_
        rotate_left
        · go_simp <;> with_reducible rfl
        try simp only [pz]
        refine s_tk 7 134 (v := ?_) US (fun w9 hS => ?_) ?_
        rotate_left
        · have s1 := hS; go_simp <;> with_reducible rfl
        try simp only [pz]
        refine s_op 4 (by kernel_rfl) rfl (by rfl) (fun K9 hK9 => ?_)
        go_simp
        refine (CT _ (Up.drew wr)).mono ?_
        rintro en w2 ⟨rfl, hr⟩
        have U2 : Hid (Up wr w2) := hid ((Up.drew wr).t hr.out)
        replace US : w2.cell? ⟨bx, 1, none⟩ = some (.int .i64 b) := U2.out.c HB.out.cells.2.1
        clear hr CT
        refine hK9.out _ _ US ?_
        clear hK9 K9
        try simp only [pz]
        refine s_op 8 (by kernel_rfl) rfl (by rfl) (fun K9 hK9 => ?_)
        go_simp
        refine (CD w2 (H1.out.doc.up U2.out)).mono ?_
        rintro en w3 ⟨rfl, hw3⟩
        obtain rfl := hw3.symm
        clear hw3 CD
        refine hK9.out _ _ US ?_
        clear hK9 K9
        try simp only [pz]
        refine s_tk 9 136 (v := ?_) US (fun w9 hS => ?_) ?_
        rotate_left
        · go_simp <;> with_reducible rfl
        try simp only [pz]
        refine s_tk 10 8 (v := ?_) US (fun w9 hS => ?_) ?_
        rotate_left
        · go_simp <;> with_reducible rfl
        try simp only [pz]
        refine s_tk 11 9 (v := ?_) US (fun w9 hS => ?_) ?_
        rotate_left
        · go_simp <;> with_reducible rfl
        try simp only [pz]
        refine s_done (by kernel_rfl) ?_
        have RES := hid (h.out.same (U1.out.t U2.out))
        clear US
        go_wp2
        go_ret2
        exact ⟨n, T, W, l, A, k, c, rfl, RES⟩
      · obtain ⟨k2, rfl⟩ : ∃ k2 : Nat, b = k2 := ⟨b.toNat, by omega⟩
        have K2 : Hid (1 ≤ k2 ∧ k2 ≤ n) := hid (by omega)
        have CT := fun w' hu => trim_calls w' X n T W U k2 (hid (HU.out.up (w' := w') hu)) (hid (by have := hn.out; omega)) K2
        have CD : ∀ w', base ≤ w'.heap.size → DocW w' base m n T (wordsC W) → Calls _ _ #[.pointer (some ⟨m, 0, none⟩), .int .i64 (k2 : Int)] w' _ := fun w' hl hd => dtrim_calls w' base m n T (wordsC W) k2 (hid hd) (hid (by have := K2.out; have := hn.out; omega)) (hid hl) (hid H1.out.tn.1) (hid H1.out.tn.2.1) (hid (by have := H1.out.sizes; have := hn.out; omega))
        clear hbad
        go_wp2
        have US : wr.drew.cell? ⟨bx, 1, none⟩ = some (.int .i64 (k2 : Int)) := HB.out.cells.2.1
        refine s_start (fun w9 => w9.cell? ⟨bx, 1, none⟩ = some (.int .i64 (k2 : Int))) (by kernel_rfl) ?_
        refine s_tk 0 127 (v := ?_) US (fun w9 hS => ?_) ?_
        rotate_left
        · go_simp <;> with_reducible rfl
        try simp only [pz]
        refine s_tk 1 128 (v := ?_) US (fun w9 hS => ?_) ?_
        rotate_left
        · go_simp <;> with_reducible rfl
        try simp only [pz]
        refine s_tk 2 129 (v := ?_) US (fun w9 hS => ?_) ?_
        rotate_left
        · go_simp <;> with_reducible rfl
        try simp only [pz]
        refine s_tk 3 130 (v := ?_) US (fun w9 hS => ?_) ?_
        rotate_left
        · have s1 := hS; go_simp <;> with_reducible rfl
        try simp only [pz]
        refine s_tk 5 132 (v := ?_) US (fun w9 hS => ?_) ?_
        rotate_left
        · go_simp <;> with_reducible rfl
        try simp only [pz]
        refine s_tk 6 133 (v := ?_) US (fun w9 hS => ?_) ?_
        rotate_left
        · go_simp <;> with_reducible rfl
        try simp only [pz]
        refine s_tk 7 134 (v := ?_) US (fun w9 hS => ?_) ?_
        rotate_left
        · have s1 := hS; go_simp <;> with_reducible rfl
        try simp only [pz]
        refine s_op 4 (by kernel_rfl) rfl (by rfl) (fun K9 hK9 => ?_)
        go_simp
        refine (CT _ (Up.drew wr)).mono ?_
        rintro en w2 ⟨rfl, U', hr⟩
        have Q2 : Hid (Qt base wr.drew w2) := hid (Qt.heap (HU.out.up (Up.drew wr)) hr.out.2 H1.out.low)
        have D2 := hid ((H1.out.doc.up (Up.drew wr)).heap (HU.out.up (Up.drew wr)) hr.out.2)
        have HW2 := hid hr.out.1
        have L2 : Hid (base ≤ w2.heap.size) := hid (Nat.le_trans H1.out.low.2.2 hr.out.2.size)
        replace US : w2.cell? ⟨bx, 1, none⟩ = some (.int .i64 (k2 : Int)) := (HB.out.qt (w := wr.drew) Q2.out).cells.2.1
        clear hr CT
        refine hK9.out _ _ US ?_
        clear hK9 K9
        try simp only [pz]
        refine s_op 8 (by kernel_rfl) rfl (by rfl) (fun K9 hK9 => ?_)
        go_simp
        refine (CD w2 L2.out D2.out).mono ?_
        rintro en w3 ⟨rfl, hr⟩
        have Q3 := hid (Qt.doc D2.out hr.out.2 L2.out)
        have HW3 := hid (HW2.out.doc D2.out hr.out.2)
        have D3 := hid hr.out.1
        have L3 : Hid (base ≤ w3.heap.size) := hid (Nat.le_trans L2.out hr.out.2.size)
        replace US : w3.cell? ⟨bx, 1, none⟩ = some (.int .i64 (k2 : Int)) := ((HB.out.qt (w := wr.drew) Q2.out).qt Q3.out).cells.2.1
        clear hr CD
        refine hK9.out _ _ US ?_
        clear hK9 K9
        try simp only [pz]
        refine s_tk 9 136 (v := ?_) US (fun w9 hS => ?_) ?_
        rotate_left
        · go_simp <;> with_reducible rfl
        try simp only [pz]
        refine s_tk 10 8 (v := ?_) US (fun w9 hS => ?_) ?_
        rotate_left
        · go_simp <;> with_reducible rfl
        try simp only [pz]
        refine s_tk 11 9 (v := ?_) US (fun w9 hS => ?_) ?_
        rotate_left
        · go_simp <;> with_reducible rfl
        try simp only [pz]
        refine s_done (by kernel_rfl) ?_
        have RES : Hid (ActI w3 X base m k2 (trimV T k2) W l A k c ∧ Qt base w w3 ∧ k2 ≤ n + 1) := hid ⟨⟨⟨U', HW3.out⟩, D3.out, ((H1.out.row.up (Up.drew wr)).qt Q2.out).qt Q3.out, H1.out.len, H1.out.cap, H1.out.nd, fun z hz => ⟨(H1.out.inn z hz).1, by have := ALL.out z hz; omega, fun e => by
          unfold trimV at e
          rw [foldG_mem] at e
          rcases e with e | e
          · exact (H1.out.inn z hz).2.2 (of_decide_eq_true (List.mem_filter.1 e).2)
          · simp [allT] at e⟩, foldG_small _ (fun t ht => by cases ht), ⟨H1.out.low.1, H1.out.low.2.1, L3.out⟩⟩, ((Qt.up (U1.out.t (Up.drew wr)) h.out.low.2.2).trans Q2.out).trans Q3.out, by have := K2.out; omega⟩
        clear US
        go_wp2
        go_ret2
        exact ⟨k2, trimV T k2, W, l, A, k, c, rfl, RES⟩
end
end Go.Proofs.YtbcghggkfnagoaaGreatDoor

namespace Go.Proofs.YtbcghggkfnagoaaGreatDoor
open Go Go.RowKit Go.Maps Hach

structure ActV8 where
  a : Int
  b : Int
  c : Int
def actC8 (x : ActV8) : List Value := [.int .i64 x.a, .int .i64 x.b, .int .i64 x.c]
def ActWf8 (x : ActV8) : Prop := (Lit.int .i64 x.b).wf = true ∧ (Lit.int .i64 x.c).wf = true
theorem actC8_len (x : ActV8) : (actC8 x).length = 3 := rfl
theorem act_calls (w : World) (X : HpX) (base m n : Nat) (T : List Trk) (W : Nat → Int) (l : List Nat) (A : Option Addr) (k c : Nat) (x : ActV8) (h : Hid (ActI w X base m n T W l A k c)) (hn : Hid (n < 3000)) (hx : Hid (ActWf8 x)) :
    Calls Tryz.prog 55 #[.pointer (some ⟨X.h, 0, none⟩), .pointer (some ⟨m, 0, none⟩), .slice A k c, .agg #[.int .i64 x.a, .int .i64 x.b, .int .i64 x.c]] w (ActRet w X base m n) := by
  obtain ⟨a, b, d⟩ := x
  by_cases h0 : a = 0
  · subst h0; exact act0_calls w X base m n T W l A k c b d h hn
  by_cases h1 : a = 1
  · subst h1; exact act1_calls w X base m n T W l A k c b d h hn (hid hx.out.1)
  by_cases h2 : a = 2
  · subst h2; exact act2_calls w X base m n T W l A k c b d h hn (hid hx.out.2)
  by_cases h3 : a = 3
  · subst h3; exact act3_calls w X base m n T W l A k c b d h hn
  by_cases h4 : a = 4
  · subst h4; exact act4_calls w X base m n T W l A k c b d h hn
  · exact act5_calls w X base m n T W l A k c a b d h hn (hid ⟨h0, h1, h2, h3, h4⟩)
end Go.Proofs.YtbcghggkfnagoaaGreatDoor

namespace Go.Proofs.YtbcghggkfnagoaaGreatDoor
open Go Go.RowKit Hach

def iCell (x : Int) : Value := .int .i64 x
theorem same_stepI {L1 L2 : List Int} {k : Nat} (h1 : k < L1.length) (h2 : k < L2.length) (he : L1.take k = L2.take k) : (L1.take (k + 1) = L2.take (k + 1)) ↔ L1[k] = L2[k] := by
  rw [List.take_succ_eq_append_getElem h1, List.take_succ_eq_append_getElem h2, he]
  constructor
  · intro h; have := List.append_cancel_left h; injection this
  · intro h; rw [h]

set_option maxRecDepth 100000 in
set_option maxHeartbeats 1000000 in
theorem intsI_calls (w : World) (A1 A2 : Option Addr) (L1 L2 : List Int) (n1 n2 c1 c2 : Nat) (r : Bool) (hn1 : Hid (n1 = L1.length)) (hn2 : Hid (n2 = L2.length)) (hl : Hid (L1.length < 1000000 ∧ L2.length < 1000000))
    (h1 : Hid (Rd w A1 (L1.map iCell))) (h2 : Hid (Rd w A2 (L2.map iCell))) (hr : Hid (decide (L1 = L2) = r)) :
    Calls Tryz.prog 26 #[.slice A1 n1 c1, .slice A2 n2 c2] w fun en w' => en = .returned (.bool r) ∧ Up w w' := by
  by_cases hne : (n1 : Int) = n2
  · have hnn : n2 = n1 := by omega
    subst hnn
    have HE := hid hne
    clear hne
    have START : Hid (Up w w ∧ L1.take 0 = L2.take 0) := hid ⟨Up.refl w, rfl⟩
    go_enter Tryz.func26, Tryz.ntmps26
    go_wp2
    go_loopw [13] (fun i wr => ∃ (k : Nat), k ≤ n2 ∧ i = .int .i64 k ∧ Hid (Up w wr ∧ L1.take k = L2.take k)) (fun i _ => n2 - (intOf i).toNat)
    case atStart => exact ⟨0, Nat.zero_le _, rfl, START⟩
    case round =>
      obtain ⟨k, hk, rfl, iv⟩ := hrel
      by_cases hlt : (k : Int) < n2
      · have hk1 : k < L1.length := by have := hn1.out; omega
        have hk2 : k < L2.length := by have := hn2.out; omega
        obtain ⟨u, he⟩ := iv.out
        obtain ⟨ba, oa, rfl, ra⟩ := (h1.out.grown u) k (iCell L1[k]) (by rw [List.getElem?_map, List.getElem?_eq_getElem hk1]; rfl)
        obtain ⟨bb, ob, rfl, rb⟩ := (h2.out.grown u) k (iCell L2[k]) (by rw [List.getElem?_map, List.getElem?_eq_getElem hk2]; rfl)
        have hs := same_stepI hk1 hk2 he
        have HS : Hid (L1[k] = L2[k] ↔ (L1.take (k + 1) = L2.take (k + 1))) := hid hs.symm
        have hdif : Hid (L1[k] ≠ L2[k] → L1 ≠ L2) := hid (fun hd e => hd (by subst e; rfl))
        clear hs he
        unfold iCell at ra rb
        generalize L1[k] = p1 at *
        generalize L2[k] = p2 at *
        have HK := hid hk1
        have U := hid u
        have HL := hid hlt
        clear iv u hk1 hk2
        by_cases hp : p1 = p2
        · subst hp
          have HS2 := hid (HS.out.1 rfl)
          clear HS hdif
          go_wp2
          go_region_held3 (fun w' => w'.cell? ⟨ba, oa + k, none⟩ = some (.int .i64 p1) ∧ w'.cell? ⟨bb, ob + k, none⟩ = some (.int .i64 p1))
            (first | exact ⟨ra, rb⟩)
            (fail)
          go_wp2
          go_roundw
          case rel => exact ⟨k + 1, by have := HK.out; have := hn1.out; omega, (by have := hl.out; have := HK.out; rw [show wrap64 ((k : Int) + 1) = ((k + 1 : Nat) : Int) by unfold wrap64; omega]), hid ⟨U.out.t (Up.drew wr), HS2.out⟩⟩
          case measure => have := hl.out; have := HK.out; have := hn1.out; rw [show wrap64 ((k : Int) + 1) = ((k + 1 : Nat) : Int) by unfold wrap64; omega]; simp only [intOf]; omega
        · have hf : r = false := by rw [← hr.out]; exact decide_eq_false (hdif.out hp)
          subst hf
          clear HS hdif
          go_wp2
          go_region_held3 (fun w' => w'.cell? ⟨ba, oa + k, none⟩ = some (.int .i64 p1) ∧ w'.cell? ⟨bb, ob + k, none⟩ = some (.int .i64 p2))
            (first | exact ⟨ra, rb⟩)
            (fail)
          go_wp2
          go_ret
          exact ⟨rfl, U.out.t (Up.drew wr)⟩
      · have hkk : k = n2 := by omega
        have ht : r = true := by
          obtain ⟨u, he⟩ := iv.out
          rw [List.take_of_length_le (by rw [← hn1.out]; omega), List.take_of_length_le (by rw [← hn2.out]; omega)] at he
          rw [← hr.out]; exact decide_eq_true he
        have U := hid iv.out.1
        clear iv hkk
        subst ht
        go_wp2
        go_ret
        exact ⟨rfl, U.out⟩
  · have hf : r = false := by
      rw [← hr.out]
      refine decide_eq_false (fun e => hne ?_)
      rw [hn1.out, hn2.out, e]
    subst hf
    go_enter Tryz.func26, Tryz.ntmps26
    go_wp2
    go_ret
    exact ⟨rfl, Up.refl w⟩
theorem intsN_calls (w : World) (A1 A2 : Option Addr) (L : List Nat) (n1 n2 c1 c2 : Nat) (hn1 : Hid (n1 = L.length)) (hn2 : Hid (n2 = L.length)) (hl : Hid (L.length < 1000000)) (h1 : Hid (Rd w A1 (L.map natCell))) (h2 : Hid (Rd w A2 (L.map natCell))) :
    Calls Tryz.prog 26 #[.slice A1 n1 c1, .slice A2 n2 c2] w fun en w' => en = .returned (.bool true) ∧ Up w w' := by
  have e : L.map natCell = (L.map fun x : Nat => (x : Int)).map iCell := by rw [List.map_map]; rfl
  rw [e] at h1 h2
  exact intsI_calls w A1 A2 _ _ n1 n2 c1 c2 true (hid (by rw [List.length_map]; exact hn1.out)) (hid (by rw [List.length_map]; exact hn2.out)) (hid (by rw [List.length_map]; exact ⟨hl.out, hl.out⟩)) h1 h2 (hid (decide_eq_true rfl))
end Go.Proofs.YtbcghggkfnagoaaGreatDoor

namespace Go.Proofs.YtbcghggkfnagoaaGreatDoor
open Go Go.RowKit Go.ChangeShapes Go.WideShapes Go.ChangeAt Go.Deep Go.Joins Hach

theorem c8i_int : Tryz.prog.cellsOf 3 = 1 := by kernel_rfl
theorem c8i_act : Tryz.prog.cellsOf 101 = 3 := by kernel_rfl
section
variable {H : Type} {enc : TypeId × Value → H} {W : World} {base : Nat} {sp : Nat → Bool} {held : Bool}
theorem trod_three {t : TypeId} {f0 f1 f2 : Field} {fuel : Nat} {cs : List Value} {x : DataW H × List MemPlace} (ht : Tryz.prog.underlying t = some (.struct #[f0, f1, f2])) (h : DataW.trod enc Tryz.prog W base sp held fuel t cs = some x) :
    ∃ y0 y1 y2 n, cs.length = Tryz.prog.cellsOf t ∧ DataW.trod enc Tryz.prog W base sp held n f0.type ((cs.drop f0.offset).take (Tryz.prog.cellsOf f0.type)) = some y0 ∧ DataW.trod enc Tryz.prog W base sp held n f1.type ((cs.drop f1.offset).take (Tryz.prog.cellsOf f1.type)) = some y1 ∧ DataW.trod enc Tryz.prog W base sp held n f2.type ((cs.drop f2.offset).take (Tryz.prog.cellsOf f2.type)) = some y2 := by
  obtain ⟨xs, n, _, rfl, hl, hlen, hf⟩ := DataW.trod_struct ht h
  match xs, hlen with
  | [y0, y1, y2], _ => exact ⟨y0, y1, y2, n, hl, by simpa using hf 0 f0 rfl, by simpa using hf 1 f1 rfl, by simpa using hf 2 f2 rfl⟩
set_option maxRecDepth 100000 in
theorem trod_acts8 {fuel : Nat} {cs : List Value} {x : DataW H × List MemPlace} (h : DataW.trod enc Tryz.prog W base sp held fuel 101 cs = some x) : ∃ a : ActV8, cs = actC8 a ∧ ActWf8 a := by
  obtain ⟨y0, y1, y2, n, hl, h0, h1, h2⟩ := trod_three Tryz.underlying101 h
  rw [c8i_act] at hl
  match cs, hl with
  | [a, b, c], _ =>
    simp only [c8i_int, List.drop_zero, List.take_succ_cons, List.take_zero, List.drop_succ_cons] at h0 h1 h2
    obtain ⟨p0, e0, _, w0⟩ := DataW.trod_int Tryz.underlying3 h0
    obtain ⟨p1, e1, _, w1⟩ := DataW.trod_int Tryz.underlying3 h1
    obtain ⟨p2, e2, _, w2⟩ := DataW.trod_int Tryz.underlying3 h2
    injection e0 with e0; injection e1 with e1; injection e2 with e2
    subst e0; subst e1; subst e2
    exact ⟨⟨p0, p1, p2⟩, rfl, w1, w2⟩
set_option maxRecDepth 100000 in
theorem open_acts8 {b0 : Nat} {v : Value} {d : DataW H} {ps : List MemPlace} (hok : Value.okWide Tryz.prog W .any b0 94 v) (h : DataW.Trod enc Tryz.prog W base sp held 94 v d ps) :
    ∃ (A : Option Addr) (l : List ActV8) (c : Nat), v = .slice A l.length c ∧ l.length ≤ 9223372036854775807 ∧ Rd W A (l.flatMap actC8) ∧ l.length ≤ c ∧ ∀ a ∈ l, ActWf8 a :=
  open_rows actC8 ActWf8 3 actC8_len (by decide) Tryz.underlying94 c8i_act (fun h => trod_acts8 h) hok h
end
end Go.Proofs.YtbcghggkfnagoaaGreatDoor
