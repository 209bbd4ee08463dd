/- PARTS OF A PROOF, one behind the other: THE PAGER's MAPS OF PAGES, as the world has them. THE PAGER in a transaction, as the world has it. THE PAGER's methods in a transaction: made, ready, within, alive, Pages, Busy, Get. THE PAGER's Put and Grow in a transaction. THE PAGER's Grow in a transaction. THE PAGER is opened over a new disk. pager.Open over a new disk. CONDITIONS: none of this text's own. -/
import Derived.Test.YtbcghggkfnagoaaGreatDoorQS11
import Derived.Test.YtbcghggkfnagoaaGreatDoorQS10
import Derived.Test.YtbcghggkfnagoaaGreatDoorQS9
set_option linter.unusedVariables false
set_option linter.unusedSimpArgs false
namespace Go.Proofs.YtbcghggkfnagoaaGreatDoor
open Go Go.RowKit Go.Maps Hach

/-! ### rows of keys and things -/
section
variable {α : Type}
def insG (x : Int × α) : List (Int × α) → List (Int × α)
  | [] => [x]
  | y :: r => if x.1 < y.1 then x :: y :: r else y :: insG x r
def gput (L : List (Int × α)) (k : Int) (a : α) : List (Int × α) := insG (k, a) (L.filter fun q => !decide (q.1 = k))
def gget (L : List (Int × α)) (k : Int) : Option α := (L.find? fun q => decide (q.1 = k)).map (·.2)
theorem mem_insG {x y : Int × α} {L : List (Int × α)} : y ∈ insG x L ↔ y = x ∨ y ∈ L := by
  induction L with
  | nil => simp [insG]
  | cons z r ih =>
    unfold insG
    split
    · simp
    · rw [List.mem_cons, ih, List.mem_cons]
      constructor
      · rintro (h | h | h)
        · exact .inr (.inl h)
        · exact .inl h
        · exact .inr (.inr h)
      · rintro (h | h | h)
        · exact .inr (.inl h)
        · exact .inl h
        · exact .inr (.inr h)
theorem gget_ins {x : Int × α} {L : List (Int × α)} (hx : ∀ y ∈ L, y.1 ≠ x.1) (k : Int) : gget (insG x L) k = if x.1 = k then some x.2 else gget L k := by
  induction L with
  | nil => unfold gget insG; by_cases h : x.1 = k <;> simp [h]
  | cons z r ih =>
    have hz := hx z List.mem_cons_self
    have ih' := ih (fun y hy => hx y (List.mem_cons_of_mem _ hy))
    unfold insG
    split
    · unfold gget
      rw [List.find?_cons]
      by_cases h : x.1 = k <;> simp [h]
    · unfold gget at ih' ⊢
      rw [List.find?_cons, List.find?_cons]
      by_cases h : z.1 = k
      · have : ¬ x.1 = k := fun e => hz (h.trans e.symm)
        simp [h, this]
      · simp only [h, decide_false]
        exact ih'
theorem gget_filter (L : List (Int × α)) (k j : Int) (h : j ≠ k) : gget (L.filter fun q => !decide (q.1 = k)) j = gget L j := by
  induction L with
  | nil => rfl
  | cons z r ih =>
    unfold gget at ih ⊢
    rw [List.filter_cons]
    by_cases hz : z.1 = k
    · have : ¬ z.1 = j := fun e => h (e.symm.trans hz)
      simp only [hz, decide_true, Bool.not_true]
      rw [List.find?_cons]
      simp only [this, decide_false]
      exact ih
    · simp only [hz, decide_false, Bool.not_false, if_true]
      rw [List.find?_cons, List.find?_cons]
      by_cases h2 : z.1 = j
      · simp [h2]
      · simp only [h2, decide_false]
        exact ih
theorem gget_put (L : List (Int × α)) (k : Int) (a : α) (j : Int) : gget (gput L k a) j = if k = j then some a else gget L j := by
  unfold gput
  rw [gget_ins (x := (k, a)) (fun y hy e => by
    have := (List.mem_filter.1 hy).2
    have e' : y.1 = k := e
    rw [decide_eq_true e'] at this
    cases this)]
  by_cases h : k = j
  · rw [if_pos h, if_pos h]
  · rw [if_neg h, if_neg h, gget_filter _ _ _ (fun e => h e.symm)]
theorem mem_gput {L : List (Int × α)} {k : Int} {a : α} {y : Int × α} (h : y ∈ gput L k a) : y = (k, a) ∨ (y ∈ L ∧ y.1 ≠ k) := by
  unfold gput at h
  rcases mem_insG.1 h with h | h
  · exact .inl h
  · have := List.mem_filter.1 h
    exact .inr ⟨this.1, fun e => by rw [decide_eq_true e] at this; exact absurd this.2 (by decide)⟩
theorem gget_mem {L : List (Int × α)} {k : Int} {a : α} (h : gget L k = some a) : (k, a) ∈ L := by
  unfold gget at h
  cases hf : L.find? (fun q => decide (q.1 = k)) with
  | none => rw [hf] at h; cases h
  | some q =>
    rw [hf] at h
    injection h with h
    have h1 := List.mem_of_find?_eq_some hf
    have h2 : q.1 = k := of_decide_eq_true (p := q.1 = k) (List.find?_some (p := fun q : Int × α => decide (q.1 = k)) hf)
    rw [← h, ← h2]; exact h1
theorem insL_map (f : α → Sec) (x : Int × α) (L : List (Int × α)) : insL (x.1, f x.2) (L.map fun y => (y.1, f y.2)) = (insG x L).map fun y => (y.1, f y.2) := by
  induction L with
  | nil => rfl
  | cons z r ih =>
    simp only [List.map_cons, insL, insG, decide_eq_true_eq]
    by_cases h : x.1 < z.1
    · rw [if_pos h, if_pos h]; rfl
    · rw [if_neg h, if_neg h, ih]; rfl
theorem putL_map (f : α → Sec) (L : List (Int × α)) (k : Int) (a : α) : putL (L.map fun y => (y.1, f y.2)) k (f a) = (gput L k a).map fun y => (y.1, f y.2) := by
  unfold putL gput
  rw [← insL_map f (k, a)]
  congr 1
  rw [List.filter_map]
  rfl
theorem getL_map (f : α → Sec) (L : List (Int × α)) (k : Int) : getL (L.map fun y => (y.1, f y.2)) k = (gget L k).map f := by
  unfold getL gget
  rw [List.find?_map]
  rw [Option.map_map, Option.map_map]
  rfl
end
/-! ### a page, as a map's element -/
def encP (g c : Nat) : Sec := List.replicate g 0 ++ 1 :: List.replicate c 0
theorem encP_inj {g c g' c' : Nat} (h : encP g c = encP g' c') : g = g' ∧ c = c' := by
  have key : ∀ g c, ((encP g c).takeWhile fun b => b == 0).length = g ∧ (encP g c).length = g + 1 + c := fun g c => by
    unfold encP
    refine ⟨?_, by simp; omega⟩
    induction g with
    | zero => rfl
    | succ g ih => rw [List.replicate_succ, List.cons_append, List.takeWhile_cons]; simp only [beq_self_eq_true, if_true, List.length_cons]; rw [ih]
  have h1 := key g c
  have h2 := key g' c'
  rw [h] at h1
  have e := h1.1.symm.trans h2.1
  subst e
  exact ⟨rfl, by have := h1.2.symm.trans h2.2; omega⟩
def pgV (g c : Nat) : Value := .slice (some ⟨g, 0, none⟩) 512 c
def pgElem (v : Value) : Option (DataW Unit × List MemPlace) :=
  match v with
  | .slice none 0 0 => some (.lit (.string []), [])
  | .slice (some ⟨g, 0, none⟩) 512 c => some (.lit (.string (encP g c)), [])
  | _ => none
theorem pgElem_mk (g c : Nat) : pgElem (pgV g c) = some (.lit (.string (encP g c)), []) := rfl
theorem pgElem_inv {v : Value} {g c : Nat} {ps : List MemPlace} (h : pgElem v = some (.lit (.string (encP g c)), ps)) : v = pgV g c := by
  unfold pgElem at h
  split at h
  · injection h with h
    injection h with h _
    injection h with h
    injection h with h
    have := congrArg List.length h
    unfold encP at this
    simp at this
  · injection h with h
    injection h with h _
    injection h with h
    injection h with h
    obtain ⟨rfl, rfl⟩ := encP_inj h
    rfl
  · cases h
end Go.Proofs.YtbcghggkfnagoaaGreatDoor

namespace Go.Proofs.YtbcghggkfnagoaaGreatDoor
open Go Go.RowKit Go.Maps Hach

structure PgX where
  g : Nat
  c : Nat
  bs : List UInt8
def encX (x : PgX) : Sec := encP x.g x.c
abbrev PgL := List (Int × PgX)
def MapP (w : World) (m : Nat) (L : PgL) : Prop := w.ownsMap Tryz.prog 3 pgElem m L.length (datL (L.map fun y => (y.1, encX y.2)))
theorem zeroPg (w : World) : (zeroValue 64).run Tryz.prog w = .ok (.slice none 0 0) w := by kernel_rfl
theorem MapP.of {w : World} {m n : Nat} {D : DataW Unit} {L : PgL} (h : w.ownsMap Tryz.prog 3 pgElem m n D) (e : D = datL (L.map fun y => (y.1, encX y.2))) : MapP w m L := by
  subst e
  obtain ⟨es, clock, hb, F, hs, hD⟩ := h
  refine ⟨es, clock, hb, F, ?_, hD⟩
  have := sizeL_dat (L.map fun y => (y.1, encX y.2))
  rw [hD, Maps.size_eq, length_sorted, List.length_map, Array.length_toList, List.length_map] at this
  omega
theorem MapP.made (w : World) : MapP (w.alloc (.map #[] 0)) w.heap.size [] := World.ownsMap_made _ _ _ _
theorem MapP.kept {w w' : World} {m : Nat} {L : PgL} {S : Nat → Prop} (h : MapP w m L) (hf : Fr S w w') (hS : ¬ S m) : MapP w' m L := by
  have hlt := World.ownsMap.lt h
  obtain ⟨es, clock, hb, r⟩ := h
  exact ⟨es, clock, (hf.block m hlt hS).trans hb, r⟩
theorem MapP.lt {w : World} {m : Nat} {L : PgL} (h : MapP w m L) : m < w.heap.size := World.ownsMap.lt h
theorem MapP.up {w w' : World} {m : Nat} {L : PgL} (h : MapP w m L) (hu : Up w w') : MapP w' m L := h.kept (Fr.of_below hu) id
theorem MapP.isMap {w : World} {m : Nat} {L : PgL} (h : MapP w m L) : ∃ es clock, w.heap[m]? = some (.map es clock) := by obtain ⟨es, clock, hb, _⟩ := h; exact ⟨es, clock, hb⟩
def pgAt (L : PgL) (p : Int) : Value := match gget L p with | none => .slice none 0 0 | some x => pgV x.g x.c
theorem pgGot {L : PgL} {v : Value} {ps : List MemPlace} {p : Int} (hv : pgElem v = some ((datL (L.map fun y => (y.1, encX y.2))).atKey (.int .i64 p) (.lit (.string [])), ps)) : v = pgAt L p := by
  rw [getL_dat, getL_map encX] at hv
  unfold pgAt
  cases hl : gget L p with
  | none =>
    rw [hl] at hv
    unfold pgElem at hv
    split at hv
    · rfl
    · injection hv with hv
      injection hv with hv _
      injection hv with hv
      injection hv with hv
      have := congrArg List.length hv
      unfold encP at this
      simp at this
    · cases hv
  | some x => rw [hl] at hv; exact pgElem_inv hv
theorem MapP.look {w : World} {m : Nat} {L : PgL} (h : MapP w m L) {p : Int} (hp : (Lit.int .i64 p).wf = true) :
    (Instr.lookup 128 (.map (some m)) (.int .i64 p) true).run Tryz.prog w = .ok (.tuple #[pgAt L p, .bool (gget L p).isSome]) w := by
  obtain ⟨v, ps, hrun, hv⟩ := World.ownsMap.look_ok h keyI Tryz.underlying128 (zeroPg w) (show pgElem (.slice none 0 0) = some (.lit (.string []), []) from rfl) (keyI_mk hp)
  rw [hrun, hasL_dat, getL_map encX, Option.isSome_map, pgGot hv]
theorem MapP.get {w : World} {m : Nat} {L : PgL} (h : MapP w m L) {p : Int} (hp : (Lit.int .i64 p).wf = true) :
    (Instr.lookup 128 (.map (some m)) (.int .i64 p) false).run Tryz.prog w = .ok (pgAt L p) w := by
  obtain ⟨v, ps, hrun, hv⟩ := World.ownsMap.lookup h keyI Tryz.underlying128 (zeroPg w) (show pgElem (.slice none 0 0) = some (.lit (.string []), []) from rfl) (keyI_mk hp)
  rw [hrun, pgGot hv]
theorem MapP.len {w : World} {m : Nat} {L : PgL} (h : MapP w m L) (ty : TypeId) : (Builtin.len_ #[128] ty #[.map (some m)]).run Tryz.prog w = .ok (.int .i64 L.length) w := by
  have := World.ownsMap.len h Tryz.underlying128 ty
  rw [sizeL_dat, List.length_map] at this
  exact this
theorem MapP.put {w : World} {m : Nat} {L : PgL} (h : MapP w m L) {p : Int} (x : PgX) (hp : (Lit.int .i64 p).wf = true) (hL : L.length < 1000000) :
    ∃ w', (Instr.mapUpdate 128 (.map (some m)) (.int .i64 p) (pgV x.g x.c)).run Tryz.prog w = .ok () w' ∧ MapP w' m (gput L p x) ∧ w.grownBy w' (some m) := by
  obtain ⟨w', hrun, k1, k2⟩ := World.ownsMap.update h keyI Tryz.underlying128 (by unfold maxLen; omega) (keyI_mk hp) (pgElem_mk x.g x.c)
  refine ⟨w', hrun, MapP.of k1 ?_, k2⟩
  rw [putL_dat]
  exact congrArg datL (putL_map encX L p x)
structure PgRow (w : World) (x : PgX) : Prop where
  row : ByteRow w x.g 0 x.bs
  len : x.bs.length = 512
  cap : 512 ≤ x.c
theorem PgRow.fr {S : Nat → Prop} {w w' : World} {x : PgX} (h : PgRow w x) (hf : Fr S w w') (hS : ¬ S x.g) : PgRow w' x := ⟨h.row.fr hf hS, h.len, h.cap⟩
theorem PgRow.bytes {w : World} {x : PgX} (h : PgRow w x) : Bytes w (some ⟨x.g, 0, none⟩) x.bs := by
  refine Rd.bytes (fun j u hj => ⟨x.g, 0, rfl, ?_⟩)
  exact h.row.2 j u hj
structure PgN where
  d : Nat
  c : Nat
  count : Int
  com : Int
  rep : Int
def pagerCs (q : PgN) (t : Value) (dead : Bool) : Array Value := #[.pointer (some ⟨q.d, 0, none⟩), .pointer (some ⟨q.c, 0, none⟩), .int .i64 q.count, t, .bool dead, .int .i64 q.com, .int .i64 q.rep]
def PagerAt (w : World) (p : Nat) (q : PgN) (t : Value) (dead : Bool) : Prop := w.heap[p]? = some (.cells (pagerCs q t dead) 80 (0, 0))
theorem PagerAt.cells {w : World} {p : Nat} {q : PgN} {t : Value} {dead : Bool} (h : PagerAt w p q t dead) : w.cell? ⟨p, 0, none⟩ = some (.pointer (some ⟨q.d, 0, none⟩)) ∧ w.cell? ⟨p, 1, none⟩ = some (.pointer (some ⟨q.c, 0, none⟩)) ∧ w.cell? ⟨p, 2, none⟩ = some (.int .i64 q.count) ∧ w.cell? ⟨p, 3, none⟩ = some t ∧ w.cell? ⟨p, 4, none⟩ = some (.bool dead) ∧ w.cell? ⟨p, 5, none⟩ = some (.int .i64 q.com) ∧ w.cell? ⟨p, 6, none⟩ = some (.int .i64 q.rep) :=
  have k : ∀ i v, (pagerCs q t dead)[i]? = some v → w.cell? ⟨p, i, none⟩ = some v := fun i v hv => by rw [cell_of_row _ _ _ _ _ _ h]; exact hv
  ⟨k 0 _ rfl, k 1 _ rfl, k 2 _ rfl, k 3 _ rfl, k 4 _ rfl, k 5 _ rfl, k 6 _ rfl⟩
theorem PagerAt.free {w : World} {p : Nat} {q : PgN} {t : Value} {dead : Bool} (h : PagerAt w p q t dead) (i : Nat) : w.frozen? ⟨p, i, none⟩ = false := by unfold World.frozen?; rw [show (⟨p, i, none⟩ : Addr).block = p from rfl, h]; simp
theorem PagerAt.fr {S : Nat → Prop} {w w' : World} {p : Nat} {q : PgN} {t : Value} {dead : Bool} (h : PagerAt w p q t dead) (hf : Fr S w w') (hS : ¬ S p) : PagerAt w' p q t dead := (hf.block p (Array.getElem?_eq_some_iff.1 h).1 hS).trans h
def tranCs (n : Int) (m : Nat) (mv : Value) (last : Int) : Array Value := #[.int .i64 n, .map (some m), mv, .int .i64 last]
structure TranAt (w : World) (p : Nat) (q : PgN) (t m : Nat) (mv : Value) (last : Int) (n : Nat) (L : PgL) : Prop where
  own : PagerAt w p q (.pointer (some ⟨t, 0, none⟩)) false
  tran : w.heap[t]? = some (.cells (tranCs n m mv last) 131 (0, 0))
  map : MapP w m L
  rows : ∀ y ∈ L, PgRow w y.2
section
variable {w w' : World} {p t m : Nat} {q : PgN} {mv : Value} {last : Int} {n : Nat} {L : PgL}
theorem TranAt.cells (h : TranAt w p q t m mv last n L) : w.cell? ⟨t, 0, none⟩ = some (.int .i64 n) ∧ w.cell? ⟨t, 1, none⟩ = some (.map (some m)) ∧ w.cell? ⟨t, 2, none⟩ = some mv ∧ w.cell? ⟨t, 3, none⟩ = some (.int .i64 last) :=
  have k : ∀ i v, (tranCs n m mv last)[i]? = some v → w.cell? ⟨t, i, none⟩ = some v := fun i v hv => by rw [cell_of_row _ _ _ _ _ _ h.tran]; exact hv
  ⟨k 0 _ rfl, k 1 _ rfl, k 2 _ rfl, k 3 _ rfl⟩
theorem TranAt.free (h : TranAt w p q t m mv last n L) (i : Nat) : w.frozen? ⟨t, i, none⟩ = false := by unfold World.frozen?; rw [show (⟨t, i, none⟩ : Addr).block = t from rfl, h.tran]; simp
theorem TranAt.ne (h : TranAt w p q t m mv last n L) : p ≠ t ∧ p ≠ m ∧ t ≠ m ∧ ∀ y ∈ L, y.2.g ≠ p ∧ y.2.g ≠ t ∧ y.2.g ≠ m := by
  obtain ⟨es, cl, hm⟩ := h.map.isMap
  have h1 := h.own
  have h2 := h.tran
  unfold PagerAt at h1
  refine ⟨fun e => ?_, fun e => ?_, fun e => ?_, fun y hy => ?_⟩
  · rw [e, h2] at h1; injection h1 with h1; injection h1 with _ h1 _; exact absurd h1 (by decide)
  · rw [e, hm] at h1; cases h1
  · rw [e, hm] at h2; cases h2
  · obtain ⟨cs, fr, hb⟩ := (h.rows y hy).row.1
    refine ⟨fun e => ?_, fun e => ?_, fun e => ?_⟩
    · rw [e, h1] at hb; injection hb with hb; injection hb with _ hb _; exact absurd hb (by decide)
    · rw [e, h2] at hb; injection hb with hb; injection hb with _ hb _; exact absurd hb (by decide)
    · rw [e, hm] at hb; cases hb
theorem TranAt.up (h : TranAt w p q t m mv last n L) (hu : Up w w') : TranAt w' p q t m mv last n L :=
  ⟨h.own.fr (Fr.of_below hu) id, (hu.block t (Array.getElem?_eq_some_iff.1 h.tran).1).trans h.tran, h.map.up hu, fun y hy => (h.rows y hy).fr (Fr.of_below hu) id⟩
end
end Go.Proofs.YtbcghggkfnagoaaGreatDoor

namespace Go.Proofs.YtbcghggkfnagoaaGreatDoor
open Go Go.RowKit Go.Maps Hach

section
variable (w : World) (p : Nat) (q : PgN) (t : Value) (dead : Bool)
theorem pmade_calls (h : Hid (PagerAt w p q t dead)) : Calls Tryz.prog 130 #[.pointer (some ⟨p, 0, none⟩)] w fun en w' => en = .returned (.bool true) ∧ w' = w := by
  obtain ⟨e0, _⟩ := h.out.cells
  go_enter Tryz.func130, Tryz.ntmps130
  go_wp2
  go_ret
  exact ⟨rfl, rfl⟩
theorem pready_calls (h : Hid (PagerAt w p q t dead)) : Calls Tryz.prog 116 #[.pointer (some ⟨p, 0, none⟩)] w fun en w' => en = .returned (.int .i64 (if dead then 4 else 0)) ∧ w' = w := by
  obtain ⟨_, _, _, _, e4, _⟩ := h.out.cells
  cases dead
  · go_enter Tryz.func116, Tryz.ntmps116
    go_wp2_with (go_at_call 130; refine (pmade_calls w p q t false h).mono ?_; rintro e w' ⟨rfl, hw⟩; obtain rfl := hw.symm)
    go_ret
    exact ⟨rfl, rfl⟩
  · go_enter Tryz.func116, Tryz.ntmps116
    go_wp2_with (go_at_call 130; refine (pmade_calls w p q t true h).mono ?_; rintro e w' ⟨rfl, hw⟩; obtain rfl := hw.symm)
    go_ret
    exact ⟨rfl, rfl⟩
theorem pwithin_calls (b : Nat) (h : Hid (PagerAt w p q (.pointer (some ⟨b, 0, none⟩)) false)) : Calls Tryz.prog 86 #[.pointer (some ⟨p, 0, none⟩)] w fun en w' => en = .returned (.int .i64 0) ∧ w' = w := by
  obtain ⟨_, _, _, e3, _⟩ := h.out.cells
  go_enter Tryz.func86, Tryz.ntmps86
  go_wp2_with (go_at_call 116; refine (pready_calls w p q _ false h).mono ?_; rintro e w' ⟨rfl, hw⟩; obtain rfl := hw.symm)
  go_ret
  exact ⟨rfl, rfl⟩
theorem palive_calls (h : Hid (PagerAt w p q t dead)) : Calls Tryz.prog 71 #[.pointer (some ⟨p, 0, none⟩)] w fun en w' => en = .returned (.bool (!dead)) ∧ w' = w := by
  obtain ⟨_, _, _, _, e4, _⟩ := h.out.cells
  go_enter Tryz.func71, Tryz.ntmps71
  go_wp2_with (go_at_call 130; refine (pmade_calls w p q t dead h).mono ?_; rintro e w' ⟨rfl, hw⟩; obtain rfl := hw.symm)
  go_ret
  exact ⟨rfl, rfl⟩
set_option maxRecDepth 100000 in
set_option maxHeartbeats 2000000 in
theorem pbegin_calls (cnt : Nat) (h : Hid (PagerAt w p q (.pointer none) false)) (hc : Hid (q.count = cnt)) : Calls Tryz.prog 47 #[.pointer (some ⟨p, 0, none⟩)] w fun en w' => en = .returned (.int .i64 0) ∧ ∃ t m, Hid (TranAt w' p q t m (.slice none 0 0) 0 cnt [] ∧ Fr (fun k => k = p) w w' ∧ w.heap.size ≤ t ∧ w.heap.size ≤ m) := by
  obtain ⟨_, _, e2, e3, _⟩ := h.out.cells
  rw [hc.out] at e2
  have f3 := h.out.free 3
  have hmm := @run_makeMap Tryz.prog
  obtain ⟨u1, hu1⟩ : ∃ u, u = w.alloc (.map #[] 0) := ⟨_, rfl⟩
  obtain ⟨u2, hu2⟩ : ∃ u, u = u1.alloc (.cells (tranCs cnt w.heap.size (.slice none 0 0) 0) 131) := ⟨_, rfl⟩
  have U1 : Up w u1 := by rw [hu1]; exact upAlD (Up.refl w) _
  have U2 : Up u1 u2 := by rw [hu2]; exact upAlD (Up.refl u1) _
  have hp2 : PagerAt u2 p q (.pointer none) false := h.out.fr (Fr.of_below (U1.t U2)) id
  have hz : u1.heap.size = w.heap.size + 1 := by rw [hu1]; simp
  have ht2 : u2.heap[u1.heap.size]? = some (.cells (tranCs cnt w.heap.size (.slice none 0 0) 0) 131 (0, 0)) := by rw [hu2]; exact heap_alloc_new u1 _
  have hm2 : MapP u2 w.heap.size [] := MapP.up (by rw [hu1]; exact MapP.made w) U2
  have k1 := heap_setCell_same _ p 3 _ _ (.pointer (some ⟨u1.heap.size, 0, none⟩)) hp2
  have hlt := (Array.getElem?_eq_some_iff.1 h.out).1
  have hf : Fr (fun k => k = p) u2 (u2.setCell ⟨p, 3, none⟩ (.pointer (some ⟨u1.heap.size, 0, none⟩))) := (Fr.refl (fun k => k = p) u2).setCell (p := ⟨p, 3, none⟩) (fun _ => rfl) _
  have RES : Hid (TranAt (u2.setCell ⟨p, 3, none⟩ (.pointer (some ⟨u1.heap.size, 0, none⟩))) p q u1.heap.size w.heap.size (.slice none 0 0) 0 cnt [] ∧ Fr (fun k => k = p) w (u2.setCell ⟨p, 3, none⟩ (.pointer (some ⟨u1.heap.size, 0, none⟩))) ∧ w.heap.size ≤ u1.heap.size ∧ w.heap.size ≤ w.heap.size) :=
    hid ⟨⟨k1, (hf.block u1.heap.size (Array.getElem?_eq_some_iff.1 ht2).1 (by omega)).trans ht2, hm2.kept hf (by omega), fun y hy => by cases hy⟩, ((Fr.of_below (U1.t U2)).mono (fun _ e => e.elim)).trans' hf, by omega, Nat.le_refl _⟩
  rw [hz, hu2, hu1] at RES
  rw [hu2, hu1] at hp2
  have E3 := hp2.cells.2.2.2.1
  have F3 := hp2.free 3
  clear k1 hf hm2 ht2 hp2 U1 U2 hlt hu1 hu2 hz f3
  unfold tranCs at E3 F3
  go_enter Tryz.func47, Tryz.ntmps47
  go_wp2_with (go_at_call 116; refine (pready_calls w p q _ false h).mono ?_; rintro e w' ⟨rfl, hw⟩; obtain rfl := hw.symm)
  go_ret
  exact ⟨rfl, _, _, RES⟩
end
section
variable (w : World) (p t m : Nat) (q : PgN) (mv : Value) (last : Int) (n : Nat) (L : PgL)
theorem ppages_calls (h : Hid (TranAt w p q t m mv last n L)) : Calls Tryz.prog 18 #[.pointer (some ⟨p, 0, none⟩)] w fun en w' => en = .returned (.int .i64 n) ∧ w' = w := by
  obtain ⟨_, _, _, e3, _⟩ := h.out.own.cells
  obtain ⟨f0, _⟩ := h.out.cells
  have H := hid h.out.own
  go_enter Tryz.func18, Tryz.ntmps18
  go_wp2_with (go_at_call 71; refine (palive_calls w p q _ false H).mono ?_; rintro e w' ⟨rfl, hw⟩; obtain rfl := hw.symm)
  go_ret
  exact ⟨rfl, rfl⟩
theorem pbusy_calls (h : Hid (TranAt w p q t m mv last n L)) : Calls Tryz.prog 25 #[.pointer (some ⟨p, 0, none⟩)] w fun en w' => en = .returned (.bool true) ∧ w' = w := by
  obtain ⟨_, _, _, e3, _⟩ := h.out.own.cells
  have H := hid h.out.own
  go_enter Tryz.func25, Tryz.ntmps25
  go_wp2_with (go_at_call 71; refine (palive_calls w p q _ false H).mono ?_; rintro e w' ⟨rfl, hw⟩; obtain rfl := hw.symm)
  go_ret
  exact ⟨rfl, rfl⟩
set_option maxRecDepth 100000 in
set_option maxHeartbeats 2000000 in
theorem pget_calls (h : Hid (TranAt w p q t m mv last n L)) (i : Nat) (hi : Hid (1 ≤ i ∧ i ≤ n ∧ n < 1000000)) (x : PgX) (hx : Hid (gget L i = some x)) :
    Calls Tryz.prog 44 #[.pointer (some ⟨p, 0, none⟩), .int .i64 i] w fun en w' => ∃ A c, en = .returned (.tuple #[.slice A 512 c, .int .i64 0]) ∧ Hid (OwnB w' w.heap.size A c x.bs ∧ Up w w') := by
  obtain ⟨_, _, _, e3, _⟩ := h.out.own.cells
  obtain ⟨_, f1, _⟩ := h.out.cells
  have H := hid h.out.own
  have lk := h.out.map.look (p := (i : Int)) (wf_nat (by have := hi.out; omega))
  have hr := h.out.rows _ (gget_mem hx.out)
  have hpv : pgAt L i = pgV x.g x.c := by unfold pgAt; rw [hx.out]
  rw [hpv, hx.out] at lk
  unfold pgV at lk
  have h1 : ¬ (i : Int) < 1 := by have := hi.out; omega
  have h2 : ¬ (n : Int) < i := by have := hi.out; omega
  have CL := clone_calls w (some ⟨x.g, 0, none⟩) x.bs x.c (by rw [hr.len]; decide) (hid hr.bytes)
  rw [hr.len] at CL
  have HR := hid hr
  clear hr hpv
  go_enter Tryz.func44, Tryz.ntmps44
  go_wp2_with (first | (go_at_call 116; refine (pready_calls w p q _ false H).mono ?_; rintro e w' ⟨rfl, hw⟩; obtain rfl := hw.symm) | (go_at_call 18; refine (ppages_calls w p t m q mv last n L h).mono ?_; rintro e w' ⟨rfl, hw⟩; obtain rfl := hw.symm) | fail)
  refine CL.mono ?_
  rintro en w2 ⟨A, c, rfl, o2, b2⟩
  rw [HR.out.len]
  have O2 := hid o2
  have B2 := hid b2
  clear o2 b2
  go_wp2
  go_ret2
  exact ⟨A, c, rfl, hid ⟨O2.out, B2.out⟩⟩
end
end Go.Proofs.YtbcghggkfnagoaaGreatDoor

namespace Go.Proofs.YtbcghggkfnagoaaGreatDoor
open Go Go.RowKit Go.Maps Hach

theorem own_pgRow {w : World} {base c : Nat} {A : Option Addr} {xs : List UInt8} (hl : xs.length = 512) (h : OwnB w base A c xs) : ∃ g, A = some ⟨g, 0, none⟩ ∧ PgRow w ⟨g, c, xs⟩ ∧ base ≤ g := by
  have h' : w.ownsRow base 5 1 (.slice A xs.length c) xs.length (xs.map byteCell) := h
  rcases h'.2 with ⟨_, h0⟩ | ⟨g, cap, cur, hv, hb, hg, hnc, _⟩
  · rw [hl] at h0; cases h0
  · injection hv with e1 e2 e3
    have hcap : xs.length ≤ c := by rw [e3]; exact hnc
    subst e1; subst e3
    refine ⟨g, rfl, ⟨⟨⟨cur, (0, 0), hg⟩, fun j v hj => ?_⟩, hl, by show 512 ≤ c; omega⟩, hb⟩
    have hjl := (List.getElem?_eq_some_iff.1 hj).1
    rw [secC_length] at hjl
    have hjl' : j < xs.length := hjl
    show w.cell? ⟨g, 0 + j, none⟩ = some v
    rw [Nat.zero_add, h'.cellAt j (by omega)]
    exact hj
section
variable {w w2 w3 : World} {p t m : Nat} {q : PgN} {mv : Value} {last : Int} {n : Nat} {L : PgL}
theorem TranAt.put (h : TranAt w p q t m mv last n L) (hu : Up w w2) {i : Int} {x : PgX} (hx : PgRow w2 x) (hm : MapP w3 m (gput L i x)) (hg : w2.grownBy w3 (some m)) : TranAt w3 p q t m mv last n (gput L i x) ∧ Fr (fun k => k = m) w w3 := by
  have h2 := h.up hu
  have hf : Fr (fun k => k = m) w2 w3 := (Fr.of_grown hg).mono (fun k e => Option.some.inj e)
  obtain ⟨n1, n2, n3, n4⟩ := h2.ne
  have hxm : x.g ≠ m := by
    intro e
    obtain ⟨cs, fr, hb⟩ := hx.row.1
    obtain ⟨es, cl, hm2⟩ := h2.map.isMap
    rw [e, hm2] at hb; cases hb
  refine ⟨⟨h2.own.fr hf n2, (hf.block t (Array.getElem?_eq_some_iff.1 h2.tran).1 n3).trans h2.tran, hm, fun y hy => ?_⟩, ((Fr.of_below hu).mono (fun _ e => e.elim)).trans' hf⟩
  rcases mem_gput hy with rfl | ⟨hy, _⟩
  · exact hx.fr hf hxm
  · exact (h2.rows y hy).fr hf (n4 y hy).2.2
end
set_option maxRecDepth 100000 in
set_option maxHeartbeats 2000000 in
theorem pput_calls (w : World) (p t m : Nat) (q : PgN) (mv : Value) (last : Int) (n : Nat) (L : PgL) (h : Hid (TranAt w p q t m mv last n L)) (i : Nat) (hi : Hid (1 ≤ i ∧ i ≤ n ∧ n < 1000000)) (hL : Hid (L.length < 1000000))
    (A : Option Addr) (xs : List UInt8) (c : Nat) (hxs : Hid (xs.length = 512)) (hb : Hid (Bytes w A xs)) :
    Calls Tryz.prog 48 #[.pointer (some ⟨p, 0, none⟩), .int .i64 i, .slice A 512 c] w fun en w' => en = .returned (.int .i64 0) ∧ ∃ g c', Hid (TranAt w' p q t m mv last n (gput L i ⟨g, c', xs⟩) ∧ Fr (fun k => k = m) w w' ∧ w.heap.size ≤ g) := by
  obtain ⟨_, _, _, e3, _⟩ := h.out.own.cells
  obtain ⟨f0, f1, _⟩ := h.out.cells
  have H := hid h.out.own
  have h1 : ¬ (i : Int) < 1 := by have := hi.out; omega
  have h2 : ¬ (n : Int) < i := by have := hi.out; omega
  have CL : ∀ w', Up w w' → Calls _ _ #[.slice A xs.length c] w' _ := fun w' hu => clone_calls w' A xs c (by rw [hxs.out]; decide) (hid (hb.out.grown hu))
  rw [hxs.out] at CL
  go_enter Tryz.func48, Tryz.ntmps48
  go_wp2_with (go_at_call 86; refine (pwithin_calls w p q t H).mono ?_; rintro e w' ⟨rfl, hw⟩; obtain rfl := hw.symm)
  have US : w.drew.cell? ⟨p, 3, none⟩ = some (.pointer (some ⟨t, 0, none⟩)) ∧ w.drew.cell? ⟨t, 1, none⟩ = some (.map (some m)) := ⟨e3, f1⟩
  refine t_start (fun w9 => w9.cell? ⟨p, 3, none⟩ = some (.pointer (some ⟨t, 0, none⟩)) ∧ w9.cell? ⟨t, 1, none⟩ = some (.map (some m))) 10 (by kernel_rfl) ?_
  refine t_tk 0 32 (v := ?_) US (fun w9 hS => ?_) ?_
  rotate_left
  · go_simp <;> with_reducible rfl
  try simp only [pz]
  refine t_tk 1 33 (v := ?_) US (fun w9 hS => ?_) ?_
  rotate_left
  · go_simp <;> with_reducible rfl
  try simp only [pz]
  refine t_tk 2 34 (v := ?_) US (fun w9 hS => ?_) ?_
  rotate_left
  · go_simp <;> with_reducible rfl
  try simp only [pz]
  refine t_tk 3 35 (v := ?_) US (fun w9 hS => ?_) ?_
  rotate_left
  · obtain ⟨s0, s1⟩ := hS; go_simp <;> with_reducible rfl
  try simp only [pz]
  refine t_tk 4 36 (v := ?_) US (fun w9 hS => ?_) ?_
  rotate_left
  · go_simp <;> with_reducible rfl
  try simp only [pz]
  refine t_tk 5 37 (v := ?_) US (fun w9 hS => ?_) ?_
  rotate_left
  · go_simp <;> with_reducible rfl
  try simp only [pz]
  refine t_tk 6 38 (v := ?_) US (fun w9 hS => ?_) ?_
  rotate_left
  · obtain ⟨s0, s1⟩ := hS; go_simp <;> with_reducible rfl
  try simp only [pz]
  refine t_tk 7 39 (v := ?_) US (fun w9 hS => ?_) ?_
  rotate_left
  · go_simp <;> with_reducible rfl
  try simp only [pz]
  refine t_tk 8 40 (v := ?_) US (fun w9 hS => ?_) ?_
  rotate_left
  · go_simp <;> with_reducible rfl
  try simp only [pz]
  refine t_op 9 (by kernel_rfl) rfl (by rfl) (fun K9 hK9 => ?_)
  go_simp
  go_at_call 117
  refine (CL _ (Up.drew w)).mono ?_
  rintro en w2 ⟨A2, c2, rfl, o2, b2⟩
  rw [hxs.out]
  have U2 : Hid (Up w w2) := hid ((Up.drew w).t b2)
  obtain ⟨g2, rfl, hrow, hg2⟩ := own_pgRow hxs.out o2
  have HROW := hid hrow
  obtain ⟨w3, hupd, hm3, hg3⟩ := (h.out.map.up U2.out).put (p := (i : Int)) ⟨g2, c2, xs⟩ (wf_nat (by have := hi.out; omega)) hL.out
  have PP := TranAt.put h.out U2.out HROW.out hm3 hg3
  have RES := hid (And.intro PP.1 (And.intro PP.2 (show w.heap.size ≤ g2 from hg2)))
  clear PP
  unfold pgV at hupd
  replace US := (show w2.cell? ⟨p, 3, none⟩ = some (.pointer (some ⟨t, 0, none⟩)) ∧ w2.cell? ⟨t, 1, none⟩ = some (.map (some m)) from ⟨U2.out.c e3, U2.out.c f1⟩)
  clear o2 b2 hrow hg2 hm3 hg3
  refine hK9.out _ _ US ?_
  clear hK9 K9
  try simp only [pz]
  refine t_last (by kernel_rfl) rfl (by rfl) (fun K9 hK9 => ?_)
  go_simp
  refine hK9.out _ _ ?_
  clear hK9 K9
  try simp only [pz]
  refine t_done (by kernel_rfl) ?_
  first | (rename_i K1 h1; refine h1 _ _ ?_; clear h1 K1) | skip
  clear US hupd
  go_wp2
  go_ret
  exact ⟨rfl, g2, c2, RES⟩
end Go.Proofs.YtbcghggkfnagoaaGreatDoor

namespace Go.Proofs.YtbcghggkfnagoaaGreatDoor
open Go Go.RowKit Go.Maps Hach
def noPage : List UInt8 := List.replicate 512 0
theorem noPage_len : noPage.length = 512 := List.length_replicate
theorem mk512 (W : World) : ∃ w', (Instr.makeSlice 64 (.int .i64 512) (.int .i64 512)).run Tryz.prog W = .ok (.slice (some ⟨W.heap.size, 0, none⟩) 512 512) w' ∧ OwnB w' W.heap.size (some ⟨W.heap.size, 0, none⟩) 512 noPage ∧ Up W w' := by
  obtain ⟨i, hi, hz0, hz1, hz2⟩ := info_parts elemB.hi
  obtain ⟨w', hrun, ho, hg⟩ := run_makeSlice_full (P := Tryz.prog) (w := W) W.heap.size 64 5 i (.int .u8 0) 1 elemB.ht hi hz0 hz1 .i64 .i64 512 (by decide) (by rw [hz2]; decide) (by decide) (Nat.le_refl _)
  refine ⟨w', hrun, ?_, Fr.below (Fr.of_grown hg) (Nat.le_refl _) (fun k _ => by simp)⟩
  have e : (madeCells (Value.int .u8 0).cells (512 * 1)).toList = (List.replicate 512 (0 : UInt8)).map byteCell := by
    rw [Nat.mul_one]; show (madeCells #[Value.int IntKind.u8 0] 512).toList = _
    rw [toList_madeCells_one, List.map_replicate]; rfl
  rw [e] at ho
  unfold OwnB noPage
  rw [List.length_replicate]
  exact ho
set_option maxRecDepth 100000 in
set_option maxHeartbeats 2000000 in
theorem pgrow_calls (w : World) (p t m : Nat) (q : PgN) (mv : Value) (last : Int) (n : Nat) (L : PgL) (h : Hid (TranAt w p q t m mv last n L)) (hn : Hid (n < 4000)) (hL : Hid (L.length < 1000000)) :
    Calls Tryz.prog 45 #[.pointer (some ⟨p, 0, none⟩)] w fun en w' => en = .returned (.tuple #[.int .i64 (n + 1 : Nat), .int .i64 0]) ∧ ∃ g c, Hid (TranAt w' p q t m mv last (n + 1) (gput L (n + 1 : Nat) ⟨g, c, noPage⟩) ∧ Fr (fun k => k = t ∨ k = m) w w') := by
  obtain ⟨_, _, _, e3, _⟩ := h.out.own.cells
  obtain ⟨f0, f1, _⟩ := h.out.cells
  have z0 := h.out.free 0
  have H := hid h.out.own
  obtain ⟨n1, hn1⟩ : ∃ x, n + 1 = x := ⟨_, rfl⟩
  rw [hn1]
  have hf : Fr (fun k => k = t) w (w.setCell ⟨t, 0, none⟩ (.int .i64 n1)) := (Fr.refl (fun k => k = t) w).setCell (p := ⟨t, 0, none⟩) (fun _ => rfl) _
  obtain ⟨d1, d2, d3, d4⟩ := h.out.ne
  have T1 : Hid (TranAt (w.setCell ⟨t, 0, none⟩ (.int .i64 n1)) p q t m mv last n1 L) := hid ⟨h.out.own.fr hf d1, heap_setCell_same _ t 0 _ _ (.int .i64 n1) h.out.tran, h.out.map.kept hf (fun e => d3 e.symm), fun y hy => (h.out.rows y hy).fr hf (d4 y hy).2.1⟩
  have F1 := hid hf
  have hne : ¬ (n : Int) = 4000 := by have := hn.out; omega
  have hw1 : wrap64 ((n : Int) + 1) = (n1 : Int) := by have := hn.out; unfold wrap64; omega
  clear hf d1 d2 d3 d4
  go_enter Tryz.func45, Tryz.ntmps45
  go_wp2_with (go_at_call 86; refine (pwithin_calls w p q t H).mono ?_; rintro e w' ⟨rfl, hw⟩; obtain rfl := hw.symm)
  rw [hw1]
  obtain ⟨w1, hw1'⟩ : ∃ x, w.setCell ⟨t, 0, none⟩ (.int .i64 n1) = x := ⟨_, rfl⟩
  have N1 : Hid (n1 ≤ 4000) := hid (by have := hn.out; omega)
  rw [hw1'] at T1 F1 ⊢
  clear hw1' hw1
  clear hn1
  have s3 := T1.out.own.cells.2.2.2.1
  have s1 := T1.out.cells.2.1
  have s0 := T1.out.cells.1
  have US : w1.drew.cell? ⟨p, 3, none⟩ = some (.pointer (some ⟨t, 0, none⟩)) ∧ w1.drew.cell? ⟨t, 1, none⟩ = some (.map (some m)) ∧ w1.drew.cell? ⟨t, 0, none⟩ = some (.int .i64 n1) := ⟨s3, s1, s0⟩
  clear e3 f0 f1 z0
  refine t_start (fun w9 => w9.cell? ⟨p, 3, none⟩ = some (.pointer (some ⟨t, 0, none⟩)) ∧ w9.cell? ⟨t, 1, none⟩ = some (.map (some m)) ∧ w9.cell? ⟨t, 0, none⟩ = some (.int .i64 n1)) 15 (by kernel_rfl) ?_
  refine t_tk 0 30 (v := ?_) US (fun w9 hS => ?_) ?_
  rotate_left
  · go_simp <;> with_reducible rfl
  try simp only [pz]
  refine t_tk 1 31 (v := ?_) US (fun w9 hS => ?_) ?_
  rotate_left
  · go_simp <;> with_reducible rfl
  try simp only [pz]
  refine t_tk 2 32 (v := ?_) US (fun w9 hS => ?_) ?_
  rotate_left
  · go_simp <;> with_reducible rfl
  try simp only [pz]
  refine t_tk 3 33 (v := ?_) US (fun w9 hS => ?_) ?_
  rotate_left
  · obtain ⟨s0, s1, s2⟩ := hS; go_simp <;> with_reducible rfl
  try simp only [pz]
  refine t_tk 4 34 (v := ?_) US (fun w9 hS => ?_) ?_
  rotate_left
  · go_simp <;> with_reducible rfl
  try simp only [pz]
  refine t_tk 5 35 (v := ?_) US (fun w9 hS => ?_) ?_
  rotate_left
  · go_simp <;> with_reducible rfl
  try simp only [pz]
  refine t_tk 6 36 (v := ?_) US (fun w9 hS => ?_) ?_
  rotate_left
  · obtain ⟨s0, s1, s2⟩ := hS; go_simp <;> with_reducible rfl
  try simp only [pz]
  refine t_tk 7 37 (v := ?_) US (fun w9 hS => ?_) ?_
  rotate_left
  · go_simp <;> with_reducible rfl
  try simp only [pz]
  refine t_tk 8 38 (v := ?_) US (fun w9 hS => ?_) ?_
  rotate_left
  · go_simp <;> with_reducible rfl
  try simp only [pz]
  refine t_tk 9 39 (v := ?_) US (fun w9 hS => ?_) ?_
  rotate_left
  · go_simp <;> with_reducible rfl
  try simp only [pz]
  refine t_tk 10 40 (v := ?_) US (fun w9 hS => ?_) ?_
  rotate_left
  · obtain ⟨s0, s1, s2⟩ := hS; go_simp <;> with_reducible rfl
  try simp only [pz]
  refine t_tk 11 41 (v := ?_) US (fun w9 hS => ?_) ?_
  rotate_left
  · go_simp <;> with_reducible rfl
  try simp only [pz]
  refine t_tk 12 42 (v := ?_) US (fun w9 hS => ?_) ?_
  rotate_left
  · go_simp <;> with_reducible rfl
  try simp only [pz]
  refine t_tk 13 43 (v := ?_) US (fun w9 hS => ?_) ?_
  rotate_left
  · obtain ⟨s0, s1, s2⟩ := hS; go_simp <;> with_reducible rfl
  try simp only [pz]
  refine t_op 14 (by kernel_rfl) rfl (by rfl) (fun K9 hK9 => ?_)
  go_simp
  obtain ⟨w2, hmk, o2, b2⟩ := mk512 w1.drew
  rw [hmk]
  have U2 : Hid (Up w1 w2) := hid ((Up.drew w1).t b2)
  obtain ⟨g2, hg2', hrow, hg2⟩ := own_pgRow noPage_len o2
  injection hg2' with hg2'
  injection hg2' with hg2'
  subst hg2'
  have HROW := hid hrow
  obtain ⟨w3, hupd, hm3, hg3⟩ := (T1.out.map.up U2.out).put (p := (n1 : Int)) ⟨_, 512, noPage⟩ (wf_nat (by have := N1.out; omega)) hL.out
  have RES := hid (TranAt.put T1.out U2.out HROW.out hm3 hg3)
  replace hupd := (show (Instr.mapUpdate 128 (.map (some m)) (.int .i64 n1) (.slice (some ⟨w1.heap.size, 0, none⟩) 512 512)).run Tryz.prog w2 = .ok () w3 from hupd)
  replace US := (show w2.cell? ⟨p, 3, none⟩ = some (.pointer (some ⟨t, 0, none⟩)) ∧ w2.cell? ⟨t, 1, none⟩ = some (.map (some m)) ∧ w2.cell? ⟨t, 0, none⟩ = some (.int .i64 n1) from ⟨U2.out.c s3, U2.out.c s1, U2.out.c s0⟩)
  clear o2 b2 hrow hg2 hm3 hg3 hmk
  refine hK9.out _ _ US ?_
  clear hK9 K9
  try simp only [pz]
  refine t_last (by kernel_rfl) rfl (by rfl) (fun K9 hK9 => ?_)
  go_simp
  refine hK9.out _ _ ?_
  clear hK9 K9
  try simp only [pz]
  refine t_done (by kernel_rfl) ?_
  first | (rename_i K1 h1; refine h1 _ _ ?_; clear h1 K1) | skip
  obtain ⟨_, _, _, r3, _⟩ := RES.out.1.own.cells
  obtain ⟨r0, _⟩ := RES.out.1.cells
  clear US hupd s0 s1 s3
  go_wp2
  go_ret2
  exact ⟨rfl, _, _, hid ⟨RES.out.1, (F1.out.mono (fun k e => .inl e)).trans' (RES.out.2.mono (fun k e => .inr e))⟩⟩
end Go.Proofs.YtbcghggkfnagoaaGreatDoor

namespace Go.Proofs.YtbcghggkfnagoaaGreatDoor
open Go Go.RowKit Go.Maps Hach

def NewCRet (w : World) (en : Ending) (w' : World) : Prop := ∃ g, en = .returned (.pointer (some ⟨g, 0, none⟩)) ∧ Hid (Up w w')
set_option maxHeartbeats 1000000 in
theorem newC_calls (w : World) (room : Int) (h1 : 1 ≤ room) (h2 : room ≤ 4096) :
    Calls Tryz.prog 72 #[.int .i64 room] w (NewCRet w) := by
  have hmm := @run_makeMap Tryz.prog
  have d1 : ¬ room < 1 := by omega
  have d2 : ¬ (4096 : Int) < room := by omega
  have u1 := upAlD (Up.refl w) (.cells #[.int .i64 0, .slice none 0 0, .int .i64 0, .bool false, .pointer (some ⟨w.heap.size, 0, none⟩), .pointer (some ⟨w.heap.size, 0, none⟩)] 192)
  have u2 := u1.t (upAlD (Up.refl _) (.map #[] 0))
  have u3 := hid (u2.t (upAlD (Up.refl _) (.cells #[.int .i64 room, .map (some (w.heap.size + 1)), .pointer (some ⟨w.heap.size, 0, none⟩), .int .i64 0, .int .i64 0] 195)))
  clear h1 h2 u1 u2
  go_enter Tryz.func72, Tryz.ntmps72
  go_wp2
  go_ret
  exact ⟨_, rfl, u3⟩
set_option maxRecDepth 100000 in
set_option maxHeartbeats 2000000 in
theorem hot0_calls (w : World) (A : Option Addr) (c : Nat) : Calls Tryz.prog 132 #[.slice A 0 c] w fun en w' => en = .returned (.bool false) ∧ Hid (Up w w') := by
  have CR : Calls Tryz.prog 162 #[.slice A 0 c] w fun en w' => en = .returned (.tuple #[.agg #[.int .i64 0, .int .i64 0, .int .u64 0], .int .i64 8]) ∧ Up w w' := by
    go_enter Tryz.func162, Tryz.ntmps162
    go_wp2
    exact bodyPost_ret (v := .tuple #[.agg #[.int .i64 0, .int .i64 0, .int .u64 0], .int .i64 8]) (by simp [results, Tryz.results162, go_sem]) rfl ⟨rfl, (Below.refl _ _).alloc (Nat.le_refl _) _⟩
  go_enter Tryz.func132, Tryz.ntmps132
  go_wp2_with (go_at_call 162; refine CR.mono ?_; rintro e w' ⟨rfl, u⟩)
  go_ret
  exact ⟨rfl, hid (u.t (upAlD (Up.refl _) _))⟩
section
variable (w : World) (p : Nat) (q : PgN) (base : Nat) (D : DiskV)
theorem clean0_calls (h : Hid (PagerAt w p q (.pointer none) false)) (hd : Hid (DiskM w base q.d D)) (hj : Hid (D.f1.now.length = 0)) : Calls Tryz.prog 76 #[.pointer (some ⟨p, 0, none⟩)] w fun en w' => en = .returned (.int .i64 0) ∧ w' = w := by
  obtain ⟨e0, _⟩ := h.out.cells
  have CS := sec1_calls w base q.d D hd
  rw [hj.out] at CS
  go_enter Tryz.func76, Tryz.ntmps76
  go_wp2_with (go_at_call 29; refine CS.mono ?_; rintro e w' ⟨rfl, hw⟩; obtain rfl := hw.symm)
  go_ret
  exact ⟨rfl, rfl⟩
set_option maxRecDepth 100000 in
set_option maxHeartbeats 2000000 in
theorem whole0_calls (h : Hid (PagerAt w p q (.pointer none) false)) (hd : Hid (DiskM w base q.d D)) (hj : Hid (D.f0.now.length = 0)) : Calls Tryz.prog 77 #[.pointer (some ⟨p, 0, none⟩)] w fun en w' => en = .returned (.int .i64 0) ∧ Hid (PagerAt w' p { q with count := 0 } (.pointer none) false ∧ Fr (fun k => k = p) w w') := by
  obtain ⟨e0, _, e2, _⟩ := h.out.cells
  have f2 := h.out.free 2
  have CS := sec0_calls w base q.d D hd
  rw [hj.out] at CS
  have k1 : Hid (PagerAt (w.setCell ⟨p, 2, none⟩ (.int .i64 0)) p { q with count := 0 } (.pointer none) false) := hid (heap_setCell_same _ p 2 _ _ (.int .i64 0) h.out)
  have hf : Hid (Fr (fun k => k = p) w (w.setCell ⟨p, 2, none⟩ (.int .i64 0))) := hid ((Fr.refl (fun k => k = p) w).setCell (p := ⟨p, 2, none⟩) (fun _ => rfl) _)
  go_enter Tryz.func77, Tryz.ntmps77
  go_wp2_with (go_at_call 29; refine CS.mono ?_; rintro e w' ⟨rfl, hw⟩; obtain rfl := hw.symm)
  go_ret
  exact ⟨rfl, hid ⟨k1.out, hf.out⟩⟩
set_option maxRecDepth 100000 in
set_option maxHeartbeats 2000000 in
theorem recover0_calls (h : Hid (PagerAt w p q (.pointer none) false)) (hd : Hid (DiskM w base q.d D)) (ho : Hid (D.on = true)) (hj : Hid (D.f1.now.length = 0)) : Calls Tryz.prog 75 #[.pointer (some ⟨p, 0, none⟩)] w fun en w' => en = .returned (.int .i64 0) ∧ Hid (Up w w') := by
  obtain ⟨e0, _⟩ := h.out.cells
  have CS := fun w' (hu : Up w w') => sec1_calls w' base q.d D (hid (hd.out.up hu))
  have RC := fun w' (hu : Up w w') => read_calls w' base q.d D true (hid (hd.out.up hu)) ho 0 0 (hid ⟨Nat.zero_le _, by show (D.f1.now).length < _; rw [hj.out]; decide⟩)
  have hp0 : part (D.fl true).now 0 0 = [] := by unfold part; simp
  rw [hp0] at RC
  simp only [hj.out] at CS
  go_enter Tryz.func75, Tryz.ntmps75
  go_wp2_with fail
  refine any_start (by kernel_rfl) ?_
  refine a_tk 0 8 (v := ?_) (fun w9 hS => ?_) ?_
  rotate_left
  · go_simp <;> with_reducible rfl
  try simp only [pz]
  refine a_tk 1 9 (v := ?_) (fun w9 hS => ?_) ?_
  rotate_left
  · go_simp <;> with_reducible rfl
  try simp only [pz]
  refine a_tk 2 10 (v := ?_) (fun w9 hS => ?_) ?_
  rotate_left
  · go_simp <;> with_reducible rfl
  try simp only [pz]
  refine a_tk 3 11 (v := ?_) (fun w9 hS => ?_) ?_
  rotate_left
  · have c0 := hS.c e0; go_simp <;> with_reducible rfl
  try simp only [pz]
  refine a_tk 4 12 (v := ?_) (fun w9 hS => ?_) ?_
  rotate_left
  · go_simp <;> with_reducible rfl
  try simp only [pz]
  refine a_tk 5 13 (v := ?_) (fun w9 hS => ?_) ?_
  rotate_left
  · go_simp <;> with_reducible rfl
  try simp only [pz]
  refine a_tk 6 14 (v := ?_) (fun w9 hS => ?_) ?_
  rotate_left
  · go_simp <;> with_reducible rfl
  try simp only [pz]
  refine a_tk 7 15 (v := ?_) (fun w9 hS => ?_) ?_
  rotate_left
  · have c0 := hS.c e0; go_simp <;> with_reducible rfl
  try simp only [pz]
  refine any_call 8 (by kernel_rfl) rfl (by rfl) (fun K9 hK9 => ?_)
  go_simp
  go_at_call 29
  refine (CS _ (Up.drew w)).mono ?_
  rintro en w2 ⟨rfl, hw⟩
  obtain rfl := hw.symm
  clear hw
  refine hK9.out _ _ (Up.refl _) ?_
  clear hK9 K9
  try simp only [pz]
  refine any_call 9 (by kernel_rfl) rfl (by rfl) (fun K9 hK9 => ?_)
  go_simp
  go_at_call 131
  refine (RC _ (Up.drew w)).mono ?_
  rintro en w3 ⟨A3, c3, rfl, hh⟩
  have U3 : Hid (Up w w3) := hid ((Up.drew w).t hh.out.1)
  refine hK9.out _ _ hh.out.1 ?_
  clear hh
  clear hK9 K9
  try simp only [pz]
  refine a_tk 10 7 (v := ?_) (fun w9 hS => ?_) ?_
  rotate_left
  · go_simp <;> with_reducible rfl
  try simp only [pz]
  refine a_tk 11 18 (v := ?_) (fun w9 hS => ?_) ?_
  rotate_left
  · go_simp <;> with_reducible rfl
  try simp only [pz]
  refine a_tk 12 19 (v := ?_) (fun w9 hS => ?_) ?_
  rotate_left
  · go_simp <;> with_reducible rfl
  try simp only [pz]
  refine a_tk 13 3 (v := ?_) (fun w9 hS => ?_) ?_
  rotate_left
  · go_simp <;> with_reducible rfl
  try simp only [pz]
  refine a_tk 14 4 (v := ?_) (fun w9 hS => ?_) ?_
  rotate_left
  · go_simp <;> with_reducible rfl
  try simp only [pz]
  refine any_done (by kernel_rfl) ?_
  first | (rename_i K1 h1; refine h1 _ _ ?_; clear h1 K1) | skip
  go_wp2_with (go_at_call 132; refine (hot0_calls _ A3 c3).mono ?_; rintro e w4 ⟨rfl, u4⟩)
  go_ret
  exact ⟨rfl, hid (U3.out.t u4.out)⟩
end
end Go.Proofs.YtbcghggkfnagoaaGreatDoor

namespace Go.Proofs.YtbcghggkfnagoaaGreatDoor
open Go Go.RowKit Go.Maps Hach

theorem rec_ent (args : Array Value) (w : World) : (callFunc 75 args).run Tryz.prog w = .ok (.enter 75 args) w := by go_simp
theorem cle_ent (args : Array Value) (w : World) : (callFunc 76 args).run Tryz.prog w = .ok (.enter 76 args) w := by go_simp
theorem who_ent (args : Array Value) (w : World) : (callFunc 77 args).run Tryz.prog w = .ok (.enter 77 args) w := by go_simp
def openFs (p : Nat) : List FnV := [⟨75, #[.pointer (some ⟨p, 0, none⟩)], #[]⟩, ⟨76, #[.pointer (some ⟨p, 0, none⟩)], #[]⟩, ⟨77, #[.pointer (some ⟨p, 0, none⟩)], #[]⟩]
def OpenRet (w : World) (en : Ending) (w' : World) : Prop :=
  ∃ p q, en = .returned (.tuple #[.pointer (some ⟨p, 0, none⟩), .int .i64 0]) ∧ Hid (PagerAt w' p q (.pointer none) false ∧ (q.count = 0 ∧ q.com = 0 ∧ q.rep = 0) ∧ Up w w' ∧ w.heap.size ≤ p)
theorem openSteps_calls (w : World) (p g base c : Nat) (q : PgN) (D : DiskV) (hp : Hid (PagerAt w p q (.pointer none) false)) (hq : Hid (q.count = 0)) (hd : Hid (DiskM w base q.d D)) (ho : Hid (D.on = true)) (hj : Hid (D.f0.now.length = 0 ∧ D.f1.now.length = 0)) (hg : g ≠ p) (hr : Hid (Rd w (some ⟨g, 0, none⟩) ((openFs p).map fnv))) :
    Calls Tryz.prog 74 #[.slice (some ⟨g, 0, none⟩) 3 c] w fun en w' => en = .returned (.int .i64 0) ∧ Hid (PagerAt w' p q (.pointer none) false ∧ Fr (fun k => k = p) w w') := by
  have eq0 : ({ q with count := 0 } : PgN) = q := by have := hq.out; cases q; simp at this; subst this; rfl
  refine (steps_calls w (some ⟨g, 0, none⟩) c (openFs p) (fun k w' => PagerAt w' p q (.pointer none) false ∧ Rd w' (some ⟨g, 0, none⟩) ((openFs p).map fnv) ∧ (k < 3 → Up w w') ∧ Fr (fun k => k = p) w w') (fun _ _ => False) (hid (by show 3 < 1000; decide)) (hid fun k w' h => h.2.1) ?_ (hid ?_) ⟨hp.out, hr.out, fun _ => Up.refl w, Fr.refl _ w⟩).mono ?_
  · intro x hx
    rcases List.mem_cons.1 hx with rfl | hx
    · exact rec_ent
    rcases List.mem_cons.1 hx with rfl | hx
    · exact cle_ent
    rcases List.mem_cons.1 hx with rfl | hx
    · exact who_ent
    · cases hx
  · intro k x hx w' h
    match k, hx with
    | 0, hx =>
      obtain rfl := Option.some.inj hx
      refine (recover0_calls w' p q base D (hid h.1) (hid (hd.out.up (h.2.2.1 (by decide)))) ho (hid hj.out.2)).mono ?_
      rintro en w2 ⟨rfl, u⟩
      exact .inl ⟨rfl, h.1.fr (Fr.of_below u.out) id, h.2.1.grown u.out, fun _ => (h.2.2.1 (by decide)).t u.out, h.2.2.2.trans' ((Fr.of_below u.out).mono (fun _ e => e.elim))⟩
    | 1, hx =>
      obtain rfl := Option.some.inj hx
      refine (clean0_calls w' p q base D (hid h.1) (hid (hd.out.up (h.2.2.1 (by decide)))) (hid hj.out.2)).mono ?_
      rintro en w2 ⟨rfl, u⟩
      subst u
      exact .inl ⟨rfl, h.1, h.2.1, fun _ => h.2.2.1 (by decide), h.2.2.2⟩
    | 2, hx =>
      obtain rfl := Option.some.inj hx
      refine (whole0_calls w' p q base D (hid h.1) (hid (hd.out.up (h.2.2.1 (by decide)))) (hid hj.out.1)).mono ?_
      rintro en w2 ⟨rfl, u⟩
      have u1 := u.out.1
      rw [eq0] at u1
      exact .inl ⟨rfl, u1, h.2.1.fr u.out.2 (fun b off e => by injection e with e; injection e with e; omega), fun e => absurd e (by decide), h.2.2.2.trans' u.out.2⟩
    | k + 3, hx => cases hx
  · rintro en w' (⟨rfl, h⟩ | ⟨e, _, _, h⟩)
    · exact ⟨rfl, hid ⟨h.1, h.2.2.2⟩⟩
    · exact h.elim
set_option maxRecDepth 100000 in
set_option maxHeartbeats 2000000 in
theorem open0_calls (w : World) (base d : Nat) (D : DiskV) (room : Int) (hd : Hid (DiskM w base d D)) (ho : Hid (D.on = true)) (hj : Hid (D.f0.now.length = 0 ∧ D.f1.now.length = 0)) (hr : Hid (8 ≤ room ∧ room ≤ 4096)) :
    Calls Tryz.prog 21 #[.pointer (some ⟨d, 0, none⟩), .int .i64 room] w (OpenRet w) := by
  obtain ⟨p0, hp0⟩ := hd.out
  have hrm : ¬ D.room = 0 := by have := hp0.room; omega
  have h8 : ¬ room < 8 := by have := hr.out; omega
  clear hp0
  go_enter Tryz.func21, Tryz.ntmps21
  go_wp2_with (go_at_call 72; refine (newC_calls w room (by have := hr.out; omega) hr.out.2).mono ?_; rintro e w1 ⟨c, rfl, u1⟩)
  have HD1 := hid (hd.out.up u1.out)
  go_wp2_with (go_at_call 73; refine (droom_calls w1 base d D HD1).mono ?_; rintro e w' ⟨rfl, hw⟩; obtain rfl := hw.symm)
  obtain ⟨q, hq⟩ : ∃ q : PgN, q = ⟨d, c, 0, 0, 0⟩ := ⟨_, rfl⟩
  obtain ⟨wp, hwp⟩ : ∃ x, w1.alloc (.cells #[.pointer (some ⟨d, 0, none⟩), .pointer (some ⟨c, 0, none⟩), .int .i64 0, .pointer none, .bool false, .int .i64 0, .int .i64 0] 80) = x := ⟨_, rfl⟩
  have uP : Up w1 wp := by rw [← hwp]; exact upAlD (Up.refl w1) _
  have hP : PagerAt wp w1.heap.size q (.pointer none) false := by rw [← hwp, hq]; exact heap_alloc_new w1 _
  have hsz : wp.heap.size = w1.heap.size + 1 := by rw [← hwp]; simp
  have CS := openSteps_calls (wp.alloc (.cells ((openFs w1.heap.size).map fnv).toArray 53)) w1.heap.size wp.heap.size base 3 q D (hid (hP.fr (Fr.of_below (upAlD (Up.refl wp) _)) id)) (hid (by rw [hq])) (hid (by rw [hq]; exact (HD1.out.up uP).up (upAlD (Up.refl wp) _))) ho hj (by omega) (hid (Rd.new wp _ _ _))
  have UW := hid ((u1.out.t uP).t (upAlD (Up.refl wp) (.cells ((openFs w1.heap.size).map fnv).toArray 53)))
  have QQ := hid (show q.count = 0 ∧ q.com = 0 ∧ q.rep = 0 by rw [hq]; exact ⟨rfl, rfl, rfl⟩)
  have BZ : Hid (w.heap.size ≤ w1.heap.size ∧ w1.heap.size < wp.heap.size) := hid ⟨u1.out.size, by omega⟩
  rw [hsz] at CS
  rw [hwp]
  clear hwp hq uP hP hsz hrm h8
  refine CS.mono ?_
  rintro en w5 ⟨rfl, h5⟩
  have RES := hid (show PagerAt w5 w1.heap.size q (.pointer none) false ∧ (q.count = 0 ∧ q.com = 0 ∧ q.rep = 0) ∧ Up w w5 ∧ w.heap.size ≤ w1.heap.size from ⟨h5.out.1, QQ.out, UW.out.trans (h5.out.2.below (Nat.le_trans BZ.out.1 (Nat.le_of_lt (Nat.lt_of_lt_of_le BZ.out.2 (upAlD (Up.refl wp) _).size))) (fun k hk e => by have := BZ.out.1; omega)), BZ.out.1⟩)
  clear h5 UW QQ BZ HD1
  go_wp2
  go_ret2
  exact ⟨_, q, rfl, RES⟩
end Go.Proofs.YtbcghggkfnagoaaGreatDoor
