/- THE PAGER's MAPS OF PAGES, as the world has them. THE PAGER in a transaction, as the world has it. -/
import Derived.Test.YtbcghggkfnagoaaGreatDoorDsk6
import Derived.Test.YtbcghggkfnagoaaGreatDoorOct1
set_option linter.unusedVariables false
set_option linter.unusedSimpArgs false
namespace Go.Proofs.YtbcghggkfnagoaaGreatDoor
open Go Go.RowKit Go.Maps Hach

/-! ### rows of keys and things -/
section
variable {α : Type}
def insG (x : Int × α) : List (Int × α) → List (Int × α)
  | [] => [x]
  | y :: r => if x.1 < y.1 then x :: y :: r else y :: insG x r
def gput (L : List (Int × α)) (k : Int) (a : α) : List (Int × α) := insG (k, a) (L.filter fun q => !decide (q.1 = k))
def gget (L : List (Int × α)) (k : Int) : Option α := (L.find? fun q => decide (q.1 = k)).map (·.2)
theorem mem_insG {x y : Int × α} {L : List (Int × α)} : y ∈ insG x L ↔ y = x ∨ y ∈ L := by
  induction L with
  | nil => simp [insG]
  | cons z r ih =>
    unfold insG
    split
    · simp
    · rw [List.mem_cons, ih, List.mem_cons]
      constructor
      · rintro (h | h | h)
        · exact .inr (.inl h)
        · exact .inl h
        · exact .inr (.inr h)
      · rintro (h | h | h)
        · exact .inr (.inl h)
        · exact .inl h
        · exact .inr (.inr h)
theorem gget_ins {x : Int × α} {L : List (Int × α)} (hx : ∀ y ∈ L, y.1 ≠ x.1) (k : Int) : gget (insG x L) k = if x.1 = k then some x.2 else gget L k := by
  induction L with
  | nil => unfold gget insG; by_cases h : x.1 = k <;> simp [h]
  | cons z r ih =>
    have hz := hx z List.mem_cons_self
    have ih' := ih (fun y hy => hx y (List.mem_cons_of_mem _ hy))
    unfold insG
    split
    · unfold gget
      rw [List.find?_cons]
      by_cases h : x.1 = k <;> simp [h]
    · unfold gget at ih' ⊢
      rw [List.find?_cons, List.find?_cons]
      by_cases h : z.1 = k
      · have : ¬ x.1 = k := fun e => hz (h.trans e.symm)
        simp [h, this]
      · simp only [h, decide_false]
        exact ih'
theorem gget_filter (L : List (Int × α)) (k j : Int) (h : j ≠ k) : gget (L.filter fun q => !decide (q.1 = k)) j = gget L j := by
  induction L with
  | nil => rfl
  | cons z r ih =>
    unfold gget at ih ⊢
    rw [List.filter_cons]
    by_cases hz : z.1 = k
    · have : ¬ z.1 = j := fun e => h (e.symm.trans hz)
      simp only [hz, decide_true, Bool.not_true]
      rw [List.find?_cons]
      simp only [this, decide_false]
      exact ih
    · simp only [hz, decide_false, Bool.not_false, if_true]
      rw [List.find?_cons, List.find?_cons]
      by_cases h2 : z.1 = j
      · simp [h2]
      · simp only [h2, decide_false]
        exact ih
theorem gget_put (L : List (Int × α)) (k : Int) (a : α) (j : Int) : gget (gput L k a) j = if k = j then some a else gget L j := by
  unfold gput
  rw [gget_ins (x := (k, a)) (fun y hy e => by
    have := (List.mem_filter.1 hy).2
    have e' : y.1 = k := e
    rw [decide_eq_true e'] at this
    cases this)]
  by_cases h : k = j
  · rw [if_pos h, if_pos h]
  · rw [if_neg h, if_neg h, gget_filter _ _ _ (fun e => h e.symm)]
theorem mem_gput {L : List (Int × α)} {k : Int} {a : α} {y : Int × α} (h : y ∈ gput L k a) : y = (k, a) ∨ (y ∈ L ∧ y.1 ≠ k) := by
  unfold gput at h
  rcases mem_insG.1 h with h | h
  · exact .inl h
  · have := List.mem_filter.1 h
    exact .inr ⟨this.1, fun e => by rw [decide_eq_true e] at this; exact absurd this.2 (by decide)⟩
theorem gget_mem {L : List (Int × α)} {k : Int} {a : α} (h : gget L k = some a) : (k, a) ∈ L := by
  unfold gget at h
  cases hf : L.find? (fun q => decide (q.1 = k)) with
  | none => rw [hf] at h; cases h
  | some q =>
    rw [hf] at h
    injection h with h
    have h1 := List.mem_of_find?_eq_some hf
    have h2 : q.1 = k := of_decide_eq_true (p := q.1 = k) (List.find?_some (p := fun q : Int × α => decide (q.1 = k)) hf)
    rw [← h, ← h2]; exact h1
theorem insL_map (f : α → Sec) (x : Int × α) (L : List (Int × α)) : insL (x.1, f x.2) (L.map fun y => (y.1, f y.2)) = (insG x L).map fun y => (y.1, f y.2) := by
  induction L with
  | nil => rfl
  | cons z r ih =>
    simp only [List.map_cons, insL, insG, decide_eq_true_eq]
    by_cases h : x.1 < z.1
    · rw [if_pos h, if_pos h]; rfl
    · rw [if_neg h, if_neg h, ih]; rfl
theorem putL_map (f : α → Sec) (L : List (Int × α)) (k : Int) (a : α) : putL (L.map fun y => (y.1, f y.2)) k (f a) = (gput L k a).map fun y => (y.1, f y.2) := by
  unfold putL gput
  rw [← insL_map f (k, a)]
  congr 1
  rw [List.filter_map]
  rfl
theorem getL_map (f : α → Sec) (L : List (Int × α)) (k : Int) : getL (L.map fun y => (y.1, f y.2)) k = (gget L k).map f := by
  unfold getL gget
  rw [List.find?_map]
  rw [Option.map_map, Option.map_map]
  rfl
end
/-! ### a page, as a map's element -/
/-- Where a page lies: a block, and its room. -/
def encP (g c : Nat) : Sec := List.replicate g 0 ++ 1 :: List.replicate c 0
theorem encP_inj {g c g' c' : Nat} (h : encP g c = encP g' c') : g = g' ∧ c = c' := by
  have key : ∀ g c, ((encP g c).takeWhile fun b => b == 0).length = g ∧ (encP g c).length = g + 1 + c := fun g c => by
    unfold encP
    refine ⟨?_, by simp; omega⟩
    induction g with
    | zero => rfl
    | succ g ih => rw [List.replicate_succ, List.cons_append, List.takeWhile_cons]; simp only [beq_self_eq_true, if_true, List.length_cons]; rw [ih]
  have h1 := key g c
  have h2 := key g' c'
  rw [h] at h1
  have e := h1.1.symm.trans h2.1
  subst e
  exact ⟨rfl, by have := h1.2.symm.trans h2.2; omega⟩
def pgV (g c : Nat) : Value := .slice (some ⟨g, 0, none⟩) 512 c
def pgElem (v : Value) : Option (DataW Unit × List MemPlace) :=
  match v with
  | .slice none 0 0 => some (.lit (.string []), [])
  | .slice (some ⟨g, 0, none⟩) 512 c => some (.lit (.string (encP g c)), [])
  | _ => none
theorem pgElem_mk (g c : Nat) : pgElem (pgV g c) = some (.lit (.string (encP g c)), []) := rfl
theorem pgElem_inv {v : Value} {g c : Nat} {ps : List MemPlace} (h : pgElem v = some (.lit (.string (encP g c)), ps)) : v = pgV g c := by
  unfold pgElem at h
  split at h
  · injection h with h
    injection h with h _
    injection h with h
    injection h with h
    have := congrArg List.length h
    unfold encP at this
    simp at this
  · injection h with h
    injection h with h _
    injection h with h
    injection h with h
    obtain ⟨rfl, rfl⟩ := encP_inj h
    rfl
  · cases h
end Go.Proofs.YtbcghggkfnagoaaGreatDoor

namespace Go.Proofs.YtbcghggkfnagoaaGreatDoor
open Go Go.RowKit Go.Maps Hach

structure PgX where
  g : Nat
  c : Nat
  bs : List UInt8
def encX (x : PgX) : Sec := encP x.g x.c
abbrev PgL := List (Int × PgX)
def MapP (w : World) (m : Nat) (L : PgL) : Prop := w.ownsMap Tryz.prog 3 pgElem m L.length (datL (L.map fun y => (y.1, encX y.2)))
theorem zeroPg (w : World) : (zeroValue 64).run Tryz.prog w = .ok (.slice none 0 0) w := by kernel_rfl
theorem MapP.of {w : World} {m n : Nat} {D : DataW Unit} {L : PgL} (h : w.ownsMap Tryz.prog 3 pgElem m n D) (e : D = datL (L.map fun y => (y.1, encX y.2))) : MapP w m L := by
  subst e
  obtain ⟨es, clock, hb, F, hs, hD⟩ := h
  refine ⟨es, clock, hb, F, ?_, hD⟩
  have := sizeL_dat (L.map fun y => (y.1, encX y.2))
  rw [hD, Maps.size_eq, length_sorted, List.length_map, Array.length_toList, List.length_map] at this
  omega
theorem MapP.made (w : World) : MapP (w.alloc (.map #[] 0)) w.heap.size [] := World.ownsMap_made _ _ _ _
theorem MapP.kept {w w' : World} {m : Nat} {L : PgL} {S : Nat → Prop} (h : MapP w m L) (hf : Fr S w w') (hS : ¬ S m) : MapP w' m L := by
  have hlt := World.ownsMap.lt h
  obtain ⟨es, clock, hb, r⟩ := h
  exact ⟨es, clock, (hf.block m hlt hS).trans hb, r⟩
theorem MapP.lt {w : World} {m : Nat} {L : PgL} (h : MapP w m L) : m < w.heap.size := World.ownsMap.lt h
theorem MapP.up {w w' : World} {m : Nat} {L : PgL} (h : MapP w m L) (hu : Up w w') : MapP w' m L := h.kept (Fr.of_below hu) id
theorem MapP.isMap {w : World} {m : Nat} {L : PgL} (h : MapP w m L) : ∃ es clock, w.heap[m]? = some (.map es clock) := by obtain ⟨es, clock, hb, _⟩ := h; exact ⟨es, clock, hb⟩
def pgAt (L : PgL) (p : Int) : Value := match gget L p with | none => .slice none 0 0 | some x => pgV x.g x.c
theorem pgGot {L : PgL} {v : Value} {ps : List MemPlace} {p : Int} (hv : pgElem v = some ((datL (L.map fun y => (y.1, encX y.2))).atKey (.int .i64 p) (.lit (.string [])), ps)) : v = pgAt L p := by
  rw [getL_dat, getL_map encX] at hv
  unfold pgAt
  cases hl : gget L p with
  | none =>
    rw [hl] at hv
    unfold pgElem at hv
    split at hv
    · rfl
    · injection hv with hv
      injection hv with hv _
      injection hv with hv
      injection hv with hv
      have := congrArg List.length hv
      unfold encP at this
      simp at this
    · cases hv
  | some x => rw [hl] at hv; exact pgElem_inv hv
theorem MapP.look {w : World} {m : Nat} {L : PgL} (h : MapP w m L) {p : Int} (hp : (Lit.int .i64 p).wf = true) :
    (Instr.lookup 128 (.map (some m)) (.int .i64 p) true).run Tryz.prog w = .ok (.tuple #[pgAt L p, .bool (gget L p).isSome]) w := by
  obtain ⟨v, ps, hrun, hv⟩ := World.ownsMap.look_ok h keyI Tryz.underlying128 (zeroPg w) (show pgElem (.slice none 0 0) = some (.lit (.string []), []) from rfl) (keyI_mk hp)
  rw [hrun, hasL_dat, getL_map encX, Option.isSome_map, pgGot hv]
theorem MapP.get {w : World} {m : Nat} {L : PgL} (h : MapP w m L) {p : Int} (hp : (Lit.int .i64 p).wf = true) :
    (Instr.lookup 128 (.map (some m)) (.int .i64 p) false).run Tryz.prog w = .ok (pgAt L p) w := by
  obtain ⟨v, ps, hrun, hv⟩ := World.ownsMap.lookup h keyI Tryz.underlying128 (zeroPg w) (show pgElem (.slice none 0 0) = some (.lit (.string []), []) from rfl) (keyI_mk hp)
  rw [hrun, pgGot hv]
theorem MapP.len {w : World} {m : Nat} {L : PgL} (h : MapP w m L) (ty : TypeId) : (Builtin.len_ #[128] ty #[.map (some m)]).run Tryz.prog w = .ok (.int .i64 L.length) w := by
  have := World.ownsMap.len h Tryz.underlying128 ty
  rw [sizeL_dat, List.length_map] at this
  exact this
theorem MapP.put {w : World} {m : Nat} {L : PgL} (h : MapP w m L) {p : Int} (x : PgX) (hp : (Lit.int .i64 p).wf = true) (hL : L.length < 1000000) :
    ∃ w', (Instr.mapUpdate 128 (.map (some m)) (.int .i64 p) (pgV x.g x.c)).run Tryz.prog w = .ok () w' ∧ MapP w' m (gput L p x) ∧ w.grownBy w' (some m) := by
  obtain ⟨w', hrun, k1, k2⟩ := World.ownsMap.update h keyI Tryz.underlying128 (by unfold maxLen; omega) (keyI_mk hp) (pgElem_mk x.g x.c)
  refine ⟨w', hrun, MapP.of k1 ?_, k2⟩
  rw [putL_dat]
  exact congrArg datL (putL_map encX L p x)
/-- A page's bytes, in a block of their own. -/
structure PgRow (w : World) (x : PgX) : Prop where
  row : ByteRow w x.g 0 x.bs
  len : x.bs.length = 512
  cap : 512 ≤ x.c
theorem PgRow.fr {S : Nat → Prop} {w w' : World} {x : PgX} (h : PgRow w x) (hf : Fr S w w') (hS : ¬ S x.g) : PgRow w' x := ⟨h.row.fr hf hS, h.len, h.cap⟩
theorem PgRow.bytes {w : World} {x : PgX} (h : PgRow w x) : Bytes w (some ⟨x.g, 0, none⟩) x.bs := by
  refine Rd.bytes (fun j u hj => ⟨x.g, 0, rfl, ?_⟩)
  exact h.row.2 j u hj
/-- The pager's numbers. -/
structure PgN where
  d : Nat
  c : Nat
  count : Int
  com : Int
  rep : Int
def pagerCs (q : PgN) (t : Value) (dead : Bool) : Array Value := #[.pointer (some ⟨q.d, 0, none⟩), .pointer (some ⟨q.c, 0, none⟩), .int .i64 q.count, t, .bool dead, .int .i64 q.com, .int .i64 q.rep]
def PagerAt (w : World) (p : Nat) (q : PgN) (t : Value) (dead : Bool) : Prop := w.heap[p]? = some (.cells (pagerCs q t dead) 80 (0, 0))
theorem PagerAt.cells {w : World} {p : Nat} {q : PgN} {t : Value} {dead : Bool} (h : PagerAt w p q t dead) : w.cell? ⟨p, 0, none⟩ = some (.pointer (some ⟨q.d, 0, none⟩)) ∧ w.cell? ⟨p, 1, none⟩ = some (.pointer (some ⟨q.c, 0, none⟩)) ∧ w.cell? ⟨p, 2, none⟩ = some (.int .i64 q.count) ∧ w.cell? ⟨p, 3, none⟩ = some t ∧ w.cell? ⟨p, 4, none⟩ = some (.bool dead) ∧ w.cell? ⟨p, 5, none⟩ = some (.int .i64 q.com) ∧ w.cell? ⟨p, 6, none⟩ = some (.int .i64 q.rep) :=
  have k : ∀ i v, (pagerCs q t dead)[i]? = some v → w.cell? ⟨p, i, none⟩ = some v := fun i v hv => by rw [cell_of_row _ _ _ _ _ _ h]; exact hv
  ⟨k 0 _ rfl, k 1 _ rfl, k 2 _ rfl, k 3 _ rfl, k 4 _ rfl, k 5 _ rfl, k 6 _ rfl⟩
theorem PagerAt.free {w : World} {p : Nat} {q : PgN} {t : Value} {dead : Bool} (h : PagerAt w p q t dead) (i : Nat) : w.frozen? ⟨p, i, none⟩ = false := by unfold World.frozen?; rw [show (⟨p, i, none⟩ : Addr).block = p from rfl, h]; simp
theorem PagerAt.fr {S : Nat → Prop} {w w' : World} {p : Nat} {q : PgN} {t : Value} {dead : Bool} (h : PagerAt w p q t dead) (hf : Fr S w w') (hS : ¬ S p) : PagerAt w' p q t dead := (hf.block p (Array.getElem?_eq_some_iff.1 h).1 hS).trans h
def tranCs (n : Int) (m : Nat) (mv : Value) (last : Int) : Array Value := #[.int .i64 n, .map (some m), mv, .int .i64 last]
/-- A pager in a transaction: t its block, m the map of what was changed. -/
structure TranAt (w : World) (p : Nat) (q : PgN) (t m : Nat) (mv : Value) (last : Int) (n : Nat) (L : PgL) : Prop where
  own : PagerAt w p q (.pointer (some ⟨t, 0, none⟩)) false
  tran : w.heap[t]? = some (.cells (tranCs n m mv last) 131 (0, 0))
  map : MapP w m L
  rows : ∀ y ∈ L, PgRow w y.2
section
variable {w w' : World} {p t m : Nat} {q : PgN} {mv : Value} {last : Int} {n : Nat} {L : PgL}
theorem TranAt.cells (h : TranAt w p q t m mv last n L) : w.cell? ⟨t, 0, none⟩ = some (.int .i64 n) ∧ w.cell? ⟨t, 1, none⟩ = some (.map (some m)) ∧ w.cell? ⟨t, 2, none⟩ = some mv ∧ w.cell? ⟨t, 3, none⟩ = some (.int .i64 last) :=
  have k : ∀ i v, (tranCs n m mv last)[i]? = some v → w.cell? ⟨t, i, none⟩ = some v := fun i v hv => by rw [cell_of_row _ _ _ _ _ _ h.tran]; exact hv
  ⟨k 0 _ rfl, k 1 _ rfl, k 2 _ rfl, k 3 _ rfl⟩
theorem TranAt.free (h : TranAt w p q t m mv last n L) (i : Nat) : w.frozen? ⟨t, i, none⟩ = false := by unfold World.frozen?; rw [show (⟨t, i, none⟩ : Addr).block = t from rfl, h.tran]; simp
theorem TranAt.ne (h : TranAt w p q t m mv last n L) : p ≠ t ∧ p ≠ m ∧ t ≠ m ∧ ∀ y ∈ L, y.2.g ≠ p ∧ y.2.g ≠ t ∧ y.2.g ≠ m := by
  obtain ⟨es, cl, hm⟩ := h.map.isMap
  have h1 := h.own
  have h2 := h.tran
  unfold PagerAt at h1
  refine ⟨fun e => ?_, fun e => ?_, fun e => ?_, fun y hy => ?_⟩
  · rw [e, h2] at h1; injection h1 with h1; injection h1 with _ h1 _; exact absurd h1 (by decide)
  · rw [e, hm] at h1; cases h1
  · rw [e, hm] at h2; cases h2
  · obtain ⟨cs, fr, hb⟩ := (h.rows y hy).row.1
    refine ⟨fun e => ?_, fun e => ?_, fun e => ?_⟩
    · rw [e, h1] at hb; injection hb with hb; injection hb with _ hb _; exact absurd hb (by decide)
    · rw [e, h2] at hb; injection hb with hb; injection hb with _ hb _; exact absurd hb (by decide)
    · rw [e, hm] at hb; cases hb
theorem TranAt.up (h : TranAt w p q t m mv last n L) (hu : Up w w') : TranAt w' p q t m mv last n L :=
  ⟨h.own.fr (Fr.of_below hu) id, (hu.block t (Array.getElem?_eq_some_iff.1 h.tran).1).trans h.tran, h.map.up hu, fun y hy => (h.rows y hy).fr (Fr.of_below hu) id⟩
end
end Go.Proofs.YtbcghggkfnagoaaGreatDoor
