/- THE PAGER in a transaction, as the world has it. -/
import Derived.Test.YtbcghggkfnagoaaGreatDoorPgm
set_option linter.unusedVariables false
set_option linter.unusedSimpArgs false
namespace Go.Proofs.YtbcghggkfnagoaaGreatDoor
open Go Go.RowKit Go.Maps Hach

structure PgX where
  g : Nat
  c : Nat
  bs : List UInt8
def encX (x : PgX) : Sec := encP x.g x.c
abbrev PgL := List (Int × PgX)
def MapP (w : World) (m : Nat) (L : PgL) : Prop := w.ownsMap Tryz.prog 3 pgElem m L.length (datL (L.map fun y => (y.1, encX y.2)))
theorem zeroPg (w : World) : (zeroValue 64).run Tryz.prog w = .ok (.slice none 0 0) w := by kernel_rfl
theorem MapP.of {w : World} {m n : Nat} {D : DataW Unit} {L : PgL} (h : w.ownsMap Tryz.prog 3 pgElem m n D) (e : D = datL (L.map fun y => (y.1, encX y.2))) : MapP w m L := by
  subst e
  obtain ⟨es, clock, hb, F, hs, hD⟩ := h
  refine ⟨es, clock, hb, F, ?_, hD⟩
  have := sizeL_dat (L.map fun y => (y.1, encX y.2))
  rw [hD, Maps.size_eq, length_sorted, List.length_map, Array.length_toList, List.length_map] at this
  omega
theorem MapP.made (w : World) : MapP (w.alloc (.map #[] 0)) w.heap.size [] := World.ownsMap_made _ _ _ _
theorem MapP.kept {w w' : World} {m : Nat} {L : PgL} {S : Nat → Prop} (h : MapP w m L) (hf : Fr S w w') (hS : ¬ S m) : MapP w' m L := by
  have hlt := World.ownsMap.lt h
  obtain ⟨es, clock, hb, r⟩ := h
  exact ⟨es, clock, (hf.block m hlt hS).trans hb, r⟩
theorem MapP.lt {w : World} {m : Nat} {L : PgL} (h : MapP w m L) : m < w.heap.size := World.ownsMap.lt h
theorem MapP.up {w w' : World} {m : Nat} {L : PgL} (h : MapP w m L) (hu : Up w w') : MapP w' m L := h.kept (Fr.of_below hu) id
theorem MapP.isMap {w : World} {m : Nat} {L : PgL} (h : MapP w m L) : ∃ es clock, w.heap[m]? = some (.map es clock) := by obtain ⟨es, clock, hb, _⟩ := h; exact ⟨es, clock, hb⟩
def pgAt (L : PgL) (p : Int) : Value := match gget L p with | none => .slice none 0 0 | some x => pgV x.g x.c
theorem pgGot {L : PgL} {v : Value} {ps : List MemPlace} {p : Int} (hv : pgElem v = some ((datL (L.map fun y => (y.1, encX y.2))).atKey (.int .i64 p) (.lit (.string [])), ps)) : v = pgAt L p := by
  rw [getL_dat, getL_map encX] at hv
  unfold pgAt
  cases hl : gget L p with
  | none =>
    rw [hl] at hv
    unfold pgElem at hv
    split at hv
    · rfl
    · injection hv with hv
      injection hv with hv _
      injection hv with hv
      injection hv with hv
      have := congrArg List.length hv
      unfold encP at this
      simp at this
    · cases hv
  | some x => rw [hl] at hv; exact pgElem_inv hv
theorem MapP.look {w : World} {m : Nat} {L : PgL} (h : MapP w m L) {p : Int} (hp : (Lit.int .i64 p).wf = true) :
    (Instr.lookup 128 (.map (some m)) (.int .i64 p) true).run Tryz.prog w = .ok (.tuple #[pgAt L p, .bool (gget L p).isSome]) w := by
  obtain ⟨v, ps, hrun, hv⟩ := World.ownsMap.look_ok h keyI Tryz.underlying128 (zeroPg w) (show pgElem (.slice none 0 0) = some (.lit (.string []), []) from rfl) (keyI_mk hp)
  rw [hrun, hasL_dat, getL_map encX, Option.isSome_map, pgGot hv]
theorem MapP.get {w : World} {m : Nat} {L : PgL} (h : MapP w m L) {p : Int} (hp : (Lit.int .i64 p).wf = true) :
    (Instr.lookup 128 (.map (some m)) (.int .i64 p) false).run Tryz.prog w = .ok (pgAt L p) w := by
  obtain ⟨v, ps, hrun, hv⟩ := World.ownsMap.lookup h keyI Tryz.underlying128 (zeroPg w) (show pgElem (.slice none 0 0) = some (.lit (.string []), []) from rfl) (keyI_mk hp)
  rw [hrun, pgGot hv]
theorem MapP.len {w : World} {m : Nat} {L : PgL} (h : MapP w m L) (ty : TypeId) : (Builtin.len_ #[128] ty #[.map (some m)]).run Tryz.prog w = .ok (.int .i64 L.length) w := by
  have := World.ownsMap.len h Tryz.underlying128 ty
  rw [sizeL_dat, List.length_map] at this
  exact this
theorem MapP.put {w : World} {m : Nat} {L : PgL} (h : MapP w m L) {p : Int} (x : PgX) (hp : (Lit.int .i64 p).wf = true) (hL : L.length < 1000000) :
    ∃ w', (Instr.mapUpdate 128 (.map (some m)) (.int .i64 p) (pgV x.g x.c)).run Tryz.prog w = .ok () w' ∧ MapP w' m (gput L p x) ∧ w.grownBy w' (some m) := by
  obtain ⟨w', hrun, k1, k2⟩ := World.ownsMap.update h keyI Tryz.underlying128 (by unfold maxLen; omega) (keyI_mk hp) (pgElem_mk x.g x.c)
  refine ⟨w', hrun, MapP.of k1 ?_, k2⟩
  rw [putL_dat]
  exact congrArg datL (putL_map encX L p x)
/-- A page's bytes, in a block of their own. -/
structure PgRow (w : World) (x : PgX) : Prop where
  row : ByteRow w x.g 0 x.bs
  len : x.bs.length = 512
  cap : 512 ≤ x.c
theorem PgRow.fr {S : Nat → Prop} {w w' : World} {x : PgX} (h : PgRow w x) (hf : Fr S w w') (hS : ¬ S x.g) : PgRow w' x := ⟨h.row.fr hf hS, h.len, h.cap⟩
theorem PgRow.bytes {w : World} {x : PgX} (h : PgRow w x) : Bytes w (some ⟨x.g, 0, none⟩) x.bs := by
  refine Rd.bytes (fun j u hj => ⟨x.g, 0, rfl, ?_⟩)
  exact h.row.2 j u hj
/-- The pager's numbers. -/
structure PgN where
  d : Nat
  c : Nat
  count : Int
  com : Int
  rep : Int
def pagerCs (q : PgN) (t : Value) (dead : Bool) : Array Value := #[.pointer (some ⟨q.d, 0, none⟩), .pointer (some ⟨q.c, 0, none⟩), .int .i64 q.count, t, .bool dead, .int .i64 q.com, .int .i64 q.rep]
def PagerAt (w : World) (p : Nat) (q : PgN) (t : Value) (dead : Bool) : Prop := w.heap[p]? = some (.cells (pagerCs q t dead) 80 (0, 0))
theorem PagerAt.cells {w : World} {p : Nat} {q : PgN} {t : Value} {dead : Bool} (h : PagerAt w p q t dead) : w.cell? ⟨p, 0, none⟩ = some (.pointer (some ⟨q.d, 0, none⟩)) ∧ w.cell? ⟨p, 1, none⟩ = some (.pointer (some ⟨q.c, 0, none⟩)) ∧ w.cell? ⟨p, 2, none⟩ = some (.int .i64 q.count) ∧ w.cell? ⟨p, 3, none⟩ = some t ∧ w.cell? ⟨p, 4, none⟩ = some (.bool dead) ∧ w.cell? ⟨p, 5, none⟩ = some (.int .i64 q.com) ∧ w.cell? ⟨p, 6, none⟩ = some (.int .i64 q.rep) :=
  have k : ∀ i v, (pagerCs q t dead)[i]? = some v → w.cell? ⟨p, i, none⟩ = some v := fun i v hv => by rw [cell_of_row _ _ _ _ _ _ h]; exact hv
  ⟨k 0 _ rfl, k 1 _ rfl, k 2 _ rfl, k 3 _ rfl, k 4 _ rfl, k 5 _ rfl, k 6 _ rfl⟩
theorem PagerAt.free {w : World} {p : Nat} {q : PgN} {t : Value} {dead : Bool} (h : PagerAt w p q t dead) (i : Nat) : w.frozen? ⟨p, i, none⟩ = false := by unfold World.frozen?; rw [show (⟨p, i, none⟩ : Addr).block = p from rfl, h]; simp
theorem PagerAt.fr {S : Nat → Prop} {w w' : World} {p : Nat} {q : PgN} {t : Value} {dead : Bool} (h : PagerAt w p q t dead) (hf : Fr S w w') (hS : ¬ S p) : PagerAt w' p q t dead := (hf.block p (Array.getElem?_eq_some_iff.1 h).1 hS).trans h
def tranCs (n : Int) (m : Nat) (mv : Value) (last : Int) : Array Value := #[.int .i64 n, .map (some m), mv, .int .i64 last]
/-- A pager in a transaction: t its block, m the map of what was changed. -/
structure TranAt (w : World) (p : Nat) (q : PgN) (t m : Nat) (mv : Value) (last : Int) (n : Nat) (L : PgL) : Prop where
  own : PagerAt w p q (.pointer (some ⟨t, 0, none⟩)) false
  tran : w.heap[t]? = some (.cells (tranCs n m mv last) 131 (0, 0))
  map : MapP w m L
  rows : ∀ y ∈ L, PgRow w y.2
section
variable {w w' : World} {p t m : Nat} {q : PgN} {mv : Value} {last : Int} {n : Nat} {L : PgL}
theorem TranAt.cells (h : TranAt w p q t m mv last n L) : w.cell? ⟨t, 0, none⟩ = some (.int .i64 n) ∧ w.cell? ⟨t, 1, none⟩ = some (.map (some m)) ∧ w.cell? ⟨t, 2, none⟩ = some mv ∧ w.cell? ⟨t, 3, none⟩ = some (.int .i64 last) :=
  have k : ∀ i v, (tranCs n m mv last)[i]? = some v → w.cell? ⟨t, i, none⟩ = some v := fun i v hv => by rw [cell_of_row _ _ _ _ _ _ h.tran]; exact hv
  ⟨k 0 _ rfl, k 1 _ rfl, k 2 _ rfl, k 3 _ rfl⟩
theorem TranAt.free (h : TranAt w p q t m mv last n L) (i : Nat) : w.frozen? ⟨t, i, none⟩ = false := by unfold World.frozen?; rw [show (⟨t, i, none⟩ : Addr).block = t from rfl, h.tran]; simp
theorem TranAt.ne (h : TranAt w p q t m mv last n L) : p ≠ t ∧ p ≠ m ∧ t ≠ m ∧ ∀ y ∈ L, y.2.g ≠ p ∧ y.2.g ≠ t ∧ y.2.g ≠ m := by
  obtain ⟨es, cl, hm⟩ := h.map.isMap
  have h1 := h.own
  have h2 := h.tran
  unfold PagerAt at h1
  refine ⟨fun e => ?_, fun e => ?_, fun e => ?_, fun y hy => ?_⟩
  · rw [e, h2] at h1; injection h1 with h1; injection h1 with _ h1 _; exact absurd h1 (by decide)
  · rw [e, hm] at h1; cases h1
  · rw [e, hm] at h2; cases h2
  · obtain ⟨cs, fr, hb⟩ := (h.rows y hy).row.1
    refine ⟨fun e => ?_, fun e => ?_, fun e => ?_⟩
    · rw [e, h1] at hb; injection hb with hb; injection hb with _ hb _; exact absurd hb (by decide)
    · rw [e, h2] at hb; injection hb with hb; injection hb with _ hb _; exact absurd hb (by decide)
    · rw [e, hm] at hb; cases hb
theorem TranAt.up (h : TranAt w p q t m mv last n L) (hu : Up w w') : TranAt w' p q t m mv last n L :=
  ⟨h.own.fr (Fr.of_below hu) id, (hu.block t (Array.getElem?_eq_some_iff.1 h.tran).1).trans h.tran, h.map.up hu, fun y hy => (h.rows y hy).fr (Fr.of_below hu) id⟩
end
end Go.Proofs.YtbcghggkfnagoaaGreatDoor
