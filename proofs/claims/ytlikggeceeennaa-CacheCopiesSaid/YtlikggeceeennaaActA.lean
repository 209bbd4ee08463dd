/- WORDS FOR ACTS: both caches, and the act's own cell. -/
import Derived.Test.YtlikggeceeennaaRf9
import Derived.Test.YtlikggeceeennaaK8
import Derived.Test.YtlikggeceeennaaStr
set_option linter.unusedVariables false
set_option linter.unusedSimpArgs false
namespace Go.Proofs.Ytlikggeceeennaa
open Go Go.RowKit Hach

theorem actD_length (a : ActV) : (actD a).length = actN a := by
  unfold actD actN
  split
  · rfl
  · exact pageD_length _
def actCs (a : ActV) : Array Value := #[.int .i64 a.kind, .int .i64 a.page, .int .u8 (n8 a.seed), .bool a.short]
def BoxAt (w : World) (x : Nat) (a : ActV) : Prop := w.heap[x]? = some (.cells (actCs a) 51 (0, 0))
theorem BoxAt.cells {w : World} {x : Nat} {a : ActV} (h : BoxAt w x a) : w.cell? ⟨x, 0, none⟩ = some (.int .i64 a.kind) ∧ w.cell? ⟨x, 1, none⟩ = some (.int .i64 a.page) ∧ w.cell? ⟨x, 2, none⟩ = some (.int .u8 (n8 a.seed)) ∧ w.cell? ⟨x, 3, none⟩ = some (.bool a.short) := by
  have k : ∀ i v, (actCs a)[i]? = some v → w.cell? ⟨x, i, none⟩ = some v := fun i v hv => by
    unfold World.cell?
    rw [show (⟨x, i, none⟩ : Addr).block = x from rfl, h]
    exact hv
  exact ⟨k 0 _ rfl, k 1 _ rfl, k 2 _ rfl, k 3 _ rfl⟩
theorem BoxAt.up {w w' : World} {x : Nat} {a : ActV} (h : BoxAt w x a) (hu : Up w w') : BoxAt w' x a := (hu.block x (Array.getElem?_eq_some_iff.1 h).1).trans h
/-- What else is as it was: all below both, and blocks of other types. -/
def Rest (bc br : Nat) (w W : World) : Prop := (∀ B, B ≤ bc → B ≤ br → Below B w W) ∧
  ∀ (k : Nat) (cs : Array Value) (t : TypeId) (fr : Nat × Nat), w.heap[k]? = some (Obj.cells cs t fr) → (t ≠ 67 ∧ t ≠ 103 ∧ t ≠ 130 ∧ t ≠ 174) → W.heap[k]? = some (Obj.cells cs t fr)
/-- Both caches, and the act's cell, behind what was done since w. -/
structure Both (w W : World) (x : Nat) (a : ActV) (bc g mp : Nat) (room hits miss : Int) (V : List Vis) (br b : Nat) (room' hit' miss' : Int) (U : List Vis) : Prop where
  c : CacheM W bc g mp room hits miss V
  r : RefM W br b room' hit' miss' U
  box : BoxAt W x a
  bel : Rest bc br w W
section
variable {w W W' : World} {x : Nat} {a : ActV} {bc g mp : Nat} {room hits miss hits2 miss2 : Int} {V V2 : List Vis} {br b : Nat} {room' hit' miss' hit2 mis2 : Int} {U U2 : List Vis}
theorem Both.up (h : Both w W x a bc g mp room hits miss V br b room' hit' miss' U) (hu : Up W W') : Both w W' x a bc g mp room hits miss V br b room' hit' miss' U :=
  ⟨h.c.up hu, h.r.up hu, h.box.up hu, fun B h1 h2 => (h.bel.1 B h1 h2).trans (hu.mono (Nat.le_trans h1 h.c.bs)), fun k cs t fr hk ht => (hu.block k (Array.getElem?_eq_some_iff.1 (h.bel.2 k cs t fr hk ht)).1).trans (h.bel.2 k cs t fr hk ht)⟩
theorem Both.cache (h : Both w W x a bc g mp room hits miss V br b room' hit' miss' U) (hh : CacheM W' bc g mp room hits2 miss2 V2 ∧ Below bc W W' ∧ Fr (CacheS W g mp) W W') : Both w W' x a bc g mp room hits2 miss2 V2 br b room' hit' miss' U :=
  ⟨hh.1, h.r.afterC h.c hh.2.2, cell_afterC (i := 0) h.c hh.2.2 h.box (by decide), fun B h1 h2 => (h.bel.1 B h1 h2).trans (hh.2.1.mono h1), fun k cs t fr hk ht => cell_afterC (i := 0) h.c hh.2.2 (h.bel.2 k cs t fr hk ht) ⟨ht.1, ht.2.1⟩⟩
theorem Both.ref (h : Both w W x a bc g mp room hits miss V br b room' hit' miss' U) (hh : RefM W' br b room' hit2 mis2 U2 ∧ Below br W W' ∧ Fr (RefS W b) W W') : Both w W' x a bc g mp room hits miss V br b room' hit2 mis2 U2 :=
  ⟨h.c.afterR h.r hh.2.2, hh.1, cell_afterR (i := 0) h.r hh.2.2 h.box (by decide), fun B h1 h2 => (h.bel.1 B h1 h2).trans (hh.2.1.mono h2), fun k cs t fr hk ht => cell_afterR (i := 0) h.r hh.2.2 (h.bel.2 k cs t fr hk ht) ⟨ht.2.2.1, ht.2.2.2⟩⟩
end
def ActRet (w : World) (bc g mp : Nat) (room hits miss : Int) (V : List Vis) (br b : Nat) (room' hit' miss' : Int) (U : List Vis) (T : Prop) (en : Ending) (w' : World) : Prop :=
  ∃ r, en = .returned (.bool r) ∧ Hid (CacheM w' bc g mp room hits miss V ∧ RefM w' br b room' hit' miss' U ∧ Rest bc br w w' ∧ (T → r = true))
theorem Both.start {w : World} {a : ActV} {bc g mp : Nat} {room hits miss : Int} {V : List Vis} {br b : Nat} {room' hit' miss' : Int} {U : List Vis} (hc : CacheM w bc g mp room hits miss V) (hr : RefM w br b room' hit' miss' U) :
    Both w (w.alloc (.cells #[.int .i64 a.kind, .int .i64 a.page, .int .u8 (n8 a.seed), .bool a.short] 51)) w.heap.size a bc g mp room hits miss V br b room' hit' miss' U := by
  have u : Up w (w.alloc (.cells #[.int .i64 a.kind, .int .i64 a.page, .int .u8 (n8 a.seed), .bool a.short] 51)) := upAl (Up.refl w) _
  exact ⟨hc.up u, hr.up u, heap_alloc_new w _, fun B h1 h2 => u.mono (Nat.le_trans h1 hc.bs), fun k cs t fr hk _ => (u.block k (Array.getElem?_eq_some_iff.1 hk).1).trans hk⟩
end Go.Proofs.Ytlikggeceeennaa
