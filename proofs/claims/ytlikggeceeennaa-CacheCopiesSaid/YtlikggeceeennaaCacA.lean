/- THE CACHE IN MEMORY. -/
import Derived.Test.YtlikggeceeennaaCacM
set_option linter.unusedVariables false
set_option linter.unusedSimpArgs false
namespace Go.Proofs.Ytlikggeceeennaa
open Go Go.RowKit Hach

structure Ent where
  page : Int
  blk : Nat
  data : List UInt8
  pins : Int
  dirty : Bool

def key (x : Ent) : Int × Nat := (x.page, x.blk)
/-- A block of an entry's shape. -/
def EntB (w : World) (b : Nat) : Prop := ∃ cs, w.heap[b]? = some (.cells cs 103 (0, 0)) ∧ cs.size = 6
theorem EntB.cell {w : World} {b i : Nat} (h : EntB w b) (hi : i < 6) : ∃ v, w.cell? ⟨b, i, none⟩ = some v := by
  obtain ⟨cs, h1, h2⟩ := h
  refine ⟨cs[i]'(by omega), ?_⟩
  unfold World.cell?
  rw [show (⟨b, i, none⟩ : Addr).block = b from rfl, h1]
  exact Array.getElem?_eq_getElem (show i < cs.size by omega)
theorem EntB.free {w : World} {b i : Nat} (h : EntB w b) : w.frozen? ⟨b, i, none⟩ = false := by
  obtain ⟨cs, h1, _⟩ := h
  unfold World.frozen?
  rw [show (⟨b, i, none⟩ : Addr).block = b from rfl, h1]
  simp
theorem EntB.lt {w : World} {b : Nat} (h : EntB w b) : b < w.heap.size := by obtain ⟨cs, h1, _⟩ := h; exact (Array.getElem?_eq_some_iff.1 h1).1
theorem EntB.fr {w w' : World} {b : Nat} {S : Nat → Prop} (h : EntB w b) (hf : Fr S w w') (hS : ¬ S b) : EntB w' b := by
  have hlt := h.lt
  obtain ⟨cs, h1, h2⟩ := h
  exact ⟨cs, (hf.block b hlt hS).trans h1, h2⟩
theorem EntB.set {w : World} {b : Nat} (h : EntB w b) (c j : Nat) (u : Value) : EntB (w.setCell ⟨c, j, none⟩ u) b := by
  obtain ⟨cs, h1, h2⟩ := h
  by_cases e : c = b
  · subst e
    exact ⟨cs.setIfInBounds j u, heap_setCell_same w c j cs _ u h1, by simp [h2]⟩
  · exact ⟨cs, (Below.heap_setCell _ _ _ _ (fun h => e h.symm)).trans h1, h2⟩
theorem EntB.drew {w : World} {b : Nat} (h : EntB w b) : EntB w.drew b := h

/-- An entry's own cells, and its data, which lie in a block of their own. -/
def EntIs (w : World) (base : Nat) (x : Ent) : Prop :=
  w.cell? ⟨x.blk, 0, none⟩ = some (.int .i64 x.page) ∧ (∃ A c, w.cell? ⟨x.blk, 1, none⟩ = some (.slice A 512 c) ∧ w.ownsRow base 5 1 (.slice A 512 c) 512 (x.data.map byteCell)) ∧
  w.cell? ⟨x.blk, 2, none⟩ = some (.int .i64 x.pins) ∧ w.cell? ⟨x.blk, 3, none⟩ = some (.bool x.dirty)
/-- The cache's block. -/
def CacheB (w : World) (g : Nat) (room : Int) (mp r : Nat) (hits miss : Int) : Prop :=
  w.heap[g]? = some (.cells #[.int .i64 room, .map (some mp), ptr r, .int .i64 hits, .int .i64 miss] 67 (0, 0))
structure CacheAt (w : World) (base g : Nat) (room : Int) (mp r : Nat) (hits miss : Int) (es : List Ent) : Prop where
  own : CacheB w g room mp r hits miss
  ring : EntB w r
  row : Chain w r (es.map Ent.blk ++ [r])
  nodup : (r :: es.map Ent.blk).Nodup
  ents : ∀ x ∈ es, EntB w x.blk ∧ EntIs w base x
  map : MapIs w mp (es.map key)
  pages : (es.map Ent.page).Nodup
  wf : ∀ x ∈ es, (Lit.int .i64 x.page).wf = true
  lows : base ≤ g ∧ base ≤ r ∧ base ≤ mp ∧ ∀ x ∈ es, base ≤ x.blk

section
variable {w w' : World} {base g : Nat} {room : Int} {mp r : Nat} {hits miss : Int} {es : List Ent}
theorem CacheB.c0 (h : CacheB w g room mp r hits miss) : w.cell? ⟨g, 0, none⟩ = some (.int .i64 room) := by unfold World.cell?; rw [show (⟨g, 0, none⟩ : Addr).block = g from rfl, h]; rfl
theorem CacheB.c1 (h : CacheB w g room mp r hits miss) : w.cell? ⟨g, 1, none⟩ = some (.map (some mp)) := by unfold World.cell?; rw [show (⟨g, 1, none⟩ : Addr).block = g from rfl, h]; rfl
theorem CacheB.c2 (h : CacheB w g room mp r hits miss) : w.cell? ⟨g, 2, none⟩ = some (ptr r) := by unfold World.cell?; rw [show (⟨g, 2, none⟩ : Addr).block = g from rfl, h]; rfl
theorem CacheB.ne {b : Nat} (h : CacheB w g room mp r hits miss) (hb : EntB w b) : b ≠ g := by
  rintro rfl
  obtain ⟨cs, h1, _⟩ := hb
  unfold CacheB at h
  rw [h] at h1
  injection h1 with h1; injection h1 with _ h2 _
  revert h2; decide
theorem MapIs.ne {L : List (Int × Nat)} {b : Nat} (h : MapIs w mp L) (hb : EntB w b) : b ≠ mp := by
  rintro rfl
  obtain ⟨cs, h1, _⟩ := hb
  obtain ⟨D, ⟨es, clock, h2, _⟩, _⟩ := h
  rw [h1] at h2; cases h2
theorem MapIs.neB {L : List (Int × Nat)} (h : MapIs w mp L) (hb : CacheB w g room mp r hits miss) : g ≠ mp := by
  rintro rfl
  obtain ⟨D, ⟨es, clock, h2, _⟩, _⟩ := h
  unfold CacheB at hb
  rw [hb] at h2; cases h2
/-- A row of bytes is no entry's block. -/
theorem row_ne {b n : Nat} {v : Value} {xs : List Value} (h : w.ownsRow base 5 1 v n xs) (hb : EntB w b) : v.ownBlock ≠ some b := by
  intro e
  rcases h.2 with ⟨rfl, _⟩ | ⟨c, cap, cur, rfl, _, hg, _⟩
  · cases e
  · obtain rfl : c = b := by simpa [Value.ownBlock] using e
    obtain ⟨cs, h1, _⟩ := hb
    rw [h1] at hg
    injection hg with hg; injection hg with _ h2 _
    revert h2; decide
theorem row_neM {n : Nat} {v : Value} {xs : List Value} {L : List (Int × Nat)} (h : w.ownsRow base 5 1 v n xs) (hb : MapIs w mp L) : v.ownBlock ≠ some mp := by
  intro e
  rcases h.2 with ⟨rfl, _⟩ | ⟨c, cap, cur, rfl, _, hg, _⟩
  · cases e
  · obtain rfl : c = mp := by simpa [Value.ownBlock] using e
    obtain ⟨D, ⟨es, clock, h2, _⟩, _⟩ := hb
    rw [h2] at hg; cases hg
theorem EntIs.keep {x : Ent} {S : Nat → Prop} (h : EntIs w base x) (hf : Fr S w w') (h0 : ∀ i v, w.cell? ⟨x.blk, i, none⟩ = some v → i < 4 → w'.cell? ⟨x.blk, i, none⟩ = some v)
    (hS : ∀ n v xs, w.ownsRow base 5 1 v n xs → ∀ k, v.ownBlock = some k → ¬ S k) : EntIs w' base x := by
  obtain ⟨h1, ⟨A, c, h2, h3⟩, h4, h5⟩ := h
  exact ⟨h0 _ _ h1 (by decide), ⟨A, c, h0 _ _ h2 (by decide), hf.own h3 (hS _ _ _ h3)⟩, h0 _ _ h4 (by decide), h0 _ _ h5 (by decide)⟩
/-- Behind what leaves all old blocks as they are. -/
theorem CacheAt.up (h : CacheAt w base g room mp r hits miss es) (hu : Up w w') : CacheAt w' base g room mp r hits miss es := by
  have hf := Fr.of_below hu
  have lt : ∀ {b : Nat}, EntB w b → EntB w' b := fun hb => hb.fr hf id
  refine ⟨?_, lt h.ring, h.row.up hf (fun _ _ => id), h.nodup, fun x hx => ⟨lt (h.ents x hx).1, (h.ents x hx).2.keep hf (fun i v hv _ => hf.cell hv id) (fun _ _ _ _ _ _ => id)⟩, h.map.kept hf id, h.pages, h.wf, h.lows⟩
  have := h.own
  unfold CacheB at *
  rw [← this]
  exact hu.block g (Array.getElem?_eq_some_iff.1 this).1
end
end Go.Proofs.Ytlikggeceeennaa
