/- PARTS OF A PROOF, one behind the other: THE CACHE's MAP: pages to blocks. THE CACHE IN MEMORY. THE WALK of cache's gone. CONDITIONS: none of this text's own. -/
import Derived.Test.YtbcghggkfnagoaaGreatDoorQS22
import Derived.Test.YtbcghggkfnagoaaGreatDoorQS3
import Derived.Maps.OwnSet
import Derived.Maps.OwnOps
set_option linter.unusedVariables false
set_option linter.unusedSimpArgs false
namespace Go.Proofs.YtbcghggkfnagoaaGreatDoor
open Go Go.RowKit Go.Maps Hach

def ptrElem (v : Value) : Option (DataW Unit × List MemPlace) :=
  match v with
  | .pointer none => some (.nil, [])
  | .pointer (some ⟨b, 0, none⟩) => some (.lit (.int .i64 (b : Int)), [])
  | _ => none
theorem ptrElem_ptr (b : Nat) : ptrElem (ptr b) = some (.lit (.int .i64 (b : Int)), []) := rfl
theorem ptrElem_inv_nil {v : Value} {ps : List MemPlace} (h : ptrElem v = some (.nil, ps)) : v = .pointer none := by
  unfold ptrElem at h
  split at h
  · rfl
  · cases h
  · cases h
theorem ptrElem_inv_lit {v : Value} {b : Nat} {ps : List MemPlace} (h : ptrElem v = some (.lit (.int .i64 (b : Int)), ps)) : v = ptr b := by
  unfold ptrElem at h
  split at h
  · cases h
  · rename_i c
    injection h with h
    injection h with h _
    injection h with h
    injection h with _ h
    unfold ptr
    rw [show c = b by omega]
  · cases h
theorem keyL : Keyed Tryz.prog 3 := int_keyed Tryz.underlying3
theorem zeroP (w : World) : (zeroValue 190).run Tryz.prog w = .ok (.pointer none) w := by kernel_rfl
theorem key_mk {p : Int} (h : (Lit.int .i64 p).wf = true) : keyOf Tryz.prog 3 (.int .i64 p) = some (.int .i64 p) := keyOf_int_mk Tryz.underlying3 h
theorem key_lit (p : Int) : WideAt.IsKeyLit (.int .i64 p) := by simp [WideAt.IsKeyLit]

def seen (L : List (Int × Nat)) (p : Int) : DataW Unit := match L.lookup p with | none => .nil | some b => .lit (.int .i64 (b : Int))
def MapIs (w : World) (mp : Nat) (L : List (Int × Nat)) : Prop :=
  ∃ D : DataW Unit, w.ownsMap Tryz.prog 3 ptrElem mp L.length D ∧ (∀ p, D.atKey (.int .i64 p) .nil = seen L p) ∧ (∀ p, has D (.int .i64 p) = (L.lookup p).isSome) ∧ Maps.size D = L.length
theorem MapIs.made (w : World) : MapIs (w.alloc (.map #[] 0)) w.heap.size [] :=
  ⟨.map [], World.ownsMap_made _ _ _ _, fun p => rfl, fun p => rfl, rfl⟩
theorem MapIs.kept {w w' : World} {mp : Nat} {L : List (Int × Nat)} {S : Nat → Prop} (h : MapIs w mp L) (hf : Fr S w w') (hS : ¬ S mp) : MapIs w' mp L := by
  obtain ⟨D, h1, h2⟩ := h
  refine ⟨D, ?_, h2⟩
  have hlt := h1.lt
  obtain ⟨es, clock, hb, r⟩ := h1
  exact ⟨es, clock, (hf.block mp hlt hS).trans hb, r⟩
theorem MapIs.lt {w : World} {mp : Nat} {L : List (Int × Nat)} (h : MapIs w mp L) : mp < w.heap.size := by obtain ⟨D, h1, _⟩ := h; exact h1.lt
theorem MapIs.look {w : World} {mp : Nat} {L : List (Int × Nat)} (h : MapIs w mp L) {p : Int} (hp : (Lit.int .i64 p).wf = true) :
    (Instr.lookup 193 (.map (some mp)) (.int .i64 p) false).run Tryz.prog w = .ok (match L.lookup p with | none => .pointer none | some b => ptr b) w := by
  obtain ⟨D, h1, h2, _⟩ := h
  obtain ⟨v, ps, hrun, hv⟩ := h1.lookup keyL Tryz.underlying193 (zeroP w) (zd := .nil) (zp := []) rfl (key_mk hp)
  rw [hrun, h2 p] at *
  unfold seen at hv
  cases hl : L.lookup p with
  | none => rw [hl] at hv; rw [ptrElem_inv_nil hv]
  | some b => rw [hl] at hv; rw [ptrElem_inv_lit hv]
theorem MapIs.len {w : World} {mp : Nat} {L : List (Int × Nat)} (h : MapIs w mp L) (ty : TypeId) : (Builtin.len_ #[193] ty #[.map (some mp)]).run Tryz.prog w = .ok (.int .i64 L.length) w := by
  obtain ⟨D, h1, _, _, h4⟩ := h
  rw [h1.len Tryz.underlying193 ty, h4]
theorem lit_ne {p q : Int} (h : q ≠ p) : (Lit.int .i64 q) ≠ (Lit.int .i64 p) := fun e => h (by injection e)
theorem MapIs.add {w : World} {mp : Nat} {L : List (Int × Nat)} (h : MapIs w mp L) {p : Int} {b : Nat} (hp : (Lit.int .i64 p).wf = true) (hn : L.lookup p = none) (hL : L.length < 1000000) :
    ∃ w', (Instr.mapUpdate 193 (.map (some mp)) (.int .i64 p) (ptr b)).run Tryz.prog w = .ok () w' ∧ MapIs w' mp (L ++ [(p, b)]) ∧ w.grownBy w' (some mp) := by
  obtain ⟨D, h1, h2, h3, h4⟩ := h
  obtain ⟨w', hrun, k1, k2⟩ := h1.update keyL Tryz.underlying193 (by unfold maxLen; omega) (key_mk hp) (ptrElem_ptr b)
  have hm := h1.isMap
  have hno : has D (.int .i64 p) = false := by rw [h3, hn]; rfl
  refine ⟨w', hrun, ⟨_, by rw [List.length_append]; exact k1, fun q => ?_, fun q => ?_, ?_⟩, k2⟩
  · unfold seen
    rw [List.lookup_append]
    by_cases e : q = p
    · subst e
      rw [atKey_put_same hm (key_lit q), hn]
      simp [List.lookup]
    · rw [atKey_put_other (lit_ne e), h2]
      unfold seen
      cases hl : L.lookup q with
      | none => simp [List.lookup, beq_eq_false_iff_ne.2 e]
      | some c => rfl
  · rw [List.lookup_append]
    by_cases e : q = p
    · subst e
      rw [has_put_same hm (key_lit q), hn]
      simp [List.lookup]
    · rw [has_put_other (lit_ne e), h3]
      cases hl : L.lookup q with
      | none => simp [List.lookup, beq_eq_false_iff_ne.2 e]
      | some c => rfl
  · rw [size_put (h1.tidy keyL), hno, List.length_append, h4]; rfl
theorem lookup_mid {L1 L2 : List (Int × Nat)} {p : Int} {b : Nat} (hn : (L1 ++ L2).lookup p = none) (q : Int) : (L1 ++ (p, b) :: L2).lookup q = if q = p then some b else (L1 ++ L2).lookup q := by
  rw [List.lookup_append] at hn ⊢
  rw [List.lookup_append]
  by_cases e : q = p
  · subst e
    have h1 : L1.lookup q = none := by
      cases h : L1.lookup q with
      | none => rfl
      | some c => rw [h] at hn; cases hn
    rw [h1, if_pos rfl]
    simp [List.lookup]
  · rw [if_neg e]
    simp [List.lookup, beq_eq_false_iff_ne.2 e]
theorem MapIs.del {w : World} {mp : Nat} {L1 L2 : List (Int × Nat)} {p : Int} {b : Nat} (h : MapIs w mp (L1 ++ (p, b) :: L2)) (hp : (Lit.int .i64 p).wf = true) (hn : (L1 ++ L2).lookup p = none) (ty : TypeId) :
    ∃ w', (Builtin.delete_ #[193, 3] ty #[.map (some mp), .int .i64 p]).run Tryz.prog w = .ok (.tuple #[]) w' ∧ MapIs w' mp (L1 ++ L2) ∧ w.grownBy w' (some mp) := by
  obtain ⟨D, h1, h2, h3, h4⟩ := h
  obtain ⟨w', hrun, k1, k2⟩ := h1.drop keyL Tryz.underlying193 (key_mk hp) ty
  have hyes : has D (.int .i64 p) = true := by rw [h3, lookup_mid hn, if_pos rfl]; rfl
  have hsz : Maps.size (D.del (.int .i64 p)) = (L1 ++ L2).length := by
    have := size_del (k := Lit.int .i64 p) (h1.tidy keyL)
    rw [hyes, h4] at this
    simp only [List.length_append, List.length_cons, if_true] at this ⊢
    omega
  obtain ⟨es, clock, hb, F, hs, hD⟩ := k1
  refine ⟨w', hrun, ⟨_, ⟨es, clock, hb, F, ?_, hD⟩, fun q => ?_, fun q => ?_, hsz⟩, k2.grown⟩
  · rw [← hsz, hD, Maps.size_eq, length_sorted]; simp
  · by_cases e : q = p
    · subst e
      rw [atKey_del_same]
      unfold seen
      rw [hn]
    · rw [atKey_del_other (lit_ne e), h2]
      unfold seen
      rw [lookup_mid hn, if_neg e]
  · by_cases e : q = p
    · subst e
      rw [has_del_same, hn]; rfl
    · rw [has_del_other (lit_ne e), h3, lookup_mid hn, if_neg e]
end Go.Proofs.YtbcghggkfnagoaaGreatDoor

namespace Go.Proofs.YtbcghggkfnagoaaGreatDoor
open Go Go.RowKit Hach

structure Ent where
  page : Int
  blk : Nat
  data : List UInt8
  pins : Int
  dirty : Bool

def key (x : Ent) : Int × Nat := (x.page, x.blk)
def EntB (w : World) (b : Nat) : Prop := ∃ cs, w.heap[b]? = some (.cells cs 192 (0, 0)) ∧ cs.size = 6
theorem EntB.cell {w : World} {b i : Nat} (h : EntB w b) (hi : i < 6) : ∃ v, w.cell? ⟨b, i, none⟩ = some v := by
  obtain ⟨cs, h1, h2⟩ := h
  refine ⟨cs[i]'(by omega), ?_⟩
  unfold World.cell?
  rw [show (⟨b, i, none⟩ : Addr).block = b from rfl, h1]
  exact Array.getElem?_eq_getElem (show i < cs.size by omega)
theorem EntB.free {w : World} {b i : Nat} (h : EntB w b) : w.frozen? ⟨b, i, none⟩ = false := by
  obtain ⟨cs, h1, _⟩ := h
  unfold World.frozen?
  rw [show (⟨b, i, none⟩ : Addr).block = b from rfl, h1]
  simp
theorem EntB.lt {w : World} {b : Nat} (h : EntB w b) : b < w.heap.size := by obtain ⟨cs, h1, _⟩ := h; exact (Array.getElem?_eq_some_iff.1 h1).1
theorem EntB.fr {w w' : World} {b : Nat} {S : Nat → Prop} (h : EntB w b) (hf : Fr S w w') (hS : ¬ S b) : EntB w' b := by
  have hlt := h.lt
  obtain ⟨cs, h1, h2⟩ := h
  exact ⟨cs, (hf.block b hlt hS).trans h1, h2⟩
theorem EntB.set {w : World} {b : Nat} (h : EntB w b) (c j : Nat) (u : Value) : EntB (w.setCell ⟨c, j, none⟩ u) b := by
  obtain ⟨cs, h1, h2⟩ := h
  by_cases e : c = b
  · subst e
    exact ⟨cs.setIfInBounds j u, heap_setCell_same w c j cs _ u h1, by simp [h2]⟩
  · exact ⟨cs, (Below.heap_setCell _ _ _ _ (fun h => e h.symm)).trans h1, h2⟩
theorem EntB.drew {w : World} {b : Nat} (h : EntB w b) : EntB w.drew b := h

def EntIs (w : World) (base : Nat) (x : Ent) : Prop :=
  w.cell? ⟨x.blk, 0, none⟩ = some (.int .i64 x.page) ∧ (∃ A c, w.cell? ⟨x.blk, 1, none⟩ = some (.slice A 512 c) ∧ w.ownsRow base 5 1 (.slice A 512 c) 512 (x.data.map byteCell)) ∧
  w.cell? ⟨x.blk, 2, none⟩ = some (.int .i64 x.pins) ∧ w.cell? ⟨x.blk, 3, none⟩ = some (.bool x.dirty)
def CacheB (w : World) (g : Nat) (room : Int) (mp r : Nat) (hits miss : Int) : Prop :=
  w.heap[g]? = some (.cells #[.int .i64 room, .map (some mp), ptr r, .int .i64 hits, .int .i64 miss] 195 (0, 0))
structure CacheAt (w : World) (base g : Nat) (room : Int) (mp r : Nat) (hits miss : Int) (es : List Ent) : Prop where
  own : CacheB w g room mp r hits miss
  ring : EntB w r
  row : Chain w r (es.map Ent.blk ++ [r])
  nodup : (r :: es.map Ent.blk).Nodup
  ents : ∀ x ∈ es, EntB w x.blk ∧ EntIs w base x
  map : MapIs w mp (es.map key)
  pages : (es.map Ent.page).Nodup
  wf : ∀ x ∈ es, (Lit.int .i64 x.page).wf = true
  lows : base ≤ g ∧ base ≤ r ∧ base ≤ mp ∧ ∀ x ∈ es, base ≤ x.blk

section
variable {w w' : World} {base g : Nat} {room : Int} {mp r : Nat} {hits miss : Int} {es : List Ent}
theorem CacheB.c0 (h : CacheB w g room mp r hits miss) : w.cell? ⟨g, 0, none⟩ = some (.int .i64 room) := by unfold World.cell?; rw [show (⟨g, 0, none⟩ : Addr).block = g from rfl, h]; rfl
theorem CacheB.c1 (h : CacheB w g room mp r hits miss) : w.cell? ⟨g, 1, none⟩ = some (.map (some mp)) := by unfold World.cell?; rw [show (⟨g, 1, none⟩ : Addr).block = g from rfl, h]; rfl
theorem CacheB.c2 (h : CacheB w g room mp r hits miss) : w.cell? ⟨g, 2, none⟩ = some (ptr r) := by unfold World.cell?; rw [show (⟨g, 2, none⟩ : Addr).block = g from rfl, h]; rfl
theorem CacheB.ne {b : Nat} (h : CacheB w g room mp r hits miss) (hb : EntB w b) : b ≠ g := by
  rintro rfl
  obtain ⟨cs, h1, _⟩ := hb
  unfold CacheB at h
  rw [h] at h1
  injection h1 with h1; injection h1 with _ h2 _
  revert h2; decide
theorem MapIs.ne {L : List (Int × Nat)} {b : Nat} (h : MapIs w mp L) (hb : EntB w b) : b ≠ mp := by
  rintro rfl
  obtain ⟨cs, h1, _⟩ := hb
  obtain ⟨D, ⟨es, clock, h2, _⟩, _⟩ := h
  rw [h1] at h2; cases h2
theorem MapIs.neB {L : List (Int × Nat)} (h : MapIs w mp L) (hb : CacheB w g room mp r hits miss) : g ≠ mp := by
  rintro rfl
  obtain ⟨D, ⟨es, clock, h2, _⟩, _⟩ := h
  unfold CacheB at hb
  rw [hb] at h2; cases h2
theorem row_ne {b n : Nat} {v : Value} {xs : List Value} (h : w.ownsRow base 5 1 v n xs) (hb : EntB w b) : v.ownBlock ≠ some b := by
  intro e
  rcases h.2 with ⟨rfl, _⟩ | ⟨c, cap, cur, rfl, _, hg, _⟩
  · cases e
  · obtain rfl : c = b := by simpa [Value.ownBlock] using e
    obtain ⟨cs, h1, _⟩ := hb
    rw [h1] at hg
    injection hg with hg; injection hg with _ h2 _
    revert h2; decide
theorem row_neM {n : Nat} {v : Value} {xs : List Value} {L : List (Int × Nat)} (h : w.ownsRow base 5 1 v n xs) (hb : MapIs w mp L) : v.ownBlock ≠ some mp := by
  intro e
  rcases h.2 with ⟨rfl, _⟩ | ⟨c, cap, cur, rfl, _, hg, _⟩
  · cases e
  · obtain rfl : c = mp := by simpa [Value.ownBlock] using e
    obtain ⟨D, ⟨es, clock, h2, _⟩, _⟩ := hb
    rw [h2] at hg; cases hg
theorem EntIs.keep {x : Ent} {S : Nat → Prop} (h : EntIs w base x) (hf : Fr S w w') (h0 : ∀ i v, w.cell? ⟨x.blk, i, none⟩ = some v → i < 4 → w'.cell? ⟨x.blk, i, none⟩ = some v)
    (hS : ∀ n v xs, w.ownsRow base 5 1 v n xs → ∀ k, v.ownBlock = some k → ¬ S k) : EntIs w' base x := by
  obtain ⟨h1, ⟨A, c, h2, h3⟩, h4, h5⟩ := h
  exact ⟨h0 _ _ h1 (by decide), ⟨A, c, h0 _ _ h2 (by decide), hf.own h3 (hS _ _ _ h3)⟩, h0 _ _ h4 (by decide), h0 _ _ h5 (by decide)⟩
theorem CacheAt.up (h : CacheAt w base g room mp r hits miss es) (hu : Up w w') : CacheAt w' base g room mp r hits miss es := by
  have hf := Fr.of_below hu
  have lt : ∀ {b : Nat}, EntB w b → EntB w' b := fun hb => hb.fr hf id
  refine ⟨?_, lt h.ring, h.row.up hf (fun _ _ => id), h.nodup, fun x hx => ⟨lt (h.ents x hx).1, (h.ents x hx).2.keep hf (fun i v hv _ => hf.cell hv id) (fun _ _ _ _ _ _ => id)⟩, h.map.kept hf id, h.pages, h.wf, h.lows⟩
  have := h.own
  unfold CacheB at *
  rw [← this]
  exact hu.block g (Array.getElem?_eq_some_iff.1 this).1
end
end Go.Proofs.YtbcghggkfnagoaaGreatDoor

namespace Go.Proofs.YtbcghggkfnagoaaGreatDoor
open Go Go.RowKit Hach
section
variable {w w' : World} {base g : Nat} {room : Int} {mp r : Nat} {hits miss : Int} {l1 l2 : List Ent} {x : Ent}
theorem map_mid {α : Type} (f : Ent → α) : (l1 ++ x :: l2).map f = l1.map f ++ f x :: l2.map f := by rw [List.map_append, List.map_cons]
theorem lookup_none {L : List (Int × Nat)} {p : Int} (h : p ∉ L.map Prod.fst) : L.lookup p = none := by
  induction L with
  | nil => rfl
  | cons a L ih =>
    obtain ⟨q, b⟩ := a
    simp only [List.map_cons, List.mem_cons, not_or] at h
    rw [List.lookup_cons, beq_eq_false_iff_ne.2 h.1]
    exact ih h.2
theorem keys_pages (es : List Ent) : (es.map key).map Prod.fst = es.map Ent.page := by rw [List.map_map]; rfl
theorem CacheAt.less (h : CacheAt w base g room mp r hits miss (l1 ++ x :: l2)) {S : Nat → Prop} (hf : Fr S w w') (hSg : ¬ S g) (hSrow : ∀ n v xs, w.ownsRow base 5 1 v n xs → ∀ k, v.ownBlock = some k → ¬ S k)
    (hent : ∀ b, EntB w b → EntB w' b) (hcell : ∀ b i v, EntB w b → w.cell? ⟨b, i, none⟩ = some v → i < 4 → w'.cell? ⟨b, i, none⟩ = some v)
    (hrow : Chain w' r ((l1 ++ l2).map Ent.blk ++ [r])) (hm : MapIs w' mp ((l1 ++ l2).map key)) : CacheAt w' base g room mp r hits miss (l1 ++ l2) := by
  have sub : ∀ y ∈ l1 ++ l2, y ∈ l1 ++ x :: l2 := fun y hy => by
    rcases List.mem_append.1 hy with hy | hy
    · exact List.mem_append_left _ hy
    · exact List.mem_append_right _ (List.mem_cons_of_mem _ hy)
  have hsub : List.Sublist (l1 ++ l2) (l1 ++ x :: l2) := List.Sublist.append (List.Sublist.refl _) (List.sublist_cons_self _ _)
  refine ⟨?_, hent _ h.ring, hrow, ?_, fun y hy => ⟨hent _ (h.ents y (sub y hy)).1, ?_⟩, hm, ?_, fun y hy => h.wf y (sub y hy), ⟨h.lows.1, h.lows.2.1, h.lows.2.2.1, fun y hy => h.lows.2.2.2 y (sub y hy)⟩⟩
  · have := h.own
    unfold CacheB at *
    rw [← this]
    exact hf.block g (Array.getElem?_eq_some_iff.1 this).1 hSg
  · exact List.Nodup.sublist (List.Sublist.cons_cons _ (hsub.map _)) h.nodup
  · exact (h.ents y (sub y hy)).2.keep hf (fun i v hv hi => hcell _ _ _ (h.ents y (sub y hy)).1 hv hi) hSrow
  · exact List.Nodup.sublist (hsub.map _) h.pages
end

def GoneRet (w : World) (base g : Nat) (room : Int) (mp r : Nat) (hits miss : Int) (es : List Ent) (S : Nat → Prop) (en : Ending) (w' : World) : Prop :=
  en = .returned (.tuple #[]) ∧ Hid (CacheAt w' base g room mp r hits miss es ∧ Fr S w w' ∧ Below base w w')

set_option maxHeartbeats 1000000 in
theorem gone_calls (w : World) (base g : Nat) (room : Int) (mp r : Nat) (hits miss : Int) (l1 l2 : List Ent) (x : Ent) (h : Hid (CacheAt w base g room mp r hits miss (l1 ++ x :: l2))) :
    Calls Tryz.prog 178 #[ptr g, ptr x.blk] w (GoneRet w base g room mp r hits miss (l1 ++ l2) (fun k => k = mp ∨ EntB w k)) := by
  have hx := h.out.ents x (by simp)
  have hrow := h.out.row
  have hnd := h.out.nodup
  rw [map_mid, List.append_assoc, List.cons_append] at hrow
  rw [map_mid] at hnd
  obtain ⟨p, q, hp, ⟨t, hq⟩, e4, e5, p4, q5, pe, qe, hback⟩ := Chain.out hrow hnd
  have mem : ∀ b, b ∈ r :: (l1.map Ent.blk ++ l2.map Ent.blk) → EntB w b := by
    intro b hb
    rcases List.mem_cons.1 hb with rfl | hb
    · exact h.out.ring
    · rcases List.mem_append.1 hb with hb | hb
      · obtain ⟨y, hy, rfl⟩ := List.mem_map.1 hb; exact (h.out.ents y (by simp [hy])).1
      · obtain ⟨y, hy, rfl⟩ := List.mem_map.1 hb; exact (h.out.ents y (by simp [hy])).1
  have ep : EntB w p := mem p (by
    have := lastOf_mem r (l1.map Ent.blk)
    rw [← hp] at this
    rcases List.mem_cons.1 this with h | h
    · rw [h]; exact List.mem_cons_self
    · exact List.mem_cons_of_mem _ (List.mem_append_left _ h))
  have eq : EntB w q := mem q (by
    have : q ∈ l2.map Ent.blk ++ [r] := by rw [hq]; exact List.mem_cons_self
    rcases List.mem_append.1 this with h | h
    · exact List.mem_cons_of_mem _ (List.mem_append_right _ h)
    · rw [List.mem_singleton.1 h]; exact List.mem_cons_self)
  have low : ∀ b, b ∈ r :: (l1.map Ent.blk ++ l2.map Ent.blk) → base ≤ b := by
    intro b hb
    rcases List.mem_cons.1 hb with rfl | hb
    · exact h.out.lows.2.1
    · rcases List.mem_append.1 hb with hb | hb
      · obtain ⟨y, hy, rfl⟩ := List.mem_map.1 hb; exact h.out.lows.2.2.2 y (by simp [hy])
      · obtain ⟨y, hy, rfl⟩ := List.mem_map.1 hb; exact h.out.lows.2.2.2 y (by simp [hy])
  have lp : base ≤ p := low p (by
    have := lastOf_mem r (l1.map Ent.blk)
    rw [← hp] at this
    rcases List.mem_cons.1 this with h | h
    · rw [h]; exact List.mem_cons_self
    · exact List.mem_cons_of_mem _ (List.mem_append_left _ h))
  have lq : base ≤ q := low q (by
    have : q ∈ l2.map Ent.blk ++ [r] := by rw [hq]; exact List.mem_cons_self
    rcases List.mem_append.1 this with h | h
    · exact List.mem_cons_of_mem _ (List.mem_append_right _ h)
    · rw [List.mem_singleton.1 h]; exact List.mem_cons_self)
  have bs : base ≤ w.heap.size := Nat.le_of_lt (Nat.lt_of_le_of_lt lp ep.lt)
  -- the world behind out
  have hW1 : ∀ w1, w1 = ((w.setCell ⟨p, 4, none⟩ (ptr q)).setCell ⟨q, 5, none⟩ (ptr p)).drew →
      (Fr (fun k => EntB w k) w w1 ∧ (∀ b, EntB w b → EntB w1 b) ∧ (∀ b i v, w.cell? ⟨b, i, none⟩ = some v → ¬ (b = p ∧ i = 4) → ¬ (b = q ∧ i = 5) → w1.cell? ⟨b, i, none⟩ = some v) ∧ w1.cell? ⟨p, 4, none⟩ = some (ptr q) ∧ w1.cell? ⟨q, 5, none⟩ = some (ptr p) ∧ Below base w w1) := by
    rintro w1 rfl
    refine ⟨((((Fr.refl _ w).setCell (p := ⟨p, 4, none⟩) (fun _ => ep) _).setCell (p := ⟨q, 5, none⟩) (fun _ => eq) _).drew), fun b hb => ((hb.set _ _ _).set _ _ _).drew, fun b i v hv h1 h2 => set_far (set_far hv (fun e => h1 ⟨e.1.symm, e.2.symm⟩)) (fun e => h2 ⟨e.1.symm, e.2.symm⟩), ?_, ?_, (((Below.refl base w).setCell lp _).setCell lq _).drew⟩
    · exact set_far (set_near p4) (fun e => by cases e.2)
    · exact set_near (set_far q5 (fun e => by cases e.2))
  have hgx : g ≠ p ∧ g ≠ q := ⟨fun e => h.out.own.ne ep e.symm, fun e => h.out.own.ne eq e.symm⟩
  unfold ptr
  go_enter Tryz.func178, Tryz.ntmps178
  go_wp2_with fail
  refine (out_calls w x.blk p q _ _ e4 e5 p4 ep.free q5 eq.free pe qe).mono ?_
  rintro e w1 ⟨rfl, hw1⟩
  obtain ⟨f1, ent1, cell1, p41, q51, b1⟩ := hW1 w1 hw1
  clear hw1 hW1
  have m1 : MapIs w1 mp ((l1 ++ x :: l2).map key) := h.out.map.kept f1 (fun e => h.out.map.ne e rfl)
  rw [map_mid] at m1
  have hpn : x.page ∉ (l1.map key ++ l2.map key).map Prod.fst := by
    have := h.out.pages
    rw [map_mid] at this
    rw [List.map_append, keys_pages, keys_pages]
    intro hm
    obtain ⟨n1, n2, n3⟩ := List.nodup_append.1 this
    rcases List.mem_append.1 hm with hm | hm
    · exact n3 _ hm _ List.mem_cons_self rfl
    · exact (List.nodup_cons.1 n2).1 hm
  obtain ⟨w2, hdel, m2, g2⟩ := MapIs.del (w := w1.drew) (p := x.page) (b := x.blk) m1 (h.out.wf x (by simp)) (lookup_none hpn) 0
  have c1 : w1.cell? ⟨g, 1, none⟩ = some (.map (some mp)) := cell1 _ _ _ h.out.own.c1 (fun e => hgx.1 e.1) (fun e => hgx.2 e.1)
  have c0 : w1.cell? ⟨x.blk, 0, none⟩ = some (.int .i64 x.page) := cell1 _ _ _ hx.2.1 (fun e => pe e.1.symm) (fun e => qe e.1.symm)
  have d1 : w2.cell? ⟨g, 1, none⟩ = some (.map (some mp)) := g2.cell c1 (fun e => by injection e with e; exact h.out.map.neB h.out.own e)
  have d0 : w2.cell? ⟨x.blk, 0, none⟩ = some (.int .i64 x.page) := g2.cell c0 (fun e => by injection e with e; exact h.out.map.ne hx.1 e)
  have HH : Hid (CacheAt w2 base g room mp r hits miss (l1 ++ l2) ∧ Fr (fun k => k = mp ∨ EntB w k) w w2 ∧ Below base w w2) := by
    have b2 : Below base w w2 := (b1.drew).grown g2 (Nat.le_trans bs b1.size) (fun k hk => by have := Option.some.inj hk; rw [← this]; exact h.out.lows.2.2.1)
    have f2 : Fr (fun k => k = mp ∨ EntB w k) w w2 := (f1.mono (fun k hk => .inr hk)).trans ((Fr.refl _ w1).drew.trans' (Fr.of_grown g2)) (fun k _ hk => .inl (by injection hk))
    have cell2 : ∀ b i v, b ≠ mp → w.cell? ⟨b, i, none⟩ = some v → ¬ (b = p ∧ i = 4) → ¬ (b = q ∧ i = 5) → w2.cell? ⟨b, i, none⟩ = some v := fun b i v hb hv h1 h2 => g2.cell (cell1 _ _ _ hv h1 h2) (fun e => hb (by injection e))
    refine hid ⟨CacheAt.less h.out f2 ?_ ?_ ?_ ?_ ?_ (by rw [List.map_append]; exact m2), f2, b2⟩
    · rintro (e | e)
      · exact h.out.map.neB h.out.own e
      · exact h.out.own.ne e rfl
    · rintro n v xs ho k hk (e | e)
      · subst e; exact row_neM ho h.out.map hk
      · exact row_ne ho e hk
    · exact fun b hb => EntB.fr (w := w1.drew) (ent1 b hb).drew (Fr.of_grown g2) (fun e => by have := (Option.some.inj e); exact h.out.map.ne hb this)
    · exact fun b i v hb hv hi => cell2 _ _ _ (h.out.map.ne hb) hv (fun e => by omega) (fun e => by omega)
    · rw [List.map_append, List.append_assoc]
      have np := h.out.map.ne ep
      have nq := h.out.map.ne eq
      refine hback w2 (fun b i v hv h1 h2 => cell2 b i v ?_ hv h1 h2) (g2.cell p41 (fun e => np (by injection e))) (g2.cell q51 (fun e => nq (by injection e)))
      rintro rfl
      obtain ⟨D, ⟨es, clock, h5, _⟩, _⟩ := h.out.map
      unfold World.cell? at hv
      rw [show (⟨b, i, none⟩ : Addr).block = b from rfl, h5] at hv
      cases hv
  clear b1 lp lq bs low m1 m2 g2 f1 ent1 cell1 p41 q51 hpn e4 e5 p4 q5 ep eq mem hback hp hq hgx hx hrow hnd pe qe
  go_wp2
  go_region_held3 (fun w' => w'.cell? ⟨g, 1, none⟩ = some (.map (some mp)) ∧ w'.cell? ⟨x.blk, 0, none⟩ = some (.int .i64 x.page))
    (first | exact ⟨c1, c0⟩ | exact ⟨d1, d0⟩)
    (fail)
  go_wp2
  go_end0
  exact ⟨rfl, HH⟩
end Go.Proofs.YtbcghggkfnagoaaGreatDoor
