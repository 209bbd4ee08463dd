/- THE WALKS of the law's page and bytes, with rows of their own; the cache and the document's side by side. -/
import Derived.Test.YtlikggeceeennaaCac26
import Derived.Test.YtlikggeceeennaaCac25
import Derived.Test.YtlikggeceeennaaCac24
import Derived.Test.YtlikggeceeennaaRf4
import Derived.Test.YtlikggeceeennaaCacO
set_option linter.unusedVariables false
set_option linter.unusedSimpArgs false
namespace Go.Proofs.Ytlikggeceeennaa
open Go Go.RowKit Hach

/-- Bytes of the call's own. -/
def OwnRet (w : World) (n : Nat) (D : List UInt8) (en : Ending) (w' : World) : Prop := ∃ A c, en = .returned (.slice A n c) ∧ Hid (w'.ownsRow w.heap.size 5 1 (.slice A n c) n (D.map byteCell) ∧ Up w w')
set_option maxHeartbeats 1000000 in
theorem pageO_calls (w : World) (s : UInt8) : Calls Try.prog 18 #[.int .u8 (n8 s)] w (OwnRet w 512 (pageD s)) := by
  go_enter Try.func18, Try.ntmps18
  go_wp2_with (at_make; refine hold ?_)
  refine hid (wl_make elemB rfl (.const (.int .i64 512)) (.const (.int .i64 512)) rfl w.heap.size 512 rfl rfl rfl rfl (by decide) (by decide) (Nat.le_refl _) ?_)
  intro w2 o2 b2 z2
  have hz : (madeCells (Value.int IntKind.u8 0).cells (512 * 1)).toList = (List.replicate 512 (0 : UInt8)).map byteCell := by
    rw [Nat.mul_one]; show (madeCells #[Value.int IntKind.u8 0] 512).toList = _
    rw [toList_madeCells_one, List.map_replicate]; rfl
  rw [hz] at o2
  have e0 : w2.cell? ⟨w.heap.size, 0, none⟩ = some (.int .u8 (n8 0)) := by rw [o2.cellAt 0 (by decide), List.getElem?_map, List.getElem?_replicate, if_pos (by decide)]; rfl
  have e1 : w2.cell? ⟨w.heap.size, 511, none⟩ = some (.int .u8 (n8 0)) := by rw [o2.cellAt 511 (by decide), List.getElem?_map, List.getElem?_replicate, if_pos (by decide)]; rfl
  have f0 := o2.frozenAt 0
  have f1 := o2.frozenAt 511
  obtain ⟨o3, _⟩ := o2.stored 0 (.int .u8 (n8 s))
  obtain ⟨o4, _⟩ := o3.stored 511 (.int .u8 (n8 s))
  have e4 : (((List.replicate 512 (0 : UInt8)).map byteCell).set 0 (.int .u8 (n8 s))).set 511 (.int .u8 (n8 s)) = (pageD s).map byteCell := by
    show List.set (List.set _ _ (byteCell s)) _ (byteCell s) = _
    unfold pageD
    rw [List.map_set, List.map_set]
  rw [e4] at o4
  have O4 := hid o4
  have B4 := hid ((b2.setCell (p := ⟨w.heap.size, 0, none⟩) (Nat.le_refl _) (.int .u8 (n8 s))).setCell (p := ⟨w.heap.size, 511, none⟩) (Nat.le_refl _) (.int .u8 (n8 s)))
  clear o2 o3 o4 e4 hz b2
  go_wp2
  go_ret
  exact ⟨some ⟨w.heap.size, 0, none⟩, 512, rfl, hid ⟨O4.out, B4.out⟩⟩
/-- An act's bytes. -/
def actN (a : ActV) : Nat := if a.short = true then 1 else 512
def actD (a : ActV) : List UInt8 := if a.short = true then [a.seed] else pageD a.seed
theorem bytes5_calls (w : World) (a : ActV) : Calls Try.prog 30 #[.agg #[.int .i64 a.kind, .int .i64 a.page, .int .u8 (n8 a.seed), .bool a.short]] w (OwnRet w (actN a) (actD a)) := by
  obtain ⟨k, p, s, sh⟩ := a
  have u1 : Up w (w.alloc (.cells #[.int .i64 k, .int .i64 p, .int .u8 (n8 s), .bool sh] 51)) := (Below.refl _ _).alloc (Nat.le_refl _) _
  have U1 := hid u1
  clear u1
  cases sh with
  | true =>
    have O := hid (show ((w.alloc (.cells #[.int .i64 k, .int .i64 p, .int .u8 (n8 s), .bool true] 51)).alloc (.cells #[.int .u8 (n8 s)] 5)).ownsRow w.heap.size 5 1 (.slice (some ⟨w.heap.size + 1, 0, none⟩) 1 1) 1 ([s].map byteCell) from by
      have := own_lit (w.alloc (.cells #[.int .i64 k, .int .i64 p, .int .u8 (n8 s), .bool true] 51)) w.heap.size 5 1 [.int .u8 (n8 s)] (by simp) (by decide) rfl
      simpa [byteCell] using this)
    go_enter Try.func30, Try.ntmps30
    go_wp2
    go_ret
    exact ⟨_, _, rfl, hid ⟨O.out, upAl U1.out _⟩⟩
  | false =>
    go_enter Try.func30, Try.ntmps30
    go_wp2_with fail
    refine (pageO_calls _ s).mono ?_
    rintro en w2 ⟨A, c, rfl, hh⟩
    have HH := hh
    clear hh
    go_wp2
    go_ret
    exact ⟨A, c, rfl, hid ⟨own_base HH.out.1 U1.out.size, U1.out.t HH.out.2⟩⟩

section
variable {w w1 : World} {bc g mp br b : Nat} {room hits miss room' hit' miss' : Int} {V U : List Vis}
/-- The cache behind what the document's does, and the other way round. -/
theorem CacheM.afterR (h : CacheM w bc g mp room hits miss V) (hr : RefM w br b room' hit' miss' U) (hf : Fr (RefS w b) w w1) : CacheM w1 bc g mp room hits miss V := by
  obtain ⟨A, c, R, hr, _⟩ := hr
  have hb := hr.own
  obtain ⟨r, es, h1, h2⟩ := h
  refine CacheM.apart ⟨r, es, h1, h2⟩ hf (fun k hk hlt => ?_)
  have ty : ∃ cs fr t, w.heap[k]? = some (.cells cs t fr) ∧ (t = 130 ∨ t = 174) := by
    rcases hk with rfl | ⟨cs, fr, hk⟩
    · exact ⟨_, _, _, hb, .inl rfl⟩
    · exact ⟨_, _, _, hk, .inr rfl⟩
  obtain ⟨cs, fr, t, hk, ht⟩ := ty
  refine ⟨?_, ?_, ?_, ?_⟩
  · rintro rfl
    have h3 := h1.own
    unfold CacheB at h3
    rw [hk] at h3
    injection h3 with h3; injection h3 with _ h3 _
    rcases ht with rfl | rfl <;> revert h3 <;> decide
  · rintro rfl
    obtain ⟨D, ⟨es', clock, h3, _⟩, _⟩ := h1.map
    rw [hk] at h3; cases h3
  · rintro ⟨cs', h3, _⟩
    rw [hk] at h3
    injection h3 with h3; injection h3 with _ h3 _
    rcases ht with rfl | rfl <;> revert h3 <;> decide
  · intro cs' fr' h3
    rw [hk] at h3
    injection h3 with h3; injection h3 with _ h3 _
    rcases ht with rfl | rfl <;> revert h3 <;> decide
theorem RefM.afterC (hr : RefM w br b room' hit' miss' U) (h : CacheM w bc g mp room hits miss V) (hf : Fr (CacheS w g mp) w w1) : RefM w1 br b room' hit' miss' U := by
  obtain ⟨A, c, R, hr, hv⟩ := hr
  obtain ⟨r, es, h1, h2⟩ := h
  have key : ∀ k, CacheS w g mp k → ∀ cs t fr, w.heap[k]? = some (.cells cs t fr) → t ≠ 130 ∧ t ≠ 174 ∧ t ≠ 5 := by
    intro k hk cs t fr h3
    rcases hk with rfl | rfl | ⟨cs', h4, _⟩
    · have h4 := h1.own
      unfold CacheB at h4
      rw [h3] at h4
      injection h4 with h4; injection h4 with _ h4 _
      subst h4; decide
    · obtain ⟨D, ⟨es', clock, h4, _⟩, _⟩ := h1.map
      rw [h3] at h4; cases h4
    · rw [h3] at h4
      injection h4 with h4; injection h4 with _ h4 _
      subst h4; decide
  exact ⟨A, c, R, hr.keep hf (fun hs => (key b hs _ _ _ hr.own).1 rfl) (fun k hs _ cs fr => ⟨fun h3 => (key k hs _ _ _ h3).2.1 rfl, fun h3 => (key k hs _ _ _ h3).2.2 rfl⟩), hv⟩
theorem own_afterR {B n c : Nat} {A : Option Addr} {xs : List Value} (hr : RefM w br b room' hit' miss' U) (hf : Fr (RefS w b) w w1) (ho : w.ownsRow B 5 1 (.slice A n c) n xs) : w1.ownsRow B 5 1 (.slice A n c) n xs := by
  obtain ⟨A', c', R, hr, _⟩ := hr
  refine hf.own ho (fun k hk hs => ?_)
  rcases hs with rfl | ⟨cs, fr, h4⟩
  · exact own_ne ho hr.own (by decide) hk
  · exact own_ne ho h4 (by decide) hk
/-- A block of another type, behind either. -/
theorem cell_afterC {k i : Nat} {cs : Array Value} {t : TypeId} {fr : Nat × Nat} (h : CacheM w bc g mp room hits miss V) (hf : Fr (CacheS w g mp) w w1) (hk : w.heap[k]? = some (.cells cs t fr)) (ht : t ≠ 67 ∧ t ≠ 103) : w1.heap[k]? = some (.cells cs t fr) := by
  obtain ⟨r, es, h1, h2⟩ := h
  refine (hf.block k (Array.getElem?_eq_some_iff.1 hk).1 ?_).trans hk
  rintro (rfl | rfl | ⟨cs', h4, _⟩)
  · have h4 := h1.own
    unfold CacheB at h4
    rw [hk] at h4
    injection h4 with h4; injection h4 with _ h4 _
    exact ht.1 h4
  · obtain ⟨D, ⟨es', clock, h4, _⟩, _⟩ := h1.map
    rw [hk] at h4; cases h4
  · rw [hk] at h4
    injection h4 with h4; injection h4 with _ h4 _
    exact ht.2 h4
theorem cell_afterR {k i : Nat} {cs : Array Value} {t : TypeId} {fr : Nat × Nat} (hr : RefM w br b room' hit' miss' U) (hf : Fr (RefS w b) w w1) (hk : w.heap[k]? = some (.cells cs t fr)) (ht : t ≠ 130 ∧ t ≠ 174) : w1.heap[k]? = some (.cells cs t fr) := by
  obtain ⟨A, c, R, hr, _⟩ := hr
  refine (hf.block k (Array.getElem?_eq_some_iff.1 hk).1 ?_).trans hk
  rintro (rfl | ⟨cs', fr', h4⟩)
  · have h4 := hr.own
    rw [hk] at h4
    injection h4 with h4; injection h4 with _ h4 _
    exact ht.1 h4
  · rw [hk] at h4
    injection h4 with h4; injection h4 with _ h4 _
    exact ht.2 h4
end
end Go.Proofs.Ytlikggeceeennaa
