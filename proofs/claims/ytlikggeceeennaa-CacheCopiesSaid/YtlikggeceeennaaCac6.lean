/- THE WALKS of cache's New, Peek, and of the law's page. -/
import Derived.Test.YtlikggeceeennaaCac5
set_option linter.unusedVariables false
set_option linter.unusedSimpArgs false
namespace Go.Proofs.Ytlikggeceeennaa
open Go Go.RowKit Hach

def pageD (s : UInt8) : List UInt8 := ((List.replicate 512 (0 : UInt8)).set 0 s).set 511 s
theorem pageD_length (s : UInt8) : (pageD s).length = 512 := by unfold pageD; rw [List.length_set, List.length_set, List.length_replicate]

def NewRet (w : World) (room : Int) (en : Ending) (w' : World) : Prop :=
  ∃ g mp r, en = .returned (ptr g) ∧ Hid (CacheAt w' w.heap.size g room mp r 0 0 [] ∧ Below w.heap.size w w')

set_option maxHeartbeats 1000000 in
theorem new_calls (w : World) (room : Int) (h1 : 1 ≤ room) (h2 : room ≤ 4096) :
    Calls Try.prog 16 #[.int .i64 room] w (NewRet w room) := by
  have hmm := @run_makeMap Try.prog
  have d1 : ¬ room < 1 := by omega
  have d2 : ¬ (4096 : Int) < room := by omega
  clear h1 h2
  go_enter Try.func16, Try.ntmps16
  go_wp2
  go_ret
  have s1 : (w.alloc (.cells #[.int .i64 0, .slice none 0 0, .int .i64 0, .bool false, .pointer (some ⟨w.heap.size, 0, none⟩), .pointer (some ⟨w.heap.size, 0, none⟩)] 103)).heap.size = w.heap.size + 1 := by simp
  have s2 : ((w.alloc (.cells #[.int .i64 0, .slice none 0 0, .int .i64 0, .bool false, .pointer (some ⟨w.heap.size, 0, none⟩), .pointer (some ⟨w.heap.size, 0, none⟩)] 103)).alloc (.map #[] 0)).heap.size = w.heap.size + 1 + 1 := by simp
  have hE : (((w.alloc (.cells #[.int .i64 0, .slice none 0 0, .int .i64 0, .bool false, .pointer (some ⟨w.heap.size, 0, none⟩), .pointer (some ⟨w.heap.size, 0, none⟩)] 103)).alloc (.map #[] 0)).alloc (.cells #[.int .i64 room, .map (some (w.heap.size + 1)), .pointer (some ⟨w.heap.size, 0, none⟩), .int .i64 0, .int .i64 0] 67)).heap[w.heap.size]? = some (.cells #[.int .i64 0, .slice none 0 0, .int .i64 0, .bool false, .pointer (some ⟨w.heap.size, 0, none⟩), .pointer (some ⟨w.heap.size, 0, none⟩)] 103) := by
    rw [Below.heap_alloc _ _ _ (by rw [s2]; omega), Below.heap_alloc _ _ _ (by rw [s1]; omega)]; exact heap_alloc_new w _
  have hC : (((w.alloc (.cells #[.int .i64 0, .slice none 0 0, .int .i64 0, .bool false, .pointer (some ⟨w.heap.size, 0, none⟩), .pointer (some ⟨w.heap.size, 0, none⟩)] 103)).alloc (.map #[] 0)).alloc (.cells #[.int .i64 room, .map (some (w.heap.size + 1)), .pointer (some ⟨w.heap.size, 0, none⟩), .int .i64 0, .int .i64 0] 67)).heap[w.heap.size + 1 + 1]? = some (.cells #[.int .i64 room, .map (some (w.heap.size + 1)), .pointer (some ⟨w.heap.size, 0, none⟩), .int .i64 0, .int .i64 0] 67) := by
    rw [← s2]; exact heap_alloc_new _ _
  have hM : MapIs (((w.alloc (.cells #[.int .i64 0, .slice none 0 0, .int .i64 0, .bool false, .pointer (some ⟨w.heap.size, 0, none⟩), .pointer (some ⟨w.heap.size, 0, none⟩)] 103)).alloc (.map #[] 0)).alloc (.cells #[.int .i64 room, .map (some (w.heap.size + 1)), .pointer (some ⟨w.heap.size, 0, none⟩), .int .i64 0, .int .i64 0] 67)) (w.heap.size + 1) [] := by
    have := MapIs.made (w.alloc (.cells #[.int .i64 0, .slice none 0 0, .int .i64 0, .bool false, .pointer (some ⟨w.heap.size, 0, none⟩), .pointer (some ⟨w.heap.size, 0, none⟩)] 103))
    rw [s1] at this
    exact this.kept ((Fr.refl No _).alloc _) id
  have hB : Below w.heap.size w (((w.alloc (.cells #[.int .i64 0, .slice none 0 0, .int .i64 0, .bool false, .pointer (some ⟨w.heap.size, 0, none⟩), .pointer (some ⟨w.heap.size, 0, none⟩)] 103)).alloc (.map #[] 0)).alloc (.cells #[.int .i64 room, .map (some (w.heap.size + 1)), .pointer (some ⟨w.heap.size, 0, none⟩), .int .i64 0, .int .i64 0] 67)) := (((Below.refl _ _).alloc (Nat.le_refl _) _).alloc (by rw [s1]; omega) _).alloc (by rw [s2]; omega) _
  have cellE : ∀ i v, (#[Value.int .i64 0, .slice none 0 0, .int .i64 0, .bool false, .pointer (some ⟨w.heap.size, 0, none⟩), .pointer (some ⟨w.heap.size, 0, none⟩)] : Array Value)[i]? = some v → (((w.alloc (.cells #[.int .i64 0, .slice none 0 0, .int .i64 0, .bool false, .pointer (some ⟨w.heap.size, 0, none⟩), .pointer (some ⟨w.heap.size, 0, none⟩)] 103)).alloc (.map #[] 0)).alloc (.cells #[.int .i64 room, .map (some (w.heap.size + 1)), .pointer (some ⟨w.heap.size, 0, none⟩), .int .i64 0, .int .i64 0] 67)).cell? ⟨w.heap.size, i, none⟩ = some v := fun i v hv => by
    unfold World.cell?
    rw [show (⟨w.heap.size, i, none⟩ : Addr).block = w.heap.size from rfl, hE]
    exact hv
  refine ⟨w.heap.size + 1 + 1, w.heap.size + 1, w.heap.size, rfl, hid ⟨⟨hC, ⟨_, hE, rfl⟩, ⟨⟨cellE 4 _ rfl, cellE 5 _ rfl⟩, trivial⟩, by simp, by simp, hM, by simp, by simp, ⟨by omega, Nat.le_refl _, by omega, by simp⟩⟩, hB⟩⟩

set_option maxHeartbeats 1000000 in
theorem page_calls (w : World) (s : UInt8) :
    Calls Try.prog 18 #[.int .u8 (n8 s)] w fun en w' => ∃ A c D, en = .returned (.slice A 512 c) ∧ Hid (D = pageD s) ∧ Hid (Bytes w' A D) ∧ Up w w' := by
  go_enter Try.func18, Try.ntmps18
  go_wp2_with (at_make; refine hold ?_)
  refine hid (wl_make elemB rfl (.const (.int .i64 512)) (.const (.int .i64 512)) rfl w.heap.size 512 rfl rfl rfl rfl (by decide) (by decide) (Nat.le_refl _) ?_)
  intro w2 o2 b2 z2
  have hz : (madeCells (Value.int IntKind.u8 0).cells (512 * 1)).toList = (List.replicate 512 (0 : UInt8)).map byteCell := by
    rw [Nat.mul_one]; show (madeCells #[Value.int IntKind.u8 0] 512).toList = _
    rw [toList_madeCells_one, List.map_replicate]; rfl
  rw [hz] at o2
  have e0 : w2.cell? ⟨w.heap.size, 0, none⟩ = some (.int .u8 (n8 0)) := by rw [o2.cellAt 0 (by decide), List.getElem?_map, List.getElem?_replicate, if_pos (by decide)]; rfl
  have e1 : w2.cell? ⟨w.heap.size, 511, none⟩ = some (.int .u8 (n8 0)) := by rw [o2.cellAt 511 (by decide), List.getElem?_map, List.getElem?_replicate, if_pos (by decide)]; rfl
  have f0 := o2.frozenAt 0
  have f1 := o2.frozenAt 511
  obtain ⟨o3, _⟩ := o2.stored 0 (.int .u8 (n8 s))
  obtain ⟨o4, _⟩ := o3.stored 511 (.int .u8 (n8 s))
  have e4 : (((List.replicate 512 (0 : UInt8)).map byteCell).set 0 (.int .u8 (n8 s))).set 511 (.int .u8 (n8 s)) = (pageD s).map byteCell := by
    show List.set (List.set _ _ (byteCell s)) _ (byteCell s) = _
    unfold pageD
    rw [List.map_set, List.map_set]
  rw [e4] at o4
  have O4 := hid o4
  have B4 := hid ((b2.setCell (p := ⟨w.heap.size, 0, none⟩) (Nat.le_refl _) (.int .u8 (n8 s))).setCell (p := ⟨w.heap.size, 511, none⟩) (Nat.le_refl _) (.int .u8 (n8 s)))
  clear o2 o3 o4 e4 hz b2
  go_wp2
  go_ret
  exact ⟨some ⟨w.heap.size, 0, none⟩, 512, pageD s, rfl, hid rfl, hid (Rd.bytes (Rd.own O4.out)), B4.out⟩

/-- A page's bytes, if it is there. -/
def PeekRet (w : World) (es : List Ent) (p : Int) (en : Ending) (w' : World) : Prop :=
  (es.find? (fun x => x.page == p) = none ∧ en = .returned (.tuple #[.slice none 0 0, .bool false]) ∧ w = w') ∨
  ∃ x A c, es.find? (fun x => x.page == p) = some x ∧ en = .returned (.tuple #[.slice A 512 c, .bool true]) ∧ Hid (x.data.length = 512 ∧ Bytes w' A x.data) ∧ Up w w'
theorem lookup_find (es : List Ent) (p : Int) : (es.map key).lookup p = (es.find? (fun x => x.page == p)).map Ent.blk := by
  induction es with
  | nil => rfl
  | cons x es ih =>
    rw [List.map_cons, show key x = (x.page, x.blk) from rfl, List.lookup_cons, List.find?_cons]
    by_cases e : x.page = p
    · rw [beq_iff_eq.2 e, beq_iff_eq.2 e.symm]; rfl
    · rw [beq_eq_false_iff_ne.2 e, beq_eq_false_iff_ne.2 (fun h => e h.symm)]; exact ih

set_option maxHeartbeats 1000000 in
theorem peek_calls (w : World) (base g : Nat) (room : Int) (mp r : Nat) (hits miss : Int) (es : List Ent) (p : Int) (h : Hid (CacheAt w base g room mp r hits miss es)) (hwf : Hid ((Lit.int .i64 p).wf = true)) :
    Calls Try.prog 19 #[ptr g, .int .i64 p] w (PeekRet w es p) := by
  have c2 := h.out.own.c2
  have c1 := h.out.own.c1
  have hlook := h.out.map.look hwf.out
  rw [lookup_find] at hlook
  cases hf : es.find? (fun x => x.page == p) with
  | none =>
    rw [hf] at hlook
    replace hlook : _ = Result.ok (Value.pointer none) w := hlook
    have HF := hid hf
    clear hf
    unfold ptr at *
    go_enter Try.func19, Try.ntmps19
    go_wp2_with (go_at_call 60; refine (made_calls _ g r c2).mono ?_; rintro e w' ⟨rfl, rfl⟩)
    go_ret2
    exact .inl ⟨HF.out, rfl, rfl⟩
  | some x =>
    rw [hf] at hlook
    replace hlook : _ = Result.ok (ptr x.blk) w := hlook
    have hx := h.out.ents x (List.mem_of_find?_eq_some hf)
    obtain ⟨_, ⟨A, c, x1, xo⟩, _, _⟩ := hx.2
    have HF := hid hf
    have XL := hid (show x.data.length = 512 by have := xo.1; rw [List.length_map] at this; exact this)
    have XB := hid (show Bytes w A x.data from Rd.bytes (Rd.own xo))
    clear hf xo hx
    unfold ptr at *
    go_enter Try.func19, Try.ntmps19
    go_wp2_with (first
      | (go_at_call 60; refine (made_calls _ g r c2).mono ?_; rintro e w' ⟨rfl, rfl⟩)
      | (go_at_call 62; refine (clone_callsX _ A x.data c 512 XL (hid (by decide)) XB).mono ?_; rintro en w5 ⟨A5, c5, rfl, o5, u5⟩))
    go_ret2
    exact .inr ⟨x, A5, c5, HF.out, rfl, hid ⟨XL.out, Rd.bytes (Rd.own o5.out)⟩, u5⟩
end Go.Proofs.Ytlikggeceeennaa
