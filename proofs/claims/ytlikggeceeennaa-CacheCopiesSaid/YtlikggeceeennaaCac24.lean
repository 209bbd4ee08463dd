/- THE WALKS of Get (miss), Hits, Len, Dirty, and of Put's errors. -/
import Derived.Test.YtlikggeceeennaaCac23
import Derived.Test.YtlikggeceeennaaSrt
set_option linter.unusedVariables false
set_option linter.unusedSimpArgs false
namespace Go.Proofs.Ytlikggeceeennaa
open Go Go.RowKit Hach

section
variable {w : World} {base g mp r : Nat} {room hits miss : Int} {es l1 l2 : List Ent} {x : Ent}
theorem CacheB.c3 (h : CacheB w g room mp r hits miss) : w.cell? ⟨g, 3, none⟩ = some (.int .i64 hits) := by unfold World.cell?; rw [show (⟨g, 3, none⟩ : Addr).block = g from rfl, h]; rfl
theorem CacheB.c4 (h : CacheB w g room mp r hits miss) : w.cell? ⟨g, 4, none⟩ = some (.int .i64 miss) := by unfold World.cell?; rw [show (⟨g, 4, none⟩ : Addr).block = g from rfl, h]; rfl
theorem CacheB.free (h : CacheB w g room mp r hits miss) (i : Nat) : w.frozen? ⟨g, i, none⟩ = false := by unfold World.frozen?; rw [show (⟨g, i, none⟩ : Addr).block = g from rfl, h]; simp
end

theorem getMiss_calls (w : World) (base g mp : Nat) (room hits miss : Int) (V : List Vis) (p : Int) (h : Hid (CacheM w base g mp room hits miss V)) (hwf : Hid ((Lit.int .i64 p).wf = true)) (hno : Hid (p ∉ V.map (·.1))) (hm : IntKind.i64.wrap (miss + 1) = miss + 1) :
    Calls Try.prog 35 #[ptr g, .int .i64 p] w (StepM w base g mp room hits (miss + 1) V (.tuple #[.slice none 0 0, .bool false])) := by
  obtain ⟨r, es, h1, rfl⟩ := h.out
  rw [vis_page] at hno
  have c1 := h1.own.c1
  have c2 := h1.own.c2
  have c4 := h1.own.c4
  have fg := h1.own.free 4
  have hlook := h1.lookMiss hwf.out hno.out
  have CA1 := hid (CacheAt.count h1 4 (miss + 1) hits (miss + 1) rfl)
  have B1 := hid (show Below base w (w.setCell ⟨g, 4, none⟩ (.int .i64 (miss + 1))) from (Below.refl base w).setCell h1.lows.1 _)
  have F1 := hid (show Fr (CacheS w g mp) w (w.setCell ⟨g, 4, none⟩ (.int .i64 (miss + 1))) from (Fr.refl _ w).setCell (p := ⟨g, 4, none⟩) (fun _ => .inl rfl) _)
  clear h1
  unfold ptr at c2 ⊢
  go_enter Try.func35, Try.ntmps35
  go_wp2_with (go_at_call 60; refine (made_calls _ g r c2).mono ?_; rintro e w' ⟨rfl, rfl⟩)
  go_ret2
  exact ⟨rfl, hid ⟨⟨r, es, CA1.out, rfl⟩, B1.out, F1.out⟩⟩
theorem getHitM_calls (w : World) (base g mp : Nat) (room hits miss : Int) (V1 V2 : List Vis) (v : Vis) (h : Hid (CacheM w base g mp room hits miss (V1 ++ v :: V2))) (hh : IntKind.i64.wrap (hits + 1) = hits + 1) :
    Calls Try.prog 35 #[ptr g, .int .i64 v.1] w fun en w' => ∃ A c, en = .returned (.tuple #[.slice A 512 c, .bool true]) ∧ Hid (w'.ownsRow 0 5 1 (.slice A 512 c) 512 (v.2.1.map byteCell) ∧ CacheM w' base g mp room (hits + 1) miss ((V1 ++ V2) ++ [v]) ∧ Below base w w' ∧ Fr (CacheS w g mp) w w') := by
  obtain ⟨r, l1, x, l2, h1, rfl, rfl, rfl⟩ := h.out.split
  refine (getHit_calls w base g room mp r hits miss l1 l2 x (hid h1) hh).mono ?_
  rintro en w' ⟨A, c, rfl, hh⟩
  exact ⟨A, c, rfl, hid ⟨hh.out.2.2.2.2, ⟨r, _, hh.out.2.1, by simp only [List.map_append, List.map_cons, List.map_nil]⟩, hh.out.2.2.1, frS_G hh.out.2.2.2.1⟩⟩
theorem peekMiss_calls (w : World) (base g mp : Nat) (room hits miss : Int) (V : List Vis) (p : Int) (h : Hid (CacheM w base g mp room hits miss V)) (hwf : Hid ((Lit.int .i64 p).wf = true)) (hno : Hid (p ∉ V.map (·.1))) :
    Calls Try.prog 19 #[ptr g, .int .i64 p] w fun en w' => en = .returned (.tuple #[.slice none 0 0, .bool false]) ∧ Up w w' := by
  obtain ⟨r, es, h1, rfl⟩ := h.out
  rw [vis_page] at hno
  have c1 := h1.own.c1
  have c2 := h1.own.c2
  have hlook := h1.lookMiss hwf.out hno.out
  clear h1
  unfold ptr at c2 ⊢
  go_enter Try.func19, Try.ntmps19
  go_wp2_with (go_at_call 60; refine (made_calls _ g r c2).mono ?_; rintro e w' ⟨rfl, rfl⟩)
  go_ret2
  exact ⟨rfl, Up.refl _⟩
theorem peekHit_calls (w : World) (base g mp : Nat) (room hits miss : Int) (V1 V2 : List Vis) (v : Vis) (h : Hid (CacheM w base g mp room hits miss (V1 ++ v :: V2))) :
    Calls Try.prog 19 #[ptr g, .int .i64 v.1] w fun en w' => ∃ A c, en = .returned (.tuple #[.slice A 512 c, .bool true]) ∧ Hid (w'.ownsRow 0 5 1 (.slice A 512 c) 512 (v.2.1.map byteCell)) ∧ Up w w' := by
  obtain ⟨r, l1, x, l2, h1, rfl, rfl, rfl⟩ := h.out.split
  have c1 := h1.own.c1
  have c2 := h1.own.c2
  have hlook := h1.lookHit
  obtain ⟨_, _, ⟨A, c, x1, xo⟩, _, _⟩ := h1.ents x (by simp)
  have XL := hid (show x.data.length = 512 by have := xo.1; rw [List.length_map] at this; exact this)
  have XB := hid (show Bytes w A x.data from Rd.bytes (Rd.own xo))
  clear h1 xo
  show Calls _ _ #[ptr g, .int .i64 x.page] w _
  unfold ptr at *
  go_enter Try.func19, Try.ntmps19
  go_wp2_with (first
    | (go_at_call 60; refine (made_calls _ g r c2).mono ?_; rintro e w' ⟨rfl, rfl⟩)
    | (go_at_call 62; refine (clone_callsX _ A x.data c 512 XL (hid (by decide)) XB).mono ?_; rintro en w5 ⟨A5, c5, rfl, o5, u5⟩))
  go_ret2
  exact ⟨A5, c5, rfl, hid (own_base o5.out (Nat.zero_le _)), u5⟩
theorem orderM_calls (w : World) (base g mp : Nat) (room hits miss : Int) (V : List Vis) (h : Hid (CacheM w base g mp room hits miss V)) (hl : Hid (V.length < 1000000)) :
    Calls Try.prog 26 #[ptr g] w (IntsRet w (V.map (·.1))) := by
  obtain ⟨r, es, h1, h2⟩ := h.out
  exact orderV_calls w base g room hits miss V (hid ⟨mp, r, es, h1, h2⟩) hl
set_option maxHeartbeats 1000000 in
theorem hitsM_calls (w : World) (base g mp : Nat) (room hits miss : Int) (V : List Vis) (h : Hid (CacheM w base g mp room hits miss V)) :
    Calls Try.prog 36 #[ptr g] w fun en w' => en = .returned (.tuple #[.int .i64 hits, .int .i64 miss]) ∧ Up w w' := by
  obtain ⟨r, es, h1, rfl⟩ := h.out
  have c2 := h1.own.c2
  have c3 := h1.own.c3
  have c4 := h1.own.c4
  clear h1
  unfold ptr at c2 ⊢
  go_enter Try.func36, Try.ntmps36
  go_wp2_with (go_at_call 60; refine (made_calls _ g r c2).mono ?_; rintro e w' ⟨rfl, rfl⟩)
  go_quiet (fail)
  go_wp2
  go_ret2
  exact ⟨rfl, Fr.below ((Fr.refl No w).drewN nq) (Nat.le_refl _) (fun _ _ h => h)⟩
theorem lenM_calls (w : World) (base g mp : Nat) (room hits miss : Int) (V : List Vis) (h : Hid (CacheM w base g mp room hits miss V)) :
    Calls Try.prog 31 #[ptr g] w fun en w' => en = .returned (.int .i64 V.length) ∧ Up w w' := by
  obtain ⟨r, es, h1, rfl⟩ := h.out
  have c2 := h1.own.c2
  have c1 := h1.own.c1
  have hlen := fun ty => h1.map.len ty
  have e : (es.map key).length = (es.map vis).length := by rw [List.length_map, List.length_map]
  rw [e] at hlen
  have E := hid e
  clear h1 e
  generalize (es.map vis).length = n at *
  unfold ptr at c2 ⊢
  go_enter Try.func31, Try.ntmps31
  go_wp2_with (go_at_call 60; refine (made_calls _ g r c2).mono ?_; rintro e w' ⟨rfl, rfl⟩)
  go_ret
  exact ⟨rfl, Up.refl _⟩
theorem dirty1_calls (w : World) (base g : Nat) (room : Int) (mp r : Nat) (hits miss : Int) (es : List Ent) (x : Ent) (h : CacheAt w base g room mp r hits miss es) (hx : x ∈ es) : Calls Try.prog 78 #[ptr x.blk] w fun en w' => en = .returned (.bool x.dirty) ∧ Up w w' := by
  have h3 := (h.ents x hx).2.2.2.2
  clear h hx
  unfold ptr
  go_enter Try.func78, Try.ntmps78
  go_wp2
  go_ret
  exact ⟨rfl, Up.refl w⟩
theorem entersDirty (args : Array Value) (w : World) : (callFunc 78 args).run Try.prog w = .ok (.enter 78 args) w := by go_simp
def dirtyOf (V : List Vis) : List Int := (V.filter (·.2.2.2)).map (·.1)
theorem pagesOf_dirty (es : List Ent) : pagesOf Ent.dirty es = dirtyOf (es.map vis) := by
  unfold pagesOf dirtyOf
  rw [List.filter_map, List.map_map]
  rfl
theorem dirtyOf_length (V : List Vis) : (dirtyOf V).length ≤ V.length := by unfold dirtyOf; rw [List.length_map]; exact List.length_filter_le _ _
theorem dirtyM_calls (w : World) (base g mp : Nat) (room hits miss : Int) (V : List Vis) (h : Hid (CacheM w base g mp room hits miss V)) (hl : Hid (V.length < 1000000)) :
    Calls Try.prog 25 #[ptr g] w (IntsRet w (rising (dirtyOf V))) := by
  obtain ⟨r, es, h1, rfl⟩ := h.out
  have H1 := hid h1
  have HL : Hid (es.length < 1000000) := hid (by have := hl.out; rwa [List.length_map] at this)
  clear h1
  unfold ptr
  go_enter Try.func25, Try.ntmps25
  go_wp2_with fail
  refine (some_calls 78 Ent.dirty w base g room mp r hits miss es H1 HL entersDirty (hid (fun w' x hc hx => dirty1_calls w' base g room mp r hits miss es x hc hx))).mono ?_
  rintro en w2 ⟨A, c, n, rfl, hh⟩
  rw [pagesOf_dirty] at hh
  obtain ⟨hn, ho, hu⟩ := hh.out
  have HN := hid hn
  have HO := hid ho
  have HU := hid hu
  have SM : Hid (n < 4611686018427387904) := hid (by have := dirtyOf_length (es.map vis); have := hl.out; omega)
  clear hh hn ho hu
  go_wp2_with fail
  refine (sort_calls w2 w.heap.size n c A (dirtyOf (es.map vis)) HN HO SM).mono ?_
  rintro en w3 ⟨rfl, h3⟩
  have BO := hid (own_block HO.out)
  go_wp2
  go_ret
  exact ⟨A, c, n, rfl, hid ⟨by rw [rising_length]; exact HN.out, h3.out.1, Below.grown HU.out h3.out.2 HU.out.size (fun k hk => (BO.out k hk).1)⟩⟩
end Go.Proofs.Ytlikggeceeennaa
