/- THE WALK of Get, where the page is there. -/
import Derived.Test.YtlikggeceeennaaCac6
set_option linter.unusedVariables false
set_option linter.unusedSimpArgs false
namespace Go.Proofs.Ytlikggeceeennaa
open Go Go.RowKit Hach

section
variable {w w' : World} {base g : Nat} {room : Int} {mp r : Nat} {hits miss : Int} {l1 l2 : List Ent} {x : Ent}
theorem MapIs.moved {L1 L2 : List (Int × Nat)} {p : Int} {b : Nat} (h : MapIs w mp (L1 ++ (p, b) :: L2)) (hn : (L1 ++ L2).lookup p = none) : MapIs w mp ((L1 ++ L2) ++ [(p, b)]) := by
  obtain ⟨D, h1, h2, h3, h4⟩ := h
  have hl : ∀ q, (L1 ++ (p, b) :: L2).lookup q = ((L1 ++ L2) ++ [(p, b)]).lookup q := fun q => by
    rw [lookup_mid hn, lookup_mid (L1 := L1 ++ L2) (L2 := []) (by rw [List.append_nil]; exact hn), List.append_nil]
  have len : (L1 ++ (p, b) :: L2).length = ((L1 ++ L2) ++ [(p, b)]).length := by simp only [List.length_append, List.length_cons, List.length_nil]; omega
  refine ⟨D, by rw [← len]; exact h1, fun q => ?_, fun q => ?_, by rw [← len]; exact h4⟩
  · rw [h2]; unfold seen; rw [hl]
  · rw [h3, hl]
/-- Another number of hits or misses. -/
theorem CacheAt.count {es : List Ent} (h : CacheAt w base g room mp r hits miss es) (i : Nat) (v : Int) (hits' miss' : Int)
    (hi : (#[Value.int .i64 room, .map (some mp), ptr r, .int .i64 hits, .int .i64 miss].setIfInBounds i (.int .i64 v)) = #[Value.int .i64 room, .map (some mp), ptr r, .int .i64 hits', .int .i64 miss']) :
    CacheAt (w.setCell ⟨g, i, none⟩ (.int .i64 v)) base g room mp r hits' miss' es := by
  have hf : Fr (fun k => k = g) w (w.setCell ⟨g, i, none⟩ (.int .i64 v)) := (Fr.refl (fun k => k = g) w).setCell (p := ⟨g, i, none⟩) (fun _ => rfl) _
  have ne : ∀ b, EntB w b → ¬ b = g := fun b hb => h.own.ne hb
  refine ⟨?_, h.ring.set _ _ _, h.row.up hf ?_, h.nodup, fun y hy => ⟨(h.ents y hy).1.set _ _ _, ?_⟩, h.map.kept hf (fun e => h.map.neB h.own e.symm), h.pages, h.wf, h.lows⟩
  · unfold CacheB
    rw [heap_setCell_same w g i _ _ _ h.own, hi]
  · intro b hb e
    rcases List.mem_cons.1 hb with hb | hb
    · rw [hb] at e; exact ne r h.ring e
    · rcases List.mem_append.1 hb with hb | hb
      · obtain ⟨y, hy, rfl⟩ := List.mem_map.1 hb; exact ne _ (h.ents y hy).1 e
      · rw [List.mem_singleton.1 hb] at e; exact ne r h.ring e
  · refine (h.ents y hy).2.keep hf (fun i v hv _ => hf.cell hv (ne _ (h.ents y hy).1)) (fun n v xs ho k hk e => ?_)
    subst e
    rcases ho.2 with ⟨rfl, _⟩ | ⟨c, cap, cur, rfl, _, hg, _⟩
    · cases hk
    · obtain rfl : c = k := by simpa [Value.ownBlock] using hk
      have := h.own
      unfold CacheB at this
      rw [this] at hg
      injection hg with hg; injection hg with _ h2 _
      revert h2; decide
/-- An entry that stands in the row no more, and goes to its end soon. -/
structure CacheOff (w : World) (base g : Nat) (room : Int) (mp r : Nat) (hits miss : Int) (es : List Ent) (x : Ent) : Prop where
  own : CacheB w g room mp r hits miss
  ring : EntB w r
  row : Chain w r (es.map Ent.blk ++ [r])
  nodup : (r :: (es ++ [x]).map Ent.blk).Nodup
  ents : ∀ y ∈ es ++ [x], EntB w y.blk ∧ EntIs w base y
  map : MapIs w mp ((es ++ [x]).map key)
  pages : ((es ++ [x]).map Ent.page).Nodup
  wf : ∀ y ∈ es ++ [x], (Lit.int .i64 y.page).wf = true
  lows : base ≤ g ∧ base ≤ r ∧ base ≤ mp ∧ ∀ y ∈ es ++ [x], base ≤ y.blk
theorem CacheAt.fix {es : List Ent} (h : CacheAt w base g room mp r hits miss es) {S : Nat → Prop} (hf : Fr S w w') (hSg : ¬ S g) (hSm : ¬ S mp) : CacheB w' g room mp r hits miss ∧ MapIs w' mp (es.map key) := by
  refine ⟨?_, h.map.kept hf hSm⟩
  have := h.own
  unfold CacheB at *
  rw [← this]
  exact hf.block g (Array.getElem?_eq_some_iff.1 this).1 hSg
theorem not_map {L : List (Int × Nat)} (h : MapIs w mp L) {b i : Nat} {v : Value} (hv : w.cell? ⟨b, i, none⟩ = some v) : b ≠ mp := by
  rintro rfl
  obtain ⟨D, ⟨es, clock, h5, _⟩, _⟩ := h
  unfold World.cell? at hv
  rw [show (⟨b, i, none⟩ : Addr).block = b from rfl, h5] at hv
  cases hv
theorem CacheAt.off (h : CacheAt w base g room mp r hits miss (l1 ++ x :: l2)) :
    ∃ p q, (EntB w p ∧ EntB w q ∧ p ≠ x.blk ∧ q ≠ x.blk ∧ w.cell? ⟨x.blk, 4, none⟩ = some (ptr q) ∧ w.cell? ⟨x.blk, 5, none⟩ = some (ptr p) ∧ w.cell? ⟨p, 4, none⟩ = some (ptr x.blk) ∧ w.cell? ⟨q, 5, none⟩ = some (ptr x.blk)) ∧
      ∀ W1, W1 = ((w.setCell ⟨p, 4, none⟩ (ptr q)).setCell ⟨q, 5, none⟩ (ptr p)).drew → CacheOff W1 base g room mp r hits miss (l1 ++ l2) x ∧ Below base w W1 ∧ Fr (fun k => EntB w k) w W1 := by
  have hrow := h.row
  have hnd := h.nodup
  rw [map_mid, List.append_assoc, List.cons_append] at hrow
  rw [map_mid] at hnd
  obtain ⟨p, q, hp, ⟨t, hq⟩, e4, e5, p4, q5, pe, qe, hback⟩ := Chain.out hrow hnd
  have mem : ∀ b, b ∈ r :: (l1.map Ent.blk ++ l2.map Ent.blk) → EntB w b ∧ base ≤ b := by
    intro b hb
    refine h.mem ?_
    rw [map_mid]
    rcases List.mem_cons.1 hb with rfl | hb
    · exact List.mem_cons_self
    · refine List.mem_cons_of_mem _ ?_
      rcases List.mem_append.1 hb with hb | hb
      · exact List.mem_append_left _ hb
      · exact List.mem_append_right _ (List.mem_cons_of_mem _ hb)
  obtain ⟨ep, lp⟩ := mem p (by
    have := lastOf_mem r (l1.map Ent.blk)
    rw [← hp] at this
    rcases List.mem_cons.1 this with h | h
    · rw [h]; exact List.mem_cons_self
    · exact List.mem_cons_of_mem _ (List.mem_append_left _ h))
  obtain ⟨eq, lq⟩ := mem q (by
    have : q ∈ l2.map Ent.blk ++ [r] := by rw [hq]; exact List.mem_cons_self
    rcases List.mem_append.1 this with h | h
    · exact List.mem_cons_of_mem _ (List.mem_append_right _ h)
    · rw [List.mem_singleton.1 h]; exact List.mem_cons_self)
  refine ⟨p, q, ⟨ep, eq, pe, qe, e4, e5, p4, q5⟩, ?_⟩
  rintro w1 rfl
  have f1 : Fr (fun k => EntB w k) w ((w.setCell ⟨p, 4, none⟩ (ptr q)).setCell ⟨q, 5, none⟩ (ptr p)).drew := (((Fr.refl _ w).setCell (p := ⟨p, 4, none⟩) (fun _ => ep) _).setCell (p := ⟨q, 5, none⟩) (fun _ => eq) _).drew
  have ent1 : ∀ b, EntB w b → EntB ((w.setCell ⟨p, 4, none⟩ (ptr q)).setCell ⟨q, 5, none⟩ (ptr p)).drew b := fun b hb => ((hb.set _ _ _).set _ _ _).drew
  have cell1 : ∀ b i v, w.cell? ⟨b, i, none⟩ = some v → ¬ (b = p ∧ i = 4) → ¬ (b = q ∧ i = 5) → ((w.setCell ⟨p, 4, none⟩ (ptr q)).setCell ⟨q, 5, none⟩ (ptr p)).drew.cell? ⟨b, i, none⟩ = some v := fun b i v hv h1 h2 => set_far (set_far hv (fun e => h1 ⟨e.1.symm, e.2.symm⟩)) (fun e => h2 ⟨e.1.symm, e.2.symm⟩)
  have perm : (l1 ++ x :: l2).Perm ((l1 ++ l2) ++ [x]) := by
    refine (List.perm_middle).trans ?_
    exact (List.perm_append_comm (l₁ := [x]) (l₂ := l1 ++ l2))
  have hpn : (l1.map key ++ l2.map key).lookup x.page = none := by
    have := h.pages
    rw [map_mid] at this
    refine lookup_none ?_
    rw [List.map_append, keys_pages, keys_pages]
    intro hm
    obtain ⟨n1, n2, n3⟩ := List.nodup_append.1 this
    rcases List.mem_append.1 hm with hm | hm
    · exact n3 _ hm _ List.mem_cons_self rfl
    · exact (List.nodup_cons.1 n2).1 hm
  obtain ⟨k1, k2⟩ := h.fix f1 (fun e => h.own.ne e rfl) (fun e => h.map.ne e rfl)
  refine ⟨⟨k1, ent1 _ h.ring, ?_, ((perm.map Ent.blk).cons r).nodup_iff.1 h.nodup, fun y hy => ?_, ?_, (perm.map Ent.page).nodup_iff.1 h.pages, fun y hy => h.wf y (perm.mem_iff.2 hy), ⟨h.lows.1, h.lows.2.1, h.lows.2.2.1, fun y hy => h.lows.2.2.2 y (perm.mem_iff.2 hy)⟩⟩,
    (((Below.refl base w).setCell lp _).setCell lq _).drew, f1⟩
  · rw [List.map_append, List.append_assoc]
    exact hback _ (fun b i v hv h1 h2 => cell1 b i v hv h1 h2) (set_far (set_near p4) (fun e => by cases e.2)) (set_near (set_far q5 (fun e => by cases e.2)))
  · have hy' := perm.mem_iff.2 hy
    exact ⟨ent1 _ (h.ents y hy').1, (h.ents y hy').2.keep f1 (fun i v hv hi => cell1 _ _ _ hv (fun e => by omega) (fun e => by omega)) (fun n v xs ho k hk e => row_ne ho e hk)⟩
  · rw [map_mid] at k2
    rw [List.map_append, List.map_append]
    exact MapIs.moved k2 hpn
set_option maxHeartbeats 2000000 in
theorem CacheOff.on {es : List Ent} (h : CacheOff w base g room mp r hits miss es x) :
    ∃ p, (EntB w p ∧ EntB w x.blk ∧ x.blk ≠ g ∧ x.blk ≠ r ∧ x.blk ≠ p ∧ p ≠ g ∧ r ≠ g ∧ w.cell? ⟨r, 5, none⟩ = some (ptr p) ∧ w.cell? ⟨g, 2, none⟩ = some (ptr r) ∧ w.cell? ⟨p, 4, none⟩ = some (ptr r)) ∧
      ∀ W2, W2 = ((((w.setCell ⟨x.blk, 4, none⟩ (ptr r)).setCell ⟨x.blk, 5, none⟩ (ptr p)).setCell ⟨p, 4, none⟩ (ptr x.blk)).setCell ⟨r, 5, none⟩ (ptr x.blk)).drew.drew → CacheAt W2 base g room mp r hits miss (es ++ [x]) ∧ Below base w W2 ∧ Fr (fun k => EntB w k) w W2 := by
  have hnd := h.nodup
  have hx : x ∈ es ++ [x] := List.mem_append_right _ List.mem_cons_self
  have nd : (r :: es.map Ent.blk).Nodup := hnd.sublist (by rw [List.map_append]; exact List.Sublist.cons_cons _ (List.sublist_append_left _ _))
  have nx : x.blk ∉ r :: es.map Ent.blk := by
    rw [List.map_append, ← List.cons_append, List.nodup_append] at hnd
    exact fun hm => hnd.2.2 _ hm x.blk (by simp) rfl
  obtain ⟨p, hpl⟩ : ∃ q, lastOf r (es.map Ent.blk) = q := ⟨_, rfl⟩
  have hpm := lastOf_mem r (es.map Ent.blk)
  rw [hpl] at hpm
  have mem : ∀ b, b ∈ r :: es.map Ent.blk → EntB w b ∧ base ≤ b := by
    intro b hb
    rcases List.mem_cons.1 hb with rfl | hb
    · exact ⟨h.ring, h.lows.2.1⟩
    · obtain ⟨y, hy, rfl⟩ := List.mem_map.1 hb; exact ⟨(h.ents y (List.mem_append_left _ hy)).1, h.lows.2.2.2 y (List.mem_append_left _ hy)⟩
  obtain ⟨ep, lp⟩ := mem p hpm
  have ex := (h.ents x hx).1
  have nep : x.blk ≠ p := fun e => nx (by rw [e]; exact hpm)
  have ner : x.blk ≠ r := fun e => nx (by rw [e]; exact List.mem_cons_self)
  have r5 := (Chain.append.1 h.row).2.1.2
  have p4 := (Chain.append.1 h.row).2.1.1
  rw [hpl] at r5 p4
  refine ⟨p, ⟨ep, ex, h.own.ne ex, ner, nep, h.own.ne ep, h.own.ne h.ring, r5, h.own.c2, p4⟩, ?_⟩
  obtain ⟨u4, e4⟩ := ex.cell (i := 4) (by decide)
  obtain ⟨u5, e5⟩ := ex.cell (i := 5) (by decide)
  intro W2 hW
  have cell7 : ∀ b i v, w.cell? ⟨b, i, none⟩ = some v → ¬ (b = x.blk ∧ i = 4) → ¬ (b = x.blk ∧ i = 5) → ¬ (b = p ∧ i = 4) → ¬ (b = r ∧ i = 5) → W2.cell? ⟨b, i, none⟩ = some v := by
    intro b i v hv n1 n2 n3 n4
    rw [hW]
    exact set_far (set_far (set_far (set_far hv (fun e9 => n1 ⟨e9.1.symm, e9.2.symm⟩)) (fun e9 => n2 ⟨e9.1.symm, e9.2.symm⟩)) (fun e9 => n3 ⟨e9.1.symm, e9.2.symm⟩)) (fun e9 => n4 ⟨e9.1.symm, e9.2.symm⟩)
  have w74 : W2.cell? ⟨p, 4, none⟩ = some (ptr x.blk) := by
    rw [hW]
    exact set_far (set_near (set_far (set_far p4 (fun e9 => nep e9.1)) (fun e9 => nep e9.1))) (fun e9 => by cases e9.2)
  have w75 : W2.cell? ⟨r, 5, none⟩ = some (ptr x.blk) := by
    rw [hW]
    exact set_near (set_far (set_far (set_far r5 (fun e9 => ner e9.1)) (fun e9 => ner e9.1)) (fun e9 => by cases e9.2))
  have w7e4 : W2.cell? ⟨x.blk, 4, none⟩ = some (ptr r) := by
    rw [hW]
    exact set_far (set_far (set_far (set_near e4) (fun e9 => by cases e9.2)) (fun e9 => nep e9.1.symm)) (fun e9 => by cases e9.2)
  have w7e5 : W2.cell? ⟨x.blk, 5, none⟩ = some (ptr p) := by
    rw [hW]
    exact set_far (set_far (set_near (set_far e5 (fun e9 => by cases e9.2))) (fun e9 => by cases e9.2)) (fun e9 => ner e9.1.symm)
  have ent7 : ∀ b, EntB w b → EntB W2 b := fun b hb9 => by rw [hW]; exact ((((hb9.set _ _ _).set _ _ _).set _ _ _).set _ _ _).drew.drew
  have F7 : Fr (fun k => EntB w k) w W2 := by
    rw [hW]
    exact ((((((Fr.refl _ w).setCell (p := ⟨x.blk, 4, none⟩) (fun _ => ex) _).setCell (p := ⟨x.blk, 5, none⟩) (fun _ => ex) _).setCell (p := ⟨p, 4, none⟩) (fun _ => ep) _).setCell (p := ⟨r, 5, none⟩) (fun _ => h.ring) _).drew).drew
  have B7 : Below base w W2 := by
    rw [hW]
    exact ((((((Below.refl base w).setCell (p := ⟨x.blk, 4, none⟩) (h.lows.2.2.2 x hx) _).setCell (p := ⟨x.blk, 5, none⟩) (h.lows.2.2.2 x hx) _).setCell (p := ⟨p, 4, none⟩) lp _).setCell (p := ⟨r, 5, none⟩) h.lows.2.1 _).drew).drew
  refine ⟨⟨?_, ent7 _ h.ring, ?_, h.nodup, fun y hy => ⟨ent7 _ (h.ents y hy).1, (h.ents y hy).2.keep F7 (fun i v hv hi => cell7 _ _ _ hv (fun e => by omega) (fun e => by omega) (fun e => by omega) (fun e => by omega)) (fun n v xs ho k hk e => row_ne ho e hk)⟩,
    h.map.kept F7 (fun e => h.map.ne e rfl), h.pages, h.wf, h.lows⟩, B7, F7⟩
  · have := h.own
    unfold CacheB at *
    rw [← this]
    exact F7.block g (Array.getElem?_eq_some_iff.1 this).1 (fun e => h.own.ne e rfl)
  · rw [List.map_append]
    exact Chain.last (e := x.blk) h.row nd nx (fun b i v hv n1 n2 n3 => cell7 _ _ _ hv (fun e9 => n1 e9.1) (fun e9 => n1 e9.1) (by rw [hpl] at n2; exact n2) n3) (by rw [hpl]; exact w74) (by rw [hpl]; exact w7e5) w7e4 w75
end

theorem frG_trans {w w1 w2 : World} {g : Nat} (h : Fr (fun k => k = g ∨ EntB w k) w w1) (k : Fr (fun k => EntB w1 k) w1 w2) : Fr (fun k => k = g ∨ EntB w k) w w2 :=
  h.trans k (fun i hi h9 => by
    by_cases h8 : i = g
    · exact .inl h8
    · by_cases h7 : EntB w i
      · exact .inr h7
      · exact .inr (h9.back h (by rintro (q | q); exact h8 q; exact h7 q) hi))
/-- What Get hands back, where the page is there. -/
def GetRet (w : World) (base g : Nat) (room : Int) (mp r : Nat) (hits miss : Int) (es : List Ent) (D : List UInt8) (en : Ending) (w' : World) : Prop :=
  ∃ A c, en = .returned (.tuple #[.slice A 512 c, .bool true]) ∧ Hid (Bytes w' A D ∧ CacheAt w' base g room mp r hits miss es ∧ Below base w w' ∧ Fr (fun k => k = g ∨ EntB w k) w w' ∧ w'.ownsRow 0 5 1 (.slice A 512 c) 512 (D.map byteCell))

set_option maxRecDepth 100000 in
set_option maxHeartbeats 1000000 in
theorem getHit_calls (w : World) (base g : Nat) (room : Int) (mp r : Nat) (hits miss : Int) (l1 l2 : List Ent) (x : Ent) (h : Hid (CacheAt w base g room mp r hits miss (l1 ++ x :: l2))) (hh : IntKind.i64.wrap (hits + 1) = hits + 1) :
    Calls Try.prog 35 #[ptr g, .int .i64 x.page] w (GetRet w base g room mp r (hits + 1) miss ((l1 ++ l2) ++ [x]) x.data) := by
  have hx := h.out.ents x (by simp)
  have hlook := h.out.map.look (h.out.wf x (by simp))
  have hk : ((l1 ++ x :: l2).map key).lookup x.page = some x.blk := by
    rw [map_mid]
    have := h.out.pages
    rw [map_mid] at this
    rw [show key x = (x.page, x.blk) from rfl, lookup_mid (lookup_none ?_), if_pos rfl]
    rw [List.map_append, keys_pages, keys_pages]
    intro hm
    obtain ⟨n1, n2, n3⟩ := List.nodup_append.1 this
    rcases List.mem_append.1 hm with hm | hm
    · exact n3 _ hm _ List.mem_cons_self rfl
    · exact (List.nodup_cons.1 n2).1 hm
  rw [hk] at hlook
  replace hlook : _ = Result.ok (ptr x.blk) w := hlook
  have FG0 := hid (show Fr (fun k => k = g ∨ EntB w k) w (w.setCell ⟨g, 3, none⟩ (.int .i64 (hits + 1))) from (Fr.refl _ w).setCell (p := ⟨g, 3, none⟩) (fun _ => .inl rfl) _)
  have c1 := h.out.own.c1
  have c2 := h.out.own.c2
  have c3 : w.cell? ⟨g, 3, none⟩ = some (.int .i64 hits) := by
    have := h.out.own; unfold CacheB at this; unfold World.cell?; rw [show (⟨g, 3, none⟩ : Addr).block = g from rfl, this]; rfl
  have fg : w.frozen? ⟨g, 3, none⟩ = false := by
    have := h.out.own; unfold CacheB at this; unfold World.frozen?; rw [show (⟨g, 3, none⟩ : Addr).block = g from rfl, this]; simp
  have CA1 := hid (CacheAt.count h.out 3 (hits + 1) (hits + 1) miss rfl)
  have B1 := hid (show Below base w (w.setCell ⟨g, 3, none⟩ (.int .i64 (hits + 1))) from (Below.refl base w).setCell h.out.lows.1 _)
  clear hk hx
  unfold ptr at c2 hlook ⊢
  go_enter Try.func35, Try.ntmps35
  go_wp2_with (go_at_call 60; refine (made_calls _ g r c2).mono ?_; rintro e w' ⟨rfl, rfl⟩)
  have B1' := B1.out
  obtain ⟨p, q, ⟨ep, eq, pe, qe, e4, e5, p4, q5⟩, hoff⟩ := CA1.out.off
  have HOFF := hid hoff
  refine (out_calls _ x.blk p q _ _ e4 e5 p4 ep.free q5 eq.free pe qe).mono ?_
  rintro e w1 ⟨rfl, hw1⟩
  obtain ⟨co1, bb1, ff1⟩ := HOFF.out w1 hw1
  have FG1 := hid (frG_trans FG0.out ff1)
  have CO := hid co1
  have BB := hid (B1'.trans bb1)
  clear hw1 HOFF hoff CA1 B1 B1' bb1 co1 ff1 FG0 e4 e5 p4 q5 ep eq pe qe c1 c2 c3 fg hlook
  obtain ⟨pl, ⟨epl, ex, xg, xr, xp, pg, rg, r5, g2, p4⟩, hon⟩ := CO.out.on
  have er := CO.out.ring
  obtain ⟨u4, e4⟩ := ex.cell (i := 4) (by decide)
  obtain ⟨u5, e5⟩ := ex.cell (i := 5) (by decide)
  have HON := hid hon
  clear hon
  go_wp2_with fail
  refine (last_calls w1 g x.blk pl r _ _ _ g2 r5 er.free e4 ex.free e5 ex.free p4 epl.free xg xr xp pg rg).mono ?_
  rintro en w2 ⟨rfl, hw2⟩
  obtain ⟨ca2, b2, ff2⟩ := HON.out w2 hw2
  have FG2 := hid (frG_trans FG1.out ff2)
  clear ff2 FG1
  have CA2 := hid ca2
  have BB2 := hid (BB.out.trans b2)
  obtain ⟨_, ⟨A, c, x1, xo⟩, _, _⟩ := (ca2.ents x (by simp)).2
  have XL := hid (show x.data.length = 512 by have := xo.1; rw [List.length_map] at this; exact this)
  have XB := hid (show Bytes w2 A x.data from Rd.bytes (Rd.own xo))
  clear hw2 HON ca2 b2 xo e4 e5 epl ex xg xr xp pg rg r5 g2 p4 er BB CO
  go_wp2_with (go_at_call 62; refine (clone_callsX _ A x.data c 512 XL (hid (by decide)) XB).mono ?_; rintro en w5 ⟨A5, c5, rfl, o5, u5⟩)
  go_ret2
  exact ⟨A5, c5, rfl, hid ⟨Rd.bytes (Rd.own o5.out), CA2.out.up u5, BB2.out.trans (u5.mono (Nat.le_trans (Nat.le_of_lt (Nat.lt_of_le_of_lt CA2.out.lows.1 (Array.getElem?_eq_some_iff.1 CA2.out.own).1)) (Nat.le_refl _))), FG2.out.trans (Fr.of_below u5) (fun _ _ f => f.elim), own_base o5.out (Nat.zero_le _)⟩⟩
end Go.Proofs.Ytlikggeceeennaa
