/- THE WALK of Put, where the page is there; Put's errors; Put as the cache is told. -/
import Derived.Test.YtlikggeceeennaaCac23
set_option linter.unusedVariables false
set_option linter.unusedSimpArgs false
namespace Go.Proofs.Ytlikggeceeennaa
open Go Go.RowKit Hach

section
variable {w w' : World} {base g mp r : Nat} {room hits miss : Int} {es : List Ent} {x : Ent}
theorem CacheOff.up (h : CacheOff w base g room mp r hits miss es x) (hu : Up w w') : CacheOff w' base g room mp r hits miss es x := by
  have hf := Fr.of_below hu
  refine ⟨?_, h.ring.fr hf id, h.row.up hf (fun _ _ => id), h.nodup, fun y hy => ⟨(h.ents y hy).1.fr hf id, (h.ents y hy).2.keep hf (fun i v hv _ => hf.cell hv id) (fun _ _ _ _ _ _ => id)⟩, h.map.kept hf id, h.pages, h.wf, h.lows⟩
  have := h.own
  unfold CacheB at *
  rw [← this]
  exact hu.block g (Array.getElem?_eq_some_iff.1 this).1
/-- The data of what stands in the row no more are others. -/
theorem CacheOff.data (h : CacheOff w base g room mp r hits miss es x) {A : Option Addr} {c : Nat} {D : List UInt8} (ho : w.ownsRow base 5 1 (.slice A 512 c) 512 (D.map byteCell)) :
    CacheOff (w.setCell ⟨x.blk, 1, none⟩ (.slice A 512 c)) base g room mp r hits miss es { x with data := D } ∧ Below base w (w.setCell ⟨x.blk, 1, none⟩ (.slice A 512 c)) ∧ Fr (fun k => EntB w k) w (w.setCell ⟨x.blk, 1, none⟩ (.slice A 512 c)) := by
  have hx : x ∈ es ++ [x] := by simp
  have ex := (h.ents x hx).1
  have hf : Fr (fun k => EntB w k) w (w.setCell ⟨x.blk, 1, none⟩ (.slice A 512 c)) := (Fr.refl _ w).setCell (p := ⟨x.blk, 1, none⟩) (fun _ => ex) _
  have low : base ≤ x.blk := h.lows.2.2.2 x hx
  have e1 : (es ++ [{ x with data := D }]).map Ent.blk = (es ++ [x]).map Ent.blk := by simp
  have e2 : (es ++ [{ x with data := D }]).map Ent.page = (es ++ [x]).map Ent.page := by simp
  have e3 : (es ++ [{ x with data := D }]).map key = (es ++ [x]).map key := by simp [key]
  have hne : ∀ y ∈ es, y.blk ≠ x.blk := by
    intro y hy e
    have hnd := h.nodup
    rw [List.map_append, List.nodup_cons, List.nodup_append] at hnd
    exact hnd.2.2.2 _ (List.mem_map.2 ⟨y, hy, rfl⟩) x.blk (by simp) e
  refine ⟨⟨?_, h.ring.set _ _ _, h.row.keep (fun b hb v' hv => set_far hv (fun e => by cases e.2)) (fun b hb v' hv => set_far hv (fun e => by cases e.2)), by rw [e1]; exact h.nodup, ?_, by rw [e3]; exact h.map.kept hf (fun e => h.map.ne e rfl), by rw [e2]; exact h.pages, ?_, ⟨h.lows.1, h.lows.2.1, h.lows.2.2.1, ?_⟩⟩, (Below.refl base w).setCell low _, hf⟩
  · have := h.own
    unfold CacheB at *
    rw [← this]
    exact hf.block g (Array.getElem?_eq_some_iff.1 this).1 (fun e => h.own.ne e rfl)
  · intro y hy
    rcases List.mem_append.1 hy with hy | hy
    · exact ⟨(h.ents y (by simp [hy])).1.set _ _ _, (h.ents y (by simp [hy])).2.keep hf (fun j u hu _ => set_far hu (fun e => hne y hy e.1.symm)) (fun n u xs ho k hk e => row_ne ho e hk)⟩
    · rw [List.mem_singleton.1 hy]
      obtain ⟨_, h0, ⟨A0, c0, h1, _⟩, h2, h3⟩ := h.ents x hx
      exact ⟨ex.set _ _ _, set_far h0 (fun e => by cases e.2), ⟨A, c, set_near h1, hf.own ho (fun k hk e => row_ne ho e hk)⟩, set_far h2 (fun e => by cases e.2), set_far h3 (fun e => by cases e.2)⟩
  · intro y hy
    rcases List.mem_append.1 hy with hy | hy
    · exact h.wf y (by simp [hy])
    · rw [List.mem_singleton.1 hy]; exact h.wf x hx
  · intro y hy
    rcases List.mem_append.1 hy with hy | hy
    · exact h.lows.2.2.2 y (by simp [hy])
    · rw [List.mem_singleton.1 hy]; exact low
theorem frE_ent {w1 : World} (h : Fr (fun k => EntB w k) w w1) : Fr (fun k => k = mp ∨ EntB w k) w w1 := h.mono (fun _ h => .inr h)
theorem set_keep {w : World} {a b i : Nat} {u v : Value} (h : w.heap[b]? = some (.cells #[v] a (0, 0))) (p q : Nat) (hp : EntB w p) : (w.setCell ⟨p, q, none⟩ u).heap[b]? = some (.cells #[v] a (0, 0)) := by
  rw [Below.heap_setCell _ _ _ _ (fun e => by subst e; obtain ⟨cs, h1, h2⟩ := hp; rw [h] at h1; injection h1 with h1; injection h1 with h1 _ _; subst h1; simp at h2)]
  exact h
end

set_option maxRecDepth 100000 in
set_option maxHeartbeats 2000000 in
theorem putOld_calls (w : World) (base g : Nat) (room : Int) (mp r : Nat) (hits miss : Int) (l1 l2 : List Ent) (x : Ent) (A : Option Addr) (c : Nat) (D : List UInt8) (h : Hid (CacheAt w base g room mp r hits miss (l1 ++ x :: l2)))
    (hp : 1 ≤ x.page) (hD : Hid (D.length = 512)) (hb : Hid (Bytes w A D)) :
    Calls Try.prog 17 #[ptr g, .int .i64 x.page, .slice A 512 c] w fun en w' => en = .returned (.int .i64 0) ∧ Hid (CacheAt w' base g room mp r hits miss (evict room x.blk [] ((l1 ++ l2) ++ [{ x with data := D }])) ∧ Below base w w' ∧ Fr (fun k => k = mp ∨ EntB w k) w w') := by
  have c2 := h.out.own.c2
  have p1 : ¬ x.page < 1 := by omega
  have u0 : Up w (w.alloc (.cells #[.pointer (some ⟨g, 0, none⟩)] 26)) := (Below.refl _ _).alloc (Nat.le_refl _) _
  have L0 := (h.out.up u0).lookHit
  have M0 := u0.c h.out.own.c1
  unfold ptr at c2 L0 M0 ⊢
  clear hp
  go_enter Try.func17, Try.ntmps17
  go_wp2_with (go_at_call 60; refine (made_calls _ g r (u0.c c2)).mono ?_; rintro e w' ⟨rfl, rfl⟩)
  have U3 : Up w ((w.alloc (.cells #[.pointer (some ⟨g, 0, none⟩)] 26)).alloc (.cells #[.pointer (some ⟨x.blk, 0, none⟩)] 65)) := u0.t (show Up _ _ from (Below.refl _ _).alloc (Nat.le_refl _) _)
  have k7 : ((w.alloc (.cells #[.pointer (some ⟨g, 0, none⟩)] 26)).alloc (.cells #[.pointer (some ⟨x.blk, 0, none⟩)] 65)).cell? ⟨w.heap.size + 1, 0, none⟩ = some (.pointer (some ⟨x.blk, 0, none⟩)) := by go_simp
  have kb3 : ((w.alloc (.cells #[.pointer (some ⟨g, 0, none⟩)] 26)).alloc (.cells #[.pointer (some ⟨x.blk, 0, none⟩)] 65)).heap[w.heap.size]? = some (.cells #[.pointer (some ⟨g, 0, none⟩)] 26 (0, 0)) := by
    rw [Below.heap_alloc _ _ _ (by simp)]; exact heap_alloc_new w _
  have kb7 : ((w.alloc (.cells #[.pointer (some ⟨g, 0, none⟩)] 26)).alloc (.cells #[.pointer (some ⟨x.blk, 0, none⟩)] 65)).heap[w.heap.size + 1]? = some (.cells #[.pointer (some ⟨x.blk, 0, none⟩)] 65 (0, 0)) := by
    have := heap_alloc_new (w.alloc (.cells #[.pointer (some ⟨g, 0, none⟩)] 26)) (.cells #[.pointer (some ⟨x.blk, 0, none⟩)] 65)
    simpa using this
  have bs := hid (show base ≤ w.heap.size from Nat.le_of_lt (Nat.lt_of_le_of_lt h.out.lows.2.1 h.out.ring.lt))
  have HB := hid (And.intro kb3 kb7)
  have HU3 := hid U3
  clear u0 L0 M0 c2 kb3 kb7 U3
  generalize (w.alloc (.cells #[.pointer (some ⟨g, 0, none⟩)] 26)).alloc (.cells #[.pointer (some ⟨x.blk, 0, none⟩)] 65) = W3 at *
  have CA3 := h.out.up HU3.out
  obtain ⟨p, q, ⟨ep, eq, pe, qe, e4, e5, p4, q5⟩, hoff⟩ := CA3.off
  have HOFF := hid hoff
  clear hoff CA3
  refine (out_calls W3 x.blk p q _ _ e4 e5 p4 ep.free q5 eq.free pe qe).mono ?_
  rintro e w1 ⟨rfl, hw1⟩
  obtain ⟨co1, bb1, ff1⟩ := HOFF.out w1 hw1
  have CO := hid co1
  have HB1 : Hid (w1.heap[w.heap.size]? = some (.cells #[.pointer (some ⟨g, 0, none⟩)] 26 (0, 0)) ∧ w1.heap[w.heap.size + 1]? = some (.cells #[.pointer (some ⟨x.blk, 0, none⟩)] 65 (0, 0))) :=
    hid ⟨(ff1.block _ (Array.getElem?_eq_some_iff.1 HB.out.1).1 (not_ent HB.out.1)).trans HB.out.1, (ff1.block _ (Array.getElem?_eq_some_iff.1 HB.out.2).1 (not_ent HB.out.2)).trans HB.out.2⟩
  have BF := hid (And.intro ((Below.mono HU3.out bs.out).trans bb1) (frE_trans (frE_up HU3.out) (frE_ent (mp := mp) ff1)))
  clear hw1 HOFF bb1 co1 ff1 e4 e5 p4 q5 ep eq pe qe k7 HB
  have hba : Hid (Bytes w1.drew A D) := by
    refine hid (show Bytes w1 A D from ?_)
    obtain ⟨ba, offa, rfl, hcell⟩ := hb.out 511 (by rw [hD.out]; decide)
    refine Rd.bytes (hb.out.rd.fr BF.out.2 (fun b off e => ?_))
    injection e with e; injection e with e _ _
    subst e
    rintro (e | e)
    · subst e
      obtain ⟨D9, ⟨es9, clock9, h9, _⟩, _⟩ := h.out.map
      unfold World.cell? at hcell
      rw [show (⟨ba, offa + 511, none⟩ : Addr).block = ba from rfl, h9] at hcell
      cases hcell
    · obtain ⟨cs9, h9, h8⟩ := e
      unfold World.cell? at hcell
      rw [show (⟨ba, offa + 511, none⟩ : Addr).block = ba from rfl, h9] at hcell
      have : cs9[offa + 511]? = none := Array.getElem?_eq_none (by omega)
      rw [show (⟨ba, offa + 511, none⟩ : Addr).off = offa + 511 from rfl] at hcell
      simp [this] at hcell
  have k71 := (cell_one HB1.out.2).1
  have k71d : w1.drew.cell? ⟨w.heap.size + 1, 0, none⟩ = some (.pointer (some ⟨x.blk, 0, none⟩)) := k71
  obtain ⟨v1, hv1⟩ := (CO.out.ents x (by simp)).1.cell (i := 1) (by decide)
  have EE1 := hid (CO.out.ents x (by simp)).1
  go_wp2
  go_region_held3 (fun w' => w'.cell? ⟨w.heap.size + 1, 0, none⟩ = some (.pointer (some ⟨x.blk, 0, none⟩)))
    (first | exact k71d | exact q7 | exact q7b)
    (first
      | (go_at_call 62; refine (clone_callsX w1.drew _ D c 512 hD (hid (by decide)) hba).mono ?_; rintro en w5 ⟨A5, c5, rfl, o5, u5⟩; have q7 := u5.c k71d; have hv15 : w5.cell? ⟨x.blk, 1, none⟩ = some v1 := u5.c hv1; have fe5 : w5.frozen? ⟨x.blk, 1, none⟩ = false := (EntB.fr (w := w1.drew) EE1.out.drew (Fr.of_below u5) id).free; have hne9 : x.blk ≠ w.heap.size + 1 := fun e9 => not_ent HB1.out.2 (e9 ▸ EE1.out); have q7b : (w5.setCell ⟨x.blk, 1, none⟩ (.slice A5 512 c5)).cell? ⟨w.heap.size + 1, 0, none⟩ = some (.pointer (some ⟨x.blk, 0, none⟩)) := set_far q7 (fun e9 => hne9 e9.1)))
  have CO5 := CO.out.up (show Up w1 w5 from (Up.drew w1).t u5)
  obtain ⟨co6, bb6, ff6⟩ := CO5.data (own_base o5.out (show base ≤ w1.drew.heap.size from Nat.le_trans bs.out BF.out.1.size))
  have HB5 := And.intro ((u5.block _ (Array.getElem?_eq_some_iff.1 HB1.out.1).1).trans HB1.out.1) ((u5.block _ (Array.getElem?_eq_some_iff.1 HB1.out.2).1).trans HB1.out.2)
  have ex5 := (CO5.ents x (by simp)).1
  have HB6 := hid (And.intro (set_keep (i := 0) (u := .slice A5 512 c5) HB5.1 x.blk 1 ex5) (set_keep (i := 0) (u := .slice A5 512 c5) HB5.2 x.blk 1 ex5))
  have CO6 := hid co6
  have BF6 := hid (And.intro ((BF.out.1.trans ((show Up w1 w5 from (Up.drew w1).t u5).mono (Nat.le_trans bs.out BF.out.1.size))).trans bb6) (frE_trans (frE_trans BF.out.2 (frE_up (show Up w1 w5 from (Up.drew w1).t u5))) (frE_ent (mp := mp) ff6)))
  rename_i K1 h1 hHeld
  clear hHeld
  refine h1 _ _ ?_
  clear h1 K1 CO5 co6 bb6 ff6 HB5 ex5 HB1 BF CO hba k71 k71d hv1 EE1 q7 hv15 fe5 hne9 q7b o5 u5
  generalize w5.setCell ⟨x.blk, 1, none⟩ (.slice A5 512 c5) = W6 at *
  obtain ⟨pl, ⟨epl, ex, xg, xr, xp, pg, rg, r5, g2, p4⟩, hon⟩ := CO6.out.on
  have er := CO6.out.ring
  obtain ⟨u4, e4⟩ := ex.cell (i := 4) (by decide)
  obtain ⟨u5, e5⟩ := ex.cell (i := 5) (by decide)
  have HON := hid hon
  clear hon
  have kk3 := (cell_one HB6.out.1).1
  have kk7 := (cell_one HB6.out.2).1
  go_wp2_with fail
  refine (last_calls W6 g x.blk pl r _ _ _ g2 r5 er.free e4 ex.free e5 ex.free p4 epl.free xg xr xp pg rg).mono ?_
  rintro en W7 ⟨rfl, hW7⟩
  obtain ⟨ca7, b7, ff7⟩ := HON.out W7 hW7
  have HB7 : Hid (W7.heap[w.heap.size]? = some (.cells #[.pointer (some ⟨g, 0, none⟩)] 26 (0, 0)) ∧ W7.heap[w.heap.size + 1]? = some (.cells #[.pointer (some ⟨x.blk, 0, none⟩)] 65 (0, 0))) :=
    hid ⟨(ff7.block _ (Array.getElem?_eq_some_iff.1 HB6.out.1).1 (not_ent HB6.out.1)).trans HB6.out.1, (ff7.block _ (Array.getElem?_eq_some_iff.1 HB6.out.2).1 (not_ent HB6.out.2)).trans HB6.out.2⟩
  have CA7 := hid ca7
  have BF7 := hid (And.intro (BF6.out.1.trans b7) (frE_trans BF6.out.2 (frE_ent (mp := mp) ff7)))
  clear hW7 HON ca7 b7 ff7 HB6 BF6 CO6 kk3 kk7 e4 e5 epl ex xg xr xp pg rg r5 g2 p4 er
  have l3 := (cell_one HB7.out.1).1
  have l7 := (cell_one HB7.out.2).1
  have L3 := hid l3
  have L7 := hid l7
  go_wp2_with fail
  refine (rowPut_calls W7 base g room mp r hits miss ((l1 ++ l2) ++ [{ x with data := D }]) w.heap.size (w.heap.size + 1) x.blk CA7 L3 L7 (hid ⟨{ x with data := D }, by simp, rfl⟩) (hid (not_ent HB7.out.1)) (hid (not_mp HB7.out.1 CA7.out.map)) (hid (not_ent HB7.out.2)) (hid (not_mp HB7.out.2 CA7.out.map))).mono ?_
  rintro en W8 ⟨rfl, hh⟩
  go_wp2
  go_ret
  exact ⟨rfl, hid ⟨hh.out.1, BF7.out.1.trans hh.out.2.2, frE_trans BF7.out.2 hh.out.2.1⟩⟩

/-! ### Put, as it is told -/
theorem putErr_calls (w : World) (base g mp : Nat) (room hits miss : Int) (V : List Vis) (p : Int) (A : Option Addr) (n c : Nat) (h : Hid (CacheM w base g mp room hits miss V)) (hp : Hid (p < 1 ∨ n ≠ 512)) :
    Calls Try.prog 17 #[ptr g, .int .i64 p, .slice A n c] w fun en w' => en = .returned (.int .i64 2) ∧ Up w w' := by
  obtain ⟨r, es, h1, rfl⟩ := h.out
  have u0 : Up w (w.alloc (.cells #[.pointer (some ⟨g, 0, none⟩)] 26)) := (Below.refl _ _).alloc (Nat.le_refl _) _
  have c2 := u0.c h1.own.c2
  have U0 := hid u0
  clear h1 u0
  unfold ptr at c2 ⊢
  by_cases h1 : p < 1
  · clear hp
    go_enter Try.func17, Try.ntmps17
    go_wp2_with (go_at_call 60; refine (made_calls _ g r c2).mono ?_; rintro e w' ⟨rfl, rfl⟩)
    go_ret
    exact ⟨rfl, U0.out⟩
  · have h2 : (((n : Int) != 512) = true) := by have := hp.out; rw [bne_iff_ne]; omega
    clear hp
    go_enter Try.func17, Try.ntmps17
    go_wp2_with (go_at_call 60; refine (made_calls _ g r c2).mono ?_; rintro e w' ⟨rfl, rfl⟩)
    go_ret
    exact ⟨rfl, U0.out⟩
theorem putNewM_calls (w : World) (base g mp : Nat) (room hits miss : Int) (V : List Vis) (p : Int) (A : Option Addr) (c : Nat) (D : List UInt8) (h : Hid (CacheM w base g mp room hits miss V))
    (hp : 1 ≤ p) (hwf : Hid ((Lit.int .i64 p).wf = true)) (hno : Hid (p ∉ V.map (·.1))) (hD : Hid (D.length = 512)) (hb : Hid (Bytes w A D)) (hl : Hid (V.length < 1000000)) :
    Calls Try.prog 17 #[ptr g, .int .i64 p, .slice A 512 c] w (StepM w base g mp room hits miss (evictV room p [] (V ++ [(p, D, 0, false)])) (.int .i64 0)) := by
  obtain ⟨r, es, h1, rfl⟩ := h.out
  have hno' : p ∉ es.map Ent.page := by rw [← vis_page]; exact hno.out
  refine (putNew_calls w base g room mp r hits miss es p A c D (hid h1) hp hwf (hid hno') hD hb (hid (by have := hl.out; rwa [List.length_map] at this))).mono ?_
  rintro en w' ⟨rfl, hh⟩
  obtain ⟨e, he, ca, bl, fr⟩ := hh.out
  refine ⟨rfl, hid ⟨⟨r, _, ca, ?_⟩, bl, frS_E fr⟩⟩
  rw [evict_vis room p e [] _ ?_, List.map_append]
  · rfl
  · intro y hy
    rcases List.mem_append.1 hy with hy | hy
    · constructor
      · intro e9
        have := (h1.ents y hy).1.lt
        omega
      · intro e9
        exact absurd (by rw [← e9]; exact List.mem_map.2 ⟨y, hy, rfl⟩) hno'
    · rw [List.mem_singleton.1 hy]
      exact ⟨fun _ => rfl, fun _ => rfl⟩
theorem putOldM_calls (w : World) (base g mp : Nat) (room hits miss : Int) (V1 V2 : List Vis) (v : Vis) (A : Option Addr) (c : Nat) (D : List UInt8) (h : Hid (CacheM w base g mp room hits miss (V1 ++ v :: V2)))
    (hp : 1 ≤ v.1) (hD : Hid (D.length = 512)) (hb : Hid (Bytes w A D)) :
    Calls Try.prog 17 #[ptr g, .int .i64 v.1, .slice A 512 c] w (StepM w base g mp room hits miss (evictV room v.1 [] ((V1 ++ V2) ++ [(v.1, D, v.2.2.1, v.2.2.2)])) (.int .i64 0)) := by
  obtain ⟨r, l1, x, l2, h1, rfl, rfl, rfl⟩ := h.out.split
  refine (putOld_calls w base g room mp r hits miss l1 l2 x A c D (hid h1) hp hD hb).mono ?_
  rintro en w' ⟨rfl, hh⟩
  obtain ⟨ca, bl, fr⟩ := hh.out
  refine ⟨rfl, hid ⟨⟨r, _, ca, ?_⟩, bl, frS_E fr⟩⟩
  rw [evict_vis room (vis x).1 x.blk [] _ ?_]
  · simp only [List.map_append, List.map_cons, List.map_nil]; rfl
  · have hnd := h1.nodup
    have hpg := h1.pages
    rw [map_mid, List.nodup_cons, List.nodup_append] at hnd
    rw [map_mid, List.nodup_append] at hpg
    obtain ⟨_, n1, n2, n3⟩ := hnd
    obtain ⟨m1, m2, m3⟩ := hpg
    rw [List.nodup_cons] at n2 m2
    intro y hy
    rcases List.mem_append.1 hy with hy | hy
    · constructor
      · intro e9
        exfalso
        rcases List.mem_append.1 hy with hy | hy
        · exact n3 _ (List.mem_map.2 ⟨y, hy, rfl⟩) _ List.mem_cons_self e9
        · exact n2.1 (List.mem_map.2 ⟨y, hy, e9⟩)
      · intro e9
        exfalso
        rcases List.mem_append.1 hy with hy | hy
        · exact m3 _ (List.mem_map.2 ⟨y, hy, rfl⟩) _ List.mem_cons_self e9
        · exact m2.1 (List.mem_map.2 ⟨y, hy, e9⟩)
    · rw [List.mem_singleton.1 hy]
      exact ⟨fun _ => rfl, fun _ => rfl⟩
end Go.Proofs.Ytlikggeceeennaa
