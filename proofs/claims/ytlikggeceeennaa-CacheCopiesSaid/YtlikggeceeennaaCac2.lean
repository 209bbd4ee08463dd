/- THE WALK of cache's gone. -/
import Derived.Test.YtlikggeceeennaaCacA
set_option linter.unusedVariables false
set_option linter.unusedSimpArgs false
namespace Go.Proofs.Ytlikggeceeennaa
open Go Go.RowKit Hach

theorem ptr_eq (b : Nat) : ptr b = ptr0 b := rfl
section
variable {w w' : World} {base g : Nat} {room : Int} {mp r : Nat} {hits miss : Int} {l1 l2 : List Ent} {x : Ent}
theorem map_mid {α : Type} (f : Ent → α) : (l1 ++ x :: l2).map f = l1.map f ++ f x :: l2.map f := by rw [List.map_append, List.map_cons]
theorem lookup_none {L : List (Int × Nat)} {p : Int} (h : p ∉ L.map Prod.fst) : L.lookup p = none := by
  induction L with
  | nil => rfl
  | cons a L ih =>
    obtain ⟨q, b⟩ := a
    simp only [List.map_cons, List.mem_cons, not_or] at h
    rw [List.lookup_cons, beq_eq_false_iff_ne.2 h.1]
    exact ih h.2
theorem keys_pages (es : List Ent) : (es.map key).map Prod.fst = es.map Ent.page := by rw [List.map_map]; rfl
/-- What goes leaves the rest. -/
theorem CacheAt.less (h : CacheAt w base g room mp r hits miss (l1 ++ x :: l2)) {S : Nat → Prop} (hf : Fr S w w') (hSg : ¬ S g) (hSrow : ∀ n v xs, w.ownsRow base 5 1 v n xs → ∀ k, v.ownBlock = some k → ¬ S k)
    (hent : ∀ b, EntB w b → EntB w' b) (hcell : ∀ b i v, EntB w b → w.cell? ⟨b, i, none⟩ = some v → i < 4 → w'.cell? ⟨b, i, none⟩ = some v)
    (hrow : Chain w' r ((l1 ++ l2).map Ent.blk ++ [r])) (hm : MapIs w' mp ((l1 ++ l2).map key)) : CacheAt w' base g room mp r hits miss (l1 ++ l2) := by
  have sub : ∀ y ∈ l1 ++ l2, y ∈ l1 ++ x :: l2 := fun y hy => by
    rcases List.mem_append.1 hy with hy | hy
    · exact List.mem_append_left _ hy
    · exact List.mem_append_right _ (List.mem_cons_of_mem _ hy)
  have hsub : List.Sublist (l1 ++ l2) (l1 ++ x :: l2) := List.Sublist.append (List.Sublist.refl _) (List.sublist_cons_self _ _)
  refine ⟨?_, hent _ h.ring, hrow, ?_, fun y hy => ⟨hent _ (h.ents y (sub y hy)).1, ?_⟩, hm, ?_, fun y hy => h.wf y (sub y hy), ⟨h.lows.1, h.lows.2.1, h.lows.2.2.1, fun y hy => h.lows.2.2.2 y (sub y hy)⟩⟩
  · have := h.own
    unfold CacheB at *
    rw [← this]
    exact hf.block g (Array.getElem?_eq_some_iff.1 this).1 hSg
  · exact List.Nodup.sublist (List.Sublist.cons_cons _ (hsub.map _)) h.nodup
  · exact (h.ents y (sub y hy)).2.keep hf (fun i v hv hi => hcell _ _ _ (h.ents y (sub y hy)).1 hv hi) hSrow
  · exact List.Nodup.sublist (hsub.map _) h.pages
end

def GoneRet (w : World) (base g : Nat) (room : Int) (mp r : Nat) (hits miss : Int) (es : List Ent) (S : Nat → Prop) (en : Ending) (w' : World) : Prop :=
  en = .returned (.tuple #[]) ∧ Hid (CacheAt w' base g room mp r hits miss es ∧ Fr S w w' ∧ Below base w w')

set_option maxHeartbeats 1000000 in
theorem gone_calls (w : World) (base g : Nat) (room : Int) (mp r : Nat) (hits miss : Int) (l1 l2 : List Ent) (x : Ent) (h : Hid (CacheAt w base g room mp r hits miss (l1 ++ x :: l2))) :
    Calls Try.prog 66 #[ptr g, ptr x.blk] w (GoneRet w base g room mp r hits miss (l1 ++ l2) (fun k => k = mp ∨ EntB w k)) := by
  have hx := h.out.ents x (by simp)
  have hrow := h.out.row
  have hnd := h.out.nodup
  rw [map_mid, List.append_assoc, List.cons_append] at hrow
  rw [map_mid] at hnd
  obtain ⟨p, q, hp, ⟨t, hq⟩, e4, e5, p4, q5, pe, qe, hback⟩ := Chain.out hrow hnd
  have mem : ∀ b, b ∈ r :: (l1.map Ent.blk ++ l2.map Ent.blk) → EntB w b := by
    intro b hb
    rcases List.mem_cons.1 hb with rfl | hb
    · exact h.out.ring
    · rcases List.mem_append.1 hb with hb | hb
      · obtain ⟨y, hy, rfl⟩ := List.mem_map.1 hb; exact (h.out.ents y (by simp [hy])).1
      · obtain ⟨y, hy, rfl⟩ := List.mem_map.1 hb; exact (h.out.ents y (by simp [hy])).1
  have ep : EntB w p := mem p (by
    have := lastOf_mem r (l1.map Ent.blk)
    rw [← hp] at this
    rcases List.mem_cons.1 this with h | h
    · rw [h]; exact List.mem_cons_self
    · exact List.mem_cons_of_mem _ (List.mem_append_left _ h))
  have eq : EntB w q := mem q (by
    have : q ∈ l2.map Ent.blk ++ [r] := by rw [hq]; exact List.mem_cons_self
    rcases List.mem_append.1 this with h | h
    · exact List.mem_cons_of_mem _ (List.mem_append_right _ h)
    · rw [List.mem_singleton.1 h]; exact List.mem_cons_self)
  have low : ∀ b, b ∈ r :: (l1.map Ent.blk ++ l2.map Ent.blk) → base ≤ b := by
    intro b hb
    rcases List.mem_cons.1 hb with rfl | hb
    · exact h.out.lows.2.1
    · rcases List.mem_append.1 hb with hb | hb
      · obtain ⟨y, hy, rfl⟩ := List.mem_map.1 hb; exact h.out.lows.2.2.2 y (by simp [hy])
      · obtain ⟨y, hy, rfl⟩ := List.mem_map.1 hb; exact h.out.lows.2.2.2 y (by simp [hy])
  have lp : base ≤ p := low p (by
    have := lastOf_mem r (l1.map Ent.blk)
    rw [← hp] at this
    rcases List.mem_cons.1 this with h | h
    · rw [h]; exact List.mem_cons_self
    · exact List.mem_cons_of_mem _ (List.mem_append_left _ h))
  have lq : base ≤ q := low q (by
    have : q ∈ l2.map Ent.blk ++ [r] := by rw [hq]; exact List.mem_cons_self
    rcases List.mem_append.1 this with h | h
    · exact List.mem_cons_of_mem _ (List.mem_append_right _ h)
    · rw [List.mem_singleton.1 h]; exact List.mem_cons_self)
  have bs : base ≤ w.heap.size := Nat.le_of_lt (Nat.lt_of_le_of_lt lp ep.lt)
  -- the world behind out
  have hW1 : ∀ w1, w1 = ((w.setCell ⟨p, 4, none⟩ (ptr q)).setCell ⟨q, 5, none⟩ (ptr p)).drew →
      (Fr (fun k => EntB w k) w w1 ∧ (∀ b, EntB w b → EntB w1 b) ∧ (∀ b i v, w.cell? ⟨b, i, none⟩ = some v → ¬ (b = p ∧ i = 4) → ¬ (b = q ∧ i = 5) → w1.cell? ⟨b, i, none⟩ = some v) ∧ w1.cell? ⟨p, 4, none⟩ = some (ptr q) ∧ w1.cell? ⟨q, 5, none⟩ = some (ptr p) ∧ Below base w w1) := by
    rintro w1 rfl
    refine ⟨((((Fr.refl _ w).setCell (p := ⟨p, 4, none⟩) (fun _ => ep) _).setCell (p := ⟨q, 5, none⟩) (fun _ => eq) _).drew), fun b hb => ((hb.set _ _ _).set _ _ _).drew, fun b i v hv h1 h2 => set_far (set_far hv (fun e => h1 ⟨e.1.symm, e.2.symm⟩)) (fun e => h2 ⟨e.1.symm, e.2.symm⟩), ?_, ?_, (((Below.refl base w).setCell lp _).setCell lq _).drew⟩
    · exact set_far (set_near p4) (fun e => by cases e.2)
    · exact set_near (set_far q5 (fun e => by cases e.2))
  have hgx : g ≠ p ∧ g ≠ q := ⟨fun e => h.out.own.ne ep e.symm, fun e => h.out.own.ne eq e.symm⟩
  unfold ptr
  go_enter Try.func66, Try.ntmps66
  go_wp2_with fail
  refine (out_calls w x.blk p q _ _ e4 e5 p4 ep.free q5 eq.free pe qe).mono ?_
  rintro e w1 ⟨rfl, hw1⟩
  obtain ⟨f1, ent1, cell1, p41, q51, b1⟩ := hW1 w1 hw1
  clear hw1 hW1
  have m1 : MapIs w1 mp ((l1 ++ x :: l2).map key) := h.out.map.kept f1 (fun e => h.out.map.ne e rfl)
  rw [map_mid] at m1
  have hpn : x.page ∉ (l1.map key ++ l2.map key).map Prod.fst := by
    have := h.out.pages
    rw [map_mid] at this
    rw [List.map_append, keys_pages, keys_pages]
    intro hm
    obtain ⟨n1, n2, n3⟩ := List.nodup_append.1 this
    rcases List.mem_append.1 hm with hm | hm
    · exact n3 _ hm _ List.mem_cons_self rfl
    · exact (List.nodup_cons.1 n2).1 hm
  obtain ⟨w2, hdel, m2, g2⟩ := MapIs.del (w := w1.drew) (p := x.page) (b := x.blk) m1 (h.out.wf x (by simp)) (lookup_none hpn) 0
  have c1 : w1.cell? ⟨g, 1, none⟩ = some (.map (some mp)) := cell1 _ _ _ h.out.own.c1 (fun e => hgx.1 e.1) (fun e => hgx.2 e.1)
  have c0 : w1.cell? ⟨x.blk, 0, none⟩ = some (.int .i64 x.page) := cell1 _ _ _ hx.2.1 (fun e => pe e.1.symm) (fun e => qe e.1.symm)
  have d1 : w2.cell? ⟨g, 1, none⟩ = some (.map (some mp)) := g2.cell c1 (fun e => by injection e with e; exact h.out.map.neB h.out.own e)
  have d0 : w2.cell? ⟨x.blk, 0, none⟩ = some (.int .i64 x.page) := g2.cell c0 (fun e => by injection e with e; exact h.out.map.ne hx.1 e)
  have HH : Hid (CacheAt w2 base g room mp r hits miss (l1 ++ l2) ∧ Fr (fun k => k = mp ∨ EntB w k) w w2 ∧ Below base w w2) := by
    have b2 : Below base w w2 := (b1.drew).grown g2 (Nat.le_trans bs b1.size) (fun k hk => by have := Option.some.inj hk; rw [← this]; exact h.out.lows.2.2.1)
    have f2 : Fr (fun k => k = mp ∨ EntB w k) w w2 := (f1.mono (fun k hk => .inr hk)).trans ((Fr.refl _ w1).drew.trans' (Fr.of_grown g2)) (fun k _ hk => .inl (by injection hk))
    have cell2 : ∀ b i v, b ≠ mp → w.cell? ⟨b, i, none⟩ = some v → ¬ (b = p ∧ i = 4) → ¬ (b = q ∧ i = 5) → w2.cell? ⟨b, i, none⟩ = some v := fun b i v hb hv h1 h2 => g2.cell (cell1 _ _ _ hv h1 h2) (fun e => hb (by injection e))
    refine hid ⟨CacheAt.less h.out f2 ?_ ?_ ?_ ?_ ?_ (by rw [List.map_append]; exact m2), f2, b2⟩
    · rintro (e | e)
      · exact h.out.map.neB h.out.own e
      · exact h.out.own.ne e rfl
    · rintro n v xs ho k hk (e | e)
      · subst e; exact row_neM ho h.out.map hk
      · exact row_ne ho e hk
    · exact fun b hb => EntB.fr (w := w1.drew) (ent1 b hb).drew (Fr.of_grown g2) (fun e => by have := (Option.some.inj e); exact h.out.map.ne hb this)
    · exact fun b i v hb hv hi => cell2 _ _ _ (h.out.map.ne hb) hv (fun e => by omega) (fun e => by omega)
    · rw [List.map_append, List.append_assoc]
      have np := h.out.map.ne ep
      have nq := h.out.map.ne eq
      refine hback w2 (fun b i v hv h1 h2 => cell2 b i v ?_ hv h1 h2) (g2.cell p41 (fun e => np (by injection e))) (g2.cell q51 (fun e => nq (by injection e)))
      rintro rfl
      obtain ⟨D, ⟨es, clock, h5, _⟩, _⟩ := h.out.map
      unfold World.cell? at hv
      rw [show (⟨b, i, none⟩ : Addr).block = b from rfl, h5] at hv
      cases hv
  clear b1 lp lq bs low m1 m2 g2 f1 ent1 cell1 p41 q51 hpn e4 e5 p4 q5 ep eq mem hback hp hq hgx hx hrow hnd pe qe
  go_wp2
  go_region_held3 (fun w' => w'.cell? ⟨g, 1, none⟩ = some (.map (some mp)) ∧ w'.cell? ⟨x.blk, 0, none⟩ = some (.int .i64 x.page))
    (first | exact ⟨c1, c0⟩ | exact ⟨d1, d0⟩)
    (fail)
  go_wp2
  go_end0
  exact ⟨rfl, HH⟩
end Go.Proofs.Ytlikggeceeennaa
