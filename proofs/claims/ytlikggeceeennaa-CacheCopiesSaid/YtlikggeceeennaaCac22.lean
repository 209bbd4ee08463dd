/- THE CACHE with its map's block, and what its steps may write. -/
import Derived.Test.YtlikggeceeennaaCac12
import Derived.Handy
set_option linter.unusedVariables false
set_option linter.unusedSimpArgs false
namespace Go.Proofs.Ytlikggeceeennaa
open Go Go.RowKit Hach

theorem upAl {w w' : World} (h : Up w w') (o : Obj) : Up w (w'.alloc o) := Below.alloc h h.size o
/-- What a step of the cache may write of the old blocks. -/
def CacheS (w : World) (g mp k : Nat) : Prop := k = g ∨ k = mp ∨ EntB w k
section
variable {w w1 w2 : World} {base g mp r : Nat} {room hits miss : Int} {es l1 l2 : List Ent} {x : Ent} {V : List Vis}
theorem frS_trans (h : Fr (CacheS w g mp) w w1) (k : Fr (CacheS w1 g mp) w1 w2) : Fr (CacheS w g mp) w w2 :=
  h.trans k (fun i hi hh => by
    rcases hh with h9 | h9 | h9
    · exact .inl h9
    · exact .inr (.inl h9)
    · by_cases h8 : CacheS w g mp i
      · exact h8
      · exact absurd (.inr (.inr (h9.back h h8 hi))) h8)
theorem frS_up (u : Up w w1) : Fr (CacheS w g mp) w w1 := (Fr.of_below u).mono (fun _ h => h.elim)
theorem frS_E (h : Fr (fun k => k = mp ∨ EntB w k) w w1) : Fr (CacheS w g mp) w w1 := h.mono (fun _ h => .inr h)
theorem frS_G (h : Fr (fun k => k = g ∨ EntB w k) w w1) : Fr (CacheS w g mp) w w1 := h.mono (fun _ h => h.elim .inl (fun h => .inr (.inr h)))
theorem frS_ent (h : Fr (fun k => EntB w k) w w1) : Fr (CacheS w g mp) w w1 := h.mono (fun _ h => .inr (.inr h))

def CacheM (w : World) (base g mp : Nat) (room hits miss : Int) (V : List Vis) : Prop := ∃ r es, CacheAt w base g room mp r hits miss es ∧ es.map vis = V
theorem CacheM.up (h : CacheM w base g mp room hits miss V) (hu : Up w w1) : CacheM w1 base g mp room hits miss V := by
  obtain ⟨r, es, h1, h2⟩ := h
  exact ⟨r, es, h1.up hu, h2⟩
theorem CacheM.lt (h : CacheM w base g mp room hits miss V) : base ≤ g ∧ g < w.heap.size ∧ base ≤ mp ∧ mp < w.heap.size := by
  obtain ⟨r, es, h1, _⟩ := h
  exact ⟨h1.lows.1, (Array.getElem?_eq_some_iff.1 h1.own).1, h1.lows.2.2.1, h1.map.lt⟩
theorem CacheM.bs (h : CacheM w base g mp room hits miss V) : base ≤ w.heap.size := Nat.le_of_lt (Nat.lt_of_le_of_lt h.lt.1 h.lt.2.1)
/-- Behind what others do. -/
theorem CacheAt.apart (h : CacheAt w base g room mp r hits miss es) {S : Nat → Prop} (hf : Fr S w w1) (hS : ∀ k, S k → k < w.heap.size → k ≠ g ∧ k ≠ mp ∧ ¬ EntB w k ∧ ∀ cs fr, w.heap[k]? ≠ some (.cells cs 5 fr)) : CacheAt w1 base g room mp r hits miss es := by
  have nS : ∀ k, k < w.heap.size → (k = g ∨ k = mp ∨ EntB w k) → ¬ S k := fun k hk hh hs => by
    obtain ⟨a, b, c, _⟩ := hS k hs hk
    rcases hh with e | e | e
    · exact a e
    · exact b e
    · exact c e
  have ne : ∀ b, EntB w b → ¬ S b := fun b hb => nS b hb.lt (.inr (.inr hb))
  obtain ⟨k1, k2⟩ := h.fix hf (nS g (Array.getElem?_eq_some_iff.1 h.own).1 (.inl rfl)) (nS mp h.map.lt (.inr (.inl rfl)))
  refine ⟨k1, h.ring.fr hf (ne _ h.ring), h.row.up hf (fun b hb => ?_), h.nodup, fun y hy => ⟨(h.ents y hy).1.fr hf (ne _ (h.ents y hy).1), ?_⟩, k2, h.pages, h.wf, h.lows⟩
  · rcases List.mem_cons.1 hb with hb | hb
    · rw [hb]; exact ne _ h.ring
    · rcases List.mem_append.1 hb with hb | hb
      · obtain ⟨y, hy, rfl⟩ := List.mem_map.1 hb; exact ne _ (h.ents y hy).1
      · rw [List.mem_singleton.1 hb]; exact ne _ h.ring
  · refine (h.ents y hy).2.keep hf (fun i v hv _ => hf.cell hv (ne _ (h.ents y hy).1)) (fun n v xs ho k hk hs => ?_)
    rcases ho.2 with ⟨rfl, _⟩ | ⟨c, cap, cur, rfl, _, hg, _⟩
    · cases hk
    · obtain rfl : c = k := by simpa [Value.ownBlock] using hk
      exact (hS c hs (Array.getElem?_eq_some_iff.1 hg).1).2.2.2 _ _ hg
theorem CacheM.apart (h : CacheM w base g mp room hits miss V) {S : Nat → Prop} (hf : Fr S w w1) (hS : ∀ k, S k → k < w.heap.size → k ≠ g ∧ k ≠ mp ∧ ¬ EntB w k ∧ ∀ cs fr, w.heap[k]? ≠ some (.cells cs 5 fr)) : CacheM w1 base g mp room hits miss V := by
  obtain ⟨r, es, h1, h2⟩ := h
  exact ⟨r, es, h1.apart hf hS, h2⟩
/-- Behind what leaves all below a bound. -/
theorem CacheM.below {B : Nat} (h : CacheM w base g mp room hits miss V) (hb : Below w.heap.size w w1) : CacheM w1 base g mp room hits miss V := h.up hb
theorem CacheM.nodup (h : CacheM w base g mp room hits miss V) : (V.map (·.1)).Nodup := by
  obtain ⟨r, es, h1, rfl⟩ := h
  rw [vis_page]; exact h1.pages
theorem CacheM.wf (h : CacheM w base g mp room hits miss V) : ∀ v ∈ V, (Lit.int .i64 v.1).wf = true := by
  obtain ⟨r, es, h1, rfl⟩ := h
  intro v hv
  obtain ⟨y, hy, rfl⟩ := List.mem_map.1 hv
  exact h1.wf y hy
theorem CacheM.data (h : CacheM w base g mp room hits miss V) : ∀ v ∈ V, v.2.1.length = 512 := by
  obtain ⟨r, es, h1, rfl⟩ := h
  intro v hv
  obtain ⟨y, hy, rfl⟩ := List.mem_map.1 hv
  exact ent_len (h1.ents y hy).2

/-- Pins, or the mark, of an entry are others. -/
theorem CacheAt.mod (h : CacheAt w base g room mp r hits miss (l1 ++ x :: l2)) {x' : Ent} (i : Nat) (v : Value) (hi : i < 4) (hb : x'.blk = x.blk) (hp : x'.page = x.page) (hx : EntIs (w.setCell ⟨x.blk, i, none⟩ v) base x') :
    CacheAt (w.setCell ⟨x.blk, i, none⟩ v) base g room mp r hits miss (l1 ++ x' :: l2) ∧ Below base w (w.setCell ⟨x.blk, i, none⟩ v) ∧ Fr (fun k => EntB w k) w (w.setCell ⟨x.blk, i, none⟩ v) := by
  have ex := (h.ents x (by simp)).1
  have hf : Fr (fun k => EntB w k) w (w.setCell ⟨x.blk, i, none⟩ v) := (Fr.refl _ w).setCell (p := ⟨x.blk, i, none⟩) (fun _ => ex) _
  have low : base ≤ x.blk := h.lows.2.2.2 x (by simp)
  have e1 : (l1 ++ x' :: l2).map Ent.blk = (l1 ++ x :: l2).map Ent.blk := by rw [map_mid, map_mid, hb]
  have e2 : (l1 ++ x' :: l2).map Ent.page = (l1 ++ x :: l2).map Ent.page := by rw [map_mid, map_mid, hp]
  have e3 : (l1 ++ x' :: l2).map key = (l1 ++ x :: l2).map key := by rw [map_mid, map_mid]; unfold key; rw [hb, hp]
  obtain ⟨k1, k2⟩ := h.fix hf (fun e => h.own.ne e rfl) (fun e => h.map.ne e rfl)
  have mem : ∀ y, y ∈ l1 ++ x' :: l2 → y = x' ∨ (y ∈ l1 ++ x :: l2 ∧ y.blk ≠ x.blk) := by
    intro y hy
    have hnd := h.nodup
    rw [map_mid, List.nodup_cons, List.nodup_append] at hnd
    obtain ⟨_, n1, n2, n3⟩ := hnd
    rw [List.nodup_cons] at n2
    rcases List.mem_append.1 hy with hy | hy
    · exact .inr ⟨List.mem_append_left _ hy, fun e => n3 _ (List.mem_map.2 ⟨y, hy, rfl⟩) _ List.mem_cons_self e⟩
    · rcases List.mem_cons.1 hy with hy | hy
      · exact .inl hy
      · exact .inr ⟨List.mem_append_right _ (List.mem_cons_of_mem _ hy), fun e => n2.1 (List.mem_map.2 ⟨y, hy, e⟩)⟩
  refine ⟨⟨k1, h.ring.set _ _ _, ?_, by rw [e1]; exact h.nodup, ?_, by rw [e3]; exact k2, by rw [e2]; exact h.pages, ?_, ⟨h.lows.1, h.lows.2.1, h.lows.2.2.1, ?_⟩⟩, (Below.refl base w).setCell low _, hf⟩
  · rw [e1]
    exact h.row.keep (fun b hb v' hv => set_far hv (fun e => by omega)) (fun b hb v' hv => set_far hv (fun e => by omega))
  · intro y hy
    rcases mem y hy with rfl | ⟨hy, hne⟩
    · exact ⟨by rw [hb]; exact ex.set _ _ _, hx⟩
    · exact ⟨(h.ents y hy).1.set _ _ _, (h.ents y hy).2.keep hf (fun j u hu _ => set_far hu (fun e => hne e.1.symm)) (fun n u xs ho k hk e => row_ne ho e hk)⟩
  · intro y hy
    rcases mem y hy with rfl | ⟨hy, _⟩
    · rw [hp]; exact h.wf x (by simp)
    · exact h.wf y hy
  · intro y hy
    rcases mem y hy with rfl | ⟨hy, _⟩
    · rw [hb]; exact low
    · exact h.lows.2.2.2 y hy
theorem CacheAt.pin (h : CacheAt w base g room mp r hits miss (l1 ++ x :: l2)) (q : Int) :
    CacheAt (w.setCell ⟨x.blk, 2, none⟩ (.int .i64 q)) base g room mp r hits miss (l1 ++ { x with pins := q } :: l2) ∧ Below base w (w.setCell ⟨x.blk, 2, none⟩ (.int .i64 q)) ∧ Fr (fun k => EntB w k) w (w.setCell ⟨x.blk, 2, none⟩ (.int .i64 q)) := by
  obtain ⟨ex, h0, ⟨A, c, h1, ho⟩, h2, h3⟩ := h.ents x (by simp)
  have hf : Fr (fun k => k = x.blk) w (w.setCell ⟨x.blk, 2, none⟩ (.int .i64 q)) := (Fr.refl (fun k => k = x.blk) w).setCell (p := ⟨x.blk, 2, none⟩) (fun _ => rfl) _
  exact h.mod 2 _ (by decide) rfl rfl ⟨set_far h0 (fun e => by cases e.2), ⟨A, c, set_far h1 (fun e => by cases e.2), hf.own ho (fun k hk e => row_ne ho ex (by rw [hk, e]))⟩, set_near h2, set_far h3 (fun e => by cases e.2)⟩
theorem CacheAt.mark (h : CacheAt w base g room mp r hits miss (l1 ++ x :: l2)) (q : Bool) :
    CacheAt (w.setCell ⟨x.blk, 3, none⟩ (.bool q)) base g room mp r hits miss (l1 ++ { x with dirty := q } :: l2) ∧ Below base w (w.setCell ⟨x.blk, 3, none⟩ (.bool q)) ∧ Fr (fun k => EntB w k) w (w.setCell ⟨x.blk, 3, none⟩ (.bool q)) := by
  obtain ⟨ex, h0, ⟨A, c, h1, ho⟩, h2, h3⟩ := h.ents x (by simp)
  have hf : Fr (fun k => k = x.blk) w (w.setCell ⟨x.blk, 3, none⟩ (.bool q)) := (Fr.refl (fun k => k = x.blk) w).setCell (p := ⟨x.blk, 3, none⟩) (fun _ => rfl) _
  exact h.mod 3 _ (by decide) rfl rfl ⟨set_far h0 (fun e => by cases e.2), ⟨A, c, set_far h1 (fun e => by cases e.2), hf.own ho (fun k hk e => row_ne ho ex (by rw [hk, e]))⟩, set_far h2 (fun e => by cases e.2), set_near h3⟩
end
def StepM (w : World) (base g mp : Nat) (room hits miss : Int) (V : List Vis) (v : Value) (en : Ending) (w' : World) : Prop :=
  en = .returned v ∧ Hid (CacheM w' base g mp room hits miss V ∧ Below base w w' ∧ Fr (CacheS w g mp) w w')
end Go.Proofs.Ytlikggeceeennaa
