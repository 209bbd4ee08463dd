/- THE DISK behind a put into one of its files. -/
import Derived.Test.YtbcghggkfnagoaaGreatDoorDsk9
set_option linter.unusedVariables false
set_option linter.unusedSimpArgs false
namespace Go.Proofs.YtbcghggkfnagoaaGreatDoor
open Go Go.RowKit Go.Maps Hach

section
variable {w w' : World} {base d : Nat} {p : DiskP} {D : DiskV} {f : FileV}
theorem DiskAt.lt {k : Nat} (h : DiskAt w base d p D) : (∀ k, (Value.slice p.A0 D.f0.now.length p.c0).ownBlock = some k → k < w.heap.size) ∧ (∀ k, (Value.slice p.A1 D.f1.now.length p.c1).ownBlock = some k → k < w.heap.size) :=
  ⟨fun k hk => (own_block h.row0 k hk).2, fun k hk => (own_block h.row1 k hk).2⟩
theorem DiskAt.put0 (h : DiskAt w base d p D) (hp : PutRes w base d (diskCs p D) 87 1 p.A0 p.c0 p.m0 D.f0 f w') (hf : FileOk f) (hs : f.sure = D.f0.sure) : DiskM w' base d { D with f0 := f } := by
  obtain ⟨A', c', h1, h2, h3, h4⟩ := hp
  have n0 := h.file0.ne
  have n1 := h.file1.ne
  have hm : p.m1 ≠ d := fun e => n1.1 e.symm
  have r1 : ∀ k, (Value.slice p.A1 D.f1.now.length p.c1).ownBlock = some k → ¬ (k = d ∨ k = p.m0 ∨ (Value.slice p.A0 D.f0.now.length p.c0).ownBlock = some k) := by
    intro k hk e
    rcases e with e | e | e
    · exact (n1.2 k hk).1 e
    · subst e
      obtain ⟨es, clock, hb⟩ := h.map0.isMap
      rcases h.row1.2 with ⟨hv, _⟩ | ⟨g, cap, cur, hv, _, hg, _⟩
      · rw [hv] at hk; cases hk
      · rw [hv] at hk
        obtain rfl : g = p.m0 := by simpa [Value.ownBlock] using hk
        rw [hb] at hg; cases hg
    · exact h.rows k e hk
  have k1 : ∀ k, (Value.slice p.KA D.keep.length p.kc).ownBlock = some k → ¬ (k = d ∨ k = p.m0 ∨ (Value.slice p.A0 D.f0.now.length p.c0).ownBlock = some k) := by
    intro k hk e
    rcases e with e | e | e
    · exact row_blk h.keepR h.own (by decide) k hk e
    · subst e
      obtain ⟨es, clock, hb⟩ := h.map0.isMap
      rcases h.keepR.2 with ⟨hv, _⟩ | ⟨g, cap, cur, hv, _, hg, _⟩
      · rw [hv] at hk; cases hk
      · rw [hv] at hk
        obtain rfl : g = p.m0 := by simpa [Value.ownBlock] using hk
        rw [hb] at hg; cases hg
    · rcases h.row0.2 with ⟨hv, _⟩ | ⟨g, cap, cur, hv, _, hg, _⟩
      · rw [hv] at e; cases e
      · rw [hv] at e
        obtain rfl : g = k := by simpa [Value.ownBlock] using e
        exact row_blk h.keepR hg (by decide) g hk rfl
  refine ⟨{ p with A0 := A', c0 := c' }, ⟨?_, h1.row, h3.own h.row1 r1, h1.map, h.map1.kept h3 ?_, h.maps, ?_, h3.own h.keepR k1, hf, h.ok1, h.low, h.room⟩⟩
  · have e := h1.own
    unfold diskCs at e ⊢
    rw [hs]
    exact e
  · rintro (e | e | e)
    · exact hm e
    · exact h.maps e.symm
    · obtain ⟨es, clock, hb⟩ := h.map1.isMap
      rcases h.row0.2 with ⟨hv, _⟩ | ⟨g, cap, cur, hv, _, hg, _⟩
      · rw [hv] at e; cases e
      · rw [hv] at e
        obtain rfl : g = p.m1 := by simpa [Value.ownBlock] using e
        rw [hb] at hg; cases hg
  · intro k hk hk1
    rcases h4 with e | ⟨k', hk', e⟩
    · exact h.rows k (by rw [← e]; exact hk) hk1
    · have : k = k' := Option.some.inj (hk.symm.trans e)
      have := (own_block h.row1 k hk1).2
      omega
theorem DiskAt.put1 (h : DiskAt w base d p D) (hp : PutRes w base d (diskCs p D) 87 4 p.A1 p.c1 p.m1 D.f1 f w') (hf : FileOk f) (hs : f.sure = D.f1.sure) : DiskM w' base d { D with f1 := f } := by
  obtain ⟨A', c', h1, h2, h3, h4⟩ := hp
  have n0 := h.file1.ne
  have n1 := h.file0.ne
  have hm : p.m0 ≠ d := fun e => n1.1 e.symm
  have r1 : ∀ k, (Value.slice p.A0 D.f0.now.length p.c0).ownBlock = some k → ¬ (k = d ∨ k = p.m1 ∨ (Value.slice p.A1 D.f1.now.length p.c1).ownBlock = some k) := by
    intro k hk e
    rcases e with e | e | e
    · exact (n1.2 k hk).1 e
    · subst e
      obtain ⟨es, clock, hb⟩ := h.map1.isMap
      rcases h.row0.2 with ⟨hv, _⟩ | ⟨g, cap, cur, hv, _, hg, _⟩
      · rw [hv] at hk; cases hk
      · rw [hv] at hk
        obtain rfl : g = p.m1 := by simpa [Value.ownBlock] using hk
        rw [hb] at hg; cases hg
    · exact h.rows k hk e
  have k1 : ∀ k, (Value.slice p.KA D.keep.length p.kc).ownBlock = some k → ¬ (k = d ∨ k = p.m1 ∨ (Value.slice p.A1 D.f1.now.length p.c1).ownBlock = some k) := by
    intro k hk e
    rcases e with e | e | e
    · exact row_blk h.keepR h.own (by decide) k hk e
    · subst e
      obtain ⟨es, clock, hb⟩ := h.map1.isMap
      rcases h.keepR.2 with ⟨hv, _⟩ | ⟨g, cap, cur, hv, _, hg, _⟩
      · rw [hv] at hk; cases hk
      · rw [hv] at hk
        obtain rfl : g = p.m1 := by simpa [Value.ownBlock] using hk
        rw [hb] at hg; cases hg
    · rcases h.row1.2 with ⟨hv, _⟩ | ⟨g, cap, cur, hv, _, hg, _⟩
      · rw [hv] at e; cases e
      · rw [hv] at e
        obtain rfl : g = k := by simpa [Value.ownBlock] using e
        exact row_blk h.keepR hg (by decide) g hk rfl
  refine ⟨{ p with A1 := A', c1 := c' }, ⟨?_, h3.own h.row0 r1, h1.row, h.map0.kept h3 ?_, h1.map, h.maps, ?_, h3.own h.keepR k1, h.ok0, hf, h.low, h.room⟩⟩
  · have e := h1.own
    unfold diskCs at e ⊢
    rw [hs]
    exact e
  · rintro (e | e | e)
    · exact hm e
    · exact h.maps e
    · obtain ⟨es, clock, hb⟩ := h.map0.isMap
      rcases h.row1.2 with ⟨hv, _⟩ | ⟨g, cap, cur, hv, _, hg, _⟩
      · rw [hv] at e; cases e
      · rw [hv] at e
        obtain rfl : g = p.m0 := by simpa [Value.ownBlock] using e
        rw [hb] at hg; cases hg
  · intro k hk1 hk
    rcases h4 with e | ⟨k', hk', e⟩
    · exact h.rows k hk1 (by rw [← e]; exact hk)
    · have : k = k' := Option.some.inj (hk.symm.trans e)
      have := (own_block h.row0 k hk1).2
      omega
end
end Go.Proofs.YtbcghggkfnagoaaGreatDoor
