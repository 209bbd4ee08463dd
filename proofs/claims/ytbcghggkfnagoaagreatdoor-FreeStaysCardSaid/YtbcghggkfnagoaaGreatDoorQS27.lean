/- PARTS OF A PROOF, one behind the other: THE CACHE with its map's block, and what its steps may write. THE WALKS of with, Pin, Free, Mark, Drop, Pins. THE WALKS of Get (miss), Hits, Len, Dirty, and of Put's errors. THE WALK of Put, where the page is there; Put's errors; Put as the cache is told. CONDITIONS: none of this text's own. -/
import Derived.Test.YtbcghggkfnagoaaGreatDoorQS26
import Derived.Handy
set_option linter.unusedVariables false
set_option linter.unusedSimpArgs false
namespace Go.Proofs.YtbcghggkfnagoaaGreatDoor
open Go Go.RowKit Hach
def CacheS (w : World) (g mp k : Nat) : Prop := k = g ∨ k = mp ∨ EntB w k
section
variable {w w1 w2 : World} {base g mp r : Nat} {room hits miss : Int} {es l1 l2 : List Ent} {x : Ent} {V : List Vis}
theorem frS_trans (h : Fr (CacheS w g mp) w w1) (k : Fr (CacheS w1 g mp) w1 w2) : Fr (CacheS w g mp) w w2 :=
  h.trans k (fun i hi hh => by
    rcases hh with h9 | h9 | h9
    · exact .inl h9
    · exact .inr (.inl h9)
    · by_cases h8 : CacheS w g mp i
      · exact h8
      · exact absurd (.inr (.inr (h9.back h h8 hi))) h8)
theorem frS_up (u : Up w w1) : Fr (CacheS w g mp) w w1 := (Fr.of_below u).mono (fun _ h => h.elim)
theorem frS_E (h : Fr (fun k => k = mp ∨ EntB w k) w w1) : Fr (CacheS w g mp) w w1 := h.mono (fun _ h => .inr h)
theorem frS_G (h : Fr (fun k => k = g ∨ EntB w k) w w1) : Fr (CacheS w g mp) w w1 := h.mono (fun _ h => h.elim .inl (fun h => .inr (.inr h)))
def CacheM (w : World) (base g mp : Nat) (room hits miss : Int) (V : List Vis) : Prop := ∃ r es, CacheAt w base g room mp r hits miss es ∧ es.map vis = V
theorem CacheM.up (h : CacheM w base g mp room hits miss V) (hu : Up w w1) : CacheM w1 base g mp room hits miss V := by
  obtain ⟨r, es, h1, h2⟩ := h
  exact ⟨r, es, h1.up hu, h2⟩
theorem CacheM.lt (h : CacheM w base g mp room hits miss V) : base ≤ g ∧ g < w.heap.size ∧ base ≤ mp ∧ mp < w.heap.size := by
  obtain ⟨r, es, h1, _⟩ := h
  exact ⟨h1.lows.1, (Array.getElem?_eq_some_iff.1 h1.own).1, h1.lows.2.2.1, h1.map.lt⟩
theorem CacheM.bs (h : CacheM w base g mp room hits miss V) : base ≤ w.heap.size := Nat.le_of_lt (Nat.lt_of_le_of_lt h.lt.1 h.lt.2.1)
theorem CacheAt.apart (h : CacheAt w base g room mp r hits miss es) {S : Nat → Prop} (hf : Fr S w w1) (hS : ∀ k, S k → k < w.heap.size → k ≠ g ∧ k ≠ mp ∧ ¬ EntB w k ∧ ∀ cs fr, w.heap[k]? ≠ some (.cells cs 5 fr)) : CacheAt w1 base g room mp r hits miss es := by
  have nS : ∀ k, k < w.heap.size → (k = g ∨ k = mp ∨ EntB w k) → ¬ S k := fun k hk hh hs => by
    obtain ⟨a, b, c, _⟩ := hS k hs hk
    rcases hh with e | e | e
    · exact a e
    · exact b e
    · exact c e
  have ne : ∀ b, EntB w b → ¬ S b := fun b hb => nS b hb.lt (.inr (.inr hb))
  obtain ⟨k1, k2⟩ := h.fix hf (nS g (Array.getElem?_eq_some_iff.1 h.own).1 (.inl rfl)) (nS mp h.map.lt (.inr (.inl rfl)))
  refine ⟨k1, h.ring.fr hf (ne _ h.ring), h.row.up hf (fun b hb => ?_), h.nodup, fun y hy => ⟨(h.ents y hy).1.fr hf (ne _ (h.ents y hy).1), ?_⟩, k2, h.pages, h.wf, h.lows⟩
  · rcases List.mem_cons.1 hb with hb | hb
    · rw [hb]; exact ne _ h.ring
    · rcases List.mem_append.1 hb with hb | hb
      · obtain ⟨y, hy, rfl⟩ := List.mem_map.1 hb; exact ne _ (h.ents y hy).1
      · rw [List.mem_singleton.1 hb]; exact ne _ h.ring
  · refine (h.ents y hy).2.keep hf (fun i v hv _ => hf.cell hv (ne _ (h.ents y hy).1)) (fun n v xs ho k hk hs => ?_)
    rcases ho.2 with ⟨rfl, _⟩ | ⟨c, cap, cur, rfl, _, hg, _⟩
    · cases hk
    · obtain rfl : c = k := by simpa [Value.ownBlock] using hk
      exact (hS c hs (Array.getElem?_eq_some_iff.1 hg).1).2.2.2 _ _ hg
theorem CacheM.apart (h : CacheM w base g mp room hits miss V) {S : Nat → Prop} (hf : Fr S w w1) (hS : ∀ k, S k → k < w.heap.size → k ≠ g ∧ k ≠ mp ∧ ¬ EntB w k ∧ ∀ cs fr, w.heap[k]? ≠ some (.cells cs 5 fr)) : CacheM w1 base g mp room hits miss V := by
  obtain ⟨r, es, h1, h2⟩ := h
  exact ⟨r, es, h1.apart hf hS, h2⟩
theorem CacheM.below {B : Nat} (h : CacheM w base g mp room hits miss V) (hb : Below w.heap.size w w1) : CacheM w1 base g mp room hits miss V := h.up hb
theorem CacheM.nodup (h : CacheM w base g mp room hits miss V) : (V.map (·.1)).Nodup := by
  obtain ⟨r, es, h1, rfl⟩ := h
  rw [vis_page]; exact h1.pages
theorem CacheM.wf (h : CacheM w base g mp room hits miss V) : ∀ v ∈ V, (Lit.int .i64 v.1).wf = true := by
  obtain ⟨r, es, h1, rfl⟩ := h
  intro v hv
  obtain ⟨y, hy, rfl⟩ := List.mem_map.1 hv
  exact h1.wf y hy
theorem CacheM.data (h : CacheM w base g mp room hits miss V) : ∀ v ∈ V, v.2.1.length = 512 := by
  obtain ⟨r, es, h1, rfl⟩ := h
  intro v hv
  obtain ⟨y, hy, rfl⟩ := List.mem_map.1 hv
  exact ent_len (h1.ents y hy).2

theorem CacheAt.mod (h : CacheAt w base g room mp r hits miss (l1 ++ x :: l2)) {x' : Ent} (i : Nat) (v : Value) (hi : i < 4) (hb : x'.blk = x.blk) (hp : x'.page = x.page) (hx : EntIs (w.setCell ⟨x.blk, i, none⟩ v) base x') :
    CacheAt (w.setCell ⟨x.blk, i, none⟩ v) base g room mp r hits miss (l1 ++ x' :: l2) ∧ Below base w (w.setCell ⟨x.blk, i, none⟩ v) ∧ Fr (fun k => EntB w k) w (w.setCell ⟨x.blk, i, none⟩ v) := by
  have ex := (h.ents x (by simp)).1
  have hf : Fr (fun k => EntB w k) w (w.setCell ⟨x.blk, i, none⟩ v) := (Fr.refl _ w).setCell (p := ⟨x.blk, i, none⟩) (fun _ => ex) _
  have low : base ≤ x.blk := h.lows.2.2.2 x (by simp)
  have e1 : (l1 ++ x' :: l2).map Ent.blk = (l1 ++ x :: l2).map Ent.blk := by rw [map_mid, map_mid, hb]
  have e2 : (l1 ++ x' :: l2).map Ent.page = (l1 ++ x :: l2).map Ent.page := by rw [map_mid, map_mid, hp]
  have e3 : (l1 ++ x' :: l2).map key = (l1 ++ x :: l2).map key := by rw [map_mid, map_mid]; unfold key; rw [hb, hp]
  obtain ⟨k1, k2⟩ := h.fix hf (fun e => h.own.ne e rfl) (fun e => h.map.ne e rfl)
  have mem : ∀ y, y ∈ l1 ++ x' :: l2 → y = x' ∨ (y ∈ l1 ++ x :: l2 ∧ y.blk ≠ x.blk) := by
    intro y hy
    have hnd := h.nodup
    rw [map_mid, List.nodup_cons, List.nodup_append] at hnd
    obtain ⟨_, n1, n2, n3⟩ := hnd
    rw [List.nodup_cons] at n2
    rcases List.mem_append.1 hy with hy | hy
    · exact .inr ⟨List.mem_append_left _ hy, fun e => n3 _ (List.mem_map.2 ⟨y, hy, rfl⟩) _ List.mem_cons_self e⟩
    · rcases List.mem_cons.1 hy with hy | hy
      · exact .inl hy
      · exact .inr ⟨List.mem_append_right _ (List.mem_cons_of_mem _ hy), fun e => n2.1 (List.mem_map.2 ⟨y, hy, e⟩)⟩
  refine ⟨⟨k1, h.ring.set _ _ _, ?_, by rw [e1]; exact h.nodup, ?_, by rw [e3]; exact k2, by rw [e2]; exact h.pages, ?_, ⟨h.lows.1, h.lows.2.1, h.lows.2.2.1, ?_⟩⟩, (Below.refl base w).setCell low _, hf⟩
  · rw [e1]
    exact h.row.keep (fun b hb v' hv => set_far hv (fun e => by omega)) (fun b hb v' hv => set_far hv (fun e => by omega))
  · intro y hy
    rcases mem y hy with rfl | ⟨hy, hne⟩
    · exact ⟨by rw [hb]; exact ex.set _ _ _, hx⟩
    · exact ⟨(h.ents y hy).1.set _ _ _, (h.ents y hy).2.keep hf (fun j u hu _ => set_far hu (fun e => hne e.1.symm)) (fun n u xs ho k hk e => row_ne ho e hk)⟩
  · intro y hy
    rcases mem y hy with rfl | ⟨hy, _⟩
    · rw [hp]; exact h.wf x (by simp)
    · exact h.wf y hy
  · intro y hy
    rcases mem y hy with rfl | ⟨hy, _⟩
    · rw [hb]; exact low
    · exact h.lows.2.2.2 y hy
theorem CacheAt.mark (h : CacheAt w base g room mp r hits miss (l1 ++ x :: l2)) (q : Bool) :
    CacheAt (w.setCell ⟨x.blk, 3, none⟩ (.bool q)) base g room mp r hits miss (l1 ++ { x with dirty := q } :: l2) ∧ Below base w (w.setCell ⟨x.blk, 3, none⟩ (.bool q)) ∧ Fr (fun k => EntB w k) w (w.setCell ⟨x.blk, 3, none⟩ (.bool q)) := by
  obtain ⟨ex, h0, ⟨A, c, h1, ho⟩, h2, h3⟩ := h.ents x (by simp)
  have hf : Fr (fun k => k = x.blk) w (w.setCell ⟨x.blk, 3, none⟩ (.bool q)) := (Fr.refl (fun k => k = x.blk) w).setCell (p := ⟨x.blk, 3, none⟩) (fun _ => rfl) _
  exact h.mod 3 _ (by decide) rfl rfl ⟨set_far h0 (fun e => by cases e.2), ⟨A, c, set_far h1 (fun e => by cases e.2), hf.own ho (fun k hk e => row_ne ho ex (by rw [hk, e]))⟩, set_far h2 (fun e => by cases e.2), set_near h3⟩
end
def StepM (w : World) (base g mp : Nat) (room hits miss : Int) (V : List Vis) (v : Value) (en : Ending) (w' : World) : Prop :=
  en = .returned v ∧ Hid (CacheM w' base g mp room hits miss V ∧ Below base w w' ∧ Fr (CacheS w g mp) w w')
end Go.Proofs.YtbcghggkfnagoaaGreatDoor

namespace Go.Proofs.YtbcghggkfnagoaaGreatDoor
open Go Go.RowKit Hach

section
variable {w : World} {base g mp r : Nat} {room hits miss : Int} {es l1 l2 : List Ent} {x : Ent}
theorem CacheAt.lookHit (h : CacheAt w base g room mp r hits miss (l1 ++ x :: l2)) : (Instr.lookup 193 (.map (some mp)) (.int .i64 x.page) false).run Tryz.prog w = .ok (ptr x.blk) w := by
  have hlook := h.map.look (h.wf x (by simp))
  have hk : ((l1 ++ x :: l2).map key).lookup x.page = some x.blk := by
    rw [map_mid]
    have := h.pages
    rw [map_mid] at this
    rw [show key x = (x.page, x.blk) from rfl, lookup_mid (lookup_none ?_), if_pos rfl]
    rw [List.map_append, keys_pages, keys_pages]
    intro hm
    obtain ⟨n1, n2, n3⟩ := List.nodup_append.1 this
    rcases List.mem_append.1 hm with hm | hm
    · exact n3 _ hm _ List.mem_cons_self rfl
    · exact (List.nodup_cons.1 n2).1 hm
  rw [hk] at hlook
  exact hlook
theorem CacheAt.lookMiss {p : Int} (h : CacheAt w base g room mp r hits miss es) (hp : (Lit.int .i64 p).wf = true) (hno : p ∉ es.map Ent.page) : (Instr.lookup 193 (.map (some mp)) (.int .i64 p) false).run Tryz.prog w = .ok (.pointer none) w := by
  have := h.map.look hp
  rw [lookup_none (by rw [keys_pages]; exact hno)] at this
  exact this
end

theorem withMiss_calls (w : World) (base g : Nat) (room : Int) (mp r : Nat) (hits miss : Int) (es : List Ent) (p : Int) (f : Value) (h : Hid (CacheAt w base g room mp r hits miss es)) (hwf : Hid ((Lit.int .i64 p).wf = true)) (hno : Hid (p ∉ es.map Ent.page)) :
    Calls Tryz.prog 176 #[ptr g, .int .i64 p, f] w fun en w' => en = .returned (.int .i64 5) ∧ w = w' := by
  have c2 := h.out.own.c2
  have c1 := h.out.own.c1
  have hlook := h.out.lookMiss hwf.out hno.out
  unfold ptr at *
  go_enter Tryz.func176, Tryz.ntmps176
  go_wp2_with (go_at_call 158; refine (made_calls _ g r c2).mono ?_; rintro e w' ⟨rfl, rfl⟩)
  go_ret
  exact ⟨rfl, rfl⟩
def WithRet (Q : Int → World → Prop) (en : Ending) (w' : World) : Prop := ∃ k, en = .returned (.int .i64 k) ∧ Q k w'
theorem withHit_calls (n : Nat) (caps : Array Value) (w : World) (base g : Nat) (room : Int) (mp r : Nat) (hits miss : Int) (l1 l2 : List Ent) (x : Ent) (h : Hid (CacheAt w base g room mp r hits miss (l1 ++ x :: l2)))
    (hn : ∀ (args : Array Value) (w : World), (callFunc n args).run Tryz.prog w = .ok (.enter n args) w) (Q : Int → World → Prop) (hf : Hid (Calls Tryz.prog n (#[ptr x.blk] ++ caps) w (WithRet Q))) :
    Calls Tryz.prog 176 #[ptr g, .int .i64 x.page, .func (.func n) #[] caps] w (WithRet Q) := by
  have c2 := h.out.own.c2
  have c1 := h.out.own.c1
  have hlook := h.out.lookHit
  unfold ptr at c2 hlook ⊢
  go_enter Tryz.func176, Tryz.ntmps176
  go_wp2_with (go_at_call 158; refine (made_calls _ g r c2).mono ?_; rintro e w' ⟨rfl, rfl⟩)
  refine Calls.mono hf.out ?_
  rintro en w' ⟨k, rfl, hq⟩
  go_wp2
  go_ret
  exact ⟨k, rfl, hq⟩

theorem entersDrop (args : Array Value) (w : World) : (callFunc 177 args).run Tryz.prog w = .ok (.enter 177 args) w := by go_simp

section
variable {w : World} {base g mp : Nat} {room hits miss : Int} {V V1 V2 : List Vis} {v : Vis}
theorem CacheM.split (h : CacheM w base g mp room hits miss (V1 ++ v :: V2)) : ∃ r l1 x l2, CacheAt w base g room mp r hits miss (l1 ++ x :: l2) ∧ l1.map vis = V1 ∧ vis x = v ∧ l2.map vis = V2 := by
  obtain ⟨r, es, h1, h2⟩ := h
  obtain ⟨l1, x, l2, rfl, k1, k2, k3⟩ := map_split h2
  exact ⟨r, l1, x, l2, h1, k1, k2, k3⟩
end

theorem not_ent {w : World} {b : Nat} {v : Value} {t : TypeId} (h : w.heap[b]? = some (.cells #[v] t (0, 0))) : ¬ EntB w b := by
  rintro ⟨cs, h1, h2⟩
  rw [h] at h1
  injection h1 with h1; injection h1 with h1 _ _
  subst h1
  simp at h2
theorem not_mp {w : World} {b mp : Nat} {v : Value} {t : TypeId} {L : List (Int × Nat)} (h : w.heap[b]? = some (.cells #[v] t (0, 0))) (hm : MapIs w mp L) : b ≠ mp := by
  rintro rfl
  obtain ⟨D, ⟨es, clock, h2, _⟩, _⟩ := hm
  rw [h] at h2; cases h2
/-! ### Drop -/
theorem drop1_calls (w : World) (base g : Nat) (room : Int) (mp r : Nat) (hits miss : Int) (l1 l2 : List Ent) (x : Ent) (b : Nat) (h : Hid (CacheAt w base g room mp r hits miss (l1 ++ x :: l2))) (hb : w.cell? ⟨b, 0, none⟩ = some (ptr g)) (hz : decide (0 < x.pins) = false) :
    Calls Tryz.prog 177 #[ptr x.blk, ptr b] w (WithRet fun k w' => k = 0 ∧ Hid (CacheAt w' base g room mp r hits miss (l1 ++ l2) ∧ Fr (fun k => k = mp ∨ EntB w k) w w' ∧ Below base w w')) := by
  have h2 := (h.out.ents x (by simp)).2.2.2.1
  have h3 := of_decide_eq_false hz
  unfold ptr at hb ⊢
  go_enter Tryz.func177, Tryz.ntmps177
  go_wp2_with fail
  refine (gone_calls w base g room mp r hits miss l1 l2 x h).mono ?_
  rintro en w' ⟨rfl, hh⟩
  go_wp2
  go_ret
  exact ⟨0, rfl, rfl, hh⟩
theorem dropHit_calls (w : World) (base g mp : Nat) (room hits miss : Int) (V1 V2 : List Vis) (v : Vis) (h : Hid (CacheM w base g mp room hits miss (V1 ++ v :: V2))) (hz : Hid (decide (0 < v.2.2.1) = false)) :
    Calls Tryz.prog 147 #[ptr g, .int .i64 v.1] w (StepM w base g mp room hits miss (V1 ++ V2) (.int .i64 0)) := by
  have u1 : Up w (w.alloc (.cells #[.pointer (some ⟨g, 0, none⟩)] 77)) := (Below.refl _ _).alloc (Nat.le_refl _) _
  have b1 : (w.alloc (.cells #[.pointer (some ⟨g, 0, none⟩)] 77)).cell? ⟨w.heap.size, 0, none⟩ = some (ptr g) := by unfold ptr; go_simp
  obtain ⟨r, l1, x, l2, h1, rfl, rfl, rfl⟩ := (h.out.up u1).split
  have H1 := hid h1
  have WC := hid (withHit_calls 177 #[ptr w.heap.size] _ base g room mp r hits miss l1 l2 x H1 entersDrop _ (hid (drop1_calls _ base g room mp r hits miss l1 l2 x w.heap.size H1 b1 hz.out)))
  have U1 := hid u1
  have BS := hid h.out.bs
  clear h1 b1 u1
  unfold ptr at WC
  show Calls _ _ #[ptr g, .int .i64 x.page] w _
  unfold ptr
  go_enter Tryz.func147, Tryz.ntmps147
  go_wp2_with fail
  refine Calls.mono WC.out ?_
  rintro en w' ⟨k, rfl, rfl, hh⟩
  have K := hid (And.intro hh.out.1 (And.intro (Below.trans (U1.out.mono BS.out) hh.out.2.2) (frS_trans (frS_up U1.out) (frS_E (g := g) hh.out.2.1))))
  clear hh
  go_wp2
  go_ret
  exact ⟨rfl, hid ⟨⟨r, _, K.out.1, by rw [List.map_append]⟩, K.out.2.1, K.out.2.2⟩⟩
theorem dropMiss_calls (w : World) (base g mp : Nat) (room hits miss : Int) (V : List Vis) (p : Int) (h : Hid (CacheM w base g mp room hits miss V)) (hwf : Hid ((Lit.int .i64 p).wf = true)) (hno : Hid (p ∉ V.map (·.1))) :
    Calls Tryz.prog 147 #[ptr g, .int .i64 p] w fun en w' => en = .returned (.int .i64 5) ∧ Up w w' := by
  have u1 : Up w (w.alloc (.cells #[.pointer (some ⟨g, 0, none⟩)] 77)) := (Below.refl _ _).alloc (Nat.le_refl _) _
  obtain ⟨r, es, h1, rfl⟩ := h.out.up u1
  rw [vis_page] at hno
  have H1 := hid h1
  clear h1
  unfold ptr
  go_enter Tryz.func147, Tryz.ntmps147
  go_wp2_with fail
  refine (withMiss_calls _ base g room mp r hits miss es p _ H1 hwf hno).mono ?_
  rintro en w' ⟨rfl, rfl⟩
  go_wp2
  go_ret
  exact ⟨rfl, u1⟩

end Go.Proofs.YtbcghggkfnagoaaGreatDoor

namespace Go.Proofs.YtbcghggkfnagoaaGreatDoor
open Go Go.RowKit Hach

section
variable {w : World} {base g mp r : Nat} {room hits miss : Int} {es l1 l2 : List Ent} {x : Ent}
theorem CacheB.c3 (h : CacheB w g room mp r hits miss) : w.cell? ⟨g, 3, none⟩ = some (.int .i64 hits) := by unfold World.cell?; rw [show (⟨g, 3, none⟩ : Addr).block = g from rfl, h]; rfl
theorem CacheB.c4 (h : CacheB w g room mp r hits miss) : w.cell? ⟨g, 4, none⟩ = some (.int .i64 miss) := by unfold World.cell?; rw [show (⟨g, 4, none⟩ : Addr).block = g from rfl, h]; rfl
theorem CacheB.free (h : CacheB w g room mp r hits miss) (i : Nat) : w.frozen? ⟨g, i, none⟩ = false := by unfold World.frozen?; rw [show (⟨g, i, none⟩ : Addr).block = g from rfl, h]; simp
end

theorem getMissW_calls (w : World) (base g mp : Nat) (room hits miss : Int) (V : List Vis) (p : Int) (h : Hid (CacheM w base g mp room hits miss V)) (hwf : Hid ((Lit.int .i64 p).wf = true)) (hno : Hid (p ∉ V.map (·.1))) (miss1 : Int) (hm : IntKind.i64.wrap (miss + 1) = miss1) :
    Calls Tryz.prog 156 #[ptr g, .int .i64 p] w (StepM w base g mp room hits miss1 V (.tuple #[.slice none 0 0, .bool false])) := by
  obtain ⟨r, es, h1, rfl⟩ := h.out
  rw [vis_page] at hno
  have c1 := h1.own.c1
  have c2 := h1.own.c2
  have c4 := h1.own.c4
  have fg := h1.own.free 4
  have hlook := h1.lookMiss hwf.out hno.out
  have CA1 := hid (CacheAt.count h1 4 miss1 hits miss1 rfl)
  have B1 := hid (show Below base w (w.setCell ⟨g, 4, none⟩ (.int .i64 miss1)) from (Below.refl base w).setCell h1.lows.1 _)
  have F1 := hid (show Fr (CacheS w g mp) w (w.setCell ⟨g, 4, none⟩ (.int .i64 miss1)) from (Fr.refl _ w).setCell (p := ⟨g, 4, none⟩) (fun _ => .inl rfl) _)
  clear h1
  unfold ptr at c2 ⊢
  go_enter Tryz.func156, Tryz.ntmps156
  go_wp2_with (go_at_call 158; refine (made_calls _ g r c2).mono ?_; rintro e w' ⟨rfl, rfl⟩)
  go_ret2
  exact ⟨rfl, hid ⟨⟨r, es, CA1.out, rfl⟩, B1.out, F1.out⟩⟩
theorem getHitMW_calls (w : World) (base g mp : Nat) (room hits miss : Int) (V1 V2 : List Vis) (v : Vis) (h : Hid (CacheM w base g mp room hits miss (V1 ++ v :: V2))) (hits1 : Int) (hh : IntKind.i64.wrap (hits + 1) = hits1) :
    Calls Tryz.prog 156 #[ptr g, .int .i64 v.1] w fun en w' => ∃ A c, en = .returned (.tuple #[.slice A 512 c, .bool true]) ∧ Hid (w'.ownsRow 0 5 1 (.slice A 512 c) 512 (v.2.1.map byteCell) ∧ CacheM w' base g mp room hits1 miss ((V1 ++ V2) ++ [v]) ∧ Below base w w' ∧ Fr (CacheS w g mp) w w') := by
  obtain ⟨r, l1, x, l2, h1, rfl, rfl, rfl⟩ := h.out.split
  refine (getHitW_calls w base g room mp r hits miss l1 l2 x (hid h1) hits1 hh).mono ?_
  rintro en w' ⟨A, c, rfl, hh⟩
  exact ⟨A, c, rfl, hid ⟨hh.out.2.2.2.2, ⟨r, _, hh.out.2.1, by simp only [List.map_append, List.map_cons, List.map_nil]⟩, hh.out.2.2.1, frS_G hh.out.2.2.2.1⟩⟩
end Go.Proofs.YtbcghggkfnagoaaGreatDoor

namespace Go.Proofs.YtbcghggkfnagoaaGreatDoor
open Go Go.RowKit Hach

section
variable {w w' : World} {base g mp r : Nat} {room hits miss : Int} {es : List Ent} {x : Ent}
theorem CacheOff.up (h : CacheOff w base g room mp r hits miss es x) (hu : Up w w') : CacheOff w' base g room mp r hits miss es x := by
  have hf := Fr.of_below hu
  refine ⟨?_, h.ring.fr hf id, h.row.up hf (fun _ _ => id), h.nodup, fun y hy => ⟨(h.ents y hy).1.fr hf id, (h.ents y hy).2.keep hf (fun i v hv _ => hf.cell hv id) (fun _ _ _ _ _ _ => id)⟩, h.map.kept hf id, h.pages, h.wf, h.lows⟩
  have := h.own
  unfold CacheB at *
  rw [← this]
  exact hu.block g (Array.getElem?_eq_some_iff.1 this).1
theorem CacheOff.data (h : CacheOff w base g room mp r hits miss es x) {A : Option Addr} {c : Nat} {D : List UInt8} (ho : w.ownsRow base 5 1 (.slice A 512 c) 512 (D.map byteCell)) :
    CacheOff (w.setCell ⟨x.blk, 1, none⟩ (.slice A 512 c)) base g room mp r hits miss es { x with data := D } ∧ Below base w (w.setCell ⟨x.blk, 1, none⟩ (.slice A 512 c)) ∧ Fr (fun k => EntB w k) w (w.setCell ⟨x.blk, 1, none⟩ (.slice A 512 c)) := by
  have hx : x ∈ es ++ [x] := by simp
  have ex := (h.ents x hx).1
  have hf : Fr (fun k => EntB w k) w (w.setCell ⟨x.blk, 1, none⟩ (.slice A 512 c)) := (Fr.refl _ w).setCell (p := ⟨x.blk, 1, none⟩) (fun _ => ex) _
  have low : base ≤ x.blk := h.lows.2.2.2 x hx
  have e1 : (es ++ [{ x with data := D }]).map Ent.blk = (es ++ [x]).map Ent.blk := by simp
  have e2 : (es ++ [{ x with data := D }]).map Ent.page = (es ++ [x]).map Ent.page := by simp
  have e3 : (es ++ [{ x with data := D }]).map key = (es ++ [x]).map key := by simp [key]
  have hne : ∀ y ∈ es, y.blk ≠ x.blk := by
    intro y hy e
    have hnd := h.nodup
    rw [List.map_append, List.nodup_cons, List.nodup_append] at hnd
    exact hnd.2.2.2 _ (List.mem_map.2 ⟨y, hy, rfl⟩) x.blk (by simp) e
  refine ⟨⟨?_, h.ring.set _ _ _, h.row.keep (fun b hb v' hv => set_far hv (fun e => by cases e.2)) (fun b hb v' hv => set_far hv (fun e => by cases e.2)), by rw [e1]; exact h.nodup, ?_, by rw [e3]; exact h.map.kept hf (fun e => h.map.ne e rfl), by rw [e2]; exact h.pages, ?_, ⟨h.lows.1, h.lows.2.1, h.lows.2.2.1, ?_⟩⟩, (Below.refl base w).setCell low _, hf⟩
  · have := h.own
    unfold CacheB at *
    rw [← this]
    exact hf.block g (Array.getElem?_eq_some_iff.1 this).1 (fun e => h.own.ne e rfl)
  · intro y hy
    rcases List.mem_append.1 hy with hy | hy
    · exact ⟨(h.ents y (by simp [hy])).1.set _ _ _, (h.ents y (by simp [hy])).2.keep hf (fun j u hu _ => set_far hu (fun e => hne y hy e.1.symm)) (fun n u xs ho k hk e => row_ne ho e hk)⟩
    · rw [List.mem_singleton.1 hy]
      obtain ⟨_, h0, ⟨A0, c0, h1, _⟩, h2, h3⟩ := h.ents x hx
      exact ⟨ex.set _ _ _, set_far h0 (fun e => by cases e.2), ⟨A, c, set_near h1, hf.own ho (fun k hk e => row_ne ho e hk)⟩, set_far h2 (fun e => by cases e.2), set_far h3 (fun e => by cases e.2)⟩
  · intro y hy
    rcases List.mem_append.1 hy with hy | hy
    · exact h.wf y (by simp [hy])
    · rw [List.mem_singleton.1 hy]; exact h.wf x hx
  · intro y hy
    rcases List.mem_append.1 hy with hy | hy
    · exact h.lows.2.2.2 y (by simp [hy])
    · rw [List.mem_singleton.1 hy]; exact low
theorem frE_ent {w1 : World} (h : Fr (fun k => EntB w k) w w1) : Fr (fun k => k = mp ∨ EntB w k) w w1 := h.mono (fun _ h => .inr h)
theorem set_keep {w : World} {a b i : Nat} {u v : Value} (h : w.heap[b]? = some (.cells #[v] a (0, 0))) (p q : Nat) (hp : EntB w p) : (w.setCell ⟨p, q, none⟩ u).heap[b]? = some (.cells #[v] a (0, 0)) := by
  rw [Below.heap_setCell _ _ _ _ (fun e => by subst e; obtain ⟨cs, h1, h2⟩ := hp; rw [h] at h1; injection h1 with h1; injection h1 with h1 _ _; subst h1; simp at h2)]
  exact h
end

set_option maxRecDepth 100000 in
set_option maxHeartbeats 2000000 in
theorem putOld_calls (w : World) (base g : Nat) (room : Int) (mp r : Nat) (hits miss : Int) (l1 l2 : List Ent) (x : Ent) (A : Option Addr) (c : Nat) (D : List UInt8) (h : Hid (CacheAt w base g room mp r hits miss (l1 ++ x :: l2)))
    (hp : 1 ≤ x.page) (hD : Hid (D.length = 512)) (hb : Hid (Bytes w A D)) :
    Calls Tryz.prog 148 #[ptr g, .int .i64 x.page, .slice A 512 c] w fun en w' => en = .returned (.int .i64 0) ∧ Hid (CacheAt w' base g room mp r hits miss (evict room x.blk [] ((l1 ++ l2) ++ [{ x with data := D }])) ∧ Below base w w' ∧ Fr (fun k => k = mp ∨ EntB w k) w w') := by
  have c2 := h.out.own.c2
  have p1 : ¬ x.page < 1 := by omega
  have u0 : Up w (w.alloc (.cells #[.pointer (some ⟨g, 0, none⟩)] 77)) := (Below.refl _ _).alloc (Nat.le_refl _) _
  have L0 := (h.out.up u0).lookHit
  have M0 := u0.c h.out.own.c1
  unfold ptr at c2 L0 M0 ⊢
  clear hp
  go_enter Tryz.func148, Tryz.ntmps148
  go_wp2_with (go_at_call 158; refine (made_calls _ g r (u0.c c2)).mono ?_; rintro e w' ⟨rfl, rfl⟩)
  have U3 : Up w ((w.alloc (.cells #[.pointer (some ⟨g, 0, none⟩)] 77)).alloc (.cells #[.pointer (some ⟨x.blk, 0, none⟩)] 190)) := u0.t (show Up _ _ from (Below.refl _ _).alloc (Nat.le_refl _) _)
  have k7 : ((w.alloc (.cells #[.pointer (some ⟨g, 0, none⟩)] 77)).alloc (.cells #[.pointer (some ⟨x.blk, 0, none⟩)] 190)).cell? ⟨w.heap.size + 1, 0, none⟩ = some (.pointer (some ⟨x.blk, 0, none⟩)) := by go_simp
  have kb3 : ((w.alloc (.cells #[.pointer (some ⟨g, 0, none⟩)] 77)).alloc (.cells #[.pointer (some ⟨x.blk, 0, none⟩)] 190)).heap[w.heap.size]? = some (.cells #[.pointer (some ⟨g, 0, none⟩)] 77 (0, 0)) := by
    rw [Below.heap_alloc _ _ _ (by simp)]; exact heap_alloc_new w _
  have kb7 : ((w.alloc (.cells #[.pointer (some ⟨g, 0, none⟩)] 77)).alloc (.cells #[.pointer (some ⟨x.blk, 0, none⟩)] 190)).heap[w.heap.size + 1]? = some (.cells #[.pointer (some ⟨x.blk, 0, none⟩)] 190 (0, 0)) := by
    have := heap_alloc_new (w.alloc (.cells #[.pointer (some ⟨g, 0, none⟩)] 77)) (.cells #[.pointer (some ⟨x.blk, 0, none⟩)] 190)
    simpa using this
  have bs := hid (show base ≤ w.heap.size from Nat.le_of_lt (Nat.lt_of_le_of_lt h.out.lows.2.1 h.out.ring.lt))
  have HB := hid (And.intro kb3 kb7)
  have HU3 := hid U3
  clear u0 L0 M0 c2 kb3 kb7 U3
  generalize (w.alloc (.cells #[.pointer (some ⟨g, 0, none⟩)] 77)).alloc (.cells #[.pointer (some ⟨x.blk, 0, none⟩)] 190) = W3 at *
  have CA3 := h.out.up HU3.out
  obtain ⟨p, q, ⟨ep, eq, pe, qe, e4, e5, p4, q5⟩, hoff⟩ := CA3.off
  have HOFF := hid hoff
  clear hoff CA3
  refine (out_calls W3 x.blk p q _ _ e4 e5 p4 ep.free q5 eq.free pe qe).mono ?_
  rintro e w1 ⟨rfl, hw1⟩
  obtain ⟨co1, bb1, ff1⟩ := HOFF.out w1 hw1
  have CO := hid co1
  have HB1 : Hid (w1.heap[w.heap.size]? = some (.cells #[.pointer (some ⟨g, 0, none⟩)] 77 (0, 0)) ∧ w1.heap[w.heap.size + 1]? = some (.cells #[.pointer (some ⟨x.blk, 0, none⟩)] 190 (0, 0))) :=
    hid ⟨(ff1.block _ (Array.getElem?_eq_some_iff.1 HB.out.1).1 (not_ent HB.out.1)).trans HB.out.1, (ff1.block _ (Array.getElem?_eq_some_iff.1 HB.out.2).1 (not_ent HB.out.2)).trans HB.out.2⟩
  have BF := hid (And.intro ((Below.mono HU3.out bs.out).trans bb1) (frE_trans (frE_up HU3.out) (frE_ent (mp := mp) ff1)))
  clear hw1 HOFF bb1 co1 ff1 e4 e5 p4 q5 ep eq pe qe k7 HB
  have hba : Hid (Bytes w1.drew A D) := by
    refine hid (show Bytes w1 A D from ?_)
    obtain ⟨ba, offa, rfl, hcell⟩ := hb.out 511 (by rw [hD.out]; decide)
    refine Rd.bytes (hb.out.rd.fr BF.out.2 (fun b off e => ?_))
    injection e with e; injection e with e _ _
    subst e
    rintro (e | e)
    · subst e
      obtain ⟨D9, ⟨es9, clock9, h9, _⟩, _⟩ := h.out.map
      unfold World.cell? at hcell
      rw [show (⟨ba, offa + 511, none⟩ : Addr).block = ba from rfl, h9] at hcell
      cases hcell
    · obtain ⟨cs9, h9, h8⟩ := e
      unfold World.cell? at hcell
      rw [show (⟨ba, offa + 511, none⟩ : Addr).block = ba from rfl, h9] at hcell
      have : cs9[offa + 511]? = none := Array.getElem?_eq_none (by omega)
      rw [show (⟨ba, offa + 511, none⟩ : Addr).off = offa + 511 from rfl] at hcell
      simp [this] at hcell
  have k71 := (cell_one HB1.out.2).1
  have k71d : w1.drew.cell? ⟨w.heap.size + 1, 0, none⟩ = some (.pointer (some ⟨x.blk, 0, none⟩)) := k71
  obtain ⟨v1, hv1⟩ := (CO.out.ents x (by simp)).1.cell (i := 1) (by decide)
  have EE1 := hid (CO.out.ents x (by simp)).1
  go_wp2
  go_region_held3 (fun w' => w'.cell? ⟨w.heap.size + 1, 0, none⟩ = some (.pointer (some ⟨x.blk, 0, none⟩)))
    (first | exact k71d | exact q7 | exact q7b)
    (first
      | (go_at_call 117; refine (clone_callsX w1.drew _ D c 512 hD (hid (by decide)) hba).mono ?_; rintro en w5 ⟨A5, c5, rfl, o5, u5⟩; have q7 := u5.c k71d; have hv15 : w5.cell? ⟨x.blk, 1, none⟩ = some v1 := u5.c hv1; have fe5 : w5.frozen? ⟨x.blk, 1, none⟩ = false := (EntB.fr (w := w1.drew) EE1.out.drew (Fr.of_below u5) id).free; have hne9 : x.blk ≠ w.heap.size + 1 := fun e9 => not_ent HB1.out.2 (e9 ▸ EE1.out); have q7b : (w5.setCell ⟨x.blk, 1, none⟩ (.slice A5 512 c5)).cell? ⟨w.heap.size + 1, 0, none⟩ = some (.pointer (some ⟨x.blk, 0, none⟩)) := set_far q7 (fun e9 => hne9 e9.1)))
  have CO5 := CO.out.up (show Up w1 w5 from (Up.drew w1).t u5)
  obtain ⟨co6, bb6, ff6⟩ := CO5.data (own_base o5.out (show base ≤ w1.drew.heap.size from Nat.le_trans bs.out BF.out.1.size))
  have HB5 := And.intro ((u5.block _ (Array.getElem?_eq_some_iff.1 HB1.out.1).1).trans HB1.out.1) ((u5.block _ (Array.getElem?_eq_some_iff.1 HB1.out.2).1).trans HB1.out.2)
  have ex5 := (CO5.ents x (by simp)).1
  have HB6 := hid (And.intro (set_keep (i := 0) (u := .slice A5 512 c5) HB5.1 x.blk 1 ex5) (set_keep (i := 0) (u := .slice A5 512 c5) HB5.2 x.blk 1 ex5))
  have CO6 := hid co6
  have BF6 := hid (And.intro ((BF.out.1.trans ((show Up w1 w5 from (Up.drew w1).t u5).mono (Nat.le_trans bs.out BF.out.1.size))).trans bb6) (frE_trans (frE_trans BF.out.2 (frE_up (show Up w1 w5 from (Up.drew w1).t u5))) (frE_ent (mp := mp) ff6)))
  rename_i K1 h1 hHeld
  clear hHeld
  refine h1 _ _ ?_
  clear h1 K1 CO5 co6 bb6 ff6 HB5 ex5 HB1 BF CO hba k71 k71d hv1 EE1 q7 hv15 fe5 hne9 q7b o5 u5
  generalize w5.setCell ⟨x.blk, 1, none⟩ (.slice A5 512 c5) = W6 at *
  obtain ⟨pl, ⟨epl, ex, xg, xr, xp, pg, rg, r5, g2, p4⟩, hon⟩ := CO6.out.on
  have er := CO6.out.ring
  obtain ⟨u4, e4⟩ := ex.cell (i := 4) (by decide)
  obtain ⟨u5, e5⟩ := ex.cell (i := 5) (by decide)
  have HON := hid hon
  clear hon
  have kk3 := (cell_one HB6.out.1).1
  have kk7 := (cell_one HB6.out.2).1
  go_wp2_with fail
  refine (last_calls W6 g x.blk pl r _ _ _ g2 r5 er.free e4 ex.free e5 ex.free p4 epl.free xg xr xp pg rg).mono ?_
  rintro en W7 ⟨rfl, hW7⟩
  obtain ⟨ca7, b7, ff7⟩ := HON.out W7 hW7
  have HB7 : Hid (W7.heap[w.heap.size]? = some (.cells #[.pointer (some ⟨g, 0, none⟩)] 77 (0, 0)) ∧ W7.heap[w.heap.size + 1]? = some (.cells #[.pointer (some ⟨x.blk, 0, none⟩)] 190 (0, 0))) :=
    hid ⟨(ff7.block _ (Array.getElem?_eq_some_iff.1 HB6.out.1).1 (not_ent HB6.out.1)).trans HB6.out.1, (ff7.block _ (Array.getElem?_eq_some_iff.1 HB6.out.2).1 (not_ent HB6.out.2)).trans HB6.out.2⟩
  have CA7 := hid ca7
  have BF7 := hid (And.intro (BF6.out.1.trans b7) (frE_trans BF6.out.2 (frE_ent (mp := mp) ff7)))
  clear hW7 HON ca7 b7 ff7 HB6 BF6 CO6 kk3 kk7 e4 e5 epl ex xg xr xp pg rg r5 g2 p4 er
  have l3 := (cell_one HB7.out.1).1
  have l7 := (cell_one HB7.out.2).1
  have L3 := hid l3
  have L7 := hid l7
  go_wp2_with fail
  refine (rowPut_calls W7 base g room mp r hits miss ((l1 ++ l2) ++ [{ x with data := D }]) w.heap.size (w.heap.size + 1) x.blk CA7 L3 L7 (hid ⟨{ x with data := D }, by simp, rfl⟩) (hid (not_ent HB7.out.1)) (hid (not_mp HB7.out.1 CA7.out.map)) (hid (not_ent HB7.out.2)) (hid (not_mp HB7.out.2 CA7.out.map))).mono ?_
  rintro en W8 ⟨rfl, hh⟩
  go_wp2
  go_ret
  exact ⟨rfl, hid ⟨hh.out.1, BF7.out.1.trans hh.out.2.2, frE_trans BF7.out.2 hh.out.2.1⟩⟩

/-! ### Put, as it is told -/
theorem putNewM_calls (w : World) (base g mp : Nat) (room hits miss : Int) (V : List Vis) (p : Int) (A : Option Addr) (c : Nat) (D : List UInt8) (h : Hid (CacheM w base g mp room hits miss V))
    (hp : 1 ≤ p) (hwf : Hid ((Lit.int .i64 p).wf = true)) (hno : Hid (p ∉ V.map (·.1))) (hD : Hid (D.length = 512)) (hb : Hid (Bytes w A D)) (hl : Hid (V.length < 1000000)) :
    Calls Tryz.prog 148 #[ptr g, .int .i64 p, .slice A 512 c] w (StepM w base g mp room hits miss (evictV room p [] (V ++ [(p, D, 0, false)])) (.int .i64 0)) := by
  obtain ⟨r, es, h1, rfl⟩ := h.out
  have hno' : p ∉ es.map Ent.page := by rw [← vis_page]; exact hno.out
  refine (putNew_calls w base g room mp r hits miss es p A c D (hid h1) hp hwf (hid hno') hD hb (hid (by have := hl.out; rwa [List.length_map] at this))).mono ?_
  rintro en w' ⟨rfl, hh⟩
  obtain ⟨e, he, ca, bl, fr⟩ := hh.out
  refine ⟨rfl, hid ⟨⟨r, _, ca, ?_⟩, bl, frS_E fr⟩⟩
  rw [evict_vis room p e [] _ ?_, List.map_append]
  · rfl
  · intro y hy
    rcases List.mem_append.1 hy with hy | hy
    · constructor
      · intro e9
        have := (h1.ents y hy).1.lt
        omega
      · intro e9
        exact absurd (by rw [← e9]; exact List.mem_map.2 ⟨y, hy, rfl⟩) hno'
    · rw [List.mem_singleton.1 hy]
      exact ⟨fun _ => rfl, fun _ => rfl⟩
theorem putOldM_calls (w : World) (base g mp : Nat) (room hits miss : Int) (V1 V2 : List Vis) (v : Vis) (A : Option Addr) (c : Nat) (D : List UInt8) (h : Hid (CacheM w base g mp room hits miss (V1 ++ v :: V2)))
    (hp : 1 ≤ v.1) (hD : Hid (D.length = 512)) (hb : Hid (Bytes w A D)) :
    Calls Tryz.prog 148 #[ptr g, .int .i64 v.1, .slice A 512 c] w (StepM w base g mp room hits miss (evictV room v.1 [] ((V1 ++ V2) ++ [(v.1, D, v.2.2.1, v.2.2.2)])) (.int .i64 0)) := by
  obtain ⟨r, l1, x, l2, h1, rfl, rfl, rfl⟩ := h.out.split
  refine (putOld_calls w base g room mp r hits miss l1 l2 x A c D (hid h1) hp hD hb).mono ?_
  rintro en w' ⟨rfl, hh⟩
  obtain ⟨ca, bl, fr⟩ := hh.out
  refine ⟨rfl, hid ⟨⟨r, _, ca, ?_⟩, bl, frS_E fr⟩⟩
  rw [evict_vis room (vis x).1 x.blk [] _ ?_]
  · simp only [List.map_append, List.map_cons, List.map_nil]; rfl
  · have hnd := h1.nodup
    have hpg := h1.pages
    rw [map_mid, List.nodup_cons, List.nodup_append] at hnd
    rw [map_mid, List.nodup_append] at hpg
    obtain ⟨_, n1, n2, n3⟩ := hnd
    obtain ⟨m1, m2, m3⟩ := hpg
    rw [List.nodup_cons] at n2 m2
    intro y hy
    rcases List.mem_append.1 hy with hy | hy
    · constructor
      · intro e9
        exfalso
        rcases List.mem_append.1 hy with hy | hy
        · exact n3 _ (List.mem_map.2 ⟨y, hy, rfl⟩) _ List.mem_cons_self e9
        · exact n2.1 (List.mem_map.2 ⟨y, hy, e9⟩)
      · intro e9
        exfalso
        rcases List.mem_append.1 hy with hy | hy
        · exact m3 _ (List.mem_map.2 ⟨y, hy, rfl⟩) _ List.mem_cons_self e9
        · exact m2.1 (List.mem_map.2 ⟨y, hy, e9⟩)
    · rw [List.mem_singleton.1 hy]
      exact ⟨fun _ => rfl, fun _ => rfl⟩
end Go.Proofs.YtbcghggkfnagoaaGreatDoor
