/- THE WALKS of with, Pin, Free, Mark, Drop, Pins. -/
import Derived.Test.YtlikggeceeennaaCac22
set_option linter.unusedVariables false
set_option linter.unusedSimpArgs false
namespace Go.Proofs.Ytlikggeceeennaa
open Go Go.RowKit Hach

section
variable {w : World} {base g mp r : Nat} {room hits miss : Int} {es l1 l2 : List Ent} {x : Ent}
theorem CacheAt.lookHit (h : CacheAt w base g room mp r hits miss (l1 ++ x :: l2)) : (Instr.lookup 64 (.map (some mp)) (.int .i64 x.page) false).run Try.prog w = .ok (ptr x.blk) w := by
  have hlook := h.map.look (h.wf x (by simp))
  have hk : ((l1 ++ x :: l2).map key).lookup x.page = some x.blk := by
    rw [map_mid]
    have := h.pages
    rw [map_mid] at this
    rw [show key x = (x.page, x.blk) from rfl, lookup_mid (lookup_none ?_), if_pos rfl]
    rw [List.map_append, keys_pages, keys_pages]
    intro hm
    obtain ⟨n1, n2, n3⟩ := List.nodup_append.1 this
    rcases List.mem_append.1 hm with hm | hm
    · exact n3 _ hm _ List.mem_cons_self rfl
    · exact (List.nodup_cons.1 n2).1 hm
  rw [hk] at hlook
  exact hlook
theorem CacheAt.lookMiss {p : Int} (h : CacheAt w base g room mp r hits miss es) (hp : (Lit.int .i64 p).wf = true) (hno : p ∉ es.map Ent.page) : (Instr.lookup 64 (.map (some mp)) (.int .i64 p) false).run Try.prog w = .ok (.pointer none) w := by
  have := h.map.look hp
  rw [lookup_none (by rw [keys_pages]; exact hno)] at this
  exact this
end

theorem withMiss_calls (w : World) (base g : Nat) (room : Int) (mp r : Nat) (hits miss : Int) (es : List Ent) (p : Int) (f : Value) (h : Hid (CacheAt w base g room mp r hits miss es)) (hwf : Hid ((Lit.int .i64 p).wf = true)) (hno : Hid (p ∉ es.map Ent.page)) :
    Calls Try.prog 81 #[ptr g, .int .i64 p, f] w fun en w' => en = .returned (.int .i64 5) ∧ w = w' := by
  have c2 := h.out.own.c2
  have c1 := h.out.own.c1
  have hlook := h.out.lookMiss hwf.out hno.out
  unfold ptr at *
  go_enter Try.func81, Try.ntmps81
  go_wp2_with (go_at_call 60; refine (made_calls _ g r c2).mono ?_; rintro e w' ⟨rfl, rfl⟩)
  go_ret
  exact ⟨rfl, rfl⟩
def WithRet (Q : Int → World → Prop) (en : Ending) (w' : World) : Prop := ∃ k, en = .returned (.int .i64 k) ∧ Q k w'
theorem withHit_calls (n : Nat) (caps : Array Value) (w : World) (base g : Nat) (room : Int) (mp r : Nat) (hits miss : Int) (l1 l2 : List Ent) (x : Ent) (h : Hid (CacheAt w base g room mp r hits miss (l1 ++ x :: l2)))
    (hn : ∀ (args : Array Value) (w : World), (callFunc n args).run Try.prog w = .ok (.enter n args) w) (Q : Int → World → Prop) (hf : Hid (Calls Try.prog n (#[ptr x.blk] ++ caps) w (WithRet Q))) :
    Calls Try.prog 81 #[ptr g, .int .i64 x.page, .func (.func n) #[] caps] w (WithRet Q) := by
  have c2 := h.out.own.c2
  have c1 := h.out.own.c1
  have hlook := h.out.lookHit
  unfold ptr at c2 hlook ⊢
  go_enter Try.func81, Try.ntmps81
  go_wp2_with (go_at_call 60; refine (made_calls _ g r c2).mono ?_; rintro e w' ⟨rfl, rfl⟩)
  refine Calls.mono hf.out ?_
  rintro en w' ⟨k, rfl, hq⟩
  go_wp2
  go_ret
  exact ⟨k, rfl, hq⟩

theorem entersPin (args : Array Value) (w : World) : (callFunc 95 args).run Try.prog w = .ok (.enter 95 args) w := by go_simp
theorem entersFree (args : Array Value) (w : World) : (callFunc 96 args).run Try.prog w = .ok (.enter 96 args) w := by go_simp
theorem entersMark (args : Array Value) (w : World) : (callFunc 97 args).run Try.prog w = .ok (.enter 97 args) w := by go_simp
theorem entersDrop (args : Array Value) (w : World) : (callFunc 98 args).run Try.prog w = .ok (.enter 98 args) w := by go_simp
theorem entersPins (args : Array Value) (w : World) : (callFunc 82 args).run Try.prog w = .ok (.enter 82 args) w := by go_simp

section
variable {w : World} {base g mp : Nat} {room hits miss : Int} {V V1 V2 : List Vis} {v : Vis}
theorem CacheM.split (h : CacheM w base g mp room hits miss (V1 ++ v :: V2)) : ∃ r l1 x l2, CacheAt w base g room mp r hits miss (l1 ++ x :: l2) ∧ l1.map vis = V1 ∧ vis x = v ∧ l2.map vis = V2 := by
  obtain ⟨r, es, h1, h2⟩ := h
  obtain ⟨l1, x, l2, rfl, k1, k2, k3⟩ := map_split h2
  exact ⟨r, l1, x, l2, h1, k1, k2, k3⟩
end

theorem not_ent {w : World} {b : Nat} {v : Value} {t : TypeId} (h : w.heap[b]? = some (.cells #[v] t (0, 0))) : ¬ EntB w b := by
  rintro ⟨cs, h1, h2⟩
  rw [h] at h1
  injection h1 with h1; injection h1 with h1 _ _
  subst h1
  simp at h2
theorem not_mp {w : World} {b mp : Nat} {v : Value} {t : TypeId} {L : List (Int × Nat)} (h : w.heap[b]? = some (.cells #[v] t (0, 0))) (hm : MapIs w mp L) : b ≠ mp := by
  rintro rfl
  obtain ⟨D, ⟨es, clock, h2, _⟩, _⟩ := hm
  rw [h] at h2; cases h2
theorem not_g {w : World} {b g mp r : Nat} {room hits miss : Int} {v : Value} {t : TypeId} (h : w.heap[b]? = some (.cells #[v] t (0, 0))) (hm : CacheB w g room mp r hits miss) : b ≠ g := by
  rintro rfl
  unfold CacheB at hm
  rw [h] at hm
  injection hm with hm; injection hm with hm _ _
  have := congrArg Array.size hm
  simp at this

/-! ### Pin -/
theorem pin1_calls (w : World) (base g : Nat) (room : Int) (mp r : Nat) (hits miss : Int) (l1 l2 : List Ent) (x : Ent) (h : Hid (CacheAt w base g room mp r hits miss (l1 ++ x :: l2))) (hw : IntKind.i64.wrap (x.pins + 1) = x.pins + 1) :
    Calls Try.prog 95 #[ptr x.blk] w (WithRet fun k w' => k = 0 ∧ w' = w.setCell ⟨x.blk, 2, none⟩ (.int .i64 (x.pins + 1))) := by
  have h2 := (h.out.ents x (by simp)).2.2.2.1
  have f2 : w.frozen? ⟨x.blk, 2, none⟩ = false := (h.out.ents x (by simp)).1.free
  unfold ptr
  go_enter Try.func95, Try.ntmps95
  go_wp2
  go_ret
  exact ⟨0, rfl, rfl, rfl⟩
theorem pinHit_calls (w : World) (base g mp : Nat) (room hits miss : Int) (V1 V2 : List Vis) (v : Vis) (h : Hid (CacheM w base g mp room hits miss (V1 ++ v :: V2))) (hw : Hid (IntKind.i64.wrap (v.2.2.1 + 1) = v.2.2.1 + 1)) :
    Calls Try.prog 37 #[ptr g, .int .i64 v.1] w (StepM w base g mp room hits miss (V1 ++ (v.1, v.2.1, v.2.2.1 + 1, v.2.2.2) :: V2) (.int .i64 0)) := by
  obtain ⟨r, l1, x, l2, h1, rfl, rfl, rfl⟩ := h.out.split
  have H1 := hid h1
  have WC := hid (withHit_calls 95 #[] w base g room mp r hits miss l1 l2 x H1 entersPin _ (hid (pin1_calls w base g room mp r hits miss l1 l2 x H1 hw.out)))
  clear h1
  show Calls _ _ #[ptr g, .int .i64 x.page] w _
  go_enter Try.func37, Try.ntmps37
  go_wp2_with fail
  refine Calls.mono WC.out ?_
  rintro en w' ⟨k, rfl, rfl, hw'⟩
  obtain ⟨k1, k2, k3⟩ := H1.out.pin (x.pins + 1)
  rw [← hw'] at k1 k2 k3
  have K := hid (And.intro k1 (And.intro k2 (frS_ent (g := g) (mp := mp) k3)))
  clear k1 k2 k3 hw'
  go_wp2
  go_ret
  exact ⟨rfl, hid ⟨⟨r, _, K.out.1, by rw [List.map_append, List.map_cons]; rfl⟩, K.out.2.1, K.out.2.2⟩⟩
theorem pinMiss_calls (w : World) (base g mp : Nat) (room hits miss : Int) (V : List Vis) (p : Int) (h : Hid (CacheM w base g mp room hits miss V)) (hwf : Hid ((Lit.int .i64 p).wf = true)) (hno : Hid (p ∉ V.map (·.1))) :
    Calls Try.prog 37 #[ptr g, .int .i64 p] w fun en w' => en = .returned (.int .i64 5) ∧ Up w w' := by
  obtain ⟨r, es, h1, rfl⟩ := h.out
  rw [vis_page] at hno
  have H1 := hid h1
  clear h1
  go_enter Try.func37, Try.ntmps37
  go_wp2_with fail
  refine (withMiss_calls w base g room mp r hits miss es p _ H1 hwf hno).mono ?_
  rintro en w' ⟨rfl, rfl⟩
  go_wp2
  go_ret
  exact ⟨rfl, Up.refl _⟩

/-! ### Free -/
theorem free1_calls (w : World) (base g : Nat) (room : Int) (mp r : Nat) (hits miss : Int) (l1 l2 : List Ent) (x : Ent) (h : Hid (CacheAt w base g room mp r hits miss (l1 ++ x :: l2))) (hw : IntKind.i64.wrap (x.pins - 1) = x.pins - 1) (hz : (x.pins == 0) = false) :
    Calls Try.prog 96 #[ptr x.blk] w (WithRet fun k w' => k = 0 ∧ w' = w.setCell ⟨x.blk, 2, none⟩ (.int .i64 (x.pins - 1))) := by
  have h2 := (h.out.ents x (by simp)).2.2.2.1
  have f2 : w.frozen? ⟨x.blk, 2, none⟩ = false := (h.out.ents x (by simp)).1.free
  unfold ptr
  go_enter Try.func96, Try.ntmps96
  go_wp2
  go_ret
  exact ⟨0, rfl, rfl, rfl⟩
theorem free0_calls (w : World) (base g : Nat) (room : Int) (mp r : Nat) (hits miss : Int) (l1 l2 : List Ent) (x : Ent) (h : Hid (CacheAt w base g room mp r hits miss (l1 ++ x :: l2))) (hz : (x.pins == 0) = true) :
    Calls Try.prog 96 #[ptr x.blk] w (WithRet fun k w' => k = 6 ∧ w = w') := by
  have h2 := (h.out.ents x (by simp)).2.2.2.1
  unfold ptr
  go_enter Try.func96, Try.ntmps96
  go_wp2
  go_ret
  exact ⟨6, rfl, rfl, rfl⟩
theorem freeHit_calls (w : World) (base g mp : Nat) (room hits miss : Int) (V1 V2 : List Vis) (v : Vis) (h : Hid (CacheM w base g mp room hits miss (V1 ++ v :: V2))) (hw : Hid (IntKind.i64.wrap (v.2.2.1 - 1) = v.2.2.1 - 1)) (hz : Hid ((v.2.2.1 == 0) = false)) :
    Calls Try.prog 38 #[ptr g, .int .i64 v.1] w (StepM w base g mp room hits miss (V1 ++ (v.1, v.2.1, v.2.2.1 - 1, v.2.2.2) :: V2) (.int .i64 0)) := by
  obtain ⟨r, l1, x, l2, h1, rfl, rfl, rfl⟩ := h.out.split
  have H1 := hid h1
  have WC := hid (withHit_calls 96 #[] w base g room mp r hits miss l1 l2 x H1 entersFree _ (hid (free1_calls w base g room mp r hits miss l1 l2 x H1 hw.out hz.out)))
  clear h1
  show Calls _ _ #[ptr g, .int .i64 x.page] w _
  go_enter Try.func38, Try.ntmps38
  go_wp2_with fail
  refine Calls.mono WC.out ?_
  rintro en w' ⟨k, rfl, rfl, hw'⟩
  obtain ⟨k1, k2, k3⟩ := H1.out.pin (x.pins - 1)
  rw [← hw'] at k1 k2 k3
  have K := hid (And.intro k1 (And.intro k2 (frS_ent (g := g) (mp := mp) k3)))
  clear k1 k2 k3 hw'
  go_wp2
  go_ret
  exact ⟨rfl, hid ⟨⟨r, _, K.out.1, by rw [List.map_append, List.map_cons]; rfl⟩, K.out.2.1, K.out.2.2⟩⟩
theorem freeNo_calls (w : World) (base g mp : Nat) (room hits miss : Int) (V1 V2 : List Vis) (v : Vis) (h : Hid (CacheM w base g mp room hits miss (V1 ++ v :: V2))) (hz : Hid ((v.2.2.1 == 0) = true)) :
    Calls Try.prog 38 #[ptr g, .int .i64 v.1] w fun en w' => en = .returned (.int .i64 6) ∧ Up w w' := by
  obtain ⟨r, l1, x, l2, h1, rfl, rfl, rfl⟩ := h.out.split
  have H1 := hid h1
  have WC := hid (withHit_calls 96 #[] w base g room mp r hits miss l1 l2 x H1 entersFree _ (hid (free0_calls w base g room mp r hits miss l1 l2 x H1 hz.out)))
  clear h1
  show Calls _ _ #[ptr g, .int .i64 x.page] w _
  go_enter Try.func38, Try.ntmps38
  go_wp2_with fail
  refine Calls.mono WC.out ?_
  rintro en w' ⟨k, rfl, rfl, rfl⟩
  go_wp2
  go_ret
  exact ⟨rfl, Up.refl _⟩
theorem freeMiss_calls (w : World) (base g mp : Nat) (room hits miss : Int) (V : List Vis) (p : Int) (h : Hid (CacheM w base g mp room hits miss V)) (hwf : Hid ((Lit.int .i64 p).wf = true)) (hno : Hid (p ∉ V.map (·.1))) :
    Calls Try.prog 38 #[ptr g, .int .i64 p] w fun en w' => en = .returned (.int .i64 5) ∧ Up w w' := by
  obtain ⟨r, es, h1, rfl⟩ := h.out
  rw [vis_page] at hno
  have H1 := hid h1
  clear h1
  go_enter Try.func38, Try.ntmps38
  go_wp2_with fail
  refine (withMiss_calls w base g room mp r hits miss es p _ H1 hwf hno).mono ?_
  rintro en w' ⟨rfl, rfl⟩
  go_wp2
  go_ret
  exact ⟨rfl, Up.refl _⟩

/-! ### Mark -/
theorem mark1_calls (w : World) (base g : Nat) (room : Int) (mp r : Nat) (hits miss : Int) (l1 l2 : List Ent) (x : Ent) (d : Bool) (b : Nat) (h : Hid (CacheAt w base g room mp r hits miss (l1 ++ x :: l2))) (hb : w.cell? ⟨b, 0, none⟩ = some (.bool d)) :
    Calls Try.prog 97 #[ptr x.blk, ptr b] w (WithRet fun k w' => k = 0 ∧ w' = w.setCell ⟨x.blk, 3, none⟩ (.bool d)) := by
  have h3 := (h.out.ents x (by simp)).2.2.2.2
  have f3 : w.frozen? ⟨x.blk, 3, none⟩ = false := (h.out.ents x (by simp)).1.free
  unfold ptr
  go_enter Try.func97, Try.ntmps97
  go_wp2
  go_ret
  exact ⟨0, rfl, rfl, rfl⟩
theorem markHit_calls (w : World) (base g mp : Nat) (room hits miss : Int) (V1 V2 : List Vis) (v : Vis) (d : Bool) (h : Hid (CacheM w base g mp room hits miss (V1 ++ v :: V2))) :
    Calls Try.prog 39 #[ptr g, .int .i64 v.1, .bool d] w (StepM w base g mp room hits miss (V1 ++ (v.1, v.2.1, v.2.2.1, d) :: V2) (.int .i64 0)) := by
  have u1 : Up w (w.alloc (.cells #[.bool d] 4)) := (Below.refl _ _).alloc (Nat.le_refl _) _
  have b1 : (w.alloc (.cells #[.bool d] 4)).cell? ⟨w.heap.size, 0, none⟩ = some (.bool d) := by go_simp
  obtain ⟨r, l1, x, l2, h1, rfl, rfl, rfl⟩ := (h.out.up u1).split
  have H1 := hid h1
  have WC := hid (withHit_calls 97 #[ptr w.heap.size] _ base g room mp r hits miss l1 l2 x H1 entersMark _ (hid (mark1_calls _ base g room mp r hits miss l1 l2 x d w.heap.size H1 b1)))
  have U1 := hid u1
  have BS := hid h.out.bs
  clear h1 b1 u1
  unfold ptr at WC
  show Calls _ _ #[ptr g, .int .i64 x.page, .bool d] w _
  go_enter Try.func39, Try.ntmps39
  go_wp2_with fail
  refine Calls.mono WC.out ?_
  rintro en w' ⟨k, rfl, rfl, hw'⟩
  obtain ⟨k1, k2, k3⟩ := H1.out.mark d
  rw [← hw'] at k1 k2 k3
  have K := hid (And.intro k1 (And.intro (Below.trans (U1.out.mono BS.out) k2) (frS_trans (frS_up U1.out) (frS_ent (g := g) (mp := mp) k3))))
  clear k1 k2 k3 hw'
  go_wp2
  go_ret
  exact ⟨rfl, hid ⟨⟨r, _, K.out.1, by rw [List.map_append, List.map_cons]; rfl⟩, K.out.2.1, K.out.2.2⟩⟩
theorem markMiss_calls (w : World) (base g mp : Nat) (room hits miss : Int) (V : List Vis) (p : Int) (d : Bool) (h : Hid (CacheM w base g mp room hits miss V)) (hwf : Hid ((Lit.int .i64 p).wf = true)) (hno : Hid (p ∉ V.map (·.1))) :
    Calls Try.prog 39 #[ptr g, .int .i64 p, .bool d] w fun en w' => en = .returned (.int .i64 5) ∧ Up w w' := by
  have u1 : Up w (w.alloc (.cells #[.bool d] 4)) := (Below.refl _ _).alloc (Nat.le_refl _) _
  obtain ⟨r, es, h1, rfl⟩ := h.out.up u1
  rw [vis_page] at hno
  have H1 := hid h1
  clear h1
  go_enter Try.func39, Try.ntmps39
  go_wp2_with fail
  refine (withMiss_calls _ base g room mp r hits miss es p _ H1 hwf hno).mono ?_
  rintro en w' ⟨rfl, rfl⟩
  go_wp2
  go_ret
  exact ⟨rfl, u1⟩

/-! ### Drop -/
theorem drop0_calls (w : World) (base g : Nat) (room : Int) (mp r : Nat) (hits miss : Int) (l1 l2 : List Ent) (x : Ent) (b : Nat) (h : Hid (CacheAt w base g room mp r hits miss (l1 ++ x :: l2))) (hz : decide (0 < x.pins) = true) :
    Calls Try.prog 98 #[ptr x.blk, ptr b] w (WithRet fun k w' => k = 6 ∧ w = w') := by
  have h2 := (h.out.ents x (by simp)).2.2.2.1
  have h3 := of_decide_eq_true hz
  unfold ptr
  go_enter Try.func98, Try.ntmps98
  go_wp2
  go_ret
  exact ⟨6, rfl, rfl, rfl⟩
theorem drop1_calls (w : World) (base g : Nat) (room : Int) (mp r : Nat) (hits miss : Int) (l1 l2 : List Ent) (x : Ent) (b : Nat) (h : Hid (CacheAt w base g room mp r hits miss (l1 ++ x :: l2))) (hb : w.cell? ⟨b, 0, none⟩ = some (ptr g)) (hz : decide (0 < x.pins) = false) :
    Calls Try.prog 98 #[ptr x.blk, ptr b] w (WithRet fun k w' => k = 0 ∧ Hid (CacheAt w' base g room mp r hits miss (l1 ++ l2) ∧ Fr (fun k => k = mp ∨ EntB w k) w w' ∧ Below base w w')) := by
  have h2 := (h.out.ents x (by simp)).2.2.2.1
  have h3 := of_decide_eq_false hz
  unfold ptr at hb ⊢
  go_enter Try.func98, Try.ntmps98
  go_wp2_with fail
  refine (gone_calls w base g room mp r hits miss l1 l2 x h).mono ?_
  rintro en w' ⟨rfl, hh⟩
  go_wp2
  go_ret
  exact ⟨0, rfl, rfl, hh⟩
theorem dropHit_calls (w : World) (base g mp : Nat) (room hits miss : Int) (V1 V2 : List Vis) (v : Vis) (h : Hid (CacheM w base g mp room hits miss (V1 ++ v :: V2))) (hz : Hid (decide (0 < v.2.2.1) = false)) :
    Calls Try.prog 40 #[ptr g, .int .i64 v.1] w (StepM w base g mp room hits miss (V1 ++ V2) (.int .i64 0)) := by
  have u1 : Up w (w.alloc (.cells #[.pointer (some ⟨g, 0, none⟩)] 26)) := (Below.refl _ _).alloc (Nat.le_refl _) _
  have b1 : (w.alloc (.cells #[.pointer (some ⟨g, 0, none⟩)] 26)).cell? ⟨w.heap.size, 0, none⟩ = some (ptr g) := by unfold ptr; go_simp
  obtain ⟨r, l1, x, l2, h1, rfl, rfl, rfl⟩ := (h.out.up u1).split
  have H1 := hid h1
  have WC := hid (withHit_calls 98 #[ptr w.heap.size] _ base g room mp r hits miss l1 l2 x H1 entersDrop _ (hid (drop1_calls _ base g room mp r hits miss l1 l2 x w.heap.size H1 b1 hz.out)))
  have U1 := hid u1
  have BS := hid h.out.bs
  clear h1 b1 u1
  unfold ptr at WC
  show Calls _ _ #[ptr g, .int .i64 x.page] w _
  unfold ptr
  go_enter Try.func40, Try.ntmps40
  go_wp2_with fail
  refine Calls.mono WC.out ?_
  rintro en w' ⟨k, rfl, rfl, hh⟩
  have K := hid (And.intro hh.out.1 (And.intro (Below.trans (U1.out.mono BS.out) hh.out.2.2) (frS_trans (frS_up U1.out) (frS_E (g := g) hh.out.2.1))))
  clear hh
  go_wp2
  go_ret
  exact ⟨rfl, hid ⟨⟨r, _, K.out.1, by rw [List.map_append]⟩, K.out.2.1, K.out.2.2⟩⟩
theorem dropNo_calls (w : World) (base g mp : Nat) (room hits miss : Int) (V1 V2 : List Vis) (v : Vis) (h : Hid (CacheM w base g mp room hits miss (V1 ++ v :: V2))) (hz : Hid (decide (0 < v.2.2.1) = true)) :
    Calls Try.prog 40 #[ptr g, .int .i64 v.1] w fun en w' => en = .returned (.int .i64 6) ∧ Up w w' := by
  have u1 : Up w (w.alloc (.cells #[.pointer (some ⟨g, 0, none⟩)] 26)) := (Below.refl _ _).alloc (Nat.le_refl _) _
  obtain ⟨r, l1, x, l2, h1, rfl, rfl, rfl⟩ := (h.out.up u1).split
  have H1 := hid h1
  have WC := hid (withHit_calls 98 #[ptr w.heap.size] _ base g room mp r hits miss l1 l2 x H1 entersDrop _ (hid (drop0_calls _ base g room mp r hits miss l1 l2 x w.heap.size H1 hz.out)))
  have U1 := hid u1
  clear h1 u1
  unfold ptr at WC
  show Calls _ _ #[ptr g, .int .i64 x.page] w _
  unfold ptr
  go_enter Try.func40, Try.ntmps40
  go_wp2_with fail
  refine Calls.mono WC.out ?_
  rintro en w' ⟨k, rfl, rfl, rfl⟩
  go_wp2
  go_ret
  exact ⟨rfl, U1.out⟩
theorem dropMiss_calls (w : World) (base g mp : Nat) (room hits miss : Int) (V : List Vis) (p : Int) (h : Hid (CacheM w base g mp room hits miss V)) (hwf : Hid ((Lit.int .i64 p).wf = true)) (hno : Hid (p ∉ V.map (·.1))) :
    Calls Try.prog 40 #[ptr g, .int .i64 p] w fun en w' => en = .returned (.int .i64 5) ∧ Up w w' := by
  have u1 : Up w (w.alloc (.cells #[.pointer (some ⟨g, 0, none⟩)] 26)) := (Below.refl _ _).alloc (Nat.le_refl _) _
  obtain ⟨r, es, h1, rfl⟩ := h.out.up u1
  rw [vis_page] at hno
  have H1 := hid h1
  clear h1
  unfold ptr
  go_enter Try.func40, Try.ntmps40
  go_wp2_with fail
  refine (withMiss_calls _ base g room mp r hits miss es p _ H1 hwf hno).mono ?_
  rintro en w' ⟨rfl, rfl⟩
  go_wp2
  go_ret
  exact ⟨rfl, u1⟩

/-! ### Pins -/
theorem pins1_calls (w : World) (base g : Nat) (room : Int) (mp r : Nat) (hits miss : Int) (l1 l2 : List Ent) (x : Ent) (b : Nat) (h : Hid (CacheAt w base g room mp r hits miss (l1 ++ x :: l2))) (hb : w.cell? ⟨b, 0, none⟩ = some (.int .i64 0)) (fb : w.frozen? ⟨b, 0, none⟩ = false) :
    Calls Try.prog 82 #[ptr x.blk, ptr b] w (WithRet fun k w' => k = 0 ∧ w' = w.setCell ⟨b, 0, none⟩ (.int .i64 x.pins)) := by
  have h2 := (h.out.ents x (by simp)).2.2.2.1
  unfold ptr
  go_enter Try.func82, Try.ntmps82
  go_wp2
  go_ret
  exact ⟨0, rfl, rfl, rfl⟩
theorem pinsHit_calls (w : World) (base g mp : Nat) (room hits miss : Int) (V1 V2 : List Vis) (v : Vis) (h : Hid (CacheM w base g mp room hits miss (V1 ++ v :: V2))) :
    Calls Try.prog 27 #[ptr g, .int .i64 v.1] w fun en w' => en = .returned (.int .i64 v.2.2.1) ∧ Up w w' := by
  have u1 : Up w (w.alloc (.cells #[.int .i64 0] 3)) := (Below.refl _ _).alloc (Nat.le_refl _) _
  have b1 : (w.alloc (.cells #[.int .i64 0] 3)).cell? ⟨w.heap.size, 0, none⟩ = some (.int .i64 0) := by go_simp
  have f1 : (w.alloc (.cells #[.int .i64 0] 3)).frozen? ⟨w.heap.size, 0, none⟩ = false := by go_simp
  obtain ⟨r, l1, x, l2, h1, rfl, rfl, rfl⟩ := (h.out.up u1).split
  have H1 := hid h1
  have WC := hid (withHit_calls 82 #[ptr w.heap.size] _ base g room mp r hits miss l1 l2 x H1 entersPins _ (hid (pins1_calls _ base g room mp r hits miss l1 l2 x w.heap.size H1 b1 f1)))
  have U2 : Up w ((w.alloc (.cells #[.int .i64 0] 3)).setCell ⟨w.heap.size, 0, none⟩ (.int .i64 x.pins)) := Below.setCell u1 (p := ⟨w.heap.size, 0, none⟩) (Nat.le_refl _) _
  have c2 : ((w.alloc (.cells #[.int .i64 0] 3)).setCell ⟨w.heap.size, 0, none⟩ (.int .i64 x.pins)).cell? ⟨w.heap.size, 0, none⟩ = some (.int .i64 x.pins) := set_near b1
  have HU2 := hid U2
  clear h1 b1 f1 u1 U2
  unfold ptr at WC
  show Calls _ _ #[ptr g, .int .i64 x.page] w _
  go_enter Try.func27, Try.ntmps27
  go_wp2_with fail
  refine Calls.mono WC.out ?_
  rintro en w' ⟨k, rfl, rfl, hw'⟩
  rw [← hw'] at c2 HU2
  clear hw'
  go_wp2
  go_ret
  exact ⟨rfl, HU2.out⟩
theorem pinsMiss_calls (w : World) (base g mp : Nat) (room hits miss : Int) (V : List Vis) (p : Int) (h : Hid (CacheM w base g mp room hits miss V)) (hwf : Hid ((Lit.int .i64 p).wf = true)) (hno : Hid (p ∉ V.map (·.1))) :
    Calls Try.prog 27 #[ptr g, .int .i64 p] w fun en w' => en = .returned (.int .i64 0) ∧ Up w w' := by
  have u1 : Up w (w.alloc (.cells #[.int .i64 0] 3)) := (Below.refl _ _).alloc (Nat.le_refl _) _
  have b1 : (w.alloc (.cells #[.int .i64 0] 3)).cell? ⟨w.heap.size, 0, none⟩ = some (.int .i64 0) := by go_simp
  obtain ⟨r, es, h1, rfl⟩ := h.out.up u1
  rw [vis_page] at hno
  have H1 := hid h1
  clear h1
  go_enter Try.func27, Try.ntmps27
  go_wp2_with fail
  refine (withMiss_calls _ base g room mp r hits miss es p _ H1 hwf hno).mono ?_
  rintro en w' ⟨rfl, rfl⟩
  go_wp2
  go_ret
  exact ⟨rfl, u1⟩
end Go.Proofs.Ytlikggeceeennaa
