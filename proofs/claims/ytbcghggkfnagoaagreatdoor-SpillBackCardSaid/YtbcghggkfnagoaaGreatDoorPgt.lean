/- pager.Open over a new disk. -/
import Derived.Test.YtbcghggkfnagoaaGreatDoorPgr
set_option linter.unusedVariables false
set_option linter.unusedSimpArgs false
namespace Go.Proofs.YtbcghggkfnagoaaGreatDoor
open Go Go.RowKit Go.Maps Hach

theorem rec_ent (args : Array Value) (w : World) : (callFunc 75 args).run Tryz.prog w = .ok (.enter 75 args) w := by go_simp
theorem cle_ent (args : Array Value) (w : World) : (callFunc 76 args).run Tryz.prog w = .ok (.enter 76 args) w := by go_simp
theorem who_ent (args : Array Value) (w : World) : (callFunc 77 args).run Tryz.prog w = .ok (.enter 77 args) w := by go_simp
def openFs (p : Nat) : List FnV := [⟨75, #[.pointer (some ⟨p, 0, none⟩)], #[]⟩, ⟨76, #[.pointer (some ⟨p, 0, none⟩)], #[]⟩, ⟨77, #[.pointer (some ⟨p, 0, none⟩)], #[]⟩]
def OpenRet (w : World) (en : Ending) (w' : World) : Prop :=
  ∃ p q, en = .returned (.tuple #[.pointer (some ⟨p, 0, none⟩), .int .i64 0]) ∧ Hid (PagerAt w' p q (.pointer none) false ∧ (q.count = 0 ∧ q.com = 0 ∧ q.rep = 0) ∧ Up w w' ∧ w.heap.size ≤ p)
theorem openSteps_calls (w : World) (p g base c : Nat) (q : PgN) (D : DiskV) (hp : Hid (PagerAt w p q (.pointer none) false)) (hq : Hid (q.count = 0)) (hd : Hid (DiskM w base q.d D)) (ho : Hid (D.on = true)) (hj : Hid (D.f0.now.length = 0 ∧ D.f1.now.length = 0)) (hg : g ≠ p) (hr : Hid (Rd w (some ⟨g, 0, none⟩) ((openFs p).map fnv))) :
    Calls Tryz.prog 74 #[.slice (some ⟨g, 0, none⟩) 3 c] w fun en w' => en = .returned (.int .i64 0) ∧ Hid (PagerAt w' p q (.pointer none) false ∧ Fr (fun k => k = p) w w') := by
  have eq0 : ({ q with count := 0 } : PgN) = q := by have := hq.out; cases q; simp at this; subst this; rfl
  refine (steps_calls w (some ⟨g, 0, none⟩) c (openFs p) (fun k w' => PagerAt w' p q (.pointer none) false ∧ Rd w' (some ⟨g, 0, none⟩) ((openFs p).map fnv) ∧ (k < 3 → Up w w') ∧ Fr (fun k => k = p) w w') (fun _ _ => False) (hid (by show 3 < 1000; decide)) (hid fun k w' h => h.2.1) ?_ (hid ?_) ⟨hp.out, hr.out, fun _ => Up.refl w, Fr.refl _ w⟩).mono ?_
  · intro x hx
    rcases List.mem_cons.1 hx with rfl | hx
    · exact rec_ent
    rcases List.mem_cons.1 hx with rfl | hx
    · exact cle_ent
    rcases List.mem_cons.1 hx with rfl | hx
    · exact who_ent
    · cases hx
  · intro k x hx w' h
    match k, hx with
    | 0, hx =>
      obtain rfl := Option.some.inj hx
      refine (recover0_calls w' p q base D (hid h.1) (hid (hd.out.up (h.2.2.1 (by decide)))) ho (hid hj.out.2)).mono ?_
      rintro en w2 ⟨rfl, u⟩
      exact .inl ⟨rfl, h.1.fr (Fr.of_below u.out) id, h.2.1.grown u.out, fun _ => (h.2.2.1 (by decide)).t u.out, h.2.2.2.trans' ((Fr.of_below u.out).mono (fun _ e => e.elim))⟩
    | 1, hx =>
      obtain rfl := Option.some.inj hx
      refine (clean0_calls w' p q base D (hid h.1) (hid (hd.out.up (h.2.2.1 (by decide)))) (hid hj.out.2)).mono ?_
      rintro en w2 ⟨rfl, u⟩
      subst u
      exact .inl ⟨rfl, h.1, h.2.1, fun _ => h.2.2.1 (by decide), h.2.2.2⟩
    | 2, hx =>
      obtain rfl := Option.some.inj hx
      refine (whole0_calls w' p q base D (hid h.1) (hid (hd.out.up (h.2.2.1 (by decide)))) (hid hj.out.1)).mono ?_
      rintro en w2 ⟨rfl, u⟩
      have u1 := u.out.1
      rw [eq0] at u1
      exact .inl ⟨rfl, u1, h.2.1.fr u.out.2 (fun b off e => by injection e with e; injection e with e; omega), fun e => absurd e (by decide), h.2.2.2.trans' u.out.2⟩
    | k + 3, hx => cases hx
  · rintro en w' (⟨rfl, h⟩ | ⟨e, _, _, h⟩)
    · exact ⟨rfl, hid ⟨h.1, h.2.2.2⟩⟩
    · exact h.elim
set_option maxRecDepth 100000 in
set_option maxHeartbeats 2000000 in
theorem open0_calls (w : World) (base d : Nat) (D : DiskV) (room : Int) (hd : Hid (DiskM w base d D)) (ho : Hid (D.on = true)) (hj : Hid (D.f0.now.length = 0 ∧ D.f1.now.length = 0)) (hr : Hid (8 ≤ room ∧ room ≤ 4096)) :
    Calls Tryz.prog 21 #[.pointer (some ⟨d, 0, none⟩), .int .i64 room] w (OpenRet w) := by
  obtain ⟨p0, hp0⟩ := hd.out
  have hrm : ¬ D.room = 0 := by have := hp0.room; omega
  have h8 : ¬ room < 8 := by have := hr.out; omega
  clear hp0
  go_enter Tryz.func21, Tryz.ntmps21
  go_wp2_with (go_at_call 72; refine (newC_calls w room (by have := hr.out; omega) hr.out.2).mono ?_; rintro e w1 ⟨c, rfl, u1⟩)
  have HD1 := hid (hd.out.up u1.out)
  go_wp2_with (go_at_call 73; refine (droom_calls w1 base d D HD1).mono ?_; rintro e w' ⟨rfl, hw⟩; obtain rfl := hw.symm)
  obtain ⟨q, hq⟩ : ∃ q : PgN, q = ⟨d, c, 0, 0, 0⟩ := ⟨_, rfl⟩
  obtain ⟨wp, hwp⟩ : ∃ x, w1.alloc (.cells #[.pointer (some ⟨d, 0, none⟩), .pointer (some ⟨c, 0, none⟩), .int .i64 0, .pointer none, .bool false, .int .i64 0, .int .i64 0] 80) = x := ⟨_, rfl⟩
  have uP : Up w1 wp := by rw [← hwp]; exact upAlD (Up.refl w1) _
  have hP : PagerAt wp w1.heap.size q (.pointer none) false := by rw [← hwp, hq]; exact heap_alloc_new w1 _
  have hsz : wp.heap.size = w1.heap.size + 1 := by rw [← hwp]; simp
  have CS := openSteps_calls (wp.alloc (.cells ((openFs w1.heap.size).map fnv).toArray 53)) w1.heap.size wp.heap.size base 3 q D (hid (hP.fr (Fr.of_below (upAlD (Up.refl wp) _)) id)) (hid (by rw [hq])) (hid (by rw [hq]; exact (HD1.out.up uP).up (upAlD (Up.refl wp) _))) ho hj (by omega) (hid (Rd.new wp _ _ _))
  have UW := hid ((u1.out.t uP).t (upAlD (Up.refl wp) (.cells ((openFs w1.heap.size).map fnv).toArray 53)))
  have QQ := hid (show q.count = 0 ∧ q.com = 0 ∧ q.rep = 0 by rw [hq]; exact ⟨rfl, rfl, rfl⟩)
  have BZ : Hid (w.heap.size ≤ w1.heap.size ∧ w1.heap.size < wp.heap.size) := hid ⟨u1.out.size, by omega⟩
  rw [hsz] at CS
  rw [hwp]
  clear hwp hq uP hP hsz hrm h8
  refine CS.mono ?_
  rintro en w5 ⟨rfl, h5⟩
  have RES := hid (show PagerAt w5 w1.heap.size q (.pointer none) false ∧ (q.count = 0 ∧ q.com = 0 ∧ q.rep = 0) ∧ Up w w5 ∧ w.heap.size ≤ w1.heap.size from ⟨h5.out.1, QQ.out, UW.out.trans (h5.out.2.below (Nat.le_trans BZ.out.1 (Nat.le_of_lt (Nat.lt_of_lt_of_le BZ.out.2 (upAlD (Up.refl wp) _).size))) (fun k hk e => by have := BZ.out.1; omega)), BZ.out.1⟩)
  clear h5 UW QQ BZ HD1
  go_wp2
  go_ret2
  exact ⟨_, q, rfl, RES⟩
end Go.Proofs.YtbcghggkfnagoaaGreatDoor
