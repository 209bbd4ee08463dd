/- PARTS OF A PROOF, one behind the other: THE PAGER's restore: pages are as they were, and so many. THE WALK of the pager's restore. THE PAGER's watch and fail; what a commit leaves in the cache. THE WALK of the pager's done: what was changed is sure. THE PAGER's Commit: its journal's bytes; steps over a pager; what is undone. THE PAGER's Commit: what was written is undone. THE PAGER is opened: what a hot journal has is written back. THE PAGER's fail, over its rows of steps. CONDITIONS: none of this text's own. -/
import Derived.Test.YtbcghggkfnagoaaGreatDoorQS35
import Derived.Test.YtbcghggkfnagoaaGreatDoorQS33
import Derived.Test.YtbcghggkfnagoaaGreatDoorQS16
set_option linter.unusedVariables false
set_option linter.unusedSimpArgs false
namespace Go.Proofs.YtbcghggkfnagoaaGreatDoor
open Go Go.RowKit Go.Maps Hach

theorem RecOwn.owned {w : World} {b0 k c : Nat} {A : Option Addr} {R : List (Int × List UInt8)} (h : RecOwn w b0 A k c R) : RecsOwnd w A k c R := by
  obtain ⟨_, _, cells, h3, h4⟩ := h
  exact ⟨cells, own_base h3 (Nat.zero_le _), h4⟩
theorem RecsOwnd.qp {w w' : World} {base k c : Nat} {A : Option Addr} {R : List (Int × List UInt8)} (h : RecsOwnd w A k c R) (hq : Qp base w w') : RecsOwnd w' A k c R := by
  obtain ⟨cells, h3, h4⟩ := h
  exact ⟨cells, hq.own h3 (by unfold pgTy; decide), h4.qp hq⟩
theorem RecsOwnd.up {w w' : World} {k c : Nat} {A : Option Addr} {R : List (Int × List UInt8)} (h : RecsOwnd w A k c R) (hu : Up w w') : RecsOwnd w' A k c R := h.qp (base := 0) (Qp.up hu (Nat.zero_le _))
theorem RecsOwnd.at {w : World} {k c : Nat} {A : Option Addr} {R : List (Int × List UInt8)} (h : RecsOwnd w A k c R) {j : Nat} {r : Int × List UInt8} (hj : R[j]? = some r) (hl : r.2.length = 512) :
    ∃ b off g cc, A = some ⟨b, off, none⟩ ∧ w.cell? ⟨b, off + j * 2, none⟩ = some (.int .i64 r.1) ∧ w.cell? ⟨b, off + j * 2 + 1, none⟩ = some (.slice (some ⟨g, 0, none⟩) 512 cc) ∧ PgRow w ⟨g, cc, r.2⟩ := by
  obtain ⟨cells, h3, h4⟩ := h
  obtain ⟨hjl, hje⟩ := List.getElem?_eq_some_iff.1 hj
  obtain ⟨q1, Ai, ci, q2, o⟩ := h4.get j hjl
  rw [hje] at q1 q2 o
  obtain ⟨g, rfl, pr, _⟩ := own_pgRow hl o
  obtain ⟨b, off, e1, c1⟩ := (Rd.own h3) _ _ q1
  obtain ⟨b', off', e2, c2⟩ := (Rd.own h3) _ _ q2
  rw [e1] at e2
  injection e2 with e2; injection e2 with e2 e3; subst e2; subst e3
  rw [hl] at c2
  exact ⟨b, off, g, ci, e1, c1, c2, pr⟩
def BoxT (w : World) (b : Nat) (v : Value) (t : TypeId) : Prop := w.heap[b]? = some (.cells #[v] t (0, 0)) ∧ ¬ pgTy t
theorem BoxT.qp {w w' : World} {base b : Nat} {v : Value} {t : TypeId} (h : BoxT w b v t) (hq : Qp base w w') : BoxT w' b v t := ⟨hq.keep _ _ _ _ h.2 h.1, h.2⟩
theorem BoxT.up {w w' : World} {b : Nat} {v : Value} {t : TypeId} (h : BoxT w b v t) (hu : Up w w') : BoxT w' b v t := h.qp (base := 0) (Qp.up hu (Nat.zero_le _))
theorem BoxT.cell {w : World} {b : Nat} {v : Value} {t : TypeId} (h : BoxT w b v t) : w.cell? ⟨b, 0, none⟩ = some v := (cell_one h.1).1
theorem BoxT.off {w : World} {b base d : Nat} {v : Value} {t : TypeId} {pd : DiskP} {D : DiskV} (h : BoxT w b v t) (hd : DiskAt w base d pd D) : ¬ foot d pd D b := (foot_tys hd).cell h.1 (fun e => h.2 (e.elim .inl (fun e => .inr (.inl e))))
theorem BoxT.boxF {w : World} {b base d : Nat} {v : Value} {t : TypeId} {pd : DiskP} {D : DiskV} (h : BoxT w b v t) (hd : DiskAt w base d pd D) : BoxF w (foot d pd D) b v := ⟨h.cell, h.off hd⟩
theorem PgAt.offP {w : World} {base p d : Nat} {B : PgB} {S : PgV} (h : PgAt w base p d B S) : ¬ foot d B.pd S.D p := (foot_tys h.disk).cell h.own (by decide)
set_option maxRecDepth 100000 in
set_option maxHeartbeats 2000000 in
theorem rcut_calls (w1 W : World) (F : Nat → Prop) (base p bp bn n : Nat) (q : PgN) (tv : Value) (D : DiskV) (hn : Hid (n ≤ 4000)) (h : Hid (Amid w1 W F base p q tv D)) (hb : Hid (BoxF w1 F bp (.pointer (some ⟨p, 0, none⟩)))) (hf : Hid (BoxF w1 F bn (.int .i64 n))) :
    Calls Tryz.prog 146 #[.pointer (some ⟨bp, 0, none⟩), .pointer (some ⟨bn, 0, none⟩)] W fun en w' => en = .returned (.int .i64 (pcutR D n).2) ∧ Hid (Goes w1 F base q.d (pcutR D n).1 w') := by
  have c0 := h.out.goes.cell hb.out.1 hb.out.2
  have c2 := h.out.goes.cell hf.out.1 hf.out.2
  have CS := pcut_calls w1 W F base p q _ D n hn (hid h.out)
  obtain ⟨r, hr⟩ : ∃ r, (pcutR D n).2 = r := ⟨_, rfl⟩
  obtain ⟨D', hD'⟩ : ∃ D', (pcutR D n).1 = D' := ⟨_, rfl⟩
  rw [hr, hD'] at CS
  rw [hr, hD']
  clear hr hD'
  go_enter Tryz.func146, Tryz.ntmps146
  go_wp2_with (go_at_call 96; refine CS.mono ?_; rintro en w2 ⟨rfl, G2⟩)
  go_ret
  exact ⟨rfl, G2⟩
theorem ent_rcut (args : Array Value) (w : World) : (callFunc 146 args).run Tryz.prog w = .ok (.enter 146 args) w := by go_simp
theorem Goes.start {w : World} {base d : Nat} {pd : DiskP} {D : DiskV} (h : DiskAt w base d pd D) : Goes w (foot d pd D) base d D w := ⟨⟨pd, h, fun k hk => .inl hk⟩, Fr.refl _ w⟩
def tailFs (bp bn b2 f2 : Nat) : List FnV := [⟨146, #[], #[.pointer (some ⟨bp, 0, none⟩), .pointer (some ⟨bn, 0, none⟩)]⟩, ⟨136, #[], #[.pointer (some ⟨b2, 0, none⟩), .pointer (some ⟨f2, 0, none⟩)]⟩]
def tailGs (n : Nat) : List (DiskV → DiskV × Int) := [fun D => pcutR D n, fun D => syncR D 0]
theorem tailRow_calls (w : World) (A : Option Addr) (c : Nat) (F : Nat → Prop) (base p bp bn b2 f2 n : Nat) (q : PgN) (tv : Value) (D : DiskV)
    (hr : ∀ w', Fr F w w' → Rd w' A ((tailFs bp bn b2 f2).map fnv)) (h0 : Goes w F base q.d D w) (hp : PagerAt w p q tv false) (ho : ¬ F p) (hn : Hid (n ≤ 4000)) (hok : OkS D (tailGs n))
    (hb1 : Hid (BoxF w F bp (.pointer (some ⟨p, 0, none⟩)))) (hbn : Hid (BoxF w F bn (.int .i64 n))) (hb2 : Hid (BoxF w F b2 (.pointer (some ⟨p, 0, none⟩)))) (hf2 : Hid (BoxF w F f2 (.int .i64 0))) :
    Calls Tryz.prog 74 #[.slice A 2 c] w fun en w' => en = .returned (.int .i64 (seqR D (tailGs n)).2) ∧ Hid (Goes w F base q.d (seqR D (tailGs n)).1 w') := by
  refine stepsD_calls w A c F base q.d D (tailFs bp bn b2 f2) (tailGs n) (fun k Dk => OkS Dk ((tailGs n).drop k)) (hid (by show 2 < 1000; decide)) rfl hr ?_ hok ?_ ?_ h0
  · intro x hx
    rcases List.mem_cons.1 hx with rfl | hx
    · exact ent_rcut
    rcases List.mem_cons.1 hx with rfl | hx
    · exact ent_sync
    cases hx
  · intro k g Dk hg hk e0
    obtain ⟨h1, h2⟩ := List.getElem?_eq_some_iff.1 hg
    rw [List.drop_eq_getElem_cons h1, h2] at hk
    exact hk.2 e0
  · intro k x g hx hg Dk W hk hG
    obtain ⟨h1, h2⟩ := List.getElem?_eq_some_iff.1 hg
    rw [List.drop_eq_getElem_cons h1, h2] at hk
    have AM : Hid (Amid w W F base p q tv Dk) := hid ⟨hG, hp, ho, hk.1⟩
    clear h1 h2
    rcases k with _ | _ | k
    · cases hx; cases hg
      exact rcut_calls w W F base p bp bn n q tv Dk hn AM hb1 hbn
    · cases hx; cases hg
      exact syncer1_calls w W F base p q tv Dk b2 f2 0 AM hb2 hf2
    · cases hx
end Go.Proofs.YtbcghggkfnagoaaGreatDoor

namespace Go.Proofs.YtbcghggkfnagoaaGreatDoor
open Go Go.RowKit Go.Maps Hach

def PgD (w : World) (base p d : Nat) (B : PgB) (S : PgV) (D : DiskV) : Prop := ∃ pd, PgAt w base p d { B with pd := pd } { S with D := D }
def ResI (w2 : World) (base p d : Nat) (B : PgB) (S : PgV) (RR : DiskV × Int) (R : List (Int × List UInt8)) (m : Int) (j : Nat) (Dj : DiskV) (wr : World) : Prop :=
  PgD wr base p d B S Dj ∧ Qp base w2 wr ∧ restsR Dj (R.drop j) = RR ∧ Fit Dj (m + 2 + (R.drop j).length)
set_option maxRecDepth 100000 in
set_option maxHeartbeats 4000000 in
theorem restore_calls (w : World) (base p d : Nat) (B : PgB) (S : PgV) (A : Option Addr) (k c n : Nat) (R : List (Int × List UInt8)) (m : Int) (h : Hid (PgAt w base p d B S)) (hd : Hid (S.dead = false)) (hR : Hid (RecsOwnd w A k c R ∧ R.length = k ∧ k < 100000))
    (hG : Hid (∀ r ∈ R, ∃ y : Nat, r.1 = (y : Int) ∧ 1 ≤ y ∧ y ≤ 4000 ∧ r.2.length = 512)) (hn : Hid (n ≤ 4000)) (hf : Hid (Fit S.D (m + 2 + R.length) ∧ 0 ≤ m)) :
    Calls Tryz.prog 99 #[.pointer (some ⟨p, 0, none⟩), .int .i64 n, .slice A k c] w fun en w' => en = .returned (.int .i64 (restoreR S.D n R).2) ∧ Hid (PgD w' base p d B S (restoreR S.D n R).1 ∧ Qp base w w') := by
  obtain ⟨RR, hRR⟩ : ∃ RR, restsR S.D R = RR := ⟨_, rfl⟩
  have HRR := hid hRR
  obtain ⟨R9, hR9⟩ : ∃ R9, restoreR S.D n R = R9 := ⟨_, rfl⟩
  have HR9 := hid hR9
  rw [hR9]
  clear hRR hR9
  have b1 := heap_alloc_new w (.cells #[.pointer (some ⟨p, 0, none⟩)] 25)
  have u1 : Up w (w.alloc (.cells #[.pointer (some ⟨p, 0, none⟩)] 25)) := upAlD (Up.refl w) _
  have b2 := heap_alloc_new (w.alloc (.cells #[.pointer (some ⟨p, 0, none⟩)] 25)) (.cells #[.int .i64 n] 3)
  have u2 : Up (w.alloc (.cells #[.pointer (some ⟨p, 0, none⟩)] 25)) ((w.alloc (.cells #[.pointer (some ⟨p, 0, none⟩)] 25)).alloc (.cells #[.int .i64 n] 3)) := upAlD (Up.refl _) _
  have X1 : Hid (BoxT ((w.alloc (.cells #[.pointer (some ⟨p, 0, none⟩)] 25)).alloc (.cells #[.int .i64 n] 3)) w.heap.size (.pointer (some ⟨p, 0, none⟩)) 25) := hid (BoxT.up ⟨b1, by unfold pgTy; decide⟩ u2)
  have X2 : Hid (BoxT ((w.alloc (.cells #[.pointer (some ⟨p, 0, none⟩)] 25)).alloc (.cells #[.int .i64 n] 3)) (w.heap.size + 1) (.int .i64 n) 3) := hid ⟨by rw [← size_al w (.cells #[.pointer (some ⟨p, 0, none⟩)] 25)]; exact b2, by unfold pgTy; decide⟩
  have U2 := hid (u1.t u2)
  clear b1 b2 u1 u2
  go_enter Tryz.func99, Tryz.ntmps99
  go_wp2
  generalize (w.alloc (.cells #[.pointer (some ⟨p, 0, none⟩)] 25)).alloc (.cells #[.int .i64 n] 3) = w2 at *
  have HSZ := hid (rfl : w.heap.size = w.heap.size)
  generalize w.heap.size = z at X1 X2 ⊢
  have I0 : Hid (ResI w2 base p d B S RR R m 0 S.D w2) := hid ⟨⟨B.pd, h.out.up U2.out⟩, Qp.refl _ _, HRR.out, hf.out.1⟩
  go_loopw [12] (fun i wr => ∃ (j : Nat) (Dj : DiskV), j ≤ k ∧ i = .int .i64 j ∧ Hid (ResI w2 base p d B S RR R m j Dj wr)) (fun i _ => k - (intOf i).toNat)
  case atStart => exact ⟨0, S.D, Nat.zero_le _, rfl, I0⟩
  case round =>
    obtain ⟨j, Dj, hj, rfl, iv⟩ := hrel
    obtain ⟨⟨pd, PA⟩, QP, RE, FT⟩ := iv.out
    by_cases hlt : (j : Int) < k
    · have JN : Hid (j < k ∧ k < 100000) := hid ⟨by omega, hR.out.2.2⟩
      obtain ⟨r, hr⟩ : ∃ r, R[j]? = some r := ⟨_, List.getElem?_eq_getElem (by have := hR.out; omega)⟩
      have hdr : R.drop j = r :: R.drop (j + 1) := by
        obtain ⟨h1, h2⟩ := List.getElem?_eq_some_iff.1 hr
        rw [List.drop_eq_getElem_cons h1, h2]
      obtain ⟨y, hy, y1, y2, y3⟩ := hG.out r (List.mem_of_getElem? hr)
      have RO := ((hR.out.1.up U2.out).qp QP).at hr y3
      obtain ⟨bb, off, g, cc, rfl, c0, c1, PR⟩ := RO
      rw [hy] at c0
      have YB : Hid (1 ≤ y ∧ y ≤ 4000) := hid ⟨y1, y2⟩
      rw [hdr] at RE FT
      have UA : Up wr (wr.alloc (.cells #[.int .i64 y, .slice (some ⟨g, 0, none⟩) 512 cc] 205)) := upAlD (Up.refl wr) _
      have k0 : (wr.alloc (.cells #[.int .i64 y, .slice (some ⟨g, 0, none⟩) 512 cc] 205)).cell? ⟨wr.heap.size, 0, none⟩ = some (.int .i64 y) := by rw [cell_of_row _ _ _ _ _ _ (heap_alloc_new wr _)]; rfl
      have k1 : (wr.alloc (.cells #[.int .i64 y, .slice (some ⟨g, 0, none⟩) 512 cc] 205)).cell? ⟨wr.heap.size, 1, none⟩ = some (.slice (some ⟨g, 0, none⟩) 512 cc) := by rw [cell_of_row _ _ _ _ _ _ (heap_alloc_new wr _)]; rfl
      have P1 : PgAt (wr.alloc (.cells #[.int .i64 y, .slice (some ⟨g, 0, none⟩) 512 cc] 205)) base p d { B with pd := pd } { S with D := Dj } := PA.up UA
      have Q1 := hid (QP.trans (Qp.up UA PA.bs))
      have X1' := hid ((X1.out.qp QP).up UA)
      have X2' := hid ((X2.out.qp QP).up UA)
      have PR1 : PgRow (wr.alloc (.cells #[.int .i64 y, .slice (some ⟨g, 0, none⟩) 512 cc] 205)) ⟨g, cc, r.2⟩ := PR.fr (Fr.of_below UA) id
      have Z8 : Hid (wr.heap.size < (wr.alloc (.cells #[.int .i64 y, .slice (some ⟨g, 0, none⟩) 512 cc] 205)).heap.size) := hid (by simp)
      have RE' : (if (Dj.f0.now.length : Int) < placeV y then (Dj, 9) else if (writeR Dj 0 (placeV y) (secs4 r.2)).2 = 0 then restsR (writeR Dj 0 (placeV y) (secs4 r.2)).1 (R.drop (j + 1)) else writeR Dj 0 (placeV y) (secs4 r.2)) = RR := by rw [← hy]; exact RE
      have FT1 : Fit Dj ((m + 2 + (R.drop (j + 1)).length) + 1) := FT.less (by rw [List.length_cons]; omega)
      have FTW := hid (FT1.write (by have := hf.out.2; omega) 0 (placeV y) (secs4_whole y3))
      have OKD := hid (FT1.disk (by have := hf.out.2; omega))
      have BT := hid (show w2.heap.size ≤ wr.heap.size from QP.low.size)
      have XB : Hid (w2.heap[z]? ≠ none) := hid (by rw [X1.out.1]; simp)
      have K8 : Hid (BoxT (wr.alloc (.cells #[.int .i64 y, .slice (some ⟨g, 0, none⟩) 512 cc] 205)) z (.pointer (some ⟨p, 0, none⟩)) 25) := X1'
      clear iv RE FT hdr PA QP hr PR UA hy y1 y2
      have KR : Hid ((wr.alloc (.cells #[.int .i64 y, .slice (some ⟨g, 0, none⟩) 512 cc] 205)).heap[wr.heap.size]? = some (.cells #[.int .i64 y, .slice (some ⟨g, 0, none⟩) 512 cc] 205 (0, 0))) := hid (heap_alloc_new wr _)
      go_wp2_with fail
      clear c0 c1
      generalize wr.alloc (.cells #[.int .i64 y, .slice (some ⟨g, 0, none⟩) 512 cc] 205) = W1 at *
      generalize wr.heap.size = z8 at *
      have KX := X1'.out.cell
      have e0 : W1.cell? ⟨p, 0, none⟩ = some (.pointer (some ⟨d, 0, none⟩)) := P1.own.cells.1
      have CP := place_calls W1.drew y YB
      have CP2 := place_calls W1.drew.drew y YB
      have CSX := sec0_calls W1.drew base d Dj (hid ⟨_, P1.disk.up (Up.drew W1)⟩)
      have US : W1.drew.cell? ⟨z8, 0, none⟩ = some (.int .i64 y) ∧ W1.drew.cell? ⟨z, 0, none⟩ = some (.pointer (some ⟨p, 0, none⟩)) ∧ W1.drew.cell? ⟨p, 0, none⟩ = some (.pointer (some ⟨d, 0, none⟩)) := ⟨k0, KX, e0⟩
      obtain ⟨Pv, hPv⟩ : ∃ P, placeV (y : Int) = P := ⟨_, rfl⟩
      obtain ⟨ln, hln⟩ : ∃ l, Dj.f0.now.length = l := ⟨_, rfl⟩
      rw [hPv] at CP CP2 RE' FTW
      rw [hln] at CSX RE'
      clear hPv
      refine s_start (fun w9 => w9.cell? ⟨z8, 0, none⟩ = some (.int .i64 y) ∧ w9.cell? ⟨z, 0, none⟩ = some (.pointer (some ⟨p, 0, none⟩)) ∧ w9.cell? ⟨p, 0, none⟩ = some (.pointer (some ⟨d, 0, none⟩))) (by kernel_rfl) ?_
      refine s_tk 0 16 (v := ?_) US (fun w9 hS => ?_) ?_; rotate_left
      · go_simp <;> with_reducible rfl
      try simp only [pz]
      refine s_tk 1 17 (v := ?_) US (fun w9 hS => ?_) ?_; rotate_left
      · obtain ⟨s0, s1, s2⟩ := hS; go_simp <;> with_reducible rfl
      try simp only [pz]
      refine s_tk 3 19 (v := ?_) US (fun w9 hS => ?_) ?_; rotate_left
      · obtain ⟨s0, s1, s2⟩ := hS; go_simp <;> with_reducible rfl
      try simp only [pz]
      refine s_tk 4 20 (v := ?_) US (fun w9 hS => ?_) ?_; rotate_left
      · go_simp <;> with_reducible rfl
      try simp only [pz]
      refine s_tk 5 21 (v := ?_) US (fun w9 hS => ?_) ?_; rotate_left
      · go_simp <;> with_reducible rfl
      try simp only [pz]
      refine s_tk 6 22 (v := ?_) US (fun w9 hS => ?_) ?_; rotate_left
      · obtain ⟨s0, s1, s2⟩ := hS; go_simp <;> with_reducible rfl
      try simp only [pz]
      refine s_ca 2 (fun K9 hK9 => ?_)
      go_simp
      go_at_call 145
      refine CP.mono ?_
      rintro en w8 ⟨rfl, hw8⟩
      obtain rfl := hw8.symm
      clear hw8
      refine hK9.out _ _ US ?_
      clear hK9 K9
      try simp only [pz]
      refine s_ca 7 (fun K9 hK9 => ?_)
      go_simp
      go_at_call 29
      refine CSX.mono ?_
      rintro en w8 ⟨rfl, hw8⟩
      obtain rfl := hw8.symm
      clear hw8
      refine hK9.out _ _ US ?_
      clear hK9 K9
      try simp only [pz]
      refine s_tk 8 24 (v := ?_) US (fun w9 hS => ?_) ?_; rotate_left
      · go_simp <;> with_reducible rfl
      try simp only [pz]
      refine s_done (by kernel_rfl) ?_
      first | (rename_i K1 h1; refine h1 _ _ ?_; clear h1 K1) | skip
      clear CSX CP US
      by_cases hgt : (ln : Int) < Pv
      · rw [if_pos hgt] at RE'
        have RES : Hid (R9 = (Dj, 9) ∧ PgD W1.drew base p d B S Dj ∧ Qp base w W1.drew) := hid ⟨by rw [← HR9.out]; unfold restoreR; rw [HRR.out, ← RE', if_neg (show ¬ (9 : Int) = 0 by decide)], ⟨pd, P1.up (Up.drew W1)⟩, ((Qp.up U2.out h.out.bs).trans Q1.out).trans (Qp.up (Up.drew W1) P1.bs)⟩
        go_wp2
        go_ret
        rw [RES.out.1]
        exact ⟨rfl, hid RES.out.2⟩
      · rw [if_neg hgt] at RE'
        have CW := write_calls W1.drew.drew base d pd Dj 0 Pv (some ⟨g, 0, none⟩) 512 cc (secs4 r.2) (hid (P1.disk.up (Up.drew _ |>.t (Up.drew _)))) OKD (hid ⟨(PR1.fr (Fr.of_below (Up.drew _ |>.t (Up.drew _))) id).secs, by rw [secs4_len]; decide⟩)
        have US : W1.drew.drew.cell? ⟨z8, 0, none⟩ = some (.int .i64 y) ∧ W1.drew.drew.cell? ⟨z8, 1, none⟩ = some (.slice (some ⟨g, 0, none⟩) 512 cc) ∧ W1.drew.drew.cell? ⟨z, 0, none⟩ = some (.pointer (some ⟨p, 0, none⟩)) ∧ W1.drew.drew.cell? ⟨p, 0, none⟩ = some (.pointer (some ⟨d, 0, none⟩)) := ⟨k0, k1, KX, e0⟩
        obtain ⟨rc, hrc⟩ : ∃ x, (writeR Dj 0 Pv (secs4 r.2)).2 = x := ⟨_, rfl⟩
        obtain ⟨D9, hD9⟩ : ∃ x, (writeR Dj 0 Pv (secs4 r.2)).1 = x := ⟨_, rfl⟩
        have hp9 : writeR Dj 0 Pv (secs4 r.2) = (D9, rc) := by rw [← hrc, ← hD9]
        rw [hrc, hD9] at CW
        rw [hp9] at RE' FTW
        clear hrc hD9 hp9
        go_wp2_with fail
        refine s_start (fun w9 => w9.cell? ⟨z8, 0, none⟩ = some (.int .i64 y) ∧ w9.cell? ⟨z8, 1, none⟩ = some (.slice (some ⟨g, 0, none⟩) 512 cc) ∧ w9.cell? ⟨z, 0, none⟩ = some (.pointer (some ⟨p, 0, none⟩)) ∧ w9.cell? ⟨p, 0, none⟩ = some (.pointer (some ⟨d, 0, none⟩))) (by kernel_rfl) ?_
        refine s_tk 0 25 (v := ?_) US (fun w9 hS => ?_) ?_; rotate_left
        · obtain ⟨s0, s3, s1, s2⟩ := hS; go_simp <;> with_reducible rfl
        try simp only [pz]
        refine s_tk 1 26 (v := ?_) US (fun w9 hS => ?_) ?_; rotate_left
        · go_simp <;> with_reducible rfl
        try simp only [pz]
        refine s_tk 2 27 (v := ?_) US (fun w9 hS => ?_) ?_; rotate_left
        · go_simp <;> with_reducible rfl
        try simp only [pz]
        refine s_tk 3 28 (v := ?_) US (fun w9 hS => ?_) ?_; rotate_left
        · obtain ⟨s0, s3, s1, s2⟩ := hS; go_simp <;> with_reducible rfl
        try simp only [pz]
        refine s_tk 4 29 (v := ?_) US (fun w9 hS => ?_) ?_; rotate_left
        · go_simp <;> with_reducible rfl
        try simp only [pz]
        refine s_tk 5 30 (v := ?_) US (fun w9 hS => ?_) ?_; rotate_left
        · obtain ⟨s0, s3, s1, s2⟩ := hS; go_simp <;> with_reducible rfl
        try simp only [pz]
        refine s_tk 7 32 (v := ?_) US (fun w9 hS => ?_) ?_; rotate_left
        · go_simp <;> with_reducible rfl
        try simp only [pz]
        refine s_tk 8 33 (v := ?_) US (fun w9 hS => ?_) ?_; rotate_left
        · obtain ⟨s0, s3, s1, s2⟩ := hS; go_simp <;> with_reducible rfl
        try simp only [pz]
        refine s_ca 6 (fun K9 hK9 => ?_)
        go_simp
        go_at_call 145
        refine CP2.mono ?_
        rintro en w8 ⟨rfl, hw8⟩
        obtain rfl := hw8.symm
        clear hw8
        refine hK9.out _ _ US ?_
        clear hK9 K9
        try simp only [pz]
        refine s_ca 9 (fun K9 hK9 => ?_)
        go_simp
        go_at_call 139
        refine CW.mono ?_
        rintro en w3 ⟨rfl, hg⟩
        obtain ⟨pd3, P3, Q3⟩ := (P1.up (Up.drew _ |>.t (Up.drew _))).diskStep (show Goes _ _ _ _ D9 w3 from hg.out)
        have P3 := hid P3
        have Q3 := hid Q3
        clear hg
        replace US : w3.cell? ⟨z8, 0, none⟩ = some (.int .i64 y) ∧ w3.cell? ⟨z8, 1, none⟩ = some (.slice (some ⟨g, 0, none⟩) 512 cc) ∧ w3.cell? ⟨z, 0, none⟩ = some (.pointer (some ⟨p, 0, none⟩)) ∧ w3.cell? ⟨p, 0, none⟩ = some (.pointer (some ⟨d, 0, none⟩)) := (by
          have kr := Q3.out.keep z8 _ _ _ (by unfold pgTy; decide) (show W1.drew.drew.heap[z8]? = _ from KR.out)
          exact ⟨by rw [cell_of_row _ _ _ _ _ _ kr]; rfl, by rw [cell_of_row _ _ _ _ _ _ kr]; rfl, ((K8.out.up (Up.drew _ |>.t (Up.drew _))).qp Q3.out).cell, P3.out.own.cells.1⟩)
        refine hK9.out _ _ US ?_
        clear hK9 K9
        try simp only [pz]
        refine s_tk 10 9 (v := ?_) US (fun w9 hS => ?_) ?_; rotate_left
        · go_simp <;> with_reducible rfl
        try simp only [pz]
        refine s_done (by kernel_rfl) ?_
        clear US
        first | (rename_i K1 h1; refine h1 _ _ ?_; clear h1 K1) | skip
        have Q4 : Hid (Qp base w2 w3) := hid ((Q1.out.trans (Qp.up (Up.drew _ |>.t (Up.drew _)) P1.bs)).trans Q3.out)
        have J1 : Hid (wrap64 ((j : Int) + 1) = ((j + 1 : Nat) : Int)) := hid (by have := JN.out; unfold wrap64; omega)
        clear CW CP2 P1 Q1 Q3 KX e0 k0 k1 hgt
        by_cases hr0 : rc = 0
        · rw [if_pos hr0] at RE'
          have NI : Hid (ResI w2 base p d B S RR R m (j + 1) D9 w3) := hid ⟨⟨pd3, P3.out⟩, Q4.out, RE', FTW.out⟩
          subst hr0
          clear RE' P3 Q4
          go_wp2
          go_roundw
          case rel => exact ⟨j + 1, D9, JN.out.1, by first | rfl | rw [J1.out], NI⟩
          case measure => have := JN.out; rw [J1.out]; simp only [intOf]; omega
        · rw [if_neg hr0] at RE'
          have RES : Hid (R9 = (D9, rc) ∧ PgD w3 base p d B S D9 ∧ Qp base w w3) := hid ⟨by rw [← HR9.out]; unfold restoreR; rw [HRR.out, ← RE', if_neg hr0], ⟨pd3, P3.out⟩, (Qp.up U2.out h.out.bs).trans Q4.out⟩
          clear RE' P3 Q4
          go_wp2
          go_ret
          rw [RES.out.1]
          exact ⟨rfl, hid RES.out.2⟩
    · obtain rfl : j = k := by omega
      have RE2 : Hid (RR = (Dj, 0)) := hid (by
        rw [List.drop_of_length_le (by rw [hR.out.2.1]; exact Nat.le_refl _)] at RE
        exact RE.symm)
      have FT2 : Hid (Fit Dj (m + 2)) := hid (FT.less (by omega))
      have PA := hid PA
      have QP := hid QP
      have KX := (X1.out.qp QP.out).cell
      clear iv RE FT hlt
      go_wp2_with (go_at_call 89; refine (syncer_calls wr p 0).mono ?_; rintro e w5 ⟨bp, bf, rfl, h5⟩; unfold fnv)
      obtain ⟨w6, hw6⟩ : ∃ x, w5.alloc (.cells ((tailFs z (z + 1) bp bf).map fnv).toArray 53) = x := ⟨_, rfl⟩
      have U6 : Up wr w6 := by rw [← hw6]; exact h5.out.2.2.t (upAlD (Up.refl w5) _)
      have U56 : Up w5 w6 := by rw [← hw6]; exact upAlD (Up.refl w5) _
      have P6 := PA.out.up U6
      have Q6 := QP.out.trans (Qp.up U6 PA.out.bs)
      have B6 : w6.heap[w5.heap.size]? = some (.cells ((tailFs z (z + 1) bp bf).map fnv).toArray 53 (0, 0)) := by rw [← hw6]; exact heap_alloc_new w5 _
      have OP := P6.own
      rw [show ({ S with D := Dj } : PgV).dead = false from hd.out] at OP
      have RD : ∀ w', Fr (foot d pd Dj) w6 w' → Rd w' (some ⟨w5.heap.size, 0, none⟩) ((tailFs z (z + 1) bp bf).map fnv) := fun w' hf => by
        have r0 : Rd w6 (some ⟨w5.heap.size, 0, none⟩) ((tailFs z (z + 1) bp bf).map fnv) := by rw [← hw6]; exact Rd.new w5 _ _ _
        refine r0.fr hf (fun b off e => ?_)
        injection e with e; injection e with e1 _; subst e1
        exact (foot_tys P6.disk).cell B6 (by decide)
      have OFN : ∀ b v, BoxN wr w5 b v → BoxF w6 (foot d pd Dj) b v := fun b v hb => ⟨U56.c hb.cell, fun e => by
        have h1 : foot d pd Dj b → b < wr.heap.size := fun e => foot_lt PA.out.disk e
        have := h1 e
        have := hb.new
        omega⟩
      have OK2 : OkS Dj (tailGs n) := by
        refine ⟨FT2.out.disk (by have := hf.out.2; omega), fun _ => ⟨((FT2.out.less (k := m + 1 + 1) (by omega)).pcut (by have := hf.out.2; omega) n).disk (by have := hf.out.2; omega), fun _ => trivial⟩⟩
      have CS := tailRow_calls w6 (some ⟨w5.heap.size, 0, none⟩) 2 (foot d pd Dj) base p z (z + 1) bp bf n _ _ Dj RD (Goes.start P6.disk) OP P6.offP hn OK2
        (hid (((X1.out.qp QP.out).up U6).boxF P6.disk)) (hid (((X2.out.qp QP.out).up U6).boxF P6.disk)) (hid (OFN bp _ h5.out.1)) (hid (OFN bf _ h5.out.2.1))
      have HR : Hid (R9 = seqR Dj (tailGs n)) := hid (by rw [← HR9.out]; unfold restoreR; rw [HRR.out, RE2.out, if_pos rfl]; rfl)
      rw [← HR.out] at CS
      have P6h := hid P6
      have Q6h := hid Q6
      rw [← hw6] at CS P6h Q6h
      clear RD OFN OK2 OP B6 U56 U6 P6 Q6 KX
      refine Calls.mono (show Calls _ _ _ _ _ from CS) ?_
      rintro en w7 ⟨rfl, hg⟩
      obtain ⟨pd7, P7, Q7⟩ := P6h.out.diskStep hg.out
      have RES : Hid (PgD w7 base p d B S R9.1 ∧ Qp base w w7) := hid ⟨⟨pd7, P7⟩, ((Qp.up U2.out h.out.bs).trans Q6h.out).trans Q7⟩
      clear P7 Q7 hg CS P6h Q6h
      go_wp2
      go_ret
      exact ⟨rfl, RES⟩
end Go.Proofs.YtbcghggkfnagoaaGreatDoor

namespace Go.Proofs.YtbcghggkfnagoaaGreatDoor
open Go Go.RowKit Go.Maps Hach

section
variable (w : World) (base p d : Nat) (B : PgB) (S : PgV)
theorem watchNo_calls (e : Int) (h : Hid (e ≠ 4)) : Calls Tryz.prog 93 #[.pointer (some ⟨p, 0, none⟩), .int .i64 e] w fun en w' => en = .returned (.int .i64 e) ∧ w' = w := by
  have h4 : ¬ e = 4 := h.out
  go_enter Tryz.func93, Tryz.ntmps93
  go_wp2
  go_ret
  exact ⟨rfl, rfl⟩
theorem watchYes_calls (h : Hid (PgAt w base p d B S)) : Calls Tryz.prog 93 #[.pointer (some ⟨p, 0, none⟩), .int .i64 4] w fun en w' => en = .returned (.int .i64 4) ∧ Hid (PgAt w' base p d B { S with dead := true } ∧ Qp base w w') := by
  obtain ⟨_, _, _, _, e4, _⟩ := h.out.own.cells
  have f4 := h.out.own.free 4
  have k1 := heap_setCell_same _ p 4 _ _ (.bool true) h.out.own
  have hf : Fr (fun k => k = p) w (w.setCell ⟨p, 4, none⟩ (.bool true)) := (Fr.refl (fun k => k = p) w).setCell (p := ⟨p, 4, none⟩) (fun _ => rfl) _
  have RES := hid (h.out.ownStep (S' := { S with dead := true }) hf k1 rfl rfl (fun T hT => hT))
  clear k1 hf
  go_enter Tryz.func93, Tryz.ntmps93
  go_wp2
  go_ret
  exact ⟨rfl, RES⟩
theorem watch_calls (e : Int) (h : Hid (PgAt w base p d B S)) (hd : S.dead = false) : Calls Tryz.prog 93 #[.pointer (some ⟨p, 0, none⟩), .int .i64 e] w fun en w' => en = .returned (.int .i64 e) ∧ Hid (PgAt w' base p d B { S with dead := decide (e = 4) } ∧ Qp base w w') := by
  by_cases he : e = 4
  · subst he
    refine (watchYes_calls w base p d B S h).mono ?_
    rintro en w' ⟨rfl, hh⟩
    exact ⟨rfl, by rw [decide_eq_true rfl]; exact hh⟩
  · refine (watchNo_calls w p e (hid he)).mono ?_
    rintro en w' ⟨rfl, rfl⟩
    refine ⟨rfl, hid ⟨?_, Qp.refl _ _⟩⟩
    rw [decide_eq_false he]
    have := h.out
    obtain ⟨_, _, _, _, dd, _, _⟩ := S
    simp only at hd
    subst hd
    exact this
theorem failNo_calls (e : Int) (A : Option Addr) (n c : Nat) (h : Hid (e ≠ 3)) : Calls Tryz.prog 94 #[.pointer (some ⟨p, 0, none⟩), .int .i64 e, .slice A n c] w fun en w' => en = .returned (.int .i64 e) ∧ w' = w := by
  have h3 : (e != 3) = true := bne_iff_ne.2 h.out
  go_enter Tryz.func94, Tryz.ntmps94
  go_wp2
  go_ret
  exact ⟨rfl, rfl⟩
theorem failYes_calls (f : Int) (A : Option Addr) (n c : Nat) (Q : World → Prop) (CS : Calls Tryz.prog 74 #[.slice A n c] w fun en w' => en = .returned (.int .i64 f) ∧ Hid (Q w')) :
    Calls Tryz.prog 94 #[.pointer (some ⟨p, 0, none⟩), .int .i64 3, .slice A n c] w fun en w' => en = .returned (.int .i64 (if f = 0 then 3 else f)) ∧ Hid (Q w') := by
  by_cases hf : f = 0
  · subst hf
    rw [if_pos rfl]
    go_enter Tryz.func94, Tryz.ntmps94
    go_wp2_with (go_at_call 74; refine CS.mono ?_; rintro e w' ⟨rfl, hh⟩)
    go_ret
    exact ⟨rfl, hh⟩
  · rw [if_neg hf]
    go_enter Tryz.func94, Tryz.ntmps94
    go_wp2_with (go_at_call 74; refine CS.mono ?_; rintro e w' ⟨rfl, hh⟩)
    go_ret
    exact ⟨rfl, hh⟩
end
/-! ### the cache behind a commit -/
def MixOk (Sp : List (List UInt8)) (n : Nat) (Ld : List (Int × List UInt8)) (V : List Vis) : Prop :=
  ∀ v ∈ V, v.2.2 = (0, false) ∧ ∃ y : Nat, v.1 = (y : Int) ∧ 1 ≤ y ∧ y ≤ n ∧ (getB Ld v.1 = some v.2.1 ∨ (getB Ld v.1 = none ∧ Sp[y - 1]? = some v.2.1))
theorem getB_snoc (L : List (Int × List UInt8)) (x : Int × List UInt8) (k : Int) : getB (L ++ [x]) k = (getB L k).or (if x.1 = k then some x.2 else none) := by
  unfold getB
  rw [List.find?_append]
  cases L.find? (fun q => decide (q.1 = k)) with
  | some q => rfl
  | none =>
    rw [Option.map_none, Option.none_or, Option.none_or, List.find?_cons]
    by_cases h : x.1 = k <;> simp [h]
theorem MixOk.all {Sp : List (List UInt8)} {n : Nat} {L : List (Int × List UInt8)} {V : List Vis} (h : MixOk Sp n L V) : CacheOk (newS Sp n L) V := by
  intro v hv
  obtain ⟨h1, y, e, y1, y2, h2⟩ := h v hv
  refine ⟨h1, y, e, y1, ?_⟩
  have hl : y - 1 < (newS Sp n L).length := by rw [newS_len]; omega
  have hg := newS_get (S := Sp) (L := L) y1 y2
  rw [List.getElem?_eq_getElem hl] at hg ⊢
  rw [Option.getD_some] at hg
  rw [hg, ← e]
  rcases h2 with h2 | ⟨h2, h3⟩
  · rw [h2]; rfl
  · rw [h2, h3]; rfl
theorem MixOk.len {Sp : List (List UInt8)} {n : Nat} {L : List (Int × List UInt8)} {V : List Vis} (h : MixOk Sp n L V) (nd : (V.map (·.1)).Nodup) : V.length ≤ n := by
  have := h.all.len nd
  rwa [newS_len] at this
section
variable (w : World) (base p d : Nat) (B : PgB) (S : PgV)
theorem cdrop_calls (i : Nat) (h : Hid (PgAt w base p d B S)) (hi : Hid (i < 1000000)) (hp : Hid (∀ v ∈ S.C.V, v.2.2 = (0, false))) :
    Calls Tryz.prog 147 #[.pointer (some ⟨B.c, 0, none⟩), .int .i64 i] w fun en w' => ∃ k C, en = .returned (.int .i64 k) ∧ Hid (PgAt w' base p d B { S with C := C } ∧ Qp base w w' ∧ ∀ v ∈ C.V, v ∈ S.C.V ∧ v.1 ≠ (i : Int)) := by
  have nd := h.out.cache.nodup
  by_cases hin : (i : Int) ∈ S.C.V.map (·.1)
  · obtain ⟨V1, v, V2, e, ev⟩ := find_split hin
    have hv := hp.out v (by rw [e]; simp)
    have HC := h.out.cache
    rw [e] at HC nd
    have := dropHit_calls w base B.c B.mp S.C.room S.C.hits S.C.miss V1 V2 v (hid HC) (hid (by have : v.2.2.1 = 0 := congrArg Prod.fst hv; rw [this]; rfl))
    rw [ev] at this
    unfold ptr at this
    refine this.mono ?_
    rintro en w' ⟨rfl, hh⟩
    obtain ⟨P, Q⟩ := h.out.cacheStep (C := ⟨S.C.room, S.C.hits, S.C.miss, V1 ++ V2⟩) hh.out.1 hh.out.2.1 hh.out.2.2
    refine ⟨0, _, rfl, hid ⟨P, Q, fun x hx => ?_⟩⟩
    have hx' : x ∈ V1 ++ V2 := hx
    refine ⟨by rw [e]; rcases List.mem_append.1 hx' with hx | hx <;> simp [hx], fun e2 => ?_⟩
    rw [List.map_append, List.map_cons, List.nodup_append, List.nodup_cons] at nd
    rcases List.mem_append.1 hx' with hx | hx
    · exact nd.2.2 _ (List.mem_map.2 ⟨x, hx, rfl⟩) _ List.mem_cons_self (e2.trans ev.symm)
    · exact nd.2.1.1 (List.mem_map.2 ⟨x, hx, e2.trans ev.symm⟩)
  · have := dropMiss_calls w base B.c B.mp S.C.room S.C.hits S.C.miss S.C.V i (hid h.out.cache) (hid (wf_nat hi.out)) (hid hin)
    unfold ptr at this
    refine this.mono ?_
    rintro en w' ⟨rfl, hu⟩
    exact ⟨5, S.C, rfl, hid ⟨h.out.up hu, Qp.up hu h.out.bs, fun x hx => ⟨hx, fun e => hin (List.mem_map.2 ⟨x, hx, e⟩)⟩⟩⟩
theorem cput_calls (i : Nat) (A : Option Addr) (c : Nat) (b : List UInt8) (h : Hid (PgAt w base p d B S)) (hi : Hid (1 ≤ i ∧ i < 1000000)) (hp : Hid (∀ v ∈ S.C.V, v.2.2 = (0, false))) (hl : Hid (S.C.V.length < 1000000)) (hD : Hid (b.length = 512)) (hb : Hid (Bytes w A b)) :
    Calls Tryz.prog 148 #[.pointer (some ⟨B.c, 0, none⟩), .int .i64 i, .slice A 512 c] w fun en w' => ∃ C, en = .returned (.int .i64 0) ∧ Hid (PgAt w' base p d B { S with C := C } ∧ Qp base w w' ∧ ∀ v ∈ C.V, v = ((i : Int), b, 0, false) ∨ (v ∈ S.C.V ∧ v.1 ≠ (i : Int))) := by
  have nd := h.out.cache.nodup
  by_cases hin : (i : Int) ∈ S.C.V.map (·.1)
  · obtain ⟨V1, v, V2, e, ev⟩ := find_split hin
    have hv := hp.out v (by rw [e]; simp)
    have HC := h.out.cache
    rw [e] at HC nd
    have := putOldM_calls w base B.c B.mp S.C.room S.C.hits S.C.miss V1 V2 v A c b (hid HC) (by rw [ev]; have := hi.out; omega) hD hb
    rw [ev] at this
    unfold ptr at this
    refine this.mono ?_
    rintro en w' ⟨rfl, hh⟩
    obtain ⟨P, Q⟩ := h.out.cacheStep (C := ⟨S.C.room, S.C.hits, S.C.miss, evictV S.C.room i [] ((V1 ++ V2) ++ [((i : Int), b, v.2.2.1, v.2.2.2)])⟩) hh.out.1 hh.out.2.1 hh.out.2.2
    refine ⟨_, rfl, hid ⟨P, Q, fun x hx => ?_⟩⟩
    rcases evictV_sub _ _ _ _ x hx with hx | hx
    · cases hx
    · rcases List.mem_append.1 hx with hx | hx
      · right
        refine ⟨by rw [e]; rcases List.mem_append.1 hx with hx | hx <;> simp [hx], fun e2 => ?_⟩
        rw [List.map_append, List.map_cons, List.nodup_append, List.nodup_cons] at nd
        rcases List.mem_append.1 hx with hx | hx
        · exact nd.2.2 _ (List.mem_map.2 ⟨x, hx, rfl⟩) _ List.mem_cons_self (e2.trans ev.symm)
        · exact nd.2.1.1 (List.mem_map.2 ⟨x, hx, e2.trans ev.symm⟩)
      · left
        have h1 : v.2.2.1 = 0 := congrArg Prod.fst hv
        have h2 : v.2.2.2 = false := congrArg Prod.snd hv
        rw [List.mem_singleton.1 hx, h1, h2]
  · have := putNewM_calls w base B.c B.mp S.C.room S.C.hits S.C.miss S.C.V i A c b (hid h.out.cache) (by have := hi.out; omega) (hid (wf_nat hi.out.2)) (hid hin) hD hb hl
    unfold ptr at this
    refine this.mono ?_
    rintro en w' ⟨rfl, hh⟩
    obtain ⟨P, Q⟩ := h.out.cacheStep (C := ⟨S.C.room, S.C.hits, S.C.miss, evictV S.C.room i [] (S.C.V ++ [((i : Int), b, 0, false)])⟩) hh.out.1 hh.out.2.1 hh.out.2.2
    refine ⟨_, rfl, hid ⟨P, Q, fun x hx => ?_⟩⟩
    rcases evictV_sub _ _ _ _ x hx with hx | hx
    · cases hx
    · rcases List.mem_append.1 hx with hx | hx
      · exact .inr ⟨hx, fun e => hin (List.mem_map.2 ⟨x, hx, e⟩)⟩
      · exact .inl (List.mem_singleton.1 hx)
end
end Go.Proofs.YtbcghggkfnagoaaGreatDoor

namespace Go.Proofs.YtbcghggkfnagoaaGreatDoor
open Go Go.RowKit Go.Maps Hach

def DoneA (w : World) (base p d : Nat) (B : PgB) (S : PgV) (Sp : List (List UInt8)) (n pg : Nat) (wr : World) : Prop :=
  ∃ C, PgAt wr base p d B { S with C := C } ∧ Qp base w wr ∧ CacheOk Sp C.V ∧ ∀ v ∈ C.V, ¬ ((n : Int) < v.1 ∧ v.1 < (pg : Int))
def DoneB (w : World) (base p d : Nat) (B : PgB) (S : PgV) (Sp : List (List UInt8)) (n : Nat) (L : List (Int × List UInt8)) (j : Nat) (wr : World) : Prop :=
  ∃ C, PgAt wr base p d B { S with C := C } ∧ Qp base w wr ∧ MixOk Sp n (L.take j) C.V
def DoneP (w : World) (base p d : Nat) (B : PgB) (S : PgV) (n : Nat) (S2 : List (List UInt8)) (w' : World) : Prop := ∃ C com, PgAt w' base p d B { S with C := C, count := n, T := none, com := com } ∧ CacheOk S2 C.V ∧ Qp base w w'
theorem getB_take_none {L : List (Int × List UInt8)} (hk : L.Pairwise fun a b => a.1 < b.1) {j : Nat} {x : Int × List UInt8} (hj : L[j]? = some x) : getB (L.take j) x.1 = none := by
  cases hg : getB (L.take j) x.1 with
  | none => rfl
  | some b =>
    have hm := getB_some hg
    obtain ⟨i, hi⟩ := List.getElem?_of_mem hm
    rw [List.getElem?_take] at hi
    split at hi
    · rename_i hij
      obtain ⟨h1, h2⟩ := List.getElem?_eq_some_iff.1 hi
      obtain ⟨h3, h4⟩ := List.getElem?_eq_some_iff.1 hj
      have := List.pairwise_iff_getElem.1 hk i j h1 h3 hij
      rw [h2, h4] at this
      exact absurd this (Int.lt_irrefl _)
    · cases hi
set_option maxRecDepth 100000 in
set_option maxHeartbeats 4000000 in
theorem done_calls (w : World) (base p d : Nat) (B : PgB) (S : PgV) (Sp : List (List UInt8)) (T : TrV) (cnt n : Nat) (h : Hid (PgAt w base p d B S)) (hd : Hid (S.dead = false)) (hT : Hid (S.T = some T)) (hn : Hid (T.n = n ∧ n ≤ 4000)) (hcn : Hid (S.count = cnt ∧ Sp.length = cnt ∧ cnt ≤ 4000)) (hc : Hid (CacheOk Sp S.C.V)) (hC : Hid (ChOk Sp n (plainL B.L))) :
    Calls Tryz.prog 100 #[.pointer (some ⟨p, 0, none⟩)] w fun en w' => en = .returned (.tuple #[]) ∧ Hid (DoneP w base p d B S n (newS Sp n (plainL B.L)) w') := by
  have o := h.out.own
  rw [hT.out, hd.out] at o
  obtain ⟨_, _, _, e3, _⟩ := o.cells
  replace e3 : w.cell? ⟨p, 3, none⟩ = some (.pointer (some ⟨B.t, 0, none⟩)) := e3
  have TA := h.out.tran T hT.out
  have f0 : w.cell? ⟨B.t, 0, none⟩ = some (.int .i64 n) := by rw [cell_of_row _ _ _ _ _ _ TA.own, ← hn.out.1]; rfl
  have w1 : wrap64 ((n : Int) + 1) = ((n + 1 : Nat) : Int) := by have := hn.out.2; unfold wrap64; omega
  obtain ⟨n1, hn1⟩ : ∃ x, n + 1 = x := ⟨_, rfl⟩
  have HN1 := hid hn1
  rw [hn1] at w1
  clear o TA hn1
  go_enter Tryz.func100, Tryz.ntmps100
  go_wp2
  clear w1 e3 f0
  go_loopw [2] (fun i wr => ∃ (pg : Nat), n1 ≤ pg ∧ pg ≤ max n1 (cnt + 1) ∧ i = .int .i64 pg ∧ Hid (DoneA w base p d B S Sp n pg wr)) (fun i _ => cnt + 1 - (intOf i).toNat)
  case atStart => exact ⟨n1, Nat.le_refl _, Nat.le_max_left _ _, rfl, hid ⟨S.C, h.out, Qp.refl _ _, hc.out, fun v hv e => by have := HN1.out; omega⟩⟩
  case round =>
    obtain ⟨pg, hp1, hp2, rfl, iv⟩ := hrel
    obtain ⟨C, PA, QP, CO, NO⟩ := iv.out
    have e1 : wr.cell? ⟨p, 1, none⟩ = some (.pointer (some ⟨B.c, 0, none⟩)) := PA.own.cells.2.1
    have e2 : wr.cell? ⟨p, 2, none⟩ = some (.int .i64 cnt) := by rw [PA.own.cells.2.2.1]; show some (Value.int .i64 (S.count : Int)) = _; rw [hcn.out.1]
    by_cases hlt : (pg : Int) ≤ cnt
    · have PB : Hid (n1 ≤ pg ∧ pg ≤ cnt ∧ cnt ≤ 4000) := hid ⟨hp1, by omega, hcn.out.2.2⟩
      have CD := cdrop_calls wr base p d B { S with C := C } pg (hid PA) (hid (by have := PB.out; omega)) (hid fun v hv => (CO v hv).1)
      have QP := hid QP
      have CO := hid CO
      have NO := hid NO
      have J1 : Hid (wrap64 ((pg : Int) + 1) = ((pg + 1 : Nat) : Int)) := hid (by have := PB.out; unfold wrap64; omega)
      clear iv PA hp1 hp2
      go_wp2_with (go_at_call 147; refine CD.mono ?_; rintro e w2 ⟨k2, C2, rfl, h2⟩)
      have NI : Hid (DoneA w base p d B S Sp n (pg + 1) w2) := hid ⟨C2, h2.out.1, QP.out.trans h2.out.2.1, fun v hv => CO.out v (h2.out.2.2 v hv).1, fun v hv e => by
        obtain ⟨q1, q2⟩ := h2.out.2.2 v hv
        have := NO.out v q1
        omega⟩
      clear h2 QP CO NO CD
      go_roundw
      case rel => exact ⟨pg + 1, by have := PB.out; omega, by have := PB.out; omega, by first | rfl | rw [J1.out], NI⟩
      case measure => have := PB.out; rw [J1.out]; simp only [intOf]; omega
    · have PA := hid PA
      have QP := hid QP
      have MX : Hid (MixOk Sp n [] C.V) := hid fun v hv => by
        obtain ⟨h1, y, h2, h3, h4⟩ := CO v hv
        have hy := (List.getElem?_eq_some_iff.1 h4).1
        refine ⟨h1, y, h2, h3, ?_, .inr ⟨rfl, h4⟩⟩
        have := NO v hv
        have := hcn.out
        omega
      clear iv CO NO hp1 hp2
      have TR := PA.out.tranAt (T := T) hT.out hd.out
      obtain ⟨N, hN⟩ : ∃ N, B.L.length = N := ⟨_, rfl⟩
      have LN : Hid (B.L.length = N ∧ N < 1000000) := hid ⟨hN, by
        rw [← hN]
        have hk := hC.out.keys
        have h1 := nodup_le n ((plainL B.L).map fun x => x.1.toNat - 1) (by
          rw [List.Nodup, List.pairwise_map]
          refine List.Pairwise.imp_of_mem ?_ hk
          intro a b ha hb hlt2
          obtain ⟨ka, ea, a1, _⟩ := hC.out.all a ha
          obtain ⟨kb, eb, b1, _⟩ := hC.out.all b hb
          omega) (fun x hx => by
          obtain ⟨y, hy, rfl⟩ := List.mem_map.1 hx
          obtain ⟨ky, ey, y1, y2, _⟩ := hC.out.all y hy
          omega)
        unfold plainL at h1
        rw [List.length_map, List.length_map] at h1
        have := hn.out.2
        omega⟩
      have KS : (B.L.map (·.1)).Pairwise (· < ·) := by
        rw [List.pairwise_map]
        have := (PA.out.tran T hT.out).pgs.keys
        exact this
      have CH := pchanged_calls wr p B.t B.m _ _ _ _ B.L (hid TR) (hid (by rw [hN]; exact LN.out.2)) (hid KS)
      unfold KeysP at CH
      rw [hN] at CH
      clear TR hN KS
      go_wp2_with (go_at_call 27; refine CH.mono ?_; rintro e w2 ⟨A, c, rfl, h2⟩)
      have K2 := hid h2.out.1
      have U2 := hid h2.out.2
      have I0 : Hid (DoneB w base p d B S Sp n (plainL B.L) 0 w2) := hid ⟨C, PA.out.up U2.out, QP.out.trans (Qp.up U2.out PA.out.bs), by rw [List.take_zero]; exact MX.out⟩
      have Q12 := hid (QP.out.trans (Qp.up U2.out PA.out.bs))
      clear h2 CH PA QP MX
      go_loopw [30] (fun i wx => ∃ (j : Nat), j ≤ N ∧ i = .int .i64 j ∧ Hid (DoneB w2 base p d B S Sp n (plainL B.L) j wx)) (fun i _ => N - (intOf i).toNat)
      case atStart =>
        obtain ⟨C', q1, q2, q3⟩ := I0.out
        exact ⟨0, Nat.zero_le _, rfl, hid ⟨C', q1, Qp.refl _ _, q3⟩⟩
      case round =>
        obtain ⟨j, hj, rfl, iv⟩ := hrel
        obtain ⟨C', PA, QP, MX⟩ := iv.out
        have TA := PA.tran T hT.out
        by_cases hlt : (j : Int) < N
        · have JN : Hid (j < N ∧ N < 1000000) := hid ⟨by omega, LN.out.2⟩
          obtain ⟨y, hy⟩ : ∃ y, B.L[j]? = some y := ⟨_, List.getElem?_eq_getElem (by have := LN.out.1; omega)⟩
          have hyL := List.mem_of_getElem? hy
          have hyP : (plainL B.L)[j]? = some (y.1, y.2.bs) := by unfold plainL; rw [List.getElem?_map, hy]; rfl
          obtain ⟨k, hk, k1, k2, k3⟩ := hC.out.all _ (List.mem_of_getElem? hyP)
          replace hk : y.1 = (k : Int) := hk
          replace k3 : y.2.bs.length = 512 := k3
          have KB : Hid (1 ≤ k ∧ k ≤ n ∧ n ≤ 4000) := hid ⟨k1, k2, hn.out.2⟩
          have hown := QP.own K2.out (by unfold pgTy; decide)
          obtain ⟨gb, go, hA, hcy⟩ := (Rd.own hown) j (.int .i64 (k : Int)) (by rw [List.getElem?_map, hy]; show some (Value.int .i64 y.1) = _; rw [hk])
          subst hA
          have hgg : gget B.L (k : Int) = some y.2 := by rw [← hk]; exact gget_sorted TA.pgs.keys hyL
          have hpv : pgAt B.L (k : Int) = pgV y.2.g y.2.c := by unfold pgAt; rw [hgg]
          have PR := TA.pgs.rows y hyL
          have ND := PA.cache.nodup
          have CQ := cput_calls wr.drew base p d B { S with C := C' } k (some ⟨y.2.g, 0, none⟩) y.2.c y.2.bs (hid (PA.up (Up.drew wr))) (hid (by have := KB.out; omega)) (hid fun v hv => (MX v hv).1) (hid (by have := MX.len ND; have := KB.out; show C'.V.length < _; omega)) (hid k3) (hid (PR.bytes.grown (Up.drew wr)))
          have NM : Hid (∀ V2 : List Vis, (∀ v ∈ V2, v = ((k : Int), y.2.bs, 0, false) ∨ (v ∈ C'.V ∧ v.1 ≠ (k : Int))) → MixOk Sp n ((plainL B.L).take (j + 1)) V2) := hid fun V2 h2 v hv => by
            have htk : (plainL B.L).take (j + 1) = (plainL B.L).take j ++ [(y.1, y.2.bs)] := by
              obtain ⟨h3, h4⟩ := List.getElem?_eq_some_iff.1 hyP
              rw [List.take_succ_eq_append_getElem h3, h4]
            rw [htk]
            rcases h2 v hv with rfl | ⟨q1, q2⟩
            · refine ⟨rfl, k, rfl, KB.out.1, KB.out.2.1, .inl ?_⟩
              rw [getB_snoc]
              have := getB_take_none hC.out.keys hyP
              replace this : getB ((plainL B.L).take j) y.1 = none := this
              rw [hk] at this
              show (getB _ (k : Int)).or (if y.1 = (k : Int) then some y.2.bs else none) = _
              rw [this, if_pos hk]; rfl
            · obtain ⟨r1, z, r2, r3, r4, r5⟩ := MX v q1
              refine ⟨r1, z, r2, r3, r4, ?_⟩
              have hne : ¬ y.1 = v.1 := fun e => q2 (by rw [← e, hk])
              rw [getB_snoc]
              show (_ ∨ _)
              simp only [if_neg hne, Option.or_none]
              exact r5
          have e3 : wr.cell? ⟨p, 3, none⟩ = some (.pointer (some ⟨B.t, 0, none⟩)) := by
            rw [PA.own.cells.2.2.2.1]; show some (tvOf B S.T) = _; rw [hT.out]; rfl
          have e1 : wr.cell? ⟨p, 1, none⟩ = some (.pointer (some ⟨B.c, 0, none⟩)) := PA.own.cells.2.1
          have f1 : wr.cell? ⟨B.t, 1, none⟩ = some (.map (some B.m)) := by rw [cell_of_row _ _ _ _ _ _ TA.own]; rfl
          have US : wr.drew.cell? ⟨p, 1, none⟩ = some (.pointer (some ⟨B.c, 0, none⟩)) ∧ wr.drew.cell? ⟨p, 3, none⟩ = some (.pointer (some ⟨B.t, 0, none⟩)) ∧ wr.drew.cell? ⟨B.t, 1, none⟩ = some (.map (some B.m)) ∧ MapP wr.drew B.m B.L := ⟨e1, e3, f1, TA.pgs.map.up (Up.drew wr)⟩
          have KF : Hid ((Lit.int .i64 (k : Int)).wf = true) := hid (wf_nat (by have := KB.out; omega))
          have HPV := hid hpv
          unfold pgV at HPV
          have QP := hid QP
          have BSZ : Hid (base ≤ wr.heap.size) := hid PA.bs
          have J1 : Hid (wrap64 ((j : Int) + 1) = ((j + 1 : Nat) : Int)) := hid (by have := JN.out; unfold wrap64; omega)
          clear iv PA MX TA hy hyL hyP hk k1 k2 k3 hown hgg hpv PR ND e3 e1 f1
          go_wp2_with fail
          refine s_start (fun w9 => w9.cell? ⟨p, 1, none⟩ = some (.pointer (some ⟨B.c, 0, none⟩)) ∧ w9.cell? ⟨p, 3, none⟩ = some (.pointer (some ⟨B.t, 0, none⟩)) ∧ w9.cell? ⟨B.t, 1, none⟩ = some (.map (some B.m)) ∧ MapP w9 B.m B.L) (by kernel_rfl) ?_
          refine s_tk 0 34 (v := ?_) US (fun w9 hS => ?_) ?_; rotate_left
          · go_simp <;> with_reducible rfl
          try simp only [pz]
          refine s_tk 1 35 (v := ?_) US (fun w9 hS => ?_) ?_; rotate_left
          · go_simp <;> with_reducible rfl
          try simp only [pz]
          refine s_tk 2 36 (v := ?_) US (fun w9 hS => ?_) ?_; rotate_left
          · go_simp <;> with_reducible rfl
          try simp only [pz]
          refine s_tk 3 37 (v := ?_) US (fun w9 hS => ?_) ?_; rotate_left
          · obtain ⟨s0, s3, s1, sm⟩ := hS; go_simp <;> with_reducible rfl
          try simp only [pz]
          refine s_tk 4 38 (v := ?_) US (fun w9 hS => ?_) ?_; rotate_left
          · go_simp <;> with_reducible rfl
          try simp only [pz]
          refine s_tk 5 39 (v := ?_) US (fun w9 hS => ?_) ?_; rotate_left
          · go_simp <;> with_reducible rfl
          try simp only [pz]
          refine s_tk 6 40 (v := ?_) US (fun w9 hS => ?_) ?_; rotate_left
          · go_simp <;> with_reducible rfl
          try simp only [pz]
          refine s_tk 7 41 (v := ?_) US (fun w9 hS => ?_) ?_; rotate_left
          · go_simp <;> with_reducible rfl
          try simp only [pz]
          refine s_tk 8 42 (v := ?_) US (fun w9 hS => ?_) ?_; rotate_left
          · obtain ⟨s0, s3, s1, sm⟩ := hS; go_simp <;> with_reducible rfl
          try simp only [pz]
          refine s_tk 9 43 (v := ?_) US (fun w9 hS => ?_) ?_; rotate_left
          · go_simp <;> with_reducible rfl
          try simp only [pz]
          refine s_tk 10 44 (v := ?_) US (fun w9 hS => ?_) ?_; rotate_left
          · go_simp <;> with_reducible rfl
          try simp only [pz]
          refine s_tk 11 45 (v := ?_) US (fun w9 hS => ?_) ?_; rotate_left
          · obtain ⟨s0, s3, s1, sm⟩ := hS; go_simp <;> with_reducible rfl
          try simp only [pz]
          refine s_tk 12 46 (v := ?_) US (fun w9 hS => ?_) ?_; rotate_left
          · go_simp <;> with_reducible rfl
          try simp only [pz]
          refine s_tk 13 47 (v := (.slice (some ⟨y.2.g, 0, none⟩) 512 y.2.c)) US (fun w9 hS => ?_) ?_
          · obtain ⟨s0, s3, s1, sm⟩ := hS; have lk := MapP.get sm (p := (k : Int)) KF.out; rw [HPV.out] at lk; first | (go_simp; done) | (go_simp; rfl) | (go_simp; rw [lk]; done) | (go_simp; rw [lk]; rfl) | (go_simp; exact lk) | (go_simp; rw [lk]; with_reducible rfl)
          try simp only [pz]
          refine s_ca 14 (fun K9 hK9 => ?_)
          go_simp
          go_at_call 148
          refine CQ.mono ?_
          rintro en w8 ⟨C8, rfl, h8⟩
          have NI : Hid (DoneB w2 base p d B S Sp n (plainL B.L) (j + 1) w8) := hid ⟨C8, h8.out.1, (QP.out.trans (Qp.up (Up.drew wr) BSZ.out)).trans h8.out.2.1, NM.out C8.V h8.out.2.2⟩
          have P8 := h8.out.1
          have T8 := P8.tran T hT.out
          replace US : w8.cell? ⟨p, 1, none⟩ = some (.pointer (some ⟨B.c, 0, none⟩)) ∧ w8.cell? ⟨p, 3, none⟩ = some (.pointer (some ⟨B.t, 0, none⟩)) ∧ w8.cell? ⟨B.t, 1, none⟩ = some (.map (some B.m)) ∧ MapP w8 B.m B.L := ⟨P8.own.cells.2.1, (by rw [P8.own.cells.2.2.2.1]; show some (tvOf B S.T) = _; rw [hT.out]; try rfl), (by rw [cell_of_row _ _ _ _ _ _ T8.own]; try rfl), T8.pgs.map⟩
          refine hK9.out _ _ US ?_
          clear P8 T8 h8
          clear hK9 K9
          try simp only [pz]
          refine s_done (by kernel_rfl) ?_
          clear US CQ NM
          first | (rename_i K1 h1; refine h1 _ _ ?_; clear h1 K1) | skip
          go_wp2
          go_roundw
          case rel => exact ⟨j + 1, JN.out.1, by first | rfl | rw [J1.out], NI⟩
          case measure => have := JN.out; rw [J1.out]; simp only [intOf]; omega
        · obtain rfl : j = N := by omega
          have COF : Hid (CacheOk (newS Sp n (plainL B.L)) C'.V) := hid (by
            have hl : (plainL B.L).length = j := by unfold plainL; rw [List.length_map]; exact LN.out.1
            have := MX.all
            rw [List.take_of_length_le (by omega)] at this
            exact this)
          have e3 : wr.cell? ⟨p, 3, none⟩ = some (.pointer (some ⟨B.t, 0, none⟩)) := by
            rw [PA.own.cells.2.2.2.1]; show some (tvOf B S.T) = _; rw [hT.out]; rfl
          have f0 : wr.cell? ⟨B.t, 0, none⟩ = some (.int .i64 n) := by rw [cell_of_row _ _ _ _ _ _ TA.own, ← hn.out.1]; rfl
          have e2 := PA.own.cells.2.2.1
          have z2 := PA.own.free 2
          have k2 := heap_setCell_same _ p 2 _ _ (.int .i64 n) PA.own
          have fr2 : Fr (fun k => k = p) wr (wr.setCell ⟨p, 2, none⟩ (.int .i64 n)) := (Fr.refl (fun k => k = p) wr).setCell (p := ⟨p, 2, none⟩) (fun _ => rfl) _
          obtain ⟨P2, Q2⟩ := PA.ownStep (S' := { S with C := C', count := n }) fr2 k2 rfl rfl (fun T hT => hT)
          have g3 := P2.own.cells.2.2.2.1
          have z3 := P2.own.free 3
          have k3 := heap_setCell_same _ p 3 _ _ (.pointer none) P2.own
          have fr3 : Fr (fun k => k = p) (wr.setCell ⟨p, 2, none⟩ (.int .i64 n)) ((wr.setCell ⟨p, 2, none⟩ (.int .i64 n)).setCell ⟨p, 3, none⟩ (.pointer none)) := (Fr.refl (fun k => k = p) _).setCell (p := ⟨p, 3, none⟩) (fun _ => rfl) _
          obtain ⟨P3, Q3⟩ := P2.ownStep (S' := { S with C := C', count := n, T := none }) fr3 k3 rfl rfl (fun T hT => by cases hT)
          have g5 := P3.own.cells.2.2.2.2.2.1
          have z5 := P3.own.free 5
          have k5 := heap_setCell_same _ p 5 _ _ (.int .i64 (wrap64 (S.com + 1))) P3.own
          have fr5 : Fr (fun k => k = p) ((wr.setCell ⟨p, 2, none⟩ (.int .i64 n)).setCell ⟨p, 3, none⟩ (.pointer none)) (((wr.setCell ⟨p, 2, none⟩ (.int .i64 n)).setCell ⟨p, 3, none⟩ (.pointer none)).setCell ⟨p, 5, none⟩ (.int .i64 (wrap64 (S.com + 1)))) := (Fr.refl (fun k => k = p) _).setCell (p := ⟨p, 5, none⟩) (fun _ => rfl) _
          obtain ⟨P5, Q5⟩ := P3.ownStep (S' := { S with C := C', count := n, T := none, com := wrap64 (S.com + 1) }) fr5 k5 rfl rfl (fun T hT => by cases hT)
          have RES : Hid (DoneP w base p d B S n (newS Sp n (plainL B.L)) (((wr.setCell ⟨p, 2, none⟩ (.int .i64 n)).setCell ⟨p, 3, none⟩ (.pointer none)).setCell ⟨p, 5, none⟩ (.int .i64 (wrap64 (S.com + 1))))) :=
            hid ⟨C', _, P5, COF.out, (((Q12.out.trans QP).trans Q2).trans Q3).trans Q5⟩
          simp only at g3 g5
          clear iv PA QP MX TA fr2 k2 P2 Q2 fr3 k3 P3 Q3 fr5 k5 P5 Q5 COF hlt
          go_wp2
          go_end0
          exact ⟨rfl, RES⟩
end Go.Proofs.YtbcghggkfnagoaaGreatDoor

namespace Go.Proofs.YtbcghggkfnagoaaGreatDoor
open Go Go.RowKit Go.Maps Hach

def SecRet (w : World) (X : List Sec) (en : Ending) (w' : World) : Prop := ∃ (g n c : Nat), en = .returned (.slice (some ⟨g, 0, none⟩) n c) ∧ Hid (SecBytes w' (some ⟨g, 0, none⟩) n c X ∧ w.heap.size ≤ g ∧ Up w w')
theorem secBytes_of {w : World} {b0 n c : Nat} {A : Option Addr} {e : TypeId} {Z : List UInt8} (h : w.ownsRow b0 e 1 (.slice A n c) n (Z.map byteCell)) (he : e = 5 ∨ e = 172) (hn : n = Z.length) {k : Nat} (hk : Z.length = 128 * (k + 1)) :
    ∃ g, A = some ⟨g, 0, none⟩ ∧ SecBytes w (some ⟨g, 0, none⟩) n c (secsB Z) ∧ b0 ≤ g := by
  rcases h.2 with ⟨hv, h0⟩ | ⟨g, cap, cur, hv, hb, hg, h1, h2, h3, h4⟩
  · omega
  injection hv with e1 e2 e3
  subst e1; subst e3
  refine ⟨g, rfl, ⟨by rw [secsB_len]; omega, secsB_whole Z, .inr ⟨g, 0, rfl, h1, fun j s hj => ?_⟩⟩, hb⟩
  refine ⟨⟨cur, e, (0, 0), hg, ?_⟩, fun i v hi => ?_⟩
  · rcases he with he | he
    · exact .inl he
    · exact .inr he
  · have hjl := (List.getElem?_eq_some_iff.1 hj).1
    have hs : s = (Z.drop (j * 128)).take 128 := by
      unfold secsB at hj
      rw [List.getElem?_map] at hj
      rw [secsB_len] at hjl
      rw [List.getElem?_range hjl] at hj
      exact (Option.some.inj hj).symm
    have hz : (Z.map byteCell)[j * 128 + i]? = some v := by
      rw [hs] at hi
      unfold secC at hi
      rw [List.getElem?_map] at hi ⊢
      rw [List.getElem?_take] at hi
      split at hi
      · rw [List.getElem?_drop] at hi; exact hi
      · cases hi
    have hzl := (List.getElem?_eq_some_iff.1 hz).1
    rw [List.length_map] at hzl
    rw [cell_of_row _ _ _ _ _ _ hg]
    rw [← h4, List.getElem?_take] at hz
    split at hz
    · simpa using hz
    · cases hz
theorem bytesP_calls (w : World) (ht : Hid (TabOk w)) (S : List (List UInt8)) (R : List (Int × List UInt8)) (nn : Nat) (b0 : Nat) (A : Option Addr) (k c cnt : Nat) (hR : Hid (GoodR S R)) (h4 : Hid (S.length ≤ 4000)) (hcnt : Hid (S.length = cnt)) (hn : Hid ((nn : Int) < 18446744073709551616)) (hro : Hid (RecOwn w b0 A k c R)) :
    Calls Tryz.prog 91 #[.agg #[.int .i64 k, .int .i64 cnt, .int .u64 (nn : Int)], .slice A k c, .bool false] w (SecRet w (hd0 S R nn :: secsB (Jrn.recsB nn R))) := by
  obtain ⟨e1, _, cells, o1, o2⟩ := hro.out
  have hl := hR.out.len_le
  have hg := hR.out.goodJ h4.out
  have rd := RecsRow.rd (own_base o1 (Nat.zero_le _)) o2
  have := bytesT_calls w ht R.length S.length nn false A R c (hid (by have := h4.out; omega)) hn (hid rd)
  rw [e1, hcnt.out] at this
  refine this.mono ?_
  rintro en w' ⟨A', c', e, rfl, he, ho, hu⟩
  obtain ⟨g1, g2, g3, g4⟩ := Jrn.journal_parts hg
  rw [e1, hcnt.out] at hg
  have hlen : (Jrn.bytesJ k cnt nn R false).length = 128 * (5 * R.length + 1) := by
    unfold Jrn.bytesJ
    rw [if_pos hg, List.length_append, Jrn.headB_length (by omega) (by have := hcnt.out; have := h4.out; omega), Jrn.recsB_length g4]
    omega
  obtain ⟨g, rfl, sb, gb⟩ := secBytes_of ho he rfl hlen
  have hZ : secsB (Jrn.bytesJ k cnt nn R false) = hd0 S R nn :: secsB (Jrn.recsB nn R) := by
    unfold Jrn.bytesJ
    rw [if_pos hg, secsB_cons (Jrn.headB_length (by omega) (by have := hcnt.out; have := h4.out; omega))]
    unfold hd0
    rw [e1, hcnt.out]
  rw [hZ] at sb
  exact ⟨g, _, c', rfl, hid ⟨sb, gb, hu⟩⟩
theorem headP_calls (w : World) (ht : Hid (TabOk w)) (S : List (List UInt8)) (R : List (Int × List UInt8)) (nn k cnt : Nat) (hR : Hid (GoodR S R)) (hk : Hid (R.length = k)) (h4 : Hid (S.length ≤ 4000)) (hcnt : Hid (S.length = cnt)) (hn : Hid ((nn : Int) < 18446744073709551616)) :
    Calls Tryz.prog 92 #[.agg #[.int .i64 k, .int .i64 cnt, .int .u64 (nn : Int)], .bool true] w (SecRet w [hdY S R nn]) := by
  have hl := hR.out.len_le
  have e1 := hk.out
  have := headBytes_calls w ht R.length S.length nn true hn
  rw [e1, hcnt.out] at this
  refine this.mono ?_
  rintro en w' ⟨A', c', ⟨rfl, hcc⟩, ho, hu⟩
  have hlen : (Jrn.headB k cnt nn true).length = 128 * (0 + 1) := Jrn.headB_length (by have := h4.out; omega) (by have := hcnt.out; have := h4.out; omega)
  obtain ⟨g, rfl, sb, gb⟩ := secBytes_of ho (.inr rfl) rfl hlen
  have hZ : secsB (Jrn.headB k cnt nn true) = [hdY S R nn] := by
    have := secsB_cons (hd := Jrn.headB k cnt nn true) (bs := []) (by rw [hlen])
    rw [List.append_nil] at this
    rw [this]
    unfold hdY
    rw [e1, hcnt.out]
    rfl
  rw [hZ] at sb
  exact ⟨g, _, c', rfl, hid ⟨sb, gb, hu⟩⟩
/-! ### what a disk bears over rows of pages -/
theorem writesR_plain (L : PgL) : ∀ D : DiskV, writesR D L = writesB D (plainL L) := by
  induction L with
  | nil => intro D; rfl
  | cons y r ih =>
    intro D
    show (if (writeR D 0 (placeV y.1) (secs4 y.2.bs)).2 = 0 then writesR (writeR D 0 (placeV y.1) (secs4 y.2.bs)).1 r else _) = (if (writeR D 0 (placeV y.1) (secs4 y.2.bs)).2 = 0 then writesB (writeR D 0 (placeV y.1) (secs4 y.2.bs)).1 (plainL r) else _)
    rw [ih]
theorem Fit.all (L : PgL) : ∀ {D : DiskV} {m : Int}, Fit D (m + L.length) → 1 ≤ m → (∀ y ∈ L, y.2.bs.length = 512) → OkAll D L := by
  induction L with
  | nil => intro D m h hm _; exact h.disk (by rw [List.length_nil]; omega)
  | cons y r ih =>
    intro D m h hm hl
    rw [List.length_cons] at h
    exact ⟨h.disk (by omega), ih ((h.less (k := (m + r.length) + 1) (by omega)).write (by omega) 0 _ (secs4_whole (hl y List.mem_cons_self))) hm (fun x hx => hl x (List.mem_cons_of_mem _ hx))⟩
theorem Fit.writes (L : List (Int × List UInt8)) : ∀ {D : DiskV} {m : Int}, Fit D (m + L.length) → 0 ≤ m → (∀ y ∈ L, y.2.length = 512) → Fit (writesB D L).1 m := by
  induction L with
  | nil => intro D m h hm _; exact h.less (by rw [List.length_nil]; omega)
  | cons y r ih =>
    intro D m h hm hl
    rw [List.length_cons] at h
    have hw := (h.less (k := (m + r.length) + 1) (by omega)).write (by omega) 0 (placeV y.1) (secs4_whole (hl y List.mem_cons_self))
    unfold writesB
    split
    · exact ih hw hm (fun x hx => hl x (List.mem_cons_of_mem _ hx))
    · exact hw.less (by omega)
theorem Fit.jou {D : DiskV} {m : Int} {X Y : List Sec} (h : Fit D (m + 4)) (hm : 0 ≤ m) (hX : ∀ s ∈ X, s.length = 128) (hY : ∀ s ∈ Y, s.length = 128) : OkS D (jouGs X Y) := by
  have f1 := (h.less (k := m + 3 + 1) (by omega)).write (by omega) 1 0 hX
  have f2 := (f1.less (k := m + 2 + 1) (by omega)).sync (by omega) 1
  have f3 := (f2.less (k := m + 1 + 1) (by omega)).write (by omega) 1 0 hY
  exact ⟨h.disk (by omega), fun _ => ⟨f1.disk (by omega), fun _ => ⟨f2.disk (by omega), fun _ => ⟨f3.disk (by omega), fun _ => trivial⟩⟩⟩⟩
theorem Fit.jouG {D : DiskV} {m : Int} {X Y : List Sec} (h : Fit D (m + 4)) (hm : 0 ≤ m) (hX : ∀ s ∈ X, s.length = 128) (hY : ∀ s ∈ Y, s.length = 128) : Fit (seqR D (jouGs X Y)).1 m := by
  have f1 := (h.less (k := m + 3 + 1) (by omega)).write (by omega) 1 0 hX
  have f2 := (f1.less (k := m + 2 + 1) (by omega)).sync (by omega) 1
  have f3 := (f2.less (k := m + 1 + 1) (by omega)).write (by omega) 1 0 hY
  have f4 := f3.sync hm 1
  unfold jouGs
  simp only [seqR_cons, seqR_nil]
  split
  · split
    · split
      · split
        · exact f4
        · exact f4
      · exact f3.less (by omega)
    · exact f2.less (by omega)
  · exact f1.less (by omega)
theorem Fit.dat {D : DiskV} {m : Int} {L : PgL} {n : Nat} (h : Fit D (m + 4 + L.length)) (hm : 0 ≤ m) (hl : ∀ y ∈ L, y.2.bs.length = 512) : OkS D (dataGs L n) := by
  have f1 : Fit (writesR D L).1 (m + 4) := by
    rw [writesR_plain]
    refine Fit.writes (plainL L) (by unfold plainL; rw [List.length_map]; exact h) (by omega) (fun y hy => ?_)
    unfold plainL at hy
    obtain ⟨x, hx, rfl⟩ := List.mem_map.1 hy
    exact hl x hx
  have f2 := (f1.less (k := m + 2 + 1) (by omega)).sync (by omega) 0
  have f3 := (f2.less (k := m + 1 + 1) (by omega)).pcut (by omega) n
  exact ⟨h.disk (by omega), fun _ => ⟨f1.disk (by omega), fun _ => ⟨f2.disk (by omega), fun _ => ⟨f3.disk (by omega), fun _ => trivial⟩⟩⟩⟩
theorem Fit.datG {D : DiskV} {m : Int} (L : List (Int × List UInt8)) {n : Nat} (h : Fit D (m + 3 + L.length)) (hm : 0 ≤ m) (hl : ∀ y ∈ L, y.2.length = 512) : Fit (seqR D (dataGB L n)).1 m := by
  have f1 := Fit.writes L h (by omega) hl
  have f2 := (f1.less (k := m + 2 + 1) (by omega)).sync (by omega) 0
  have f3 := (f2.less (k := m + 1 + 1) (by omega)).pcut (by omega) n
  have f4 := f3.clean hm
  unfold dataGB
  simp only [seqR_cons, seqR_nil]
  split
  · split
    · split
      · split
        · exact f4
        · exact f4
      · exact f3.less (by omega)
    · exact f2.less (by omega)
  · exact f1.less (by omega)
theorem dataGs_plain (L : PgL) (n : Nat) : dataGs L n = dataGB (plainL L) n := by
  unfold dataGs dataGB
  congr 1
  funext D
  exact writesR_plain L D
/-! ### steps over a pager, its disk told -/
theorem stepsP_calls (w : World) (A : Option Addr) (c base p d : Nat) (B : PgB) (S : PgV) (fs : List FnV) (gs : List (DiskV → DiskV × Int)) (OkP : Nat → DiskV → Prop) (h0 : PgD w base p d B S S.D)
    (hl : Hid (fs.length < 1000)) (hlen : gs.length = fs.length) (hr : ∀ w', Qp base w w' → Rd w' A (fs.map fnv))
    (hent : ∀ x ∈ fs, ∀ (args : Array Value) (w : World), (callFunc x.f args).run Tryz.prog w = .ok (.enter x.f args) w)
    (hok : OkP 0 S.D) (hstep : ∀ k g Dk, gs[k]? = some g → OkP k Dk → (g Dk).2 = 0 → OkP (k + 1) (g Dk).1)
    (hs : ∀ k x g, fs[k]? = some x → gs[k]? = some g → ∀ Dk W, OkP k Dk → PgD W base p d B S Dk → Qp base w W → Calls Tryz.prog x.f (x.b ++ x.c) W fun en w' => en = .returned (.int .i64 (g Dk).2) ∧ Hid (PgD w' base p d B S (g Dk).1 ∧ Qp base W w')) :
    Calls Tryz.prog 74 #[.slice A fs.length c] w fun en w' => en = .returned (.int .i64 (seqR S.D gs).2) ∧ Hid (PgD w' base p d B S (seqR S.D gs).1 ∧ Qp base w w') := by
  refine (steps_calls w A c fs (fun k w' => ∃ Dk, OkP k Dk ∧ (PgD w' base p d B S Dk ∧ Qp base w w') ∧ seqR Dk (gs.drop k) = seqR S.D gs) (fun e w' => e = (seqR S.D gs).2 ∧ PgD w' base p d B S (seqR S.D gs).1 ∧ Qp base w w') hl
    (hid fun k w' h => ?_) hent (hid fun k x hx w' h => ?_) ⟨S.D, hok, ⟨h0, Qp.refl _ _⟩, rfl⟩).mono ?_
  · obtain ⟨Dk, _, hg, _⟩ := h
    exact hr w' hg.2
  · obtain ⟨Dk, hk, hg, he⟩ := h
    have hkl : k < gs.length := by rw [hlen]; exact (List.getElem?_eq_some_iff.1 hx).1
    obtain ⟨g, hgk⟩ : ∃ g, gs[k]? = some g := ⟨_, List.getElem?_eq_getElem hkl⟩
    have hdr : gs.drop k = g :: gs.drop (k + 1) := by
      rw [List.drop_eq_getElem_cons hkl, (List.getElem?_eq_some_iff.1 hgk).2]
    rw [hdr] at he
    have he2 : (if (g Dk).2 = 0 then seqR (g Dk).1 (gs.drop (k + 1)) else g Dk) = seqR S.D gs := he
    refine (hs k x g hx hgk Dk w' hk hg.1 hg.2).mono ?_
    rintro en w2 ⟨rfl, h2⟩
    by_cases e0 : (g Dk).2 = 0
    · rw [if_pos e0] at he2
      exact .inl ⟨by rw [e0], _, hstep k g Dk hgk hk e0, ⟨h2.out.1, hg.2.trans h2.out.2⟩, he2⟩
    · rw [if_neg e0] at he2
      exact .inr ⟨_, e0, rfl, by rw [← he2], by rw [← he2]; exact ⟨h2.out.1, hg.2.trans h2.out.2⟩⟩
  · rintro en w' (⟨rfl, Dk, _, hg, he⟩ | ⟨e, _, rfl, rfl, hg⟩)
    · rw [List.drop_of_length_le (by rw [hlen]; exact Nat.le_refl _)] at he
      have he2 : (Dk, (0 : Int)) = seqR S.D gs := he
      rw [← he2]
      exact ⟨rfl, hid hg⟩
    · exact ⟨rfl, hid hg⟩
end Go.Proofs.YtbcghggkfnagoaaGreatDoor

namespace Go.Proofs.YtbcghggkfnagoaaGreatDoor
open Go Go.RowKit Go.Maps Hach

set_option maxRecDepth 100000 in
set_option maxHeartbeats 2000000 in
theorem back1_calls (W : World) (base p d : Nat) (B : PgB) (S : PgV) (b1 b4 : Nat) (A : Option Addr) (k c cnt : Nat) (R : List (Int × List UInt8)) (m : Int) (h : Hid (PgAt W base p d B S)) (hd : Hid (S.dead = false)) (hcn : Hid (S.count = cnt ∧ cnt ≤ 4000)) (hb1 : Hid (BoxT W b1 (.pointer (some ⟨p, 0, none⟩)) 25)) (hb4 : Hid (BoxT W b4 (.slice A k c) 139))
    (hR : Hid (RecsOwnd W A k c R ∧ R.length = k ∧ k < 100000)) (hG : Hid (∀ r ∈ R, ∃ y : Nat, r.1 = (y : Int) ∧ 1 ≤ y ∧ y ≤ 4000 ∧ r.2.length = 512)) (hf : Hid (Fit S.D (m + 2 + R.length) ∧ 0 ≤ m)) :
    Calls Tryz.prog 98 #[.pointer (some ⟨b1, 0, none⟩), .pointer (some ⟨b4, 0, none⟩)] W fun en w' => en = .returned (.int .i64 (restoreR S.D cnt R).2) ∧ Hid (PgD w' base p d B S (restoreR S.D cnt R).1 ∧ Qp base W w') := by
  have c1 := hb1.out.cell
  have c4 := hb4.out.cell
  have c2 : W.cell? ⟨p, 2, none⟩ = some (.int .i64 cnt) := by rw [h.out.own.cells.2.2.1]; show some (Value.int .i64 (S.count : Int)) = _; rw [hcn.out.1]
  have RC := restore_calls W.drew base p d B S A k c cnt R m (hid (h.out.up (Up.drew W))) hd (hid ⟨hR.out.1.up (Up.drew W), hR.out.2⟩) hG (hid hcn.out.2) hf
  have US : W.drew.cell? ⟨b1, 0, none⟩ = some (.pointer (some ⟨p, 0, none⟩)) ∧ W.drew.cell? ⟨p, 2, none⟩ = some (.int .i64 cnt) ∧ W.drew.cell? ⟨b4, 0, none⟩ = some (.slice A k c) := ⟨c1, c2, c4⟩
  obtain ⟨R9, hR9⟩ : ∃ R9, restoreR S.D cnt R = R9 := ⟨_, rfl⟩
  rw [hR9] at RC ⊢
  have BSZ : Hid (base ≤ W.heap.size) := hid h.out.bs
  clear hR9
  go_enter Tryz.func98, Tryz.ntmps98
  go_wp2_with fail
  refine s_start (fun w9 => w9.cell? ⟨b1, 0, none⟩ = some (.pointer (some ⟨p, 0, none⟩)) ∧ w9.cell? ⟨p, 2, none⟩ = some (.int .i64 cnt) ∧ w9.cell? ⟨b4, 0, none⟩ = some (.slice A k c)) (by kernel_rfl) ?_
  refine s_tk 0 3 (v := ?_) US (fun w9 hS => ?_) ?_; rotate_left
  · obtain ⟨s0, s1, s2⟩ := hS; go_simp <;> with_reducible rfl
  try simp only [pz]
  refine s_tk 1 4 (v := ?_) US (fun w9 hS => ?_) ?_; rotate_left
  · obtain ⟨s0, s1, s2⟩ := hS; go_simp <;> with_reducible rfl
  try simp only [pz]
  refine s_tk 2 5 (v := ?_) US (fun w9 hS => ?_) ?_; rotate_left
  · go_simp <;> with_reducible rfl
  try simp only [pz]
  refine s_tk 3 6 (v := ?_) US (fun w9 hS => ?_) ?_; rotate_left
  · go_simp <;> with_reducible rfl
  try simp only [pz]
  refine s_tk 4 7 (v := ?_) US (fun w9 hS => ?_) ?_; rotate_left
  · obtain ⟨s0, s1, s2⟩ := hS; go_simp <;> with_reducible rfl
  try simp only [pz]
  refine s_tk 5 8 (v := ?_) US (fun w9 hS => ?_) ?_; rotate_left
  · obtain ⟨s0, s1, s2⟩ := hS; go_simp <;> with_reducible rfl
  try simp only [pz]
  refine s_ca 6 (fun K9 hK9 => ?_)
  go_simp
  go_at_call 99
  refine RC.mono ?_
  rintro en w8 ⟨rfl, h8⟩
  obtain ⟨⟨pd8, P8⟩, Q8⟩ := h8.out
  replace US : w8.cell? ⟨b1, 0, none⟩ = some (.pointer (some ⟨p, 0, none⟩)) ∧ w8.cell? ⟨p, 2, none⟩ = some (.int .i64 cnt) ∧ w8.cell? ⟨b4, 0, none⟩ = some (.slice A k c) := ⟨((hb1.out.up (Up.drew W)).qp Q8).cell, (by rw [P8.own.cells.2.2.1]; show some (Value.int .i64 (S.count : Int)) = _; rw [hcn.out.1]), ((hb4.out.up (Up.drew W)).qp Q8).cell⟩
  have RES : Hid (PgD w8 base p d B S R9.1 ∧ Qp base W w8) := hid ⟨⟨pd8, P8⟩, (Qp.up (Up.drew W) BSZ.out).trans Q8⟩
  clear h8 P8 Q8
  refine hK9.out _ _ US ?_
  clear hK9 K9
  try simp only [pz]
  refine s_tk 7 2 (v := ?_) US (fun w9 hS => ?_) ?_; rotate_left
  · go_simp <;> with_reducible rfl
  try simp only [pz]
  refine s_done (by kernel_rfl) ?_
  clear US RC
  first | (rename_i K1 h1; refine h1 _ _ ?_; clear h1 K1) | skip
  go_wp2
  go_ret
  exact ⟨rfl, RES⟩
theorem SecBytes.up {w w' : World} {A : Option Addr} {n cap : Nat} {ss : List Sec} (h : SecBytes w A n cap ss) (hu : Up w w') : SecBytes w' A n cap ss := by
  obtain ⟨h1, h2, h3⟩ := h
  refine ⟨h1, h2, h3.imp id ?_⟩
  rintro ⟨bb, bp, e, h5, h6⟩
  exact ⟨bb, bp, e, h5, fun j s hj => (h6 j s hj).fr (Fr.of_below hu) (fun e => e.elim)⟩
def BoxU (wc w : World) (b : Nat) (v : Value) : Prop := wc.heap.size ≤ b ∧ w.cell? ⟨b, 0, none⟩ = some v
theorem BoxU.up {wc w w' : World} {b : Nat} {v : Value} (h : BoxU wc w b v) (hu : Up w w') : BoxU wc w' b v := ⟨h.1, hu.c h.2⟩
theorem BoxN.u {wc w w' : World} {b : Nat} {v : Value} (h : BoxN w w' b v) (hs : wc.heap.size ≤ w.heap.size) : BoxU wc w' b v := ⟨Nat.le_trans hs h.new, h.cell⟩
theorem BoxU.f {wc w : World} {base d b : Nat} {v : Value} {pd : DiskP} {D : DiskV} (h : BoxU wc w b v) (hd : DiskAt wc base d pd D) : BoxF w (foot d pd D) b v := ⟨h.2, fun e => by
  have h1 : foot d pd D b → b < wc.heap.size := fun e => foot_lt hd e
  have := h1 e
  have := h.1
  omega⟩
theorem row_rd {w w' : World} {base d g : Nat} {vs : List Value} {pd : DiskP} {D : DiskV} (hd : DiskAt w base d pd D) (hr : w.heap[g]? = some (.cells vs.toArray 53 (0, 0))) (hf : Fr (foot d pd D) w w') : Rd w' (some ⟨g, 0, none⟩) vs := by
  have hb : w'.heap[g]? = _ := (hf.block g (Array.getElem?_eq_some_iff.1 hr).1 ((foot_tys hd).cell hr (by decide))).trans hr
  intro j u hj
  refine ⟨g, 0, rfl, ?_⟩
  rw [cell_of_row _ _ _ _ _ _ hb, Nat.zero_add]
  simpa using hj
theorem whole_hd0 {S : List (List UInt8)} {R : List (Int × List UInt8)} (hR : GoodR S R) (h4 : S.length ≤ 4000) (nn : Nat) : (hd0 S R nn).length = 128 ∧ (hdY S R nn).length = 128 := by
  have hl := hR.len_le
  exact ⟨Jrn.headB_length (by omega) (by omega), Jrn.headB_length (by omega) (by omega)⟩
theorem len_recs {S : List (List UInt8)} {R : List (Int × List UInt8)} (hR : GoodR S R) (h4 : S.length ≤ 4000) (nn : Nat) : (secsB (Jrn.recsB nn R)).length = 5 * R.length := by
  rw [secsB_len, Jrn.recsB_length (Jrn.journal_parts (hR.goodJ h4)).2.2.2]; omega
theorem jouSteps_calls (wc wB : World) (base p d : Nat) (B : PgB) (S : PgV) (gr c b1 f1 s1 b2 f2 b3 f3 s3 : Nat) (A1 A3 : Option Addr) (n1 c1 n3 c3 g1 g3 : Nat) (X Y : List Sec) (m : Int) (h : Hid (PgAt wc base p d B S)) (hd : Hid (S.dead = false)) (hu : Hid (Up wc wB)) (hr : Hid (wB.heap[gr]? = some (.cells ((jouFs b1 f1 s1 b2 f2 b3 f3 s3).map fnv).toArray 53 (0, 0))))
    (hb1 : Hid (BoxU wc wB b1 (.pointer (some ⟨p, 0, none⟩)))) (hf1 : Hid (BoxU wc wB f1 (.int .i64 1))) (hs1 : Hid (BoxU wc wB s1 (.slice (some ⟨g1, 0, none⟩) n1 c1))) (hX : Hid (SecBytes wB (some ⟨g1, 0, none⟩) n1 c1 X ∧ wc.heap.size ≤ g1 ∧ X.length < 100000 ∧ ∀ s ∈ X, s.length = 128))
    (hb2 : Hid (BoxU wc wB b2 (.pointer (some ⟨p, 0, none⟩)))) (hf2 : Hid (BoxU wc wB f2 (.int .i64 1)))
    (hb3 : Hid (BoxU wc wB b3 (.pointer (some ⟨p, 0, none⟩)))) (hf3 : Hid (BoxU wc wB f3 (.int .i64 1))) (hs3 : Hid (BoxU wc wB s3 (.slice (some ⟨g3, 0, none⟩) n3 c3))) (hY : Hid (SecBytes wB (some ⟨g3, 0, none⟩) n3 c3 Y ∧ wc.heap.size ≤ g3 ∧ Y.length < 100000 ∧ ∀ s ∈ Y, s.length = 128)) (hf : Hid (Fit S.D (m + 4) ∧ 0 ≤ m)) :
    Calls Tryz.prog 74 #[.slice (some ⟨gr, 0, none⟩) 4 c] wB fun en w' => en = .returned (.int .i64 (seqR S.D (jouGs X Y)).2) ∧ Hid (PgD w' base p d B S (seqR S.D (jouGs X Y)).1 ∧ Qp base wB w') := by
  have PB := h.out.up hu.out
  have OP := PB.own
  rw [hd.out] at OP
  have OG : ∀ g, wc.heap.size ≤ g → ∀ b o, (some ⟨g, 0, none⟩ : Option Addr) = some ⟨b, o, none⟩ → ¬ foot d B.pd S.D b := fun g hg b o e hF => by
    injection e with e; injection e with e1 _; subst e1
    have h1 : foot d B.pd S.D g → g < wc.heap.size := fun e => foot_lt h.out.disk e
    have := h1 hF
    omega
  refine (jouRow_calls wB (some ⟨gr, 0, none⟩) c (foot d B.pd S.D) base p b1 f1 s1 b2 f2 b3 f3 s3 _ _ S.D (some ⟨g1, 0, none⟩) (some ⟨g3, 0, none⟩) n1 c1 n3 c3 X Y (fun w' hf' => row_rd PB.disk hr.out hf') (Goes.start PB.disk) OP PB.offP (hf.out.1.jou hf.out.2 hX.out.2.2.2 hY.out.2.2.2)
    (hid (hb1.out.f h.out.disk)) (hid (hf1.out.f h.out.disk)) (hid (hs1.out.f h.out.disk)) (hid ⟨⟨hX.out.1, OG g1 hX.out.2.1⟩, hX.out.2.2.1⟩) (hid (hb2.out.f h.out.disk)) (hid (hf2.out.f h.out.disk)) (hid (hb3.out.f h.out.disk)) (hid (hf3.out.f h.out.disk)) (hid (hs3.out.f h.out.disk)) (hid ⟨⟨hY.out.1, OG g3 hY.out.2.1⟩, hY.out.2.2.1⟩)).mono ?_
  rintro en w' ⟨rfl, hg⟩
  obtain ⟨pd, P, Q⟩ := PB.diskStep hg.out
  exact ⟨rfl, hid ⟨⟨pd, P⟩, Q⟩⟩
theorem datSteps_calls (wc wB : World) (base p d : Nat) (B : PgB) (S : PgV) (T : TrV) (gr c b b2 f2 n : Nat) (m : Int) (h : Hid (PgAt wc base p d B S)) (hd : Hid (S.dead = false)) (hT : Hid (S.T = some T)) (hn : Hid (T.n = n ∧ n ≤ 4000)) (hu : Hid (Up wc wB)) (hr : Hid (wB.heap[gr]? = some (.cells ((dataFs p b2 f2 b).map fnv).toArray 53 (0, 0))))
    (hb : Hid (BoxT wB b (.pointer (some ⟨p, 0, none⟩)) 25)) (hb2 : Hid (BoxU wc wB b2 (.pointer (some ⟨p, 0, none⟩)))) (hf2 : Hid (BoxU wc wB f2 (.int .i64 0))) (hC : Hid (∃ Sp, ChOk Sp n (plainL B.L))) (hf : Hid (Fit S.D (m + 4 + B.L.length) ∧ 0 ≤ m)) :
    Calls Tryz.prog 74 #[.slice (some ⟨gr, 0, none⟩) 4 c] wB fun en w' => en = .returned (.int .i64 (seqR S.D (dataGB (plainL B.L) n)).2) ∧ Hid (PgD w' base p d B S (seqR S.D (dataGB (plainL B.L) n)).1 ∧ Qp base wB w') := by
  have PB := h.out.up hu.out
  have TA := PB.tran T hT.out
  have TR := PB.tranAt hT.out hd.out
  rw [hn.out.1] at TR
  have ft := foot_tys PB.disk
  obtain ⟨Sp, hCh⟩ := hC.out
  obtain ⟨_, _, bm⟩ := TA.pgs.map.isMap
  have OT : OffT (foot d B.pd S.D) p B.t B.m B.L := ⟨PB.offP, ft.cell TA.own (by decide), ft.map bm (fun e => e.elim TA.off.2.1 TA.off.2.2), fun y hy => by
    obtain ⟨cs, fr, hb⟩ := (TA.pgs.rows y hy).row.1
    exact ft.cell hb (by decide)⟩
  have hbnd : ∀ y ∈ B.L, 1 ≤ y.1 ∧ y.1 ≤ 4000 := fun y hy => by
    obtain ⟨k, e, k1, k2, _⟩ := hCh.all (y.1, y.2.bs) (List.mem_map.2 ⟨y, hy, rfl⟩)
    have e : y.1 = (k : Int) := e
    have := hn.out.2
    omega
  have hlen : ∀ y ∈ B.L, y.2.bs.length = 512 := fun y hy => by
    obtain ⟨k, e, k1, k2, k3⟩ := hCh.all (y.1, y.2.bs) (List.mem_map.2 ⟨y, hy, rfl⟩)
    exact k3
  have hll : B.L.length ≤ 4000 := by
    have h1 := nodup_le n (B.L.map fun x => x.1.toNat - 1) (by
      rw [List.Nodup, List.pairwise_map]
      refine List.Pairwise.imp_of_mem ?_ TA.pgs.keys
      intro a b ha hb hlt2
      have := hbnd a ha
      have := hbnd b hb
      omega) (fun x hx => by
      obtain ⟨y, hy, rfl⟩ := List.mem_map.1 hx
      obtain ⟨k, e, k1, k2, _⟩ := hCh.all (y.1, y.2.bs) (List.mem_map.2 ⟨y, hy, rfl⟩)
      have e : y.1 = (k : Int) := e
      omega)
    rw [List.length_map] at h1
    have := hn.out.2
    omega
  have DR := dataRow_calls wB (some ⟨gr, 0, none⟩) c (foot d B.pd S.D) base p B.t B.m b b2 f2 _ _ _ n B.L S.D (fun w' hf' => row_rd PB.disk hr.out hf') (Goes.start PB.disk) (hid TR) (hid OT) (hid hn.out.2) (hid TA.pgs.keys) (hid hbnd) (hid hll) ⟨hf.out.1.all B.L (by have := hf.out.2; omega) hlen, hf.out.1.dat hf.out.2 hlen⟩ (hid (hb2.out.f h.out.disk)) (hid (hf2.out.f h.out.disk)) (hid (hb.out.boxF PB.disk))
  rw [dataGs_plain] at DR
  refine DR.mono ?_
  rintro en w' ⟨rfl, hg⟩
  obtain ⟨pd, P, Q⟩ := PB.diskStep hg.out
  exact ⟨rfl, hid ⟨⟨pd, P⟩, Q⟩⟩
end Go.Proofs.YtbcghggkfnagoaaGreatDoor

namespace Go.Proofs.YtbcghggkfnagoaaGreatDoor
open Go Go.RowKit Go.Maps Hach

structure Tab (base : Nat) (w : World) : Prop where
  ok : TabOk w
  low : 0 < base
theorem Tab.low' {base : Nat} {w w' : World} (h : Tab base w) (hb : Below base w w') : Tab base w' := by
  refine ⟨fun i hi => ?_, h.low⟩
  rw [hb.cell (p := ⟨0, (n32 i).toNat, none⟩) h.low]
  exact h.ok i hi
theorem Tab.qp {base : Nat} {w w' : World} (h : Tab base w) (hq : Qp base w w') : Tab base w' := h.low' hq.low
theorem Tab.up {base : Nat} {w w' : World} (h : Tab base w) (hu : Up w w') : Tab base w' := ⟨h.ok.below' hu, h.low⟩
theorem part_all (l : List Sec) : part l 0 l.length = l.flatten.map byteCell := by
  unfold part
  rw [List.drop_zero, List.take_length, List.map_flatten]
  rfl
theorem flat_length {l : List Sec} (h : ∀ s ∈ l, s.length = 128) : l.flatten.length = 128 * l.length := by
  induction l with
  | nil => rfl
  | cons s l ih => rw [List.flatten_cons, List.length_append, ih (fun x hx => h x (List.mem_cons_of_mem _ hx)), h s List.mem_cons_self, List.length_cons]; omega
def RecvRet (w : World) (base p d : Nat) (B : PgB) (S : PgV) (en : Ending) (w' : World) : Prop :=
  ∃ rp pd, en = .returned (.int .i64 (recoverR S.D).2) ∧ Hid (PgAt w' base p d { B with pd := pd } { S with D := (recoverR S.D).1, rep := rp } ∧ Qp base w w' ∧ (hotS S.D.f1.now = false → rp = S.rep))
section
variable (w : World) (base p d : Nat) (B : PgB) (S : PgV)
set_option maxRecDepth 100000 in
set_option maxHeartbeats 4000000 in
theorem recoverCold_calls (h : Hid (PgAt w base p d B S)) (ht : Hid (Tab base w)) (hon : Hid (S.D.on = true)) (hl : Hid (S.D.f1.now.length < 1000000)) (hc : Hid (hotS S.D.f1.now = false)) :
    Calls Tryz.prog 75 #[.pointer (some ⟨p, 0, none⟩)] w (RecvRet w base p d B S) := by
  have e0 : w.cell? ⟨p, 0, none⟩ = some (.pointer (some ⟨d, 0, none⟩)) := h.out.own.cells.1
  have CS := sec1_calls w.drew base d S.D (hid ⟨_, h.out.disk.up (Up.drew w)⟩)
  have RC := read_calls w.drew base d S.D true (hid ⟨_, h.out.disk.up (Up.drew w)⟩) hon 0 S.D.f1.now.length (hid ⟨by show 0 + S.D.f1.now.length ≤ S.D.f1.now.length; omega, hl.out⟩)
  have FL : Hid (S.D.f1.now.flatten.length = 128 * S.D.f1.now.length) := hid (flat_length h.out.disk.ok1.now)
  rw [show part (S.D.fl true).now 0 S.D.f1.now.length = S.D.f1.now.flatten.map byteCell from part_all _] at RC
  unfold ReadRet at RC
  rw [List.length_map, show idx true = (1 : Int) from rfl] at RC
  have HL : Hid (S.D.f1.now.flatten.length ≤ 1073741824) := hid (by rw [FL.out]; have := hl.out; omega)
  have HJ : Hid (Jrn.hotB S.D.f1.now.flatten = false) := hid hc.out
  have HD : Hid (recoverR S.D = (S.D, 0)) := hid (by unfold recoverR; rw [if_neg (by rw [hc.out]; decide)])
  unfold RecvRet
  rw [HD.out]
  have US : w.drew.cell? ⟨p, 0, none⟩ = some (.pointer (some ⟨d, 0, none⟩)) := e0
  generalize hX : S.D.f1.now.flatten = X at *
  generalize hN : S.D.f1.now.length = N at *
  obtain ⟨M, hM⟩ : ∃ M, X.length = M := ⟨_, rfl⟩
  have HM := hid hM
  rw [hM] at RC HL
  clear hX hM FL
  go_enter Tryz.func75, Tryz.ntmps75
  go_wp2_with fail
  refine s_start (fun w9 => w9.cell? ⟨p, 0, none⟩ = some (.pointer (some ⟨d, 0, none⟩))) (by kernel_rfl) ?_
  refine s_tk 0 8 (v := ?_) US (fun w9 hS => ?_) ?_; rotate_left
  · go_simp <;> with_reducible rfl
  try simp only [pz]
  refine s_tk 1 9 (v := ?_) US (fun w9 hS => ?_) ?_; rotate_left
  · go_simp <;> with_reducible rfl
  try simp only [pz]
  refine s_tk 2 10 (v := ?_) US (fun w9 hS => ?_) ?_; rotate_left
  · go_simp <;> with_reducible rfl
  try simp only [pz]
  refine s_tk 3 11 (v := ?_) US (fun w9 hS => ?_) ?_; rotate_left
  · have s0 := hS; go_simp <;> with_reducible rfl
  try simp only [pz]
  refine s_tk 4 12 (v := ?_) US (fun w9 hS => ?_) ?_; rotate_left
  · go_simp <;> with_reducible rfl
  try simp only [pz]
  refine s_tk 5 13 (v := ?_) US (fun w9 hS => ?_) ?_; rotate_left
  · go_simp <;> with_reducible rfl
  try simp only [pz]
  refine s_tk 6 14 (v := ?_) US (fun w9 hS => ?_) ?_; rotate_left
  · go_simp <;> with_reducible rfl
  try simp only [pz]
  refine s_tk 7 15 (v := ?_) US (fun w9 hS => ?_) ?_; rotate_left
  · have s0 := hS; go_simp <;> with_reducible rfl
  try simp only [pz]
  refine s_ca 8 (fun K9 hK9 => ?_)
  go_simp
  go_at_call 29
  refine CS.mono ?_
  rintro en w8 ⟨rfl, hw8⟩
  obtain rfl := hw8.symm
  clear hw8
  refine hK9.out _ _ US ?_
  clear hK9 K9
  try simp only [pz]
  refine s_ca 9 (fun K9 hK9 => ?_)
  go_simp
  go_at_call 131
  refine RC.mono ?_
  rintro en w3 ⟨A3, c3, rfl, hh⟩
  have U3 : Hid (Up w w3) := hid ((Up.drew w).t hh.out.1)
  have O3 := hid hh.out.2
  clear hh
  replace US : w3.cell? ⟨p, 0, none⟩ = some (.pointer (some ⟨d, 0, none⟩)) := U3.out.c e0
  refine hK9.out _ _ US ?_
  clear hK9 K9
  try simp only [pz]
  refine s_tk 10 7 (v := ?_) US (fun w9 hS => ?_) ?_; rotate_left
  · go_simp <;> with_reducible rfl
  try simp only [pz]
  refine s_tk 11 18 (v := ?_) US (fun w9 hS => ?_) ?_; rotate_left
  · go_simp <;> with_reducible rfl
  try simp only [pz]
  refine s_tk 12 19 (v := ?_) US (fun w9 hS => ?_) ?_; rotate_left
  · go_simp <;> with_reducible rfl
  try simp only [pz]
  refine s_tk 13 3 (v := ?_) US (fun w9 hS => ?_) ?_; rotate_left
  · go_simp <;> with_reducible rfl
  try simp only [pz]
  refine s_tk 14 4 (v := ?_) US (fun w9 hS => ?_) ?_; rotate_left
  · go_simp <;> with_reducible rfl
  try simp only [pz]
  refine s_done (by kernel_rfl) ?_
  clear US CS RC
  first | (rename_i K1 h1; refine h1 _ _ ?_; clear h1 K1) | skip
  have P3 := hid (h.out.up U3.out)
  have T3 := hid (ht.out.up U3.out)
  have BX : Hid (Bytes w3 A3 X) := hid (Rd.bytes (Rd.own O3.out))
  have HC : Hid (M ≤ c3) := hid (by obtain ⟨_, _, he, hle⟩ := own_form O3.out; injection he with _ _ he; omega)
  go_wp2_with (go_at_call 132; refine (hot_calls w3 (hid T3.out.ok) A3 X c3 M HM HL HC BX false HJ).mono ?_; rintro e w4 ⟨rfl, b4⟩)
  have U4 := hid (U3.out.t b4.out)
  go_ret
  exact ⟨S.rep, B.pd, rfl, hid ⟨h.out.up U4.out, Qp.up U4.out h.out.bs, fun _ => rfl⟩⟩
set_option maxRecDepth 100000 in
set_option maxHeartbeats 4000000 in
theorem recoverHot_calls (Sp : List (List UInt8)) (R : List (Int × List UInt8)) (m : Int) (h : Hid (PgAt w base p d B S)) (hd : Hid (S.dead = false)) (ht : Hid (Tab base w)) (hon : Hid (S.D.on = true)) (hl : Hid (S.D.f1.now.length < 1000000)) (hc : Hid (HotJ Sp R S.D.f1.now)) (h4 : Hid (Sp.length ≤ 4000)) (hf : Hid (Fit S.D (m + 2 + R.length) ∧ 0 ≤ m)) :
    Calls Tryz.prog 75 #[.pointer (some ⟨p, 0, none⟩)] w (RecvRet w base p d B S) := by
  have e0 : w.cell? ⟨p, 0, none⟩ = some (.pointer (some ⟨d, 0, none⟩)) := h.out.own.cells.1
  have CS := sec1_calls w.drew base d S.D (hid ⟨_, h.out.disk.up (Up.drew w)⟩)
  have RC := read_calls w.drew base d S.D true (hid ⟨_, h.out.disk.up (Up.drew w)⟩) hon 0 S.D.f1.now.length (hid ⟨by show 0 + S.D.f1.now.length ≤ S.D.f1.now.length; omega, hl.out⟩)
  have FL : Hid (S.D.f1.now.flatten.length = 128 * S.D.f1.now.length) := hid (flat_length h.out.disk.ok1.now)
  rw [show part (S.D.fl true).now 0 S.D.f1.now.length = S.D.f1.now.flatten.map byteCell from part_all _] at RC
  unfold ReadRet at RC
  rw [List.length_map, show idx true = (1 : Int) from rfl] at RC
  have HL : Hid (S.D.f1.now.flatten.length ≤ 1073741824) := hid (by rw [FL.out]; have := hl.out; omega)
  have HJ : Hid (Jrn.hotB S.D.f1.now.flatten = true) := hid hc.out.hot
  have HD : Hid (recoverR S.D = restoreR S.D Sp.length R) := hid (by unfold recoverR; rw [if_pos hc.out.hot, hc.out.parse])
  have HP := hc.out.parse
  unfold parseS at HP
  have HPO : Hid (Jrn.parseOk S.D.f1.now.flatten = true) := hid (by
    cases hx : Jrn.parseOk S.D.f1.now.flatten with
    | true => rfl
    | false => rw [hx] at HP; cases HP)
  rw [if_pos HPO.out] at HP
  have HP := hid HP
  have HNC : Hid (hotS S.D.f1.now ≠ false) := hid (by rw [hc.out.hot]; decide)
  unfold RecvRet
  rw [HD.out]
  have US : w.drew.cell? ⟨p, 0, none⟩ = some (.pointer (some ⟨d, 0, none⟩)) := e0
  generalize hX : S.D.f1.now.flatten = X at *
  generalize hN : S.D.f1.now.length = N at *
  obtain ⟨M, hM⟩ : ∃ M, X.length = M := ⟨_, rfl⟩
  have HM := hid hM
  rw [hM] at RC HL
  clear hX hM FL
  go_enter Tryz.func75, Tryz.ntmps75
  go_wp2_with fail
  refine s_start (fun w9 => w9.cell? ⟨p, 0, none⟩ = some (.pointer (some ⟨d, 0, none⟩))) (by kernel_rfl) ?_
  refine s_tk 0 8 (v := ?_) US (fun w9 hS => ?_) ?_; rotate_left
  · go_simp <;> with_reducible rfl
  try simp only [pz]
  refine s_tk 1 9 (v := ?_) US (fun w9 hS => ?_) ?_; rotate_left
  · go_simp <;> with_reducible rfl
  try simp only [pz]
  refine s_tk 2 10 (v := ?_) US (fun w9 hS => ?_) ?_; rotate_left
  · go_simp <;> with_reducible rfl
  try simp only [pz]
  refine s_tk 3 11 (v := ?_) US (fun w9 hS => ?_) ?_; rotate_left
  · have s0 := hS; go_simp <;> with_reducible rfl
  try simp only [pz]
  refine s_tk 4 12 (v := ?_) US (fun w9 hS => ?_) ?_; rotate_left
  · go_simp <;> with_reducible rfl
  try simp only [pz]
  refine s_tk 5 13 (v := ?_) US (fun w9 hS => ?_) ?_; rotate_left
  · go_simp <;> with_reducible rfl
  try simp only [pz]
  refine s_tk 6 14 (v := ?_) US (fun w9 hS => ?_) ?_; rotate_left
  · go_simp <;> with_reducible rfl
  try simp only [pz]
  refine s_tk 7 15 (v := ?_) US (fun w9 hS => ?_) ?_; rotate_left
  · have s0 := hS; go_simp <;> with_reducible rfl
  try simp only [pz]
  refine s_ca 8 (fun K9 hK9 => ?_)
  go_simp
  go_at_call 29
  refine CS.mono ?_
  rintro en w8 ⟨rfl, hw8⟩
  obtain rfl := hw8.symm
  clear hw8
  refine hK9.out _ _ US ?_
  clear hK9 K9
  try simp only [pz]
  refine s_ca 9 (fun K9 hK9 => ?_)
  go_simp
  go_at_call 131
  refine RC.mono ?_
  rintro en w3 ⟨A3, c3, rfl, hh⟩
  have U3 : Hid (Up w w3) := hid ((Up.drew w).t hh.out.1)
  have O3 := hid hh.out.2
  clear hh
  replace US : w3.cell? ⟨p, 0, none⟩ = some (.pointer (some ⟨d, 0, none⟩)) := U3.out.c e0
  refine hK9.out _ _ US ?_
  clear hK9 K9
  try simp only [pz]
  refine s_tk 10 7 (v := ?_) US (fun w9 hS => ?_) ?_; rotate_left
  · go_simp <;> with_reducible rfl
  try simp only [pz]
  refine s_tk 11 18 (v := ?_) US (fun w9 hS => ?_) ?_; rotate_left
  · go_simp <;> with_reducible rfl
  try simp only [pz]
  refine s_tk 12 19 (v := ?_) US (fun w9 hS => ?_) ?_; rotate_left
  · go_simp <;> with_reducible rfl
  try simp only [pz]
  refine s_tk 13 3 (v := ?_) US (fun w9 hS => ?_) ?_; rotate_left
  · go_simp <;> with_reducible rfl
  try simp only [pz]
  refine s_tk 14 4 (v := ?_) US (fun w9 hS => ?_) ?_; rotate_left
  · go_simp <;> with_reducible rfl
  try simp only [pz]
  refine s_done (by kernel_rfl) ?_
  clear US CS RC
  first | (rename_i K1 h1; refine h1 _ _ ?_; clear h1 K1) | skip
  have P3 := hid (h.out.up U3.out)
  have T3 := hid (ht.out.up U3.out)
  have BX : Hid (Bytes w3 A3 X) := hid (Rd.bytes (Rd.own O3.out))
  have HC : Hid (M ≤ c3) := hid (by obtain ⟨_, _, he, hle⟩ := own_form O3.out; injection he with _ _ he; omega)
  go_wp2_with (first
    | (go_at_call 132; refine (hot_calls w3 (hid T3.out.ok) A3 X c3 M HM HL HC BX true HJ).mono ?_; rintro e w4 ⟨rfl, b4⟩)
    | fail)
  have U4 := hid (U3.out.t b4.out)
  have BX4 : Hid (Bytes w4 A3 X) := hid (BX.out.grown b4.out)
  clear b4
  refine (parse_calls w4 (hid (ht.out.up U4.out).ok) A3 X c3 M HM HL HC BX4).mono ?_
  rintro e w5 ⟨b5, h5⟩
  rcases h5 with ⟨hx, _⟩ | ⟨_, hx, _⟩ | ⟨_, _, A6, c6, rfl, RO⟩
  · have := HJ.out
    unfold Jrn.hotB at this
    rw [if_pos hx] at this
    cases this
  · rw [HPO.out] at hx; cases hx
  have he := Option.some.inj HP.out
  have he1 : Jrn.hdP X = Sp.length := congrArg Prod.fst he
  have he2 : Jrn.recsOf X (Jrn.hdC X) = R := congrArg Prod.snd he
  have he3 : R.length = Jrn.hdC X := by rw [← he2, Jrn.recsOf_length]
  rw [he1]
  rw [he2] at RO
  have RL := hid he3
  have RO := hid RO
  generalize Jrn.hdC X = C at *
  generalize Jrn.hdN X = Nn at *
  generalize hSl : Sp.length = sl at *
  have HSL := hid hSl
  have U5 := hid (U4.out.t b5)
  clear he he1 he2 he3 b5 hSl
  unfold headV
  have UA : Up w5 (w5.alloc (.cells #[.int .i64 C, .int .i64 sl, .int .u64 Nn] 144)) := upAlD (Up.refl w5) _
  have P6 := h.out.up (U5.out.t UA)
  have BH := heap_alloc_new w5 (.cells #[.int .i64 C, .int .i64 sl, .int .u64 Nn] 144)
  have h1 : (w5.alloc (.cells #[.int .i64 C, .int .i64 sl, .int .u64 Nn] 144)).cell? ⟨w5.heap.size, 1, none⟩ = some (.int .i64 sl) := by rw [cell_of_row _ _ _ _ _ _ BH]; rfl
  have g6 := P6.own.cells.2.2.2.2.2.2
  have f6 := P6.own.free 6
  have k6 := heap_setCell_same _ p 6 _ _ (.int .i64 C) P6.own
  have fr6 : Fr (fun k => k = p) (w5.alloc (.cells #[.int .i64 C, .int .i64 sl, .int .u64 Nn] 144)) ((w5.alloc (.cells #[.int .i64 C, .int .i64 sl, .int .u64 Nn] 144)).setCell ⟨p, 6, none⟩ (.int .i64 C)) := (Fr.refl (fun k => k = p) _).setCell (p := ⟨p, 6, none⟩) (fun _ => rfl) _
  obtain ⟨P7, Q7⟩ := P6.ownStep (S' := { S with rep := (C : Int) }) fr6 k6 rfl rfl (fun T hT => hT)
  have PNE : p ≠ w5.heap.size := by
    have := (Array.getElem?_eq_some_iff.1 (h.out.up U5.out).own).1
    omega
  have h1' : ((w5.alloc (.cells #[.int .i64 C, .int .i64 sl, .int .u64 Nn] 144)).setCell ⟨p, 6, none⟩ (.int .i64 C)).cell? ⟨w5.heap.size, 1, none⟩ = some (.int .i64 sl) := fr6.cell h1 (fun e => PNE e.symm)
  have RO7 := hid ((RO.out.up UA).qp Q7)
  have P7 := hid P7
  have Q7 := hid ((Qp.up (U5.out.t UA) h.out.bs).trans Q7)
  clear fr6 k6 BH UA P6 PNE
  go_wp2_with fail
  refine (restore_calls _ base p d B { S with rep := (C : Int) } A6 C c6 sl R m P7 hd (hid ⟨RO7.out, RL.out, by have := hc.out.good.len_le; have := RL.out; have := h4.out; have := HSL.out; omega⟩) (hid fun r hr => ?_) (hid (by have := h4.out; omega)) hf).mono ?_
  · obtain ⟨y, e1, e2, e3, e4⟩ := hc.out.good.all r hr
    exact ⟨y, e1, e2, by have := h4.out; have := HSL.out; omega, hc.out.good.len _ (List.mem_of_getElem? e4)⟩
  rintro en w8 ⟨rfl, h8⟩
  obtain ⟨⟨pd8, P8⟩, Q8⟩ := h8.out
  have RES := hid (And.intro P8 (And.intro (Q7.out.trans Q8) (fun e => absurd e HNC.out : hotS S.D.f1.now = false → (C : Int) = S.rep)))
  clear P8 Q8 h8 P7 Q7
  go_wp2
  go_ret
  rw [HSL.out]
  exact ⟨_, pd8, rfl, RES⟩
theorem recover_calls (Sp : List (List UInt8)) (m : Int) (h : Hid (PgAt w base p d B S)) (hd : Hid (S.dead = false)) (ht : Hid (Tab base w)) (hon : Hid (S.D.on = true)) (hl : Hid (S.D.f1.now.length < 1000000)) (hc : Hid (RecD S.D Sp)) (h4 : Hid (Sp.length ≤ 4000)) (hf : Hid (Fit S.D (m + 2 + Sp.length) ∧ 0 ≤ m)) :
    Calls Tryz.prog 75 #[.pointer (some ⟨p, 0, none⟩)] w (RecvRet w base p d B S) := by
  rcases hc.out with hc | ⟨R, J, h1, h2⟩
  · exact recoverCold_calls w base p d B S h ht hon hl (hid hc.cold)
  · have e := h2.jou
    subst e
    exact recoverHot_calls w base p d B S Sp R m h hd ht hon hl (hid h1) h4 (hid ⟨hf.out.1.less (by have := h1.good.len_le; omega), hf.out.2⟩)
theorem cleanP_calls (h : Hid (PgAt w base p d B S)) (hd : Hid (S.dead = false)) (hk : Hid (DiskOk S.D)) :
    Calls Tryz.prog 76 #[.pointer (some ⟨p, 0, none⟩)] w fun en w' => en = .returned (.int .i64 (cleanR S.D).2) ∧ Hid (PgD w' base p d B S (cleanR S.D).1 ∧ Qp base w w') := by
  have OP := h.out.own
  rw [hd.out] at OP
  refine (clean_calls w w (foot d B.pd S.D) base p _ _ S.D (hid ⟨Goes.start h.out.disk, OP, h.out.offP, hk.out⟩)).mono ?_
  rintro en w' ⟨rfl, hg⟩
  obtain ⟨pd, P, Q⟩ := h.out.diskStep hg.out
  exact ⟨rfl, hid ⟨⟨pd, P⟩, Q⟩⟩
end
end Go.Proofs.YtbcghggkfnagoaaGreatDoor

namespace Go.Proofs.YtbcghggkfnagoaaGreatDoor
open Go Go.RowKit Go.Maps Hach

theorem failP_calls (w : World) (base p d : Nat) (B : PgB) (S : PgV) (r : DiskV × Int) (gs : List (DiskV → DiskV × Int)) (A : Option Addr) (n c : Nat) (h : PgD w base p d B S S.D) (hr : S.D = r.1)
    (CS : Calls Tryz.prog 74 #[.slice A n c] w fun en w' => en = .returned (.int .i64 (seqR S.D gs).2) ∧ Hid (PgD w' base p d B S (seqR S.D gs).1 ∧ Qp base w w')) :
    Calls Tryz.prog 94 #[.pointer (some ⟨p, 0, none⟩), .int .i64 r.2, .slice A n c] w fun en w' => en = .returned (.int .i64 (failD r gs).2) ∧ Hid (PgD w' base p d B S (failD r gs).1 ∧ Qp base w w') := by
  unfold failD
  rw [hr] at CS h
  by_cases h3 : r.2 = 3
  · rw [if_pos h3, h3]
    refine (failYes_calls w p (seqR r.1 gs).2 A n c _ CS).mono ?_
    rintro en w' ⟨rfl, hh⟩
    by_cases h0 : (seqR r.1 gs).2 = 0
    · rw [if_pos h0, if_pos h0]; exact ⟨rfl, hh⟩
    · rw [if_neg h0, if_neg h0]; exact ⟨rfl, hh⟩
  · rw [if_neg h3]
    refine (failNo_calls w p r.2 A n c (hid h3)).mono ?_
    rintro en w' ⟨rfl, rfl⟩
    exact ⟨rfl, hid ⟨h, Qp.refl _ _⟩⟩
theorem watchD_calls (w : World) (base p d : Nat) (B : PgB) (S : PgV) (D : DiskV) (e : Int) (h : PgD w base p d B S D) (hd : S.dead = false) :
    Calls Tryz.prog 93 #[.pointer (some ⟨p, 0, none⟩), .int .i64 e] w fun en w' => en = .returned (.int .i64 e) ∧ Hid (PgD w' base p d B { S with dead := decide (e = 4) } D ∧ Qp base w w') := by
  obtain ⟨pd, h⟩ := h
  refine (watch_calls w base p d _ _ e (hid h) hd).mono ?_
  rintro en w' ⟨rfl, hh⟩
  exact ⟨rfl, hid ⟨⟨pd, hh.out.1⟩, hh.out.2⟩⟩
def cleanFs (p : Nat) : List FnV := [⟨76, #[.pointer (some ⟨p, 0, none⟩)], #[]⟩]
def backFs (p b1 b4 : Nat) : List FnV := [⟨98, #[], #[.pointer (some ⟨b1, 0, none⟩), .pointer (some ⟨b4, 0, none⟩)]⟩, ⟨76, #[.pointer (some ⟨p, 0, none⟩)], #[]⟩]
theorem ent_back (args : Array Value) (w : World) : (callFunc 98 args).run Tryz.prog w = .ok (.enter 98 args) w := by go_simp
theorem row_qp {w w' : World} {base g : Nat} {vs : List Value} (hr : w.heap[g]? = some (.cells vs.toArray 53 (0, 0))) (hq : Qp base w w') : Rd w' (some ⟨g, 0, none⟩) vs := by
  have hb := hq.keep g _ _ _ (by unfold pgTy; decide) hr
  intro j u hj
  refine ⟨g, 0, rfl, ?_⟩
  rw [cell_of_row _ _ _ _ _ _ hb, Nat.zero_add]
  simpa using hj
theorem cleanSteps_calls (w : World) (base p d : Nat) (B : PgB) (S : PgV) (gr c : Nat) (h : PgD w base p d B S S.D) (hd : S.dead = false) (hk : DiskOk S.D) (hr : w.heap[gr]? = some (.cells ((cleanFs p).map fnv).toArray 53 (0, 0))) :
    Calls Tryz.prog 74 #[.slice (some ⟨gr, 0, none⟩) 1 c] w fun en w' => en = .returned (.int .i64 (seqR S.D [cleanR]).2) ∧ Hid (PgD w' base p d B S (seqR S.D [cleanR]).1 ∧ Qp base w w') := by
  refine stepsP_calls w (some ⟨gr, 0, none⟩) c base p d B S (cleanFs p) [cleanR] (fun k Dk => k = 0 → DiskOk Dk) h (hid (by show 1 < 1000; decide)) rfl (fun w' hq => row_qp hr hq) ?_ (fun _ => hk) (fun k g Dk _ _ _ e => by omega) ?_
  · intro x hx
    rcases List.mem_cons.1 hx with rfl | hx
    · exact ent_clean
    cases hx
  · intro k x g hx hg Dk W hk hP hq
    rcases k with _ | k
    · cases hx; cases hg
      obtain ⟨pd, hP⟩ := hP
      refine (cleanP_calls W base p d _ _ (hid hP) (hid hd) (hid (hk rfl))).mono ?_
      rintro en w' ⟨rfl, hh⟩
      obtain ⟨⟨pd', P⟩, Q⟩ := hh.out
      exact ⟨rfl, hid ⟨⟨pd', P⟩, Q⟩⟩
    · cases hx
theorem backSteps_calls (w : World) (base p d : Nat) (B : PgB) (S : PgV) (gr cc b1 b4 : Nat) (A : Option Addr) (k c cnt : Nat) (R : List (Int × List UInt8)) (m : Int) (h : PgD w base p d B S S.D) (hd : S.dead = false) (hcn : Hid (S.count = cnt ∧ cnt ≤ 4000)) (hb1 : BoxT w b1 (.pointer (some ⟨p, 0, none⟩)) 25) (hb4 : BoxT w b4 (.slice A k c) 139)
    (hR : RecsOwnd w A k c R ∧ R.length = k ∧ k < 100000) (hG : Hid (∀ r ∈ R, ∃ y : Nat, r.1 = (y : Int) ∧ 1 ≤ y ∧ y ≤ 4000 ∧ r.2.length = 512)) (hf : Fit S.D (m + 1 + 2 + R.length) ∧ 0 ≤ m) (hf2 : (restoreR S.D cnt R).2 = 0 → DiskOk (restoreR S.D cnt R).1)
    (hr : w.heap[gr]? = some (.cells ((backFs p b1 b4).map fnv).toArray 53 (0, 0))) :
    Calls Tryz.prog 74 #[.slice (some ⟨gr, 0, none⟩) 2 cc] w fun en w' => en = .returned (.int .i64 (seqR S.D [fun D => restoreR D cnt R, cleanR]).2) ∧ Hid (PgD w' base p d B S (seqR S.D [fun D => restoreR D cnt R, cleanR]).1 ∧ Qp base w w') := by
  refine stepsP_calls w (some ⟨gr, 0, none⟩) cc base p d B S (backFs p b1 b4) [fun D => restoreR D cnt R, cleanR] (fun k Dk => (k = 0 → Dk = S.D) ∧ (k = 1 → DiskOk Dk)) h (hid (by show 2 < 1000; decide)) rfl (fun w' hq => row_qp hr hq) ?_ ⟨fun _ => rfl, fun e => by cases e⟩ ?_ ?_
  · intro x hx
    rcases List.mem_cons.1 hx with rfl | hx
    · exact ent_back
    rcases List.mem_cons.1 hx with rfl | hx
    · exact ent_clean
    cases hx
  · intro k g Dk hg hk e0
    rcases k with _ | _ | k
    · cases hg
      have := hk.1 rfl
      subst this
      exact ⟨fun e => (by cases e), fun _ => hf2 e0⟩
    · exact ⟨fun e => (by omega), fun e => (by omega)⟩
    · cases hg
  · intro j x g hx hg Dk W hk hP hq
    rcases j with _ | _ | j
    · cases hx; cases hg
      have := hk.1 rfl
      subst this
      obtain ⟨pd, hP⟩ := hP
      refine (back1_calls W base p d _ { S with D := S.D } b1 b4 A k c cnt R (m + 1) (hid hP) (hid hd) hcn (hid (hb1.qp hq)) (hid (hb4.qp hq)) (hid ⟨hR.1.qp hq, hR.2⟩) hG (hid ⟨hf.1, by omega⟩)).mono ?_
      rintro en w' ⟨rfl, hh⟩
      obtain ⟨⟨pd', P⟩, Q⟩ := hh.out
      exact ⟨rfl, hid ⟨⟨pd', P⟩, Q⟩⟩
    · cases hx; cases hg
      obtain ⟨pd, hP⟩ := hP
      refine (cleanP_calls W base p d _ _ (hid hP) (hid hd) (hid (hk.2 rfl))).mono ?_
      rintro en w' ⟨rfl, hh⟩
      obtain ⟨⟨pd', P⟩, Q⟩ := hh.out
      exact ⟨rfl, hid ⟨⟨pd', P⟩, Q⟩⟩
    · cases hx
theorem failD_ne {r : DiskV × Int} {gs : List (DiskV → DiskV × Int)} (h : r.2 ≠ 0) : (failD r gs).2 ≠ 0 := by
  unfold failD
  split
  · split
    · exact (by decide : (3 : Int) ≠ 0)
    · assumption
  · exact h
theorem Fit.rests (L : List (Int × List UInt8)) : ∀ {D : DiskV} {m : Int}, Fit D (m + L.length) → 0 ≤ m → (∀ y ∈ L, y.2.length = 512) → Fit (restsR D L).1 m := by
  induction L with
  | nil => intro D m h hm _; exact h.less (by rw [List.length_nil]; omega)
  | cons y r ih =>
    intro D m h hm hl
    rw [List.length_cons] at h
    have hw := (h.less (k := (m + r.length) + 1) (by omega)).write (by omega) 0 (placeV y.1) (secs4_whole (hl y List.mem_cons_self))
    unfold restsR
    split
    · exact h.less (by omega)
    · split
      · exact ih hw hm (fun x hx => hl x (List.mem_cons_of_mem _ hx))
      · exact hw.less (by omega)
theorem Fit.restore {D : DiskV} {m : Int} (L : List (Int × List UInt8)) {n : Nat} (h : Fit D (m + 2 + L.length)) (hm : 0 ≤ m) (hl : ∀ y ∈ L, y.2.length = 512) : Fit (restoreR D n L).1 m := by
  have f1 := Fit.rests L h (by omega) hl
  have f2 := (f1.less (k := m + 1 + 1) (by omega)).pcut (by omega) n
  have f3 := f2.sync (by omega) 0
  unfold restoreR
  split
  · simp only [seqR_cons, seqR_nil]
    split
    · split
      · exact f3
      · exact f3
    · exact f2.less (by omega)
  · exact f1.less (by omega)
end Go.Proofs.YtbcghggkfnagoaaGreatDoor
