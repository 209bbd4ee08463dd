/- PARTS OF A PROOF, one behind the other: THE PAGER's steps at a commit: what is synced, written and cut on the disk. THE PAGER's steps at a commit: what is written and cut on the disk. THE PAGER's pages: those that were changed are written, one by one. FILES OF THE DISK in plain: what many puts and what a crash leave; pages in a file; what a disk bears. THE PAGER's Commit, small parts: what was before (nothing), the steps' functions. THE PAGER's Commit: its function that cuts. THE PAGER's steps over a disk: one behind the other, as a plain law tells each. THE PAGER's pages as a step among others. THE PAGER's second row of steps at a commit: pages, the file is made sure, cut, the journal is cleaned. THE PAGER's first row of steps at a commit: the journal, not yet good and good, each made sure. CONDITIONS: none of this text's own. -/
import Derived.Test.YtbcghggkfnagoaaGreatDoorQS20
import Derived.Test.YtbcghggkfnagoaaGreatDoorQS16
import Derived.Test.YtbcghggkfnagoaaGreatDoorQS12
import Derived.Test.YtbcghggkfnagoaaGreatDoorQS11
set_option linter.unusedVariables false
set_option linter.unusedSimpArgs false
namespace Go.Proofs.YtbcghggkfnagoaaGreatDoor
open Go Go.RowKit Go.Maps Hach

theorem Goes.wide {w w' : World} {F T : Nat → Prop} {base d : Nat} {D : DiskV} (h : Goes w F base d D w') (hT : ∀ k, F k → T k) : Goes w T base d D w' :=
  ⟨h.1.mono (fun k e => e.elim (fun e => .inl (hT k e)) .inr), h.2.mono hT⟩
theorem Goes.next {w1 W W' : World} {F : Nat → Prop} {base d : Nat} {p : DiskP} {D D' : DiskV} (h : Goes w1 F base d D W) (hp : ∀ k, foot d p D k → plus F w1 k) (h2 : Goes W (foot d p D) base d D' W') : Goes w1 F base d D' W' := h.trans (h2.wide hp)
theorem Goes.cell {w1 W : World} {F : Nat → Prop} {base d : Nat} {D : DiskV} (h : Goes w1 F base d D W) {a : Addr} {v : Value} (hc : w1.cell? a = some v) (hF : ¬ F a.block) : W.cell? a = some v := h.2.cell hc hF
section
variable (w1 W : World) (F : Nat → Prop) (base p : Nat) (q : PgN) (tv : Value) (D : DiskV)
structure Amid (w1 W : World) (F : Nat → Prop) (base p : Nat) (q : PgN) (tv : Value) (D : DiskV) : Prop where
  goes : Goes w1 F base q.d D W
  pag : PagerAt w1 p q tv false
  off : ¬ F p
  ok : DiskOk D
theorem Amid.d {w1 W : World} {F : Nat → Prop} {base p : Nat} {q : PgN} {tv : Value} {D : DiskV} (h : Amid w1 W F base p q tv D) : W.cell? ⟨p, 0, none⟩ = some (.pointer (some ⟨q.d, 0, none⟩)) := h.goes.cell h.pag.cells.1 h.off
def BoxF (w1 : World) (F : Nat → Prop) (b : Nat) (v : Value) : Prop := w1.cell? ⟨b, 0, none⟩ = some v ∧ ¬ F b
set_option maxRecDepth 100000 in
set_option maxHeartbeats 2000000 in
theorem syncer1_calls (bp bf : Nat) (i : Int) (h : Hid (Amid w1 W F base p q tv D)) (hb : Hid (BoxF w1 F bp (.pointer (some ⟨p, 0, none⟩)))) (hf : Hid (BoxF w1 F bf (.int .i64 i))) :
    Calls Tryz.prog 136 #[.pointer (some ⟨bp, 0, none⟩), .pointer (some ⟨bf, 0, none⟩)] W fun en w' => en = .returned (.int .i64 (syncR D i).2) ∧ Hid (Goes w1 F base q.d (syncR D i).1 w') := by
  obtain ⟨p', hd, hp'⟩ := h.out.goes.1
  have c0 := h.out.goes.cell hb.out.1 hb.out.2
  have c1 := h.out.d
  have c2 := h.out.goes.cell hf.out.1 hf.out.2
  have CS := sync_all W.drew base q.d p' D i (hid (hd.up (Up.drew W))) (hid h.out.ok)
  have SU : ∀ w', Goes W.drew (foot q.d p' D) base q.d (syncR D i).1 w' → Goes w1 F base q.d (syncR D i).1 w' := fun w' g => h.out.goes.next hp' (g.pre (Up.drew W))
  have SU := hid SU
  obtain ⟨r, hr⟩ : ∃ r, (syncR D i).2 = r := ⟨_, rfl⟩
  obtain ⟨D', hD'⟩ : ∃ D', (syncR D i).1 = D' := ⟨_, rfl⟩
  rw [hr, hD'] at CS
  rw [hD'] at SU
  rw [hr, hD']
  have HB := hb
  have HF := hf
  have HPA := hid h.out.pag
  have HPO := hid h.out.off
  clear hd hp' hr hD'
  go_enter Tryz.func136, Tryz.ntmps136
  go_wp2_with fail
  have US : W.drew.cell? ⟨bp, 0, none⟩ = some (.pointer (some ⟨p, 0, none⟩)) ∧ W.drew.cell? ⟨p, 0, none⟩ = some (.pointer (some ⟨q.d, 0, none⟩)) ∧ W.drew.cell? ⟨bf, 0, none⟩ = some (.int .i64 i) := ⟨c0, c1, c2⟩
  refine s_start (fun w9 => w9.cell? ⟨bp, 0, none⟩ = some (.pointer (some ⟨p, 0, none⟩)) ∧ w9.cell? ⟨p, 0, none⟩ = some (.pointer (some ⟨q.d, 0, none⟩)) ∧ w9.cell? ⟨bf, 0, none⟩ = some (.int .i64 i)) (by kernel_rfl) ?_
  refine s_tk 0 3 (v := ?_) US (fun w9 hS => ?_) ?_
  rotate_left
  · obtain ⟨s0, s1, s2⟩ := hS; go_simp <;> with_reducible rfl
  try simp only [pz]
  refine s_tk 1 4 (v := ?_) US (fun w9 hS => ?_) ?_
  rotate_left
  · obtain ⟨s0, s1, s2⟩ := hS; go_simp <;> with_reducible rfl
  try simp only [pz]
  refine s_tk 2 5 (v := ?_) US (fun w9 hS => ?_) ?_
  rotate_left
  · obtain ⟨s0, s1, s2⟩ := hS; go_simp <;> with_reducible rfl
  try simp only [pz]
  refine s_tk 3 6 (v := ?_) US (fun w9 hS => ?_) ?_
  rotate_left
  · obtain ⟨s0, s1, s2⟩ := hS; go_simp <;> with_reducible rfl
  try simp only [pz]
  refine s_tk 4 7 (v := ?_) US (fun w9 hS => ?_) ?_
  rotate_left
  · obtain ⟨s0, s1, s2⟩ := hS; go_simp <;> with_reducible rfl
  try simp only [pz]
  refine s_op 5 (by kernel_rfl) rfl (by rfl) (fun K9 hK9 => ?_)
  go_simp
  go_at_call 137
  refine CS.mono ?_
  rintro en w2 ⟨rfl, hg⟩
  have G2 := hid (SU.out w2 hg.out)
  replace US : w2.cell? ⟨bp, 0, none⟩ = some (.pointer (some ⟨p, 0, none⟩)) ∧ w2.cell? ⟨p, 0, none⟩ = some (.pointer (some ⟨q.d, 0, none⟩)) ∧ w2.cell? ⟨bf, 0, none⟩ = some (.int .i64 i) := ⟨G2.out.cell HB.out.1 HB.out.2, G2.out.cell HPA.out.cells.1 HPO.out, G2.out.cell HF.out.1 HF.out.2⟩
  refine hK9.out _ _ US ?_
  clear hK9 K9 hg
  try simp only [pz]
  refine s_tk 6 2 (v := ?_) US (fun w9 hS => ?_) ?_
  rotate_left
  · go_simp <;> with_reducible rfl
  try simp only [pz]
  refine s_done (by kernel_rfl) ?_
  clear US
  first | (rename_i K1 h1; refine h1 _ _ ?_; clear h1 K1) | skip
  go_wp2
  go_ret
  exact ⟨rfl, G2⟩
end
end Go.Proofs.YtbcghggkfnagoaaGreatDoor

namespace Go.Proofs.YtbcghggkfnagoaaGreatDoor
open Go Go.RowKit Go.Maps Hach

section
variable (w1 W : World) (F : Nat → Prop) (base p : Nat) (q : PgN) (tv : Value) (D : DiskV)
def SecF (w1 : World) (F : Nat → Prop) (A : Option Addr) (n cap : Nat) (ss : List Sec) : Prop := SecBytes w1 A n cap ss ∧ ∀ b o, A = some ⟨b, o, none⟩ → ¬ F b
theorem SecF.at {w1 W : World} {F : Nat → Prop} {A : Option Addr} {n cap : Nat} {ss : List Sec} (h : SecF w1 F A n cap ss) (hf : Fr F w1 W) : SecBytes W A n cap ss := by
  obtain ⟨⟨h1, h2, h3⟩, h4⟩ := h
  refine ⟨h1, h2, h3.imp id ?_⟩
  rintro ⟨bb, bp, e, h5, h6⟩
  exact ⟨bb, bp, e, h5, fun j s hj => (h6 j s hj).fr hf (h4 bb bp e)⟩
set_option maxRecDepth 100000 in
set_option maxHeartbeats 2000000 in
theorem writer1_calls (bp bf bs : Nat) (i : Int) (A : Option Addr) (n cap : Nat) (ss : List Sec) (h : Hid (Amid w1 W F base p q tv D)) (hb : Hid (BoxF w1 F bp (.pointer (some ⟨p, 0, none⟩)))) (hf : Hid (BoxF w1 F bf (.int .i64 i))) (hs : Hid (BoxF w1 F bs (.slice A n cap))) (hss : Hid (SecF w1 F A n cap ss ∧ ss.length < 100000)) :
    Calls Tryz.prog 138 #[.pointer (some ⟨bp, 0, none⟩), .pointer (some ⟨bf, 0, none⟩), .pointer (some ⟨bs, 0, none⟩)] W fun en w' => en = .returned (.int .i64 (writeR D i 0 ss).2) ∧ Hid (Goes w1 F base q.d (writeR D i 0 ss).1 w') := by
  obtain ⟨p', hd, hp'⟩ := h.out.goes.1
  have c0 := h.out.goes.cell hb.out.1 hb.out.2
  have c1 := h.out.d
  have c2 := h.out.goes.cell hf.out.1 hf.out.2
  have c3 := h.out.goes.cell hs.out.1 hs.out.2
  have CS := write_calls W.drew base q.d p' D i 0 A n cap ss (hid (hd.up (Up.drew W))) (hid h.out.ok) (hid ⟨hss.out.1.at (h.out.goes.2.drew), hss.out.2⟩)
  have SU : ∀ w', Goes W.drew (foot q.d p' D) base q.d (writeR D i 0 ss).1 w' → Goes w1 F base q.d (writeR D i 0 ss).1 w' := fun w' g => h.out.goes.next hp' (g.pre (Up.drew W))
  have SU := hid SU
  obtain ⟨r, hr⟩ : ∃ r, (writeR D i 0 ss).2 = r := ⟨_, rfl⟩
  obtain ⟨D', hD'⟩ : ∃ D', (writeR D i 0 ss).1 = D' := ⟨_, rfl⟩
  rw [hr, hD'] at CS
  rw [hD'] at SU
  rw [hr, hD']
  have HPA := hid h.out.pag
  have HPO := hid h.out.off
  clear hd hp' hr hD'
  go_enter Tryz.func138, Tryz.ntmps138
  go_wp2_with fail
  have US : W.drew.cell? ⟨bp, 0, none⟩ = some (.pointer (some ⟨p, 0, none⟩)) ∧ W.drew.cell? ⟨p, 0, none⟩ = some (.pointer (some ⟨q.d, 0, none⟩)) ∧ W.drew.cell? ⟨bf, 0, none⟩ = some (.int .i64 i) ∧ W.drew.cell? ⟨bs, 0, none⟩ = some (.slice A n cap) := ⟨c0, c1, c2, c3⟩
  refine s_start (fun w9 => w9.cell? ⟨bp, 0, none⟩ = some (.pointer (some ⟨p, 0, none⟩)) ∧ w9.cell? ⟨p, 0, none⟩ = some (.pointer (some ⟨q.d, 0, none⟩)) ∧ w9.cell? ⟨bf, 0, none⟩ = some (.int .i64 i) ∧ w9.cell? ⟨bs, 0, none⟩ = some (.slice A n cap)) (by kernel_rfl) ?_
  refine s_tk 0 4 (v := ?_) US (fun w9 hS => ?_) ?_
  rotate_left
  · obtain ⟨s0, s1, s2, s3⟩ := hS; go_simp <;> with_reducible rfl
  try simp only [pz]
  refine s_tk 1 5 (v := ?_) US (fun w9 hS => ?_) ?_
  rotate_left
  · obtain ⟨s0, s1, s2, s3⟩ := hS; go_simp <;> with_reducible rfl
  try simp only [pz]
  refine s_tk 2 6 (v := ?_) US (fun w9 hS => ?_) ?_
  rotate_left
  · obtain ⟨s0, s1, s2, s3⟩ := hS; go_simp <;> with_reducible rfl
  try simp only [pz]
  refine s_tk 3 7 (v := ?_) US (fun w9 hS => ?_) ?_
  rotate_left
  · obtain ⟨s0, s1, s2, s3⟩ := hS; go_simp <;> with_reducible rfl
  try simp only [pz]
  refine s_tk 4 8 (v := ?_) US (fun w9 hS => ?_) ?_
  rotate_left
  · obtain ⟨s0, s1, s2, s3⟩ := hS; go_simp <;> with_reducible rfl
  try simp only [pz]
  refine s_tk 5 9 (v := ?_) US (fun w9 hS => ?_) ?_
  rotate_left
  · obtain ⟨s0, s1, s2, s3⟩ := hS; go_simp <;> with_reducible rfl
  try simp only [pz]
  refine s_op 6 (by kernel_rfl) rfl (by rfl) (fun K9 hK9 => ?_)
  go_simp
  go_at_call 139
  refine CS.mono ?_
  rintro en w2 ⟨rfl, hg⟩
  have G2 := hid (SU.out w2 hg.out)
  replace US : w2.cell? ⟨bp, 0, none⟩ = some (.pointer (some ⟨p, 0, none⟩)) ∧ w2.cell? ⟨p, 0, none⟩ = some (.pointer (some ⟨q.d, 0, none⟩)) ∧ w2.cell? ⟨bf, 0, none⟩ = some (.int .i64 i) ∧ w2.cell? ⟨bs, 0, none⟩ = some (.slice A n cap) := ⟨G2.out.cell hb.out.1 hb.out.2, G2.out.cell HPA.out.cells.1 HPO.out, G2.out.cell hf.out.1 hf.out.2, G2.out.cell hs.out.1 hs.out.2⟩
  refine hK9.out _ _ US ?_
  clear hK9 K9 hg
  try simp only [pz]
  refine s_tk 7 3 (v := ?_) US (fun w9 hS => ?_) ?_
  rotate_left
  · go_simp <;> with_reducible rfl
  try simp only [pz]
  refine s_done (by kernel_rfl) ?_
  clear US
  first | (rename_i K1 h1; refine h1 _ _ ?_; clear h1 K1) | skip
  go_wp2
  go_ret
  exact ⟨rfl, G2⟩
def cleanR (D : DiskV) : DiskV × Int := if D.f1.now.length = 0 then (D, 0) else cutR D 1 0
def pcutR (D : DiskV) (n : Nat) : DiskV × Int := if D.f0.now.length ≤ n * 4 then (D, 0) else cutR D 0 ((n * 4 : Nat) : Int)
set_option maxRecDepth 100000 in
set_option maxHeartbeats 2000000 in
theorem clean_calls (h : Hid (Amid w1 W F base p q tv D)) :
    Calls Tryz.prog 76 #[.pointer (some ⟨p, 0, none⟩)] W fun en w' => en = .returned (.int .i64 (cleanR D).2) ∧ Hid (Goes w1 F base q.d (cleanR D).1 w') := by
  obtain ⟨p', hd, hp'⟩ := h.out.goes.1
  have e0 := h.out.d
  have CS := sec1_calls W base q.d D (hid ⟨p', hd⟩)
  have CC := cut_all W base q.d p' D 1 0 (hid hd) (hid h.out.ok)
  have SU := hid (fun w' (g : Goes W (foot q.d p' D) base q.d (cutR D 1 0).1 w') => h.out.goes.next hp' g)
  have H0 := hid h.out.goes
  obtain ⟨l, hl⟩ : ∃ l, D.f1.now.length = l := ⟨_, rfl⟩
  rw [hl] at CS
  unfold cleanR
  rw [hl]
  clear hl hd hp'
  by_cases h0 : l = 0
  · subst h0
    rw [if_pos rfl]
    go_enter Tryz.func76, Tryz.ntmps76
    go_wp2_with (go_at_call 29; refine CS.mono ?_; rintro e w' ⟨rfl, hw⟩; obtain rfl := hw.symm)
    go_ret
    exact ⟨rfl, H0⟩
  · rw [if_neg h0]
    obtain ⟨r, hr⟩ : ∃ r, (cutR D 1 0).2 = r := ⟨_, rfl⟩
    obtain ⟨D', hD'⟩ : ∃ D', (cutR D 1 0).1 = D' := ⟨_, rfl⟩
    rw [hr, hD'] at CC
    rw [hD'] at SU
    rw [hr, hD']
    have hi : ¬ (l : Int) = 0 := by omega
    clear hr hD'
    go_enter Tryz.func76, Tryz.ntmps76
    go_wp2_with (first
      | (go_at_call 29; refine CS.mono ?_; rintro e w' ⟨rfl, hw⟩; obtain rfl := hw.symm)
      | (go_at_call 134; refine CC.mono ?_; rintro e w2 ⟨rfl, hg⟩))
    go_ret
    exact ⟨rfl, hid (SU.out _ hg.out)⟩
set_option maxRecDepth 100000 in
set_option maxHeartbeats 2000000 in
theorem pcut_calls (n : Nat) (hn : Hid (n ≤ 4000)) (h : Hid (Amid w1 W F base p q tv D)) :
    Calls Tryz.prog 96 #[.pointer (some ⟨p, 0, none⟩), .int .i64 n] W fun en w' => en = .returned (.int .i64 (pcutR D n).2) ∧ Hid (Goes w1 F base q.d (pcutR D n).1 w') := by
  obtain ⟨p', hd, hp'⟩ := h.out.goes.1
  have e0 := h.out.d
  have CS := sec0_calls W base q.d D (hid ⟨p', hd⟩)
  have CC := cut_all W base q.d p' D 0 ((n * 4 : Nat) : Int) (hid hd) (hid h.out.ok)
  have SU := hid (fun w' (g : Goes W (foot q.d p' D) base q.d (cutR D 0 ((n * 4 : Nat) : Int)).1 w') => h.out.goes.next hp' g)
  have H0 := hid h.out.goes
  obtain ⟨l, hl⟩ : ∃ l, D.f0.now.length = l := ⟨_, rfl⟩
  obtain ⟨n4, hn4⟩ : ∃ n4, n * 4 = n4 := ⟨_, rfl⟩
  have w4 : wrap64 ((n : Int) * 4) = (n4 : Int) := by have := hn.out; unfold wrap64; omega
  rw [hl] at CS
  unfold pcutR
  rw [hl, hn4]
  rw [hn4] at CC SU
  clear hl hd hp' hn4
  by_cases h0 : l ≤ n4
  · have h0i : (l : Int) ≤ (n4 : Int) := by omega
    rw [if_pos h0]
    go_enter Tryz.func96, Tryz.ntmps96
    go_wp2_with (go_at_call 29; refine CS.mono ?_; rintro e w' ⟨rfl, hw⟩; obtain rfl := hw.symm)
    go_ret
    exact ⟨rfl, H0⟩
  · rw [if_neg h0]
    obtain ⟨r, hr⟩ : ∃ r, (cutR D 0 (n4 : Int)).2 = r := ⟨_, rfl⟩
    obtain ⟨D', hD'⟩ : ∃ D', (cutR D 0 (n4 : Int)).1 = D' := ⟨_, rfl⟩
    rw [hr, hD'] at CC
    rw [hD'] at SU
    rw [hr, hD']
    have hi : ¬ (l : Int) ≤ (n4 : Int) := by omega
    clear hr hD'
    go_enter Tryz.func96, Tryz.ntmps96
    go_wp2_with (first
      | (go_at_call 29; refine CS.mono ?_; rintro e w' ⟨rfl, hw⟩; obtain rfl := hw.symm)
      | (go_at_call 134; refine CC.mono ?_; rintro e w2 ⟨rfl, hg⟩))
    go_ret
    exact ⟨rfl, hid (SU.out _ hg.out)⟩
end
end Go.Proofs.YtbcghggkfnagoaaGreatDoor

namespace Go.Proofs.YtbcghggkfnagoaaGreatDoor
open Go Go.RowKit Go.Maps Hach

def secs4 (bs : List UInt8) : List Sec := (List.range 4).map fun i => (bs.drop (i * 128)).take 128
theorem secs4_len (bs : List UInt8) : (secs4 bs).length = 4 := by unfold secs4; rw [List.length_map, List.length_range]
def placeV (k : Int) : Int := (k - 1) * 4
def writesR (D : DiskV) : PgL → DiskV × Int
  | [] => (D, 0)
  | y :: r => if (writeR D 0 (placeV y.1) (secs4 y.2.bs)).2 = 0 then writesR (writeR D 0 (placeV y.1) (secs4 y.2.bs)).1 r else writeR D 0 (placeV y.1) (secs4 y.2.bs)
def OkAll (D : DiskV) : PgL → Prop
  | [] => DiskOk D
  | y :: r => DiskOk D ∧ OkAll (writeR D 0 (placeV y.1) (secs4 y.2.bs)).1 r
theorem OkAll.ok {D : DiskV} {L : PgL} (h : OkAll D L) : DiskOk D := by
  cases L with
  | nil => exact h
  | cons y r => exact h.1
theorem PgRow.secs {w : World} {x : PgX} (h : PgRow w x) : SecBytes w (some ⟨x.g, 0, none⟩) 512 x.c (secs4 x.bs) := by
  refine ⟨by rw [secs4_len], fun s hs => ?_, .inr ⟨x.g, 0, rfl, h.cap, fun j s hj => ?_⟩⟩
  · obtain ⟨i, hi, rfl⟩ := List.mem_map.1 hs
    rw [List.mem_range] at hi
    show ((x.bs.drop (i * 128)).take 128).length = 128
    rw [List.length_take, List.length_drop, h.len]
    omega
  · unfold secs4 at hj
    rw [List.getElem?_map] at hj
    cases hr : (List.range 4)[j]? with
    | none => rw [hr] at hj; cases hj
    | some i =>
      rw [hr] at hj
      obtain rfl := Option.some.inj hj
      obtain ⟨hi, he⟩ := List.getElem?_eq_some_iff.1 hr
      rw [List.getElem_range] at he
      subst he
      refine ByteRow.any ⟨h.row.1, fun i v hi2 => ?_⟩
      have hv : (secC x.bs)[j * 128 + i]? = some v := by
        unfold secC at hi2 ⊢
        rw [List.getElem?_map] at hi2 ⊢
        rw [List.getElem?_take] at hi2
        split at hi2
        · rw [List.getElem?_drop] at hi2; exact hi2
        · cases hi2
      have := h.row.2 (j * 128 + i) v hv
      rw [Nat.zero_add] at this ⊢
      exact this
theorem DiskAt.foot_lt {w : World} {base d : Nat} {p : DiskP} {D : DiskV} (h : DiskAt w base d p D) : ∀ k, foot d p D k → k < w.heap.size := by
  rintro k (e | e | e | e | e)
  · subst e; exact (Array.getElem?_eq_some_iff.1 h.own).1
  · subst e; exact h.map0.lt
  · subst e; exact h.map1.lt
  · exact (own_block h.row0 k e).2
  · exact (own_block h.row1 k e).2
structure OffT (F : Nat → Prop) (p t m : Nat) (L : PgL) : Prop where
  p : ¬ F p
  t : ¬ F t
  m : ¬ F m
  rows : ∀ y ∈ L, ¬ F y.2.g
theorem TranAt.offF {w w' : World} {F : Nat → Prop} {p t m : Nat} {q : PgN} {mv : Value} {last : Int} {n : Nat} {L : PgL} (h : TranAt w p q t m mv last n L) (ho : OffT F p t m L) (hf : Fr F w w') : TranAt w' p q t m mv last n L :=
  ⟨h.own.fr hf ho.p, (hf.block t (Array.getElem?_eq_some_iff.1 h.tran).1 ho.t).trans h.tran, h.map.kept hf ho.m, fun y hy => (h.rows y hy).fr hf (ho.rows y hy)⟩
theorem gget_sorted {L : PgL} (h : L.Pairwise fun a b => a.1 < b.1) {y : Int × PgX} (hy : y ∈ L) : gget L y.1 = some y.2 := by
  induction L with
  | nil => cases hy
  | cons z r ih =>
    obtain ⟨h1, h2⟩ := List.pairwise_cons.1 h
    unfold gget at ih ⊢
    rcases List.mem_cons.1 hy with rfl | hy
    · simp
    · have := h1 y hy
      rw [List.find?_cons_of_neg (by simp; omega)]
      exact ih h2 hy
theorem place_calls (w : World) (k : Nat) (hk : Hid (1 ≤ k ∧ k ≤ 4000)) : Calls Tryz.prog 145 #[.int .i64 k] w fun en w' => en = .returned (.int .i64 (placeV k)) ∧ w' = w := by
  have w1 : wrap64 ((k : Int) - 1) = (k : Int) - 1 := by have := hk.out; unfold wrap64; omega
  have w2 : wrap64 (((k : Int) - 1) * 4) = placeV k := by have := hk.out; unfold placeV wrap64; omega
  obtain ⟨P, hP⟩ : ∃ P, placeV k = P := ⟨_, rfl⟩
  rw [hP] at w2 ⊢
  clear hP
  go_enter Tryz.func145, Tryz.ntmps145
  go_wp2
  go_ret
  first | (rw [w2]; simp; done) | (refine ⟨?_, rfl⟩; rw [w2]; simp; done) | (rw [w2]; kernel_rfl)
set_option maxRecDepth 100000 in
set_option maxHeartbeats 4000000 in
theorem ppagesW_calls (w : World) (base p t m : Nat) (q : PgN) (mv : Value) (last : Int) (n : Nat) (L : PgL) (p' : DiskP) (D : DiskV) (hT : Hid (TranAt w p q t m mv last n L)) (hd : Hid (DiskAt w base q.d p' D)) (ho : Hid (OffT (foot q.d p' D) p t m L)) (hk9 : Hid (L.Pairwise fun a b => a.1 < b.1)) (hb : Hid (∀ y ∈ L, 1 ≤ y.1 ∧ y.1 ≤ 4000)) (hl : Hid (L.length ≤ 4000)) (hok : Hid (OkAll D L)) :
    Calls Tryz.prog 97 #[.pointer (some ⟨p, 0, none⟩)] w fun en w' => en = .returned (.int .i64 (writesR D L).2) ∧ Hid (Goes w (foot q.d p' D) base q.d (writesR D L).1 w') := by
  obtain ⟨N, hN⟩ : ∃ N, L.length = N := ⟨_, rfl⟩
  have HN := hid hN
  have CH := pchanged_calls w p t m q mv last n L hT (hid (by have := hl.out; omega)) (hid (by rw [List.pairwise_map]; exact hk9.out))
  unfold KeysP at CH
  rw [hN] at CH
  obtain ⟨R, hR⟩ : ∃ R, writesR D L = R := ⟨_, rfl⟩
  rw [hR]
  have HR := hid hR
  clear hN hR
  obtain ⟨F, hF⟩ : ∃ F, foot q.d p' D = F := ⟨_, rfl⟩
  rw [hF]
  have HF := hid hF
  clear hF
  go_enter Tryz.func97, Tryz.ntmps97
  go_wp2_with fail
  refine CH.mono ?_
  clear CH
  rintro en w2 ⟨A, c, rfl, h2⟩
  have hF := HF.out
  have ho' := ho.out
  have hlt := hd.out.foot_lt
  rw [hF] at ho' hlt
  have HO := hid ho'
  have HLT := hid hlt
  have T2 := hid (hT.out.up h2.out.2)
  have G2 : Hid (Goes w2 F base q.d D w2) := hid (by rw [← hF]; exact Goes.up ⟨p', hd.out.up h2.out.2, fun k hk => hk⟩ (Up.refl _))
  have K2 := hid h2.out.1
  have U2 := hid h2.out.2
  clear h2 hF ho' hlt
  go_wp2
  go_loopw [9] (fun i wr => ∃ (j : Nat) (Dj : DiskV), j ≤ N ∧ i = .int .i64 j ∧ Hid (writesR Dj (L.drop j) = R ∧ OkAll Dj (L.drop j) ∧ Goes w2 F base q.d Dj wr)) (fun i _ => N - (intOf i).toNat)
  case atStart => exact ⟨0, D, Nat.zero_le _, rfl, hid ⟨HR.out, hok.out, G2.out⟩⟩
  case round =>
    obtain ⟨j, Dj, hj, rfl, iv⟩ := hrel
    by_cases hlt : (j : Int) < N
    · have JN : Hid (j < N ∧ N ≤ 4000) := hid ⟨by omega, by have := hl.out; have := HN.out; omega⟩
      obtain ⟨y, hy⟩ : ∃ y, L[j]? = some y := ⟨_, List.getElem?_eq_getElem (by have := HN.out; omega)⟩
      have hdr : L.drop j = y :: L.drop (j + 1) := by
        obtain ⟨h1, h2⟩ := List.getElem?_eq_some_iff.1 hy
        rw [List.drop_eq_getElem_cons h1, h2]
      obtain ⟨i1, i2, i3⟩ := iv.out
      rw [hdr] at i1 i2
      have hyL := List.mem_of_getElem? hy
      have YB := hb.out y hyL
      obtain ⟨k, hk⟩ : ∃ k : Nat, y.1 = (k : Int) := ⟨y.1.toNat, by omega⟩
      have KB : Hid (1 ≤ k ∧ k ≤ 4000) := hid (by rw [hk] at YB; omega)
      have KR : Fr F w2 wr := i3.2
      have TR := T2.out.offF HO.out KR
      have hown : wr.ownsRow w.heap.size 3 1 (.slice A N c) N (L.map fun p => .int .i64 p.1) := KR.own K2.out (fun b hb e => by have := (own_block K2.out b hb).1; have := HLT.out b e; omega)
      obtain ⟨gb, go, hA, hcy⟩ := (Rd.own hown) j (.int .i64 (k : Int)) (by rw [List.getElem?_map, hy]; show some (Value.int .i64 y.1) = _; rw [hk])
      subst hA
      have hgo : ¬ F gb := fun e => by have := (own_block K2.out gb rfl).1; have := HLT.out gb e; omega
      obtain ⟨_, _, _, e3, _⟩ := TR.own.cells
      obtain ⟨e0, _⟩ := TR.own.cells
      obtain ⟨_, f1, _⟩ := TR.cells
      have hgg : gget L (k : Int) = some y.2 := by rw [← hk]; exact gget_sorted hk9.out hyL
      have hpv : pgAt L (k : Int) = pgV y.2.g y.2.c := by unfold pgAt; rw [hgg]
      obtain ⟨px, hdx, hpx⟩ := i3.1
      obtain ⟨r, hr⟩ : ∃ r, (writeR Dj 0 (placeV k) (secs4 y.2.bs)).2 = r := ⟨_, rfl⟩
      obtain ⟨D9, hD9⟩ : ∃ D9, (writeR Dj 0 (placeV k) (secs4 y.2.bs)).1 = D9 := ⟨_, rfl⟩
      have IR : Hid ((r = 0 → writesR D9 (L.drop (j + 1)) = R ∧ OkAll D9 (L.drop (j + 1))) ∧ (r ≠ 0 → R = (D9, r))) := hid (by
        have hp : writeR Dj 0 (placeV k) (secs4 y.2.bs) = (D9, r) := by rw [← hr, ← hD9]
        have i1b : (if (writeR Dj 0 (placeV y.1) (secs4 y.2.bs)).2 = 0 then writesR (writeR Dj 0 (placeV y.1) (secs4 y.2.bs)).1 (L.drop (j + 1)) else writeR Dj 0 (placeV y.1) (secs4 y.2.bs)) = R := i1
        have i2b := i2.2
        rw [hk, hp] at i1b i2b
        have i1c : (if r = 0 then writesR D9 (L.drop (j + 1)) else (D9, r)) = R := i1b
        refine ⟨fun e => ⟨?_, i2b⟩, fun e => ?_⟩
        · rw [if_pos e] at i1c; exact i1c
        · rw [if_neg e] at i1c; exact i1c.symm)
      have CS := write_calls wr.drew base q.d px Dj 0 (placeV k) (some ⟨y.2.g, 0, none⟩) 512 y.2.c (secs4 y.2.bs) (hid (hdx.up (Up.drew wr))) (hid i2.ok) (hid ⟨((TR.rows y hyL).fr (Fr.of_below (Up.drew wr)) id).secs, by rw [secs4_len]; decide⟩)
      have SU : ∀ w', Goes wr.drew (foot q.d px Dj) base q.d (writeR Dj 0 (placeV k) (secs4 y.2.bs)).1 w' → Goes w2 F base q.d (writeR Dj 0 (placeV k) (secs4 y.2.bs)).1 w' := fun w' g => i3.next hpx (g.pre (Up.drew wr))
      have SU := hid SU
      have CP := place_calls wr.drew k KB
      have KF : Hid ((Lit.int .i64 (k : Int)).wf = true) := hid (wf_nat (by have := KB.out; omega))
      have HPV := hid hpv
      have IV := iv
      obtain ⟨P, hP⟩ : ∃ P, placeV (k : Int) = P := ⟨_, rfl⟩
      rw [hr, hD9, hP] at CS
      rw [hD9] at SU
      rw [hP] at CP
      unfold pgV at HPV
      have US : wr.drew.cell? ⟨p, 0, none⟩ = some (.pointer (some ⟨q.d, 0, none⟩)) ∧ wr.drew.cell? ⟨p, 3, none⟩ = some (.pointer (some ⟨t, 0, none⟩)) ∧ wr.drew.cell? ⟨t, 1, none⟩ = some (.map (some m)) ∧ MapP wr.drew m L := ⟨e0, e3, f1, TR.map.up (Up.drew wr)⟩
      have TW : Hid (TranAt wr p q t m mv last n L) := hid TR
      clear hr hD9 hdx hpx hpv hgg i1 i2 i3 TR KR hown hdr hy hyL YB hk e0 e3 f1 iv hP
      go_wp2_with fail
      refine s_start (fun w9 => w9.cell? ⟨p, 0, none⟩ = some (.pointer (some ⟨q.d, 0, none⟩)) ∧ w9.cell? ⟨p, 3, none⟩ = some (.pointer (some ⟨t, 0, none⟩)) ∧ w9.cell? ⟨t, 1, none⟩ = some (.map (some m)) ∧ MapP w9 m L) (by kernel_rfl) ?_
      refine s_tk 0 13 (v := ?_) US (fun w9 hS => ?_) ?_
      rotate_left
      · obtain ⟨s0, s3, s1, sm⟩ := hS; go_simp <;> with_reducible rfl
      try simp only [pz]
      refine s_tk 1 14 (v := ?_) US (fun w9 hS => ?_) ?_
      rotate_left
      · obtain ⟨s0, s3, s1, sm⟩ := hS; go_simp <;> with_reducible rfl
      try simp only [pz]
      refine s_tk 2 15 (v := ?_) US (fun w9 hS => ?_) ?_
      rotate_left
      · obtain ⟨s0, s3, s1, sm⟩ := hS; go_simp <;> with_reducible rfl
      try simp only [pz]
      refine s_tk 3 16 (v := ?_) US (fun w9 hS => ?_) ?_
      rotate_left
      · obtain ⟨s0, s3, s1, sm⟩ := hS; go_simp <;> with_reducible rfl
      try simp only [pz]
      refine s_tk 4 17 (v := ?_) US (fun w9 hS => ?_) ?_
      rotate_left
      · obtain ⟨s0, s3, s1, sm⟩ := hS; go_simp <;> with_reducible rfl
      try simp only [pz]
      refine s_tk 6 19 (v := ?_) US (fun w9 hS => ?_) ?_
      rotate_left
      · obtain ⟨s0, s3, s1, sm⟩ := hS; go_simp <;> with_reducible rfl
      try simp only [pz]
      refine s_tk 7 20 (v := ?_) US (fun w9 hS => ?_) ?_
      rotate_left
      · obtain ⟨s0, s3, s1, sm⟩ := hS; go_simp <;> with_reducible rfl
      try simp only [pz]
      refine s_tk 8 21 (v := ?_) US (fun w9 hS => ?_) ?_
      rotate_left
      · obtain ⟨s0, s3, s1, sm⟩ := hS; go_simp <;> with_reducible rfl
      try simp only [pz]
      refine s_tk 9 22 (v := ?_) US (fun w9 hS => ?_) ?_
      rotate_left
      · obtain ⟨s0, s3, s1, sm⟩ := hS; go_simp <;> with_reducible rfl
      try simp only [pz]
      refine s_tk 10 23 (v := ?_) US (fun w9 hS => ?_) ?_
      rotate_left
      · obtain ⟨s0, s3, s1, sm⟩ := hS; go_simp <;> with_reducible rfl
      try simp only [pz]
      refine s_tk 11 24 (v := ?_) US (fun w9 hS => ?_) ?_
      rotate_left
      · obtain ⟨s0, s3, s1, sm⟩ := hS; go_simp <;> with_reducible rfl
      try simp only [pz]
      refine s_tk 12 25 (v := ?_) US (fun w9 hS => ?_) ?_
      rotate_left
      · obtain ⟨s0, s3, s1, sm⟩ := hS; go_simp <;> with_reducible rfl
      try simp only [pz]
      refine s_tk 13 26 (v := ?_) US (fun w9 hS => ?_) ?_
      rotate_left
      · obtain ⟨s0, s3, s1, sm⟩ := hS; go_simp <;> with_reducible rfl
      try simp only [pz]
      refine s_tk 14 27 (v := pgV y.2.g y.2.c) US (fun w9 hS => ?_) ?_
      · obtain ⟨s0, s3, s1, sm⟩ := hS
        have lk := MapP.get sm (p := (k : Int)) KF.out
        rw [HPV.out] at lk
        try unfold pgV at lk
        first | (go_simp; rfl) | (go_simp; rw [lk]; done) | (go_simp; rw [lk]; rfl) | (go_simp; exact lk) | (go_simp; rw [lk]; with_reducible rfl)
      try simp only [pz]
      refine s_op 5 (by kernel_rfl) rfl (by rfl) (fun K9 hK9 => ?_)
      go_simp
      go_at_call 145
      refine CP.mono ?_
      rintro en w8 ⟨rfl, hw8⟩
      obtain rfl := hw8.symm
      clear hw8
      refine hK9.out _ _ US ?_
      clear hK9 K9
      try simp only [pz]
      refine s_op 15 (by kernel_rfl) rfl (by rfl) (fun K9 hK9 => ?_)
      go_simp
      go_at_call 139
      refine CS.mono ?_
      rintro en w8 ⟨rfl, hg⟩
      have G8 := hid (SU.out w8 hg.out)
      have T8 := hid (T2.out.offF HO.out G8.out.2)
      replace US : w8.cell? ⟨p, 0, none⟩ = some (.pointer (some ⟨q.d, 0, none⟩)) ∧ w8.cell? ⟨p, 3, none⟩ = some (.pointer (some ⟨t, 0, none⟩)) ∧ w8.cell? ⟨t, 1, none⟩ = some (.map (some m)) ∧ MapP w8 m L := ⟨T8.out.own.cells.1, T8.out.own.cells.2.2.2.1, T8.out.cells.2.1, T8.out.map⟩
      refine hK9.out _ _ US ?_
      clear hK9 K9 hg
      try simp only [pz]
      refine s_tk 16 5 (v := ?_) US (fun w9 hS => ?_) ?_
      rotate_left
      · go_simp <;> with_reducible rfl
      try simp only [pz]
      refine s_done (by kernel_rfl) ?_
      clear US CS CP SU
      first | (rename_i K1 h1; refine h1 _ _ ?_; clear h1 K1) | skip
      have J1 : Hid (wrap64 ((j : Int) + 1) = ((j + 1 : Nat) : Int)) := hid (by have := JN.out; unfold wrap64; omega)
      by_cases hr0 : r = 0
      · have NX := hid (IR.out.1 hr0)
        subst hr0
        go_wp2
        go_roundw
        case rel => exact ⟨j + 1, D9, JN.out.1, by first | rfl | rw [J1.out], hid ⟨NX.out.1, NX.out.2, G8.out⟩⟩
        case measure => have := JN.out; rw [J1.out]
                        simp only [intOf]; omega
      · have RX := hid (IR.out.2 hr0)
        have GO : Hid (Goes w F base q.d D9 w8) := hid (G8.out.pre U2.out)
        go_wp2
        go_ret
        rw [RX.out]
        exact ⟨rfl, GO⟩
    · obtain rfl : j = N := by omega
      have RES : Hid (R = (Dj, 0)) := hid (by
        have := iv.out.1
        rw [List.drop_of_length_le (by rw [HN.out]; exact Nat.le_refl _)] at this
        exact this.symm)
      have GO : Hid (Goes w F base q.d Dj wr) := hid ((iv.out.2.2).pre U2.out)
      clear iv
      go_wp2
      go_ret
      rw [RES.out]
      exact ⟨rfl, GO⟩
end Go.Proofs.YtbcghggkfnagoaaGreatDoor

namespace Go.Proofs.YtbcghggkfnagoaaGreatDoor
open Go Go.RowKit Go.Maps Hach

/-! ### one sector put, many -/
theorem getL_ins {x : Int × Sec} {L : Olds} (hx : ∀ y ∈ L, y.1 ≠ x.1) (k : Int) : getL (insL x L) k = if x.1 = k then some x.2 else getL L k := by
  induction L with
  | nil => unfold getL insL; by_cases h : x.1 = k <;> simp [h]
  | cons z r ih =>
    have hz := hx z List.mem_cons_self
    have ih' := ih (fun y hy => hx y (List.mem_cons_of_mem _ hy))
    unfold insL
    split
    · unfold getL
      rw [List.find?_cons]
      by_cases h : x.1 = k <;> simp [h]
    · unfold getL at ih' ⊢
      rw [List.find?_cons, List.find?_cons]
      by_cases h : z.1 = k
      · have : ¬ x.1 = k := fun e => hz (h.trans e.symm)
        simp [h, this]
      · simp only [h, decide_false]
        exact ih'
theorem getL_filter (L : Olds) (k j : Int) (h : j ≠ k) : getL (L.filter (keep k)) j = getL L j := by
  induction L with
  | nil => rfl
  | cons z r ih =>
    unfold getL at ih ⊢
    rw [List.filter_cons]
    by_cases hz : z.1 = k
    · have : ¬ z.1 = j := fun e => h (e.symm.trans hz)
      simp only [keep, hz, decide_true, Bool.not_true]
      rw [List.find?_cons]
      simp only [this, decide_false]
      exact ih
    · simp only [keep, hz, decide_false, Bool.not_false, if_true]
      rw [List.find?_cons, List.find?_cons]
      by_cases h2 : z.1 = j
      · simp [h2]
      · simp only [h2, decide_false]
        exact ih
theorem getL_put (L : Olds) (k : Int) (a : Sec) (j : Int) : getL (putL L k a) j = if k = j then some a else getL L j := by
  unfold putL
  rw [getL_ins (x := (k, a)) (fun y hy e => by
    have := (List.mem_filter.1 hy).2
    have e' : y.1 = k := e
    unfold keep at this
    rw [decide_eq_true e'] at this
    cases this)]
  by_cases h : k = j
  · rw [if_pos h, if_pos h]
  · rw [if_neg h, if_neg h, getL_filter _ _ _ (fun e => h e.symm)]
theorem growF_now {f : FileV} {i : Nat} (hi : i ≤ f.now.length) : (growF f i).now = f.now ++ (if i = f.now.length then [zeroS] else []) := by
  unfold growF
  split
  · rfl
  · rw [List.append_nil]
theorem growF_oldC (f : FileV) (i : Nat) : (growF f i).old = f.old ∧ (growF f i).sure = f.sure := by unfold growF; split <;> exact ⟨rfl, rfl⟩
theorem markF_rest (f : FileV) (i : Nat) : (markF f i).now = f.now ∧ (markF f i).sure = f.sure := by unfold markF; split <;> exact ⟨rfl, rfl⟩
theorem markF_get (f : FileV) (i : Nat) (j : Int) (h : j ≠ (i : Int)) : getL (markF f i).old j = getL f.old j := by
  unfold markF
  split
  · rfl
  · rw [getL_put, if_neg (fun e => h e.symm)]
theorem putF_now {f : FileV} {i : Nat} (hi : i ≤ f.now.length) (s : Sec) : (putF f i s).now = f.now.take i ++ s :: f.now.drop (i + 1) := by
  unfold putF
  simp only [(markF_rest _ _).1, growF_now hi]
  by_cases h : i = f.now.length
  · rw [if_pos h]
    subst h
    rw [List.set_append_right _ _ (Nat.le_refl _), Nat.sub_self, List.take_length, List.drop_of_length_le (by omega)]
    rfl
  · rw [if_neg h, List.append_nil, List.set_eq_take_append_cons_drop, if_pos (by omega)]
theorem putF_sureC (f : FileV) (i : Nat) (s : Sec) : (putF f i s).sure = f.sure := by
  unfold putF; simp only [(markF_rest _ _).2, (growF_oldC _ _).2]
theorem putF_get (f : FileV) (i : Nat) (s : Sec) (j : Int) (h : j ≠ (i : Int)) : getL (putF f i s).old j = getL f.old j := by
  unfold putF; simp only; rw [markF_get _ _ _ h, (growF_oldC _ _).1]
theorem putF_lenC {f : FileV} {i : Nat} (hi : i ≤ f.now.length) (s : Sec) : (putF f i s).now.length = max f.now.length (i + 1) := by
  rw [putF_now hi, List.length_append, List.length_take, List.length_cons, List.length_drop]; omega
theorem putsF_spec (ss : List Sec) : ∀ (f : FileV) (a : Nat), a ≤ f.now.length → (putsF f a ss).now = f.now.take a ++ ss ++ f.now.drop (a + ss.length) ∧ (putsF f a ss).sure = f.sure ∧ (∀ j : Int, (j < (a : Int) ∨ ((a + ss.length : Nat) : Int) ≤ j) → getL (putsF f a ss).old j = getL f.old j) := by
  induction ss with
  | nil =>
    intro f a ha
    refine ⟨?_, rfl, fun _ _ => rfl⟩
    show f.now = _
    rw [List.append_nil, List.length_nil, Nat.add_zero, List.take_append_drop]
  | cons s r ih =>
    intro f a ha
    have hl := putF_lenC ha s
    obtain ⟨h1, h2, h3⟩ := ih (putF f a s) (a + 1) (by omega)
    refine ⟨?_, ?_, fun j hj => ?_⟩
    · show (putsF (putF f a s) (a + 1) r).now = _
      rw [h1, putF_now ha]
      have e1 : (f.now.take a ++ s :: f.now.drop (a + 1)).take (a + 1) = f.now.take a ++ [s] := by
        rw [List.take_append, List.length_take, Nat.min_eq_left ha, List.take_of_length_le (by rw [List.length_take]; omega), show a + 1 - a = 1 by omega]
        rfl
      have e2 : (f.now.take a ++ s :: f.now.drop (a + 1)).drop (a + 1 + r.length) = f.now.drop (a + (s :: r).length) := by
        rw [List.drop_append, List.length_take, Nat.min_eq_left ha, List.drop_of_length_le (by rw [List.length_take]; omega), show a + 1 + r.length - a = r.length + 1 by omega, List.drop_succ_cons, List.drop_drop, List.nil_append, List.length_cons]
        congr 1; omega
      rw [e1, e2]
      simp
    · show (putsF (putF f a s) (a + 1) r).sure = _
      rw [h2, putF_sureC]
    · show getL (putsF (putF f a s) (a + 1) r).old j = _
      rw [List.length_cons] at hj
      rw [h3 j (by omega), putF_get _ _ _ _ (by omega)]
theorem putsF_lenC {ss : List Sec} {f : FileV} {a : Nat} (ha : a ≤ f.now.length) : (putsF f a ss).now.length = max f.now.length (a + ss.length) := by
  rw [(putsF_spec ss f a ha).1, List.length_append, List.length_append, List.length_take, List.length_drop]; omega
theorem FileOk.putsC {ss : List Sec} : ∀ {f : FileV} {a : Nat}, FileOk f → a ≤ f.now.length → (∀ s ∈ ss, s.length = 128) → FileOk (putsF f a ss) := by
  induction ss with
  | nil => intro f a h _ _; exact h
  | cons s r ih =>
    intro f a h ha hs
    have hl := putF_lenC ha s
    exact ih (h.put ha (hs s List.mem_cons_self)) (by omega) (fun x hx => hs x (List.mem_cons_of_mem _ hx))
/-! ### what a crash leaves of a file -/
structure CrashOf (f g : FileV) : Prop where
  ok : FileOk g
  old : g.old = []
  sure : g.sure = g.now.length
  lo : f.sure ≤ g.now.length
  hi : g.now.length ≤ f.now.length
  clean : ∀ i, i < g.now.length → getL f.old (i : Int) = none → g.now[i]? = f.now[i]?
  dirty : ∀ i o, i < g.now.length → getL f.old (i : Int) = some o → ∃ k, k ≤ 128 ∧ g.now[i]? = some ((f.now[i]?.getD zeroS).take k ++ o.drop k)
theorem crashRow_spec (kp : List Bool) (torn : Int) (L : Olds) : ∀ (s : CSt), (L.map (·.1)).Pairwise (· < ·) → (∀ p ∈ L, 0 ≤ p.1 ∧ p.1 < (s.now.length : Int)) →
    (crashRow kp torn s L).now.length = s.now.length ∧ s.last ≤ (crashRow kp torn s L).last ∧ (s.last ≤ s.now.length → (crashRow kp torn s L).last ≤ s.now.length) ∧
    (∀ i : Nat, (∀ p ∈ L, p.1 ≠ (i : Int)) → (crashRow kp torn s L).now[i]? = s.now[i]?) ∧
    (∀ (i : Nat) o, ((i : Int), o) ∈ L → ∃ k, k ≤ 128 ∧ (crashRow kp torn s L).now[i]? = some ((s.now[i]?.getD zeroS).take k ++ o.drop k)) := by
  induction L with
  | nil => intro s _ _; exact ⟨rfl, Nat.le_refl _, fun h => h, fun _ _ => rfl, fun i o h => by cases h⟩
  | cons q L ih =>
    intro s hk hr
    rw [List.map_cons, List.pairwise_cons] at hk
    have hq := hr q List.mem_cons_self
    have hl : (crashStep kp torn s q).now.length = s.now.length := by unfold crashStep; exact crashSec_length _ _ _ _
    obtain ⟨i1, i2, i3, i4, i5⟩ := ih (crashStep kp torn s q) hk.2 (fun p hp => by rw [hl]; exact hr p (List.mem_cons_of_mem _ hp))
    have e : crashRow kp torn s (q :: L) = crashRow kp torn (crashStep kp torn s q) L := rfl
    rw [e]
    have hlast : s.last ≤ (crashStep kp torn s q).last := by unfold crashStep; simp only; split <;> omega
    refine ⟨i1.trans hl, Nat.le_trans hlast i2, fun h => ?_, fun i hi => ?_, fun i o hi => ?_⟩
    · rw [← hl]; apply i3
      rw [hl]
      unfold crashStep; simp only
      split <;> omega
    · rw [i4 i (fun p hp => hi p (List.mem_cons_of_mem _ hp))]
      unfold crashStep crashSec
      simp only
      rw [List.getElem?_set_ne]
      intro e9
      exact hi q List.mem_cons_self (by omega)
    · rcases List.mem_cons.1 hi with h | h
      · rw [i4 i (fun p hp e9 => by
          have := hk.1 p.1 (List.mem_map.2 ⟨p, hp, rfl⟩)
          rw [← h] at this
          have : (i : Int) < p.1 := this
          omega)]
        refine ⟨(staysV kp torn s.n s.wh).1, staysV_le _ _ _ _, ?_⟩
        unfold crashStep crashSec
        simp only
        rw [← h]
        show (s.now.set ((i : Int).toNat) _)[i]? = _
        rw [Int.toNat_natCast, List.getElem?_set_self (by have : (i : Int) < s.now.length := by rw [← h] at hq; exact hq.2
                                                          omega)]
      · obtain ⟨k, hk1, hk2⟩ := i5 i o h
        refine ⟨k, hk1, ?_⟩
        rw [hk2]
        have : (crashStep kp torn s q).now[i]? = s.now[i]? := by
          unfold crashStep crashSec
          simp only
          rw [List.getElem?_set_ne]
          intro e9
          have := hk.1 (i : Int) (List.mem_map.2 ⟨_, h, rfl⟩)
          omega
        rw [this]
theorem getL_none_iff {L : Olds} {k : Int} (h : getL L k = none) : ∀ p ∈ L, p.1 ≠ k := by
  intro p hp e
  unfold getL at h
  cases hf : L.find? (fun q => decide (q.1 = k)) with
  | none => exact absurd (decide_eq_true e) (by have := List.find?_eq_none.1 hf p hp; simpa using this)
  | some q => rw [hf] at h; cases h
theorem getL_mem {L : Olds} {k : Int} {a : Sec} (h : getL L k = some a) : (k, a) ∈ L := by
  unfold getL at h
  cases hf : L.find? (fun q => decide (q.1 = k)) with
  | none => rw [hf] at h; cases h
  | some q =>
    rw [hf] at h
    injection h with h
    have h1 := List.mem_of_find?_eq_some hf
    have h2 : q.1 = k := of_decide_eq_true (p := q.1 = k) (List.find?_some (p := fun q : Int × Sec => decide (q.1 = k)) hf)
    rw [← h, ← h2]; exact h1
theorem crashFile_of (kp : List Bool) (torn : Int) {f : FileV} (h : FileOk f) (n : Nat) (wh : Bool) : CrashOf f (fileOf (crashFile kp torn f n wh)) := by
  obtain ⟨h1, h2, h3, h4, h5⟩ := crashRow_spec kp torn f.old ⟨f.now, f.sure, n, wh⟩ h.keys h.rng
  have h3 := h3 h.sure
  have h1 : (crashFile kp torn f n wh).now.length = f.now.length := h1
  have h2 : f.sure ≤ (crashFile kp torn f n wh).last := h2
  have h3 : (crashFile kp torn f n wh).last ≤ f.now.length := h3
  have hl : ((crashFile kp torn f n wh).now.take (crashFile kp torn f n wh).last).length = (crashFile kp torn f n wh).last := by rw [List.length_take]; omega
  have hW : ∀ s ∈ (crashFile kp torn f n wh).now, s.length = 128 := by
    intro s hs
    obtain ⟨i, hi⟩ := List.getElem?_of_mem hs
    have hil := (List.getElem?_eq_some_iff.1 hi).1
    cases hg : getL f.old (i : Int) with
    | none =>
      have := h4 i (getL_none_iff hg)
      have : (crashFile kp torn f n wh).now[i]? = f.now[i]? := this
      rw [hi] at this
      exact h.now s (List.mem_of_getElem? this.symm)
    | some o =>
      obtain ⟨k, hk, e⟩ := h5 i o (getL_mem hg)
      have e : (crashFile kp torn f n wh).now[i]? = some ((f.now[i]?.getD zeroS).take k ++ o.drop k) := e
      rw [hi] at e
      injection e with e
      rw [e, List.length_append, List.length_take, List.length_drop, h.old _ (getL_mem hg), List.getElem?_eq_getElem (by omega), Option.getD_some, h.now _ (List.getElem_mem _)]
      omega
  refine ⟨⟨fun s hs => hW s (List.mem_of_mem_take hs), by simp [fileOf], by simp [fileOf], by simp [fileOf], by show _ ≤ (List.take _ _).length; rw [hl]; exact Nat.le_refl _⟩, rfl, by show _ = (List.take _ _).length; rw [hl]; rfl, by show _ ≤ (List.take _ _).length; rw [hl]; exact h2, by show (List.take _ _).length ≤ _; rw [hl]; exact h3, fun i hi hg => ?_, fun i o hi hg => ?_⟩
  · have hi : i < (List.take (crashFile kp torn f n wh).last (crashFile kp torn f n wh).now).length := hi
    rw [hl] at hi
    show (List.take _ _)[i]? = _
    rw [List.getElem?_take, if_pos hi]
    exact h4 i (getL_none_iff hg)
  · have hi : i < (List.take (crashFile kp torn f n wh).last (crashFile kp torn f n wh).now).length := hi
    rw [hl] at hi
    obtain ⟨k, hk, e⟩ := h5 i o (getL_mem hg)
    refine ⟨k, hk, ?_⟩
    show (List.take _ _)[i]? = _
    rw [List.getElem?_take, if_pos hi]
    exact e
structure CrashD (D E : DiskV) : Prop where
  f0 : CrashOf D.f0 E.f0
  f1 : CrashOf D.f1 E.f1
  on : E.on = false
  armed : E.armed = 0
  room : E.room = D.room
  ops : E.ops = D.ops
  keep : E.keep = D.keep
theorem crashV_of (kp : List Bool) (torn : Int) {D : DiskV} (h0 : FileOk D.f0) (h1 : FileOk D.f1) : CrashD D (crashV kp torn D) :=
  ⟨crashFile_of kp torn h0 _ _, crashFile_of kp torn h1 _ _, rfl, rfl, rfl, rfl, rfl⟩

/-! ### what a disk bears: so many operations more -/
structure Fit (D : DiskV) (m : Int) : Prop where
  ok0 : FileOk D.f0
  ok1 : FileOk D.f1
  num : NumOk D
  ops : D.ops + m < 1000000000
  keep : D.keep.length < 1000000
theorem Fit.disk {D : DiskV} {m : Int} (h : Fit D m) (hm : 1 ≤ m) : DiskOk D := ⟨h.num, by have := h.ops; omega, h.keep⟩
theorem Fit.less {D : DiskV} {m k : Int} (h : Fit D m) (hk : k ≤ m) : Fit D k := ⟨h.ok0, h.ok1, h.num, by have := h.ops; omega, h.keep⟩
theorem Fit.okB {D : DiskV} {m : Int} (h : Fit D m) (b : Bool) : FileOk (D.fl b) := by cases b; exact h.ok0; exact h.ok1
theorem Fit.ticked {D : DiskV} {m : Int} (h : Fit D (m + 1)) (hm : 0 ≤ m) : Fit (tick D) m := by
  refine ⟨h.ok0, h.ok1, ⟨⟨?_, ?_⟩, ?_, h.num.size⟩, ?_, h.keep⟩
  · show 0 ≤ D.ops + 1; have := h.num.ops; omega
  · show D.ops + 1 < _; have := h.ops; omega
  · show 0 ≤ (if 0 < D.armed then D.armed - 1 else D.armed) ∧ (if 0 < D.armed then D.armed - 1 else D.armed) < 1000000000
    have := h.num.armed
    split <;> omega
  · show D.ops + 1 + m < _; have := h.ops; omega
theorem Fit.crash {D E : DiskV} {m : Int} (h : Fit D m) (hc : CrashD D E) : Fit E m := by
  refine ⟨hc.f0.ok, hc.f1.ok, ⟨by rw [hc.ops]; exact h.num.ops, by rw [hc.armed]; decide, ?_⟩, by rw [hc.ops]; exact h.ops, by rw [hc.keep]; exact h.keep⟩
  rw [hc.room]
  have := h.num.size
  have := hc.f0.hi
  have := hc.f1.hi
  omega
theorem op_cases (D D2 : DiskV) (r : Int) : (D.armed = 1 ∧ opV D D2 = crashV D.keep D.torn (tick D) ∧ opR D r = 4) ∨ (D.armed ≠ 1 ∧ opV D D2 = D2 ∧ opR D r = r) := by
  unfold opV opR
  by_cases h : D.armed = 1
  · rw [if_pos h, if_pos h]; exact .inl ⟨h, rfl, rfl⟩
  · rw [if_neg h, if_neg h]; exact .inr ⟨h, rfl, rfl⟩
theorem Fit.op {D D2 : DiskV} {m : Int} (h : Fit D (m + 1)) (hm : 0 ≤ m) (h2 : Fit D2 m) : Fit (opV D D2) m := by
  rcases op_cases D D2 0 with ⟨_, e, _⟩ | ⟨_, e, _⟩
  · rw [e]
    have ht := h.ticked hm
    exact ht.crash (crashV_of _ _ ht.ok0 ht.ok1)
  · rw [e]; exact h2
theorem Fit.setF {D : DiskV} {m : Int} (h : Fit D m) {b : Bool} {f : FileV} (hf : FileOk f) (hs : (f.now.length + (D.fl (!b)).now.length : Int) ≤ D.room) : Fit (D.setF b f) m := by
  cases b
  · exact ⟨hf, h.ok1, ⟨h.num.ops, h.num.armed, hs⟩, h.ops, h.keep⟩
  · exact ⟨h.ok0, hf, ⟨h.num.ops, h.num.armed, by show (D.f0.now.length + f.now.length : Int) ≤ D.room; have : (f.now.length + D.f0.now.length : Int) ≤ D.room := hs; omega⟩, h.ops, h.keep⟩
theorem Fit.size {D : DiskV} {m : Int} (h : Fit D m) (b : Bool) : ((D.fl b).now.length + (D.fl (!b)).now.length : Int) ≤ D.room := by
  have := h.num.size
  cases b
  · exact this
  · show (D.f1.now.length + D.f0.now.length : Int) ≤ D.room; omega
theorem Fit.write {D : DiskV} {m : Int} (h : Fit D (m + 1)) (hm : 0 ≤ m) (i a : Int) {ss : List Sec} (hs : ∀ s ∈ ss, s.length = 128) : Fit (writeR D i a ss).1 m := by
  unfold writeR
  split
  · exact h.less (by omega)
  · split
    · exact h.less (by omega)
    · rename_i b _
      split
      · exact h.less (by omega)
      · split
        · exact h.less (by omega)
        · refine h.op hm ?_
          have ht := h.ticked hm
          unfold writeV
          rename_i h1 _
          by_cases hf : isFull b a.toNat ss.length (tick D) = true
          · rw [if_pos hf]; exact ht
          · rw [if_neg hf]
            have hal : a.toNat ≤ ((tick D).fl b).now.length := by cases b <;> (show a.toNat ≤ _; have := h1; simp only [DiskV.fl, tick] at this ⊢; omega)
            have hff := of_decide_eq_false (by simpa [isFull] using hf : decide ((tick D).room - (((tick D).fl (!b)).now.length : Int) < (max (a.toNat + ss.length) ((tick D).fl b).now.length : Nat)) = false)
            refine ht.setF ((ht.okB b).putsC hal hs) ?_
            rw [putsF_lenC hal]
            omega
theorem Fit.sync {D : DiskV} {m : Int} (h : Fit D (m + 1)) (hm : 0 ≤ m) (i : Int) : Fit (syncR D i).1 m := by
  unfold syncR
  split
  · exact h.less (by omega)
  · split
    · exact h.less (by omega)
    · rename_i b _
      have ht := h.ticked hm
      exact h.op hm (ht.setF (ht.okB b).settled (ht.size b))
theorem Fit.cut {D : DiskV} {m : Int} (h : Fit D (m + 1)) (hm : 0 ≤ m) (i k : Int) : Fit (cutR D i k).1 m := by
  unfold cutR
  split
  · exact h.less (by omega)
  · split
    · exact h.less (by omega)
    · rename_i b _
      split
      · exact h.less (by omega)
      · rename_i h1
        have ht := h.ticked hm
        have hkl : k.toNat ≤ ((tick D).fl b).now.length := by cases b <;> (simp only [DiskV.fl, tick] at h1 ⊢; omega)
        refine h.op hm (ht.setF ((ht.okB b).cutOk hkl) ?_)
        show ((List.take _ _).length + _ : Int) ≤ _
        have := ht.size b
        rw [List.length_take]
        omega
theorem Fit.clean {D : DiskV} {m : Int} (h : Fit D (m + 1)) (hm : 0 ≤ m) : Fit (cleanR D).1 m := by
  unfold cleanR
  split
  · exact h.less (by omega)
  · exact h.cut hm _ _
theorem Fit.pcut {D : DiskV} {m : Int} (h : Fit D (m + 1)) (hm : 0 ≤ m) (n : Nat) : Fit (pcutR D n).1 m := by
  unfold pcutR
  split
  · exact h.less (by omega)
  · exact h.cut hm _ _
theorem secs4_whole {bs : List UInt8} (h : bs.length = 512) : ∀ s ∈ secs4 bs, s.length = 128 := by
  intro s hs
  unfold secs4 at hs
  obtain ⟨i, hi, rfl⟩ := List.mem_map.1 hs
  rw [List.mem_range] at hi
  show ((bs.drop (i * 128)).take 128).length = 128
  rw [List.length_take, List.length_drop, h]
  omega
/-! ### pages in a file -/
def PageIn (f : FileV) (y : Nat) (b : List UInt8) : Prop := ∀ j, j < 4 → f.now[4 * (y - 1) + j]? = some ((b.drop (j * 128)).take 128)
structure PageClean (f : FileV) (y : Nat) (b : List UInt8) : Prop where
  inn : PageIn f y b
  sure : 4 * y ≤ f.sure
  clean : ∀ j, j < 4 → getL f.old ((4 * (y - 1) + j : Nat) : Int) = none
def DataIs (f : FileV) (S : List (List UInt8)) : Prop := f.now = S.flatMap secs4 ∧ f.old = [] ∧ f.sure = f.now.length
theorem secs4_get (b : List UInt8) (j : Nat) (h : j < 4) : (secs4 b)[j]? = some ((b.drop (j * 128)).take 128) := by
  unfold secs4
  rw [List.getElem?_map, List.getElem?_range h]; rfl
theorem flat4_get (S : List (List UInt8)) : ∀ (i j : Nat), j < 4 → (S.flatMap secs4)[4 * i + j]? = (S[i]?).map fun b => (b.drop (j * 128)).take 128 := by
  induction S with
  | nil => intro i j _; rfl
  | cons b S ih =>
    intro i j hj
    rw [List.flatMap_cons]
    cases i with
    | zero =>
      rw [List.getElem?_append_left (by rw [secs4_len]; omega), Nat.mul_zero, Nat.zero_add, secs4_get b j hj]; rfl
    | succ i =>
      rw [List.getElem?_append_right (by rw [secs4_len]; omega), secs4_len, show 4 * (i + 1) + j - 4 = 4 * i + j by omega, ih i j hj]; rfl
theorem flat4_len (S : List (List UInt8)) : (S.flatMap secs4).length = 4 * S.length := by
  induction S with
  | nil => rfl
  | cons b S ih => rw [List.flatMap_cons, List.length_append, secs4_len, ih, List.length_cons]; omega
theorem PageIn.lt {f : FileV} {y : Nat} {b : List UInt8} (h : PageIn f y b) (hy : 1 ≤ y) : 4 * y ≤ f.now.length := by
  have := (List.getElem?_eq_some_iff.1 (h 3 (by decide))).1; omega
theorem data_of {f : FileV} {S : List (List UInt8)} (h : ∀ y, 1 ≤ y → y ≤ S.length → PageIn f y (S[y - 1]?.getD [])) (hl : f.now.length = 4 * S.length) : f.now = S.flatMap secs4 := by
  refine List.ext_getElem? fun k => ?_
  by_cases hk : k < 4 * S.length
  · have h1 := h (k / 4 + 1) (by omega) (by omega) (k % 4) (by omega)
    rw [show 4 * (k / 4 + 1 - 1) + k % 4 = k by omega] at h1
    have h2 := flat4_get S (k / 4) (k % 4) (by omega)
    rw [show 4 * (k / 4) + k % 4 = k by omega] at h2
    rw [h1, h2, show k / 4 + 1 - 1 = k / 4 by omega]
    rw [List.getElem?_eq_getElem (by omega)]
    rfl
  · rw [List.getElem?_eq_none (by omega), List.getElem?_eq_none (by rw [flat4_len]; omega)]
theorem DataIs.page {f : FileV} {S : List (List UInt8)} (h : DataIs f S) {y : Nat} (hy : 1 ≤ y) (hl : y ≤ S.length) : PageClean f y (S[y - 1]?.getD []) := by
  refine ⟨fun j hj => ?_, ?_, fun j hj => by rw [h.2.1]; rfl⟩
  · rw [h.1, flat4_get S (y - 1) j hj, List.getElem?_eq_getElem (by omega)]; rfl
  · rw [h.2.2, h.1, flat4_len]; omega
theorem PageClean.crash {f g : FileV} {y : Nat} {b : List UInt8} (h : PageClean f y b) (hy : 1 ≤ y) (hc : CrashOf f g) : PageClean g y b := by
  have hs : 4 * y ≤ g.now.length := Nat.le_trans h.sure hc.lo
  refine ⟨fun j hj => ?_, by rw [hc.sure]; exact hs, fun j hj => by rw [hc.old]; rfl⟩
  rw [hc.clean _ (by omega) (h.clean j hj)]
  exact h.inn j hj
theorem PageIn.other {f : FileV} {y k : Nat} {b : List UInt8} (h : PageIn f y b) (hy : 1 ≤ y) (hk : 1 ≤ k) (hne : y ≠ k) (hl : 4 * (k - 1) ≤ f.now.length) (c : List UInt8) : PageIn (putsF f (4 * (k - 1)) (secs4 c)) y b := by
  intro j hj
  rw [(putsF_spec _ _ _ hl).1, secs4_len, ← h j hj]
  have hyl := h.lt hy
  by_cases h1 : y < k
  · rw [List.append_assoc, List.getElem?_append_left (by rw [List.length_take]; omega), List.getElem?_take, if_pos (by omega)]
  · rw [List.getElem?_append_right (by rw [List.length_append, List.length_take, secs4_len]; omega), List.getElem?_drop]
    congr 1
    rw [List.length_append, List.length_take, secs4_len]; omega
theorem PageIn.self {f : FileV} {k : Nat} (hk : 1 ≤ k) (hl : 4 * (k - 1) ≤ f.now.length) (c : List UInt8) : PageIn (putsF f (4 * (k - 1)) (secs4 c)) k c := by
  intro j hj
  rw [(putsF_spec _ _ _ hl).1, List.append_assoc, List.getElem?_append_right (by rw [List.length_take]; omega), List.length_take, Nat.min_eq_left hl, Nat.add_sub_cancel_left, List.getElem?_append_left (by rw [secs4_len]; exact hj)]
  exact secs4_get c j hj
theorem PageClean.other {f : FileV} {y k : Nat} {b : List UInt8} (h : PageClean f y b) (hy : 1 ≤ y) (hk : 1 ≤ k) (hne : y ≠ k) (hl : 4 * (k - 1) ≤ f.now.length) (c : List UInt8) : PageClean (putsF f (4 * (k - 1)) (secs4 c)) y b := by
  refine ⟨h.inn.other hy hk hne hl c, by rw [(putsF_spec _ _ _ hl).2.1]; exact h.sure, fun j hj => ?_⟩
  rw [(putsF_spec _ _ _ hl).2.2 _ (by rw [secs4_len]; omega)]
  exact h.clean j hj
end Go.Proofs.YtbcghggkfnagoaaGreatDoor

namespace Go.Proofs.YtbcghggkfnagoaaGreatDoor
open Go Go.RowKit Go.Maps Hach

set_option maxRecDepth 100000 in
set_option maxHeartbeats 2000000 in
theorem before0_calls (w : World) (p : Nat) (q : PgN) (tv : Value) (dead : Bool) (h : Hid (PagerAt w p q tv dead)) (hq : q.count = 0) :
    Calls Tryz.prog 87 #[.pointer (some ⟨p, 0, none⟩)] w fun en w' => en = .returned (.tuple #[.slice none 0 0, .int .i64 0]) ∧ w' = w := by
  obtain ⟨_, _, e2, _⟩ := h.out.cells
  rw [hq] at e2
  go_enter Tryz.func87, Tryz.ntmps87
  go_wp2
  go_loopw [4, 5] (fun l i wr => l = .slice none 0 0 ∧ i = .int .i64 1 ∧ wr = w) (fun _ _ _ => 0)
  case atStart => exact ⟨rfl, rfl, rfl⟩
  case round =>
    obtain ⟨rfl, rfl, hw⟩ := hrel
    obtain rfl := hw.symm
    clear hw
    go_wp2
    go_ret2
    exact ⟨rfl, rfl⟩
structure BoxN (w w' : World) (b : Nat) (v : Value) : Prop where
  new : w.heap.size ≤ b
  cell : w'.cell? ⟨b, 0, none⟩ = some v
theorem box_new (u : World) (v : Value) (t : TypeId) : (u.alloc (.cells #[v] t)).cell? ⟨u.heap.size, 0, none⟩ = some v := by rw [cell_of_row _ _ _ _ _ _ (heap_alloc_new u _)]; rfl
theorem box_old {u : World} {b : Nat} {v : Value} (h : u.cell? ⟨b, 0, none⟩ = some v) (hb : b < u.heap.size) (o : Obj) : (u.alloc o).cell? ⟨b, 0, none⟩ = some v := by rw [World.cell?_alloc_lt _ _ _ hb]; exact h
theorem size_al (u : World) (o : Obj) : (u.alloc o).heap.size = u.heap.size + 1 := by simp
set_option maxRecDepth 100000 in
set_option maxHeartbeats 2000000 in
theorem syncer_calls (w : World) (p : Nat) (i : Int) :
    Calls Tryz.prog 89 #[.pointer (some ⟨p, 0, none⟩), .int .i64 i] w fun en w' => ∃ bp bf, en = .returned (fnv ⟨136, #[], #[.pointer (some ⟨bp, 0, none⟩), .pointer (some ⟨bf, 0, none⟩)]⟩) ∧ Hid (BoxN w w' bp (.pointer (some ⟨p, 0, none⟩)) ∧ BoxN w w' bf (.int .i64 i) ∧ Up w w') := by
  obtain ⟨u1, hu1⟩ : ∃ u, u = w.alloc (.cells #[.pointer (some ⟨p, 0, none⟩)] 25) := ⟨_, rfl⟩
  obtain ⟨u2, hu2⟩ : ∃ u, u = u1.alloc (.cells #[.int .i64 i] 3) := ⟨_, rfl⟩
  have z1 : u1.heap.size = w.heap.size + 1 := by rw [hu1]; exact size_al _ _
  have R : Hid (BoxN w u2 w.heap.size (.pointer (some ⟨p, 0, none⟩)) ∧ BoxN w u2 (w.heap.size + 1) (.int .i64 i) ∧ Up w u2) := hid ⟨⟨Nat.le_refl _, by rw [hu2]; exact box_old (by rw [hu1]; exact box_new _ _ _) (by omega) _⟩, ⟨by omega, by rw [hu2, ← z1]; exact box_new _ _ _⟩, by rw [hu2, hu1]; exact upAlD (upAlD (Up.refl w) _) _⟩
  rw [hu2, hu1] at R
  clear hu1 hu2 z1
  go_enter Tryz.func89, Tryz.ntmps89
  go_wp2
  go_ret
  exact ⟨_, _, rfl, R⟩
set_option maxRecDepth 100000 in
set_option maxHeartbeats 2000000 in
theorem writer_calls (w : World) (p : Nat) (i : Int) (A : Option Addr) (n c : Nat) :
    Calls Tryz.prog 90 #[.pointer (some ⟨p, 0, none⟩), .int .i64 i, .slice A n c] w fun en w' => ∃ bp bf bs, en = .returned (fnv ⟨138, #[], #[.pointer (some ⟨bp, 0, none⟩), .pointer (some ⟨bf, 0, none⟩), .pointer (some ⟨bs, 0, none⟩)]⟩) ∧ Hid (BoxN w w' bp (.pointer (some ⟨p, 0, none⟩)) ∧ BoxN w w' bf (.int .i64 i) ∧ BoxN w w' bs (.slice A n c) ∧ Up w w') := by
  obtain ⟨u1, hu1⟩ : ∃ u, u = w.alloc (.cells #[.pointer (some ⟨p, 0, none⟩)] 25) := ⟨_, rfl⟩
  obtain ⟨u2, hu2⟩ : ∃ u, u = u1.alloc (.cells #[.int .i64 i] 3) := ⟨_, rfl⟩
  obtain ⟨u3, hu3⟩ : ∃ u, u = u2.alloc (.cells #[.slice A n c] 64) := ⟨_, rfl⟩
  have z1 : u1.heap.size = w.heap.size + 1 := by rw [hu1]; exact size_al _ _
  have z2 : u2.heap.size = w.heap.size + 1 + 1 := by rw [hu2, size_al, z1]
  have R : Hid (BoxN w u3 w.heap.size (.pointer (some ⟨p, 0, none⟩)) ∧ BoxN w u3 (w.heap.size + 1) (.int .i64 i) ∧ BoxN w u3 (w.heap.size + 1 + 1) (.slice A n c) ∧ Up w u3) := hid ⟨⟨Nat.le_refl _, by rw [hu3]; exact box_old (by rw [hu2]; exact box_old (by rw [hu1]; exact box_new _ _ _) (by omega) _) (by omega) _⟩, ⟨by omega, by rw [hu3]; exact box_old (by rw [hu2, ← z1]; exact box_new _ _ _) (by omega) _⟩, ⟨by omega, by rw [hu3, ← z2]; exact box_new _ _ _⟩, by rw [hu3, hu2, hu1]; exact upAlD (upAlD (upAlD (Up.refl w) _) _) _⟩
  rw [hu3, hu2, hu1] at R
  clear hu1 hu2 hu3 z1 z2
  go_enter Tryz.func90, Tryz.ntmps90
  go_wp2
  go_ret
  exact ⟨_, _, _, rfl, R⟩
end Go.Proofs.YtbcghggkfnagoaaGreatDoor

namespace Go.Proofs.YtbcghggkfnagoaaGreatDoor
open Go Go.RowKit Go.Maps Hach

theorem Amid.drew {w1 W : World} {F : Nat → Prop} {base p : Nat} {q : PgN} {tv : Value} {D : DiskV} (h : Amid w1 W F base p q tv D) : Amid w1 W.drew F base p q tv D := by
  obtain ⟨p', hd, hp'⟩ := h.goes.1
  exact ⟨⟨⟨p', hd.up (Up.drew W), hp'⟩, h.goes.2.drew⟩, h.pag, h.off, h.ok⟩
set_option maxRecDepth 100000 in
set_option maxHeartbeats 2000000 in
theorem ccut_calls (w1 W : World) (F : Nat → Prop) (base p t b n : Nat) (q : PgN) (D : DiskV) (hn : Hid (n ≤ 4000)) (h : Hid (Amid w1 W F base p q (.pointer (some ⟨t, 0, none⟩)) D)) (hb : Hid (BoxF w1 F b (.pointer (some ⟨p, 0, none⟩)))) (ht : Hid (BoxF w1 F t (.int .i64 n))) :
    Calls Tryz.prog 95 #[.pointer (some ⟨b, 0, none⟩)] W fun en w' => en = .returned (.int .i64 (pcutR D n).2) ∧ Hid (Goes w1 F base q.d (pcutR D n).1 w') := by
  have c0 := h.out.goes.cell hb.out.1 hb.out.2
  have c1 := h.out.goes.cell h.out.pag.cells.2.2.2.1 h.out.off
  have c2 := h.out.goes.cell ht.out.1 ht.out.2
  have CS := pcut_calls w1 W.drew F base p q _ D n hn (hid h.out.drew)
  obtain ⟨r, hr⟩ : ∃ r, (pcutR D n).2 = r := ⟨_, rfl⟩
  obtain ⟨D', hD'⟩ : ∃ D', (pcutR D n).1 = D' := ⟨_, rfl⟩
  rw [hr, hD'] at CS
  rw [hr, hD']
  have HPA := hid h.out.pag
  have HPO := hid h.out.off
  clear hr hD'
  go_enter Tryz.func95, Tryz.ntmps95
  go_wp2_with fail
  have US : W.drew.cell? ⟨b, 0, none⟩ = some (.pointer (some ⟨p, 0, none⟩)) ∧ W.drew.cell? ⟨p, 3, none⟩ = some (.pointer (some ⟨t, 0, none⟩)) ∧ W.drew.cell? ⟨t, 0, none⟩ = some (.int .i64 n) := ⟨c0, c1, c2⟩
  refine s_start (fun w9 => w9.cell? ⟨b, 0, none⟩ = some (.pointer (some ⟨p, 0, none⟩)) ∧ w9.cell? ⟨p, 3, none⟩ = some (.pointer (some ⟨t, 0, none⟩)) ∧ w9.cell? ⟨t, 0, none⟩ = some (.int .i64 n)) (by kernel_rfl) ?_
  refine s_tk 0 2 (v := ?_) US (fun w9 hS => ?_) ?_
  rotate_left
  · obtain ⟨s0, s1, s2⟩ := hS; go_simp <;> with_reducible rfl
  try simp only [pz]
  refine s_tk 1 3 (v := ?_) US (fun w9 hS => ?_) ?_
  rotate_left
  · obtain ⟨s0, s1, s2⟩ := hS; go_simp <;> with_reducible rfl
  try simp only [pz]
  refine s_tk 2 4 (v := ?_) US (fun w9 hS => ?_) ?_
  rotate_left
  · obtain ⟨s0, s1, s2⟩ := hS; go_simp <;> with_reducible rfl
  try simp only [pz]
  refine s_tk 3 5 (v := ?_) US (fun w9 hS => ?_) ?_
  rotate_left
  · obtain ⟨s0, s1, s2⟩ := hS; go_simp <;> with_reducible rfl
  try simp only [pz]
  refine s_tk 4 6 (v := ?_) US (fun w9 hS => ?_) ?_
  rotate_left
  · obtain ⟨s0, s1, s2⟩ := hS; go_simp <;> with_reducible rfl
  try simp only [pz]
  refine s_tk 5 7 (v := ?_) US (fun w9 hS => ?_) ?_
  rotate_left
  · obtain ⟨s0, s1, s2⟩ := hS; go_simp <;> with_reducible rfl
  try simp only [pz]
  refine s_tk 6 8 (v := ?_) US (fun w9 hS => ?_) ?_
  rotate_left
  · obtain ⟨s0, s1, s2⟩ := hS; go_simp <;> with_reducible rfl
  try simp only [pz]
  refine s_tk 7 9 (v := ?_) US (fun w9 hS => ?_) ?_
  rotate_left
  · obtain ⟨s0, s1, s2⟩ := hS; go_simp <;> with_reducible rfl
  try simp only [pz]
  refine s_op 8 (by kernel_rfl) rfl (by rfl) (fun K9 hK9 => ?_)
  go_simp
  go_at_call 96
  refine CS.mono ?_
  rintro en w2 ⟨rfl, G2⟩
  replace US : w2.cell? ⟨b, 0, none⟩ = some (.pointer (some ⟨p, 0, none⟩)) ∧ w2.cell? ⟨p, 3, none⟩ = some (.pointer (some ⟨t, 0, none⟩)) ∧ w2.cell? ⟨t, 0, none⟩ = some (.int .i64 n) := ⟨G2.out.cell hb.out.1 hb.out.2, G2.out.cell HPA.out.cells.2.2.2.1 HPO.out, G2.out.cell ht.out.1 ht.out.2⟩
  refine hK9.out _ _ US ?_
  clear hK9 K9
  try simp only [pz]
  refine s_tk 9 1 (v := ?_) US (fun w9 hS => ?_) ?_
  rotate_left
  · go_simp <;> with_reducible rfl
  try simp only [pz]
  refine s_done (by kernel_rfl) ?_
  clear US
  first | (rename_i K1 h1; refine h1 _ _ ?_; clear h1 K1) | skip
  go_wp2
  go_ret
  exact ⟨rfl, G2⟩
end Go.Proofs.YtbcghggkfnagoaaGreatDoor

namespace Go.Proofs.YtbcghggkfnagoaaGreatDoor
open Go Go.RowKit Go.Maps Hach

def seqR (D : DiskV) : List (DiskV → DiskV × Int) → DiskV × Int
  | [] => (D, 0)
  | g :: r => if (g D).2 = 0 then seqR (g D).1 r else g D
theorem stepsD_calls (w : World) (A : Option Addr) (c : Nat) (F : Nat → Prop) (base d : Nat) (D : DiskV) (fs : List FnV) (gs : List (DiskV → DiskV × Int)) (OkP : Nat → DiskV → Prop)
    (hl : Hid (fs.length < 1000)) (hlen : gs.length = fs.length) (hr : ∀ w', Fr F w w' → Rd w' A (fs.map fnv))
    (hent : ∀ x ∈ fs, ∀ (args : Array Value) (w : World), (callFunc x.f args).run Tryz.prog w = .ok (.enter x.f args) w)
    (hok : OkP 0 D) (hstep : ∀ k g Dk, gs[k]? = some g → OkP k Dk → (g Dk).2 = 0 → OkP (k + 1) (g Dk).1)
    (hs : ∀ k x g, fs[k]? = some x → gs[k]? = some g → ∀ Dk W, OkP k Dk → Goes w F base d Dk W → Calls Tryz.prog x.f (x.b ++ x.c) W fun en w' => en = .returned (.int .i64 (g Dk).2) ∧ Hid (Goes w F base d (g Dk).1 w'))
    (h0 : Goes w F base d D w) :
    Calls Tryz.prog 74 #[.slice A fs.length c] w fun en w' => en = .returned (.int .i64 (seqR D gs).2) ∧ Hid (Goes w F base d (seqR D gs).1 w') := by
  refine (steps_calls w A c fs (fun k w' => ∃ Dk, OkP k Dk ∧ Goes w F base d Dk w' ∧ seqR Dk (gs.drop k) = seqR D gs) (fun e w' => e = (seqR D gs).2 ∧ Goes w F base d (seqR D gs).1 w') hl
    (hid fun k w' h => ?_) hent (hid fun k x hx w' h => ?_) ⟨D, hok, h0, rfl⟩).mono ?_
  · obtain ⟨Dk, _, hg, _⟩ := h
    exact hr w' hg.2
  · obtain ⟨Dk, hk, hg, he⟩ := h
    have hkl : k < gs.length := by rw [hlen]; exact (List.getElem?_eq_some_iff.1 hx).1
    obtain ⟨g, hgk⟩ : ∃ g, gs[k]? = some g := ⟨_, List.getElem?_eq_getElem hkl⟩
    have hdr : gs.drop k = g :: gs.drop (k + 1) := by
      rw [List.drop_eq_getElem_cons hkl, (List.getElem?_eq_some_iff.1 hgk).2]
    rw [hdr] at he
    have he2 : (if (g Dk).2 = 0 then seqR (g Dk).1 (gs.drop (k + 1)) else g Dk) = seqR D gs := he
    refine (hs k x g hx hgk Dk w' hk hg).mono ?_
    rintro en w2 ⟨rfl, h2⟩
    by_cases e0 : (g Dk).2 = 0
    · rw [if_pos e0] at he2
      exact .inl ⟨by rw [e0], _, hstep k g Dk hgk hk e0, h2.out, he2⟩
    · rw [if_neg e0] at he2
      exact .inr ⟨_, e0, rfl, by rw [← he2], by rw [← he2]; exact h2.out⟩
  · rintro en w' (⟨rfl, Dk, _, hg, he⟩ | ⟨e, _, rfl, rfl, hg⟩)
    · rw [List.drop_of_length_le (by rw [hlen]; exact Nat.le_refl _)] at he
      have he2 : (Dk, (0 : Int)) = seqR D gs := he
      rw [← he2]
      exact ⟨rfl, hid hg⟩
    · exact ⟨rfl, hid hg⟩
end Go.Proofs.YtbcghggkfnagoaaGreatDoor

namespace Go.Proofs.YtbcghggkfnagoaaGreatDoor
open Go Go.RowKit Go.Maps Hach

theorem PgRow.lt {w : World} {x : PgX} (h : PgRow w x) : x.g < w.heap.size := by
  obtain ⟨cs, fr, hb⟩ := h.row.1
  exact (Array.getElem?_eq_some_iff.1 hb).1
theorem OffT.at {w1 : World} {F F' : Nat → Prop} {p t m : Nat} {q : PgN} {mv : Value} {last : Int} {n : Nat} {L : PgL} (ho : OffT F p t m L) (hT : TranAt w1 p q t m mv last n L) (hp : ∀ k, F' k → plus F w1 k) : OffT F' p t m L := by
  have c : ∀ b, ¬ F b → b < w1.heap.size → ¬ F' b := fun b h1 h2 e => (hp b e).elim h1 fun h3 => absurd h2 (Nat.not_lt.2 h3)
  exact ⟨c p ho.p (Array.getElem?_eq_some_iff.1 hT.own).1, c t ho.t (Array.getElem?_eq_some_iff.1 hT.tran).1, c m ho.m hT.map.lt, fun y hy => c _ (ho.rows y hy) (hT.rows y hy).lt⟩
theorem pagesS_calls (w1 W : World) (F : Nat → Prop) (base p t m : Nat) (q : PgN) (mv : Value) (last : Int) (n : Nat) (L : PgL) (D : DiskV) (h : Hid (Amid w1 W F base p q (.pointer (some ⟨t, 0, none⟩)) D)) (hT : Hid (TranAt w1 p q t m mv last n L)) (ho : Hid (OffT F p t m L)) (hk9 : Hid (L.Pairwise fun a b => a.1 < b.1)) (hb : Hid (∀ y ∈ L, 1 ≤ y.1 ∧ y.1 ≤ 4000)) (hl : Hid (L.length ≤ 4000)) (hok : Hid (OkAll D L)) :
    Calls Tryz.prog 97 #[.pointer (some ⟨p, 0, none⟩)] W fun en w' => en = .returned (.int .i64 (writesR D L).2) ∧ Hid (Goes w1 F base q.d (writesR D L).1 w') := by
  obtain ⟨px, hd, hp⟩ := h.out.goes.1
  refine (ppagesW_calls W base p t m q mv last n L px D (hid (hT.out.offF ho.out h.out.goes.2)) (hid hd) (hid (ho.out.at hT.out hp)) hk9 hb hl hok).mono ?_
  rintro en w2 ⟨he, hg⟩
  exact ⟨he, hid (h.out.goes.next hp hg.out)⟩
end Go.Proofs.YtbcghggkfnagoaaGreatDoor

namespace Go.Proofs.YtbcghggkfnagoaaGreatDoor
open Go Go.RowKit Go.Maps Hach

def OkS (D : DiskV) : List (DiskV → DiskV × Int) → Prop
  | [] => True
  | g :: r => DiskOk D ∧ ((g D).2 = 0 → OkS (g D).1 r)
theorem ent_pages (args : Array Value) (w : World) : (callFunc 97 args).run Tryz.prog w = .ok (.enter 97 args) w := by go_simp
theorem ent_sync (args : Array Value) (w : World) : (callFunc 136 args).run Tryz.prog w = .ok (.enter 136 args) w := by go_simp
theorem ent_ccut (args : Array Value) (w : World) : (callFunc 95 args).run Tryz.prog w = .ok (.enter 95 args) w := by go_simp
theorem ent_clean (args : Array Value) (w : World) : (callFunc 76 args).run Tryz.prog w = .ok (.enter 76 args) w := by go_simp
def dataFs (p b2 f2 b : Nat) : List FnV := [⟨97, #[.pointer (some ⟨p, 0, none⟩)], #[]⟩, ⟨136, #[], #[.pointer (some ⟨b2, 0, none⟩), .pointer (some ⟨f2, 0, none⟩)]⟩, ⟨95, #[], #[.pointer (some ⟨b, 0, none⟩)]⟩, ⟨76, #[.pointer (some ⟨p, 0, none⟩)], #[]⟩]
def dataGs (L : PgL) (n : Nat) : List (DiskV → DiskV × Int) := [fun D => writesR D L, fun D => syncR D 0, fun D => pcutR D n, cleanR]
theorem dataRow_calls (w : World) (A : Option Addr) (c : Nat) (F : Nat → Prop) (base p t m b b2 f2 : Nat) (q : PgN) (mv : Value) (last : Int) (n : Nat) (L : PgL) (D : DiskV)
    (hr : ∀ w', Fr F w w' → Rd w' A ((dataFs p b2 f2 b).map fnv)) (h0 : Goes w F base q.d D w) (hT : Hid (TranAt w p q t m mv last n L)) (ho : Hid (OffT F p t m L)) (hn : Hid (n ≤ 4000))
    (hk9 : Hid (L.Pairwise fun a b => a.1 < b.1)) (hb : Hid (∀ y ∈ L, 1 ≤ y.1 ∧ y.1 ≤ 4000)) (hl : Hid (L.length ≤ 4000)) (hok : OkAll D L ∧ OkS D (dataGs L n))
    (hb2 : Hid (BoxF w F b2 (.pointer (some ⟨p, 0, none⟩)))) (hf2 : Hid (BoxF w F f2 (.int .i64 0))) (hb1 : Hid (BoxF w F b (.pointer (some ⟨p, 0, none⟩)))) :
    Calls Tryz.prog 74 #[.slice A 4 c] w fun en w' => en = .returned (.int .i64 (seqR D (dataGs L n)).2) ∧ Hid (Goes w F base q.d (seqR D (dataGs L n)).1 w') := by
  refine stepsD_calls w A c F base q.d D (dataFs p b2 f2 b) (dataGs L n) (fun k Dk => OkS Dk ((dataGs L n).drop k) ∧ (k = 0 → OkAll Dk L)) (hid (by show 4 < 1000; decide)) rfl hr ?_ ⟨hok.2, fun _ => hok.1⟩ ?_ ?_ h0
  · intro x hx
    rcases List.mem_cons.1 hx with rfl | hx
    · exact ent_pages
    rcases List.mem_cons.1 hx with rfl | hx
    · exact ent_sync
    rcases List.mem_cons.1 hx with rfl | hx
    · exact ent_ccut
    rcases List.mem_cons.1 hx with rfl | hx
    · exact ent_clean
    cases hx
  · intro k g Dk hg hk e0
    obtain ⟨h1, h2⟩ := List.getElem?_eq_some_iff.1 hg
    have h3 := hk.1
    rw [List.drop_eq_getElem_cons h1, h2] at h3
    exact ⟨h3.2 e0, fun e => by omega⟩
  · intro k x g hx hg Dk W hk hG
    obtain ⟨h1, h2⟩ := List.getElem?_eq_some_iff.1 hg
    have h3 := hk.1
    rw [List.drop_eq_getElem_cons h1, h2] at h3
    have AM : Hid (Amid w W F base p q (.pointer (some ⟨t, 0, none⟩)) Dk) := hid ⟨hG, hT.out.own, ho.out.p, h3.1⟩
    clear h3 h1 h2
    rcases k with _ | _ | _ | _ | k
    · cases hx; cases hg
      exact pagesS_calls w W F base p t m q mv last n L Dk AM hT ho hk9 hb hl (hid (hk.2 rfl))
    · cases hx; cases hg
      exact syncer1_calls w W F base p q _ Dk b2 f2 0 AM hb2 hf2
    · cases hx; cases hg
      exact ccut_calls w W F base p t b n q Dk hn AM hb1 (hid ⟨hT.out.cells.1, ho.out.t⟩)
    · cases hx; cases hg
      exact clean_calls w W F base p q _ Dk AM
    · cases hx
end Go.Proofs.YtbcghggkfnagoaaGreatDoor

namespace Go.Proofs.YtbcghggkfnagoaaGreatDoor
open Go Go.RowKit Go.Maps Hach

theorem ent_write (args : Array Value) (w : World) : (callFunc 138 args).run Tryz.prog w = .ok (.enter 138 args) w := by go_simp
def wrFn (b f s : Nat) : FnV := ⟨138, #[], #[.pointer (some ⟨b, 0, none⟩), .pointer (some ⟨f, 0, none⟩), .pointer (some ⟨s, 0, none⟩)]⟩
def syFn (b f : Nat) : FnV := ⟨136, #[], #[.pointer (some ⟨b, 0, none⟩), .pointer (some ⟨f, 0, none⟩)]⟩
def jouFs (b1 f1 s1 b2 f2 b3 f3 s3 : Nat) : List FnV := [wrFn b1 f1 s1, syFn b2 f2, wrFn b3 f3 s3, syFn b2 f2]
def jouGs (X Y : List Sec) : List (DiskV → DiskV × Int) := [fun D => writeR D 1 0 X, fun D => syncR D 1, fun D => writeR D 1 0 Y, fun D => syncR D 1]
theorem jouRow_calls (w : World) (A : Option Addr) (c : Nat) (F : Nat → Prop) (base p b1 f1 s1 b2 f2 b3 f3 s3 : Nat) (q : PgN) (tv : Value) (D : DiskV) (A1 A3 : Option Addr) (n1 c1 n3 c3 : Nat) (X Y : List Sec)
    (hr : ∀ w', Fr F w w' → Rd w' A ((jouFs b1 f1 s1 b2 f2 b3 f3 s3).map fnv)) (h0 : Goes w F base q.d D w) (hp : PagerAt w p q tv false) (ho : ¬ F p) (hok : OkS D (jouGs X Y))
    (hb1 : Hid (BoxF w F b1 (.pointer (some ⟨p, 0, none⟩)))) (hf1 : Hid (BoxF w F f1 (.int .i64 1))) (hs1 : Hid (BoxF w F s1 (.slice A1 n1 c1))) (hX : Hid (SecF w F A1 n1 c1 X ∧ X.length < 100000))
    (hb2 : Hid (BoxF w F b2 (.pointer (some ⟨p, 0, none⟩)))) (hf2 : Hid (BoxF w F f2 (.int .i64 1)))
    (hb3 : Hid (BoxF w F b3 (.pointer (some ⟨p, 0, none⟩)))) (hf3 : Hid (BoxF w F f3 (.int .i64 1))) (hs3 : Hid (BoxF w F s3 (.slice A3 n3 c3))) (hY : Hid (SecF w F A3 n3 c3 Y ∧ Y.length < 100000)) :
    Calls Tryz.prog 74 #[.slice A 4 c] w fun en w' => en = .returned (.int .i64 (seqR D (jouGs X Y)).2) ∧ Hid (Goes w F base q.d (seqR D (jouGs X Y)).1 w') := by
  refine stepsD_calls w A c F base q.d D (jouFs b1 f1 s1 b2 f2 b3 f3 s3) (jouGs X Y) (fun k Dk => OkS Dk ((jouGs X Y).drop k)) (hid (by show 4 < 1000; decide)) rfl hr ?_ hok ?_ ?_ h0
  · intro x hx
    rcases List.mem_cons.1 hx with rfl | hx
    · exact ent_write
    rcases List.mem_cons.1 hx with rfl | hx
    · exact ent_sync
    rcases List.mem_cons.1 hx with rfl | hx
    · exact ent_write
    rcases List.mem_cons.1 hx with rfl | hx
    · exact ent_sync
    cases hx
  · intro k g Dk hg hk e0
    obtain ⟨h1, h2⟩ := List.getElem?_eq_some_iff.1 hg
    rw [List.drop_eq_getElem_cons h1, h2] at hk
    exact hk.2 e0
  · intro k x g hx hg Dk W hk hG
    obtain ⟨h1, h2⟩ := List.getElem?_eq_some_iff.1 hg
    rw [List.drop_eq_getElem_cons h1, h2] at hk
    have AM : Hid (Amid w W F base p q tv Dk) := hid ⟨hG, hp, ho, hk.1⟩
    clear h1 h2
    rcases k with _ | _ | _ | _ | k
    · cases hx; cases hg
      exact writer1_calls w W F base p q tv Dk b1 f1 s1 1 A1 n1 c1 X AM hb1 hf1 hs1 hX
    · cases hx; cases hg
      exact syncer1_calls w W F base p q tv Dk b2 f2 1 AM hb2 hf2
    · cases hx; cases hg
      exact writer1_calls w W F base p q tv Dk b3 f3 s3 1 A3 n3 c3 Y AM hb3 hf3 hs3 hY
    · cases hx; cases hg
      exact syncer1_calls w W F base p q tv Dk b2 f2 1 AM hb2 hf2
    · cases hx
end Go.Proofs.YtbcghggkfnagoaaGreatDoor
