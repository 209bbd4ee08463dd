/- THE WALK of the disk's Copy. -/
import Derived.Test.YtlikggeceeennaaDskU
set_option linter.unusedVariables false
set_option linter.unusedSimpArgs false
namespace Go.Proofs.Ytlikggeceeennaa
open Go Go.RowKit Go.Maps Hach

theorem mclone_calls (w : World) (m : Nat) (L : Olds) (h : Hid (MapS w m L)) :
    Calls Try.prog 109 #[.map (some m)] w (fun e w' => e = .returned (.map (some w.heap.size)) ∧ Hid (MapS w' w.heap.size L ∧ Up w w')) := by
  refine (Go.Proofs.AnyW.maps_Clone_owns mcloneLy 3 secElem m L.length (datL L) w h.out).mono ?_
  rintro e w' ⟨rfl, h1, _, h2⟩
  exact ⟨rfl, hid ⟨h1, h2⟩⟩
theorem idx0 (a b c d e f : Value) (w : World) : (Instr.index 96 (.agg #[a, b, c, d, e, f]) (.int .i64 0)).run Try.prog w = .ok (.agg #[a, b, c]) w := by kernel_rfl
theorem idx1 (a b c d e f : Value) (w : World) : (Instr.index 96 (.agg #[a, b, c, d, e, f]) (.int .i64 1)).run Try.prog w = .ok (.agg #[d, e, f]) w := by kernel_rfl
theorem cell3 {w : World} {b : Nat} {cs : Array Value} {t : TypeId} (h : w.heap[b]? = some (.cells cs t (0, 0))) (i : Nat) {v : Value} (hv : cs[i]? = some v) : w.cell? ⟨b, i, none⟩ = some v := by rw [cell_of_row _ _ _ _ _ _ h]; exact hv
theorem free3 {w : World} {b : Nat} {cs : Array Value} {t : TypeId} (h : w.heap[b]? = some (.cells cs t (0, 0))) (i : Nat) : w.frozen? ⟨b, i, none⟩ = false := by unfold World.frozen?; rw [show (⟨b, i, none⟩ : Addr).block = b from rfl, h]; simp
def DCopyRet (w : World) (D : DiskV) (en : Ending) (w' : World) : Prop := ∃ e q, en = .returned (.pointer (some ⟨e, 0, none⟩)) ∧ Hid (DiskAt w' w.heap.size e q D ∧ Up w w')
set_option maxRecDepth 100000 in
set_option maxHeartbeats 2000000 in
theorem dcopy_calls (w : World) (base d : Nat) (p : DiskP) (D : DiskV) (h : Hid (DiskAt w base d p D)) (hsz : Hid (D.f0.now.length < 400000 ∧ D.f1.now.length < 400000)) :
    Calls Try.prog 50 #[.pointer (some ⟨d, 0, none⟩)] w (DCopyRet w D) := by
  obtain ⟨e0, e1, e2, e3, e4, e5, e6, e7, e8, e9, e10, e11⟩ := h.out.reads
  have HR := hid h.out.room.1
  obtain ⟨len0, hlen0⟩ : ∃ z, D.f0.now.length = z := ⟨_, rfl⟩
  obtain ⟨len1, hlen1⟩ : ∃ z, D.f1.now.length = z := ⟨_, rfl⟩
  obtain ⟨kl, hkl⟩ : ∃ z, D.keep.length = z := ⟨_, rfl⟩
  obtain ⟨su0, hsu0⟩ : ∃ z, D.f0.sure = z := ⟨_, rfl⟩
  obtain ⟨su1, hsu1⟩ : ∃ z, D.f1.sure = z := ⟨_, rfl⟩
  rw [hlen0] at e1; rw [hlen1] at e4; rw [hsu0] at e3; rw [hsu1] at e6; rw [hkl] at e10
  have HN := hid (And.intro hlen0 (And.intro hlen1 (And.intro hkl (And.intro hsu0 hsu1))))
  clear hlen0 hlen1 hkl hsu0 hsu1
  obtain ⟨cx, hcx⟩ : ∃ cx, (#[.int .i64 D.room, .slice p.A0 len0 p.c0, .map (some p.m0), .int .i64 su0, .slice p.A1 len1 p.c1, .map (some p.m1), .int .i64 su1, .bool D.on, .int .i64 D.ops, .int .i64 D.armed, .slice p.KA kl p.kc, .int .i64 D.torn] : Array Value) = cx := ⟨_, rfl⟩
  have UX := upAlD (Up.refl w) (.cells cx 98)
  have HUX := hid UX
  have x1 := UX.c e1
  have x2 := UX.c e2
  have x3 := UX.c e3
  have x4 := UX.c e4
  have x5 := UX.c e5
  have x6 := UX.c e6
  rw [← hcx] at x1 x2 x3 x4 x5 x6
  have HCX := hid hcx
  have BXX := hid (heap_alloc_new w (.cells cx 98))
  clear UX hcx
  have hix0 := idx0
  have hix1 := idx1
  go_enter Try.func50, Try.ntmps50
  go_wp2_with (go_at_call 107; refine (dmade_calls _ d _ e0 HR).mono ?_; rintro e w' ⟨rfl, hw⟩; obtain rfl := hw.symm)
  refine wp_loop_rounds 3 ?_
  rw [rounds_succ]
  go_wp2
  have HLN0 := hid HN.out.1
  have HLN1 := hid HN.out.2.1
  have UQ : Up (w.alloc (.cells #[.int .i64 D.room, .slice p.A0 len0 p.c0, .map (some p.m0), .int .i64 su0, .slice p.A1 len1 p.c1, .map (some p.m1), .int .i64 su1, .bool D.on, .int .i64 D.ops, .int .i64 D.armed, .slice p.KA kl p.kc, .int .i64 D.torn] 98)) ((w.alloc (.cells #[.int .i64 D.room, .slice p.A0 len0 p.c0, .map (some p.m0), .int .i64 su0, .slice p.A1 len1 p.c1, .map (some p.m1), .int .i64 su1, .bool D.on, .int .i64 D.ops, .int .i64 D.armed, .slice p.KA kl p.kc, .int .i64 D.torn] 98)).alloc (.cells #[.slice p.A0 len0 p.c0, .map (some p.m0), .int .i64 su0] 95)) := upAlD (Up.refl _) _
  have UP0 : Up w ((w.alloc (.cells #[.int .i64 D.room, .slice p.A0 len0 p.c0, .map (some p.m0), .int .i64 su0, .slice p.A1 len1 p.c1, .map (some p.m1), .int .i64 su1, .bool D.on, .int .i64 D.ops, .int .i64 D.armed, .slice p.KA kl p.kc, .int .i64 D.torn] 98)).alloc (.cells #[.slice p.A0 len0 p.c0, .map (some p.m0), .int .i64 su0] 95)) := (upAlD (Up.refl w) _).t UQ
  have XP0 := (UQ.block w.heap.size (by simp)).trans (heap_alloc_new w (.cells #[.int .i64 D.room, .slice p.A0 len0 p.c0, .map (some p.m0), .int .i64 su0, .slice p.A1 len1 p.c1, .map (some p.m1), .int .i64 su1, .bool D.on, .int .i64 D.ops, .int .i64 D.armed, .slice p.KA kl p.kc, .int .i64 D.torn] 98))
  have FP0 := heap_alloc_new (w.alloc (.cells #[.int .i64 D.room, .slice p.A0 len0 p.c0, .map (some p.m0), .int .i64 su0, .slice p.A1 len1 p.c1, .map (some p.m1), .int .i64 su1, .bool D.on, .int .i64 D.ops, .int .i64 D.armed, .slice p.KA kl p.kc, .int .i64 D.torn] 98)) (.cells #[.slice p.A0 len0 p.c0, .map (some p.m0), .int .i64 su0] 95)
  rw [show (w.alloc (.cells #[.int .i64 D.room, .slice p.A0 len0 p.c0, .map (some p.m0), .int .i64 su0, .slice p.A1 len1 p.c1, .map (some p.m1), .int .i64 su1, .bool D.on, .int .i64 D.ops, .int .i64 D.armed, .slice p.KA kl p.kc, .int .i64 D.torn] 98)).heap.size = w.heap.size + 1 by simp] at FP0
  have HZ : Hid (w.heap.size ≤ w.heap.size) := hid (Nat.le_refl _)
  generalize (w.alloc (.cells #[.int .i64 D.room, .slice p.A0 len0 p.c0, .map (some p.m0), .int .i64 su0, .slice p.A1 len1 p.c1, .map (some p.m1), .int .i64 su1, .bool D.on, .int .i64 D.ops, .int .i64 D.armed, .slice p.KA kl p.kc, .int .i64 D.torn] 98)).alloc (.cells #[.slice p.A0 len0 p.c0, .map (some p.m0), .int .i64 su0] 95) = wA at *
  obtain ⟨z, hz⟩ : ∃ z, w.heap.size = z := ⟨_, rfl⟩
  have HZ : Hid (w.heap.size ≤ z) := hid (by omega)
  rw [hz] at XP0 FP0 ⊢
  clear x1 x2 x3 x4 x5 x6 UQ e0 e1 e2 e3 e4 e5 e6 e7 e8 e9 e10 e11 HCX BXX HUX

  have UA0 : Hid (Up w wA) := hid (UP0)
  have XA0 : Hid (wA.heap[z]? = some (.cells #[.int .i64 D.room, .slice p.A0 len0 p.c0, .map (some p.m0), .int .i64 su0, .slice p.A1 len1 p.c1, .map (some p.m1), .int .i64 su1, .bool D.on, .int .i64 D.ops, .int .i64 D.armed, .slice p.KA kl p.kc, .int .i64 D.torn] 98 (0, 0))) := hid (XP0)
  have FB0 : Hid (wA.heap[z + 1]? = some (.cells #[.slice p.A0 len0 p.c0, .map (some p.m0), .int .i64 su0] 95 (0, 0))) := hid (FP0)
  have b00 : wA.drew.cell? ⟨z + 1, 0, none⟩ = some (.slice p.A0 len0 p.c0) := cell3 FB0.out 0 rfl
  have b01 : wA.drew.cell? ⟨z + 1, 1, none⟩ = some (.map (some p.m0)) := cell3 FB0.out 1 rfl
  have b02 : wA.drew.cell? ⟨z + 1, 2, none⟩ = some (.int .i64 su0) := cell3 FB0.out 2 rfl
  have NZ0 : Hid (¬ z = z + 1) := hid (by omega)
  clear UP0 XP0 FP0 hz
  have US : wA.drew.cell? ⟨z + 1, 0, none⟩ = some (.slice p.A0 len0 p.c0) ∧ wA.drew.cell? ⟨z + 1, 1, none⟩ = some (.map (some p.m0)) ∧ wA.drew.cell? ⟨z + 1, 2, none⟩ = some (.int .i64 su0) := ⟨b00, b01, b02⟩
  refine s_start (fun w9 => w9.cell? ⟨z + 1, 0, none⟩ = some (.slice p.A0 len0 p.c0) ∧ w9.cell? ⟨z + 1, 1, none⟩ = some (.map (some p.m0)) ∧ w9.cell? ⟨z + 1, 2, none⟩ = some (.int .i64 su0)) (by kernel_rfl) ?_
  refine s_take 0 (some 20) (v := ?_) US rfl rfl (by kernel_rfl) (by kernel_rfl) (by kernel_rfl) (fun _ _ _ h => h) (by rfl) (fun w9 hS => ?_) ?_
  rotate_left
  · go_simp <;> with_reducible rfl
  try simp only [Act.put, List.setIfInBounds_toArray, List.set_cons_zero, List.set_cons_succ]
  refine s_take 1 (some 21) (v := ?_) US rfl rfl (by kernel_rfl) (by kernel_rfl) (by kernel_rfl) (fun _ _ _ h => h) (by rfl) (fun w9 hS => ?_) ?_
  rotate_left
  · go_simp <;> with_reducible rfl
  try simp only [Act.put, List.setIfInBounds_toArray, List.set_cons_zero, List.set_cons_succ]
  refine s_take 2 (some 22) (v := ?_) US rfl rfl (by kernel_rfl) (by kernel_rfl) (by kernel_rfl) (fun _ _ _ h => h) (by rfl) (fun w9 hS => ?_) ?_
  rotate_left
  · obtain ⟨s0, s1, s2⟩ := hS; go_simp <;> with_reducible rfl
  try simp only [Act.put, List.setIfInBounds_toArray, List.set_cons_zero, List.set_cons_succ]
  refine s_take 4 (some 24) (v := ?_) US rfl rfl (by kernel_rfl) (by kernel_rfl) (by kernel_rfl) (fun _ _ _ h => h) (by rfl) (fun w9 hS => ?_) ?_
  rotate_left
  · go_simp <;> with_reducible rfl
  try simp only [Act.put, List.setIfInBounds_toArray, List.set_cons_zero, List.set_cons_succ]
  refine s_take 5 (some 25) (v := ?_) US rfl rfl (by kernel_rfl) (by kernel_rfl) (by kernel_rfl) (fun _ _ _ h => h) (by rfl) (fun w9 hS => ?_) ?_
  rotate_left
  · obtain ⟨s0, s1, s2⟩ := hS; go_simp <;> with_reducible rfl
  try simp only [Act.put, List.setIfInBounds_toArray, List.set_cons_zero, List.set_cons_succ]
  refine s_take 7 (some 27) (v := ?_) US rfl rfl (by kernel_rfl) (by kernel_rfl) (by kernel_rfl) (fun _ _ _ h => h) (by rfl) (fun w9 hS => ?_) ?_
  rotate_left
  · go_simp <;> with_reducible rfl
  try simp only [Act.put, List.setIfInBounds_toArray, List.set_cons_zero, List.set_cons_succ]
  refine s_take 8 (some 28) (v := ?_) US rfl rfl (by kernel_rfl) (by kernel_rfl) (by kernel_rfl) (fun _ _ _ h => h) (by rfl) (fun w9 hS => ?_) ?_
  rotate_left
  · obtain ⟨s0, s1, s2⟩ := hS; go_simp <;> with_reducible rfl
  try simp only [Act.put, List.setIfInBounds_toArray, List.set_cons_zero, List.set_cons_succ]
  refine s_take 10 (some 30) (v := ?_) US rfl rfl (by kernel_rfl) (by kernel_rfl) (by kernel_rfl) (fun _ _ _ h => h) (by rfl) (fun w9 hS => ?_) ?_
  rotate_left
  · go_simp <;> with_reducible rfl
  try simp only [Act.put, List.setIfInBounds_toArray, List.set_cons_zero, List.set_cons_succ]
  refine s_op 3 (by kernel_rfl) rfl (by rfl) (fun K9 hK9 => ?_)
  go_simp
  go_at_call 108
  refine (cloneSec_calls _ p.A0 (D.f0.now.flatMap secC) len0 p.c0 (by rw [flatS_length h.out.ok0.now, HLN0.out]) (by have := hsz.out.1; have := HLN0.out; omega) (flatS_one _) (hid ((Rd.own h.out.row0).grown (UA0.out.t (Up.drew _))))).mono ?_
  rintro e wc0 ⟨B0, k0, rfl, hh⟩
  have O0 := hid hh.out.1
  have UC0 : Hid (Up wA wc0) := hid ((Up.drew _).t hh.out.2)
  replace US := (show wc0.cell? ⟨z + 1, 0, none⟩ = some (.slice p.A0 len0 p.c0) ∧ wc0.cell? ⟨z + 1, 1, none⟩ = some (.map (some p.m0)) ∧ wc0.cell? ⟨z + 1, 2, none⟩ = some (.int .i64 su0) from ⟨hh.out.2.c US.1, hh.out.2.c US.2.1, hh.out.2.c US.2.2⟩)
  clear hh
  refine hK9.out _ _ US ?_
  clear hK9 K9
  try simp only [Act.put, List.setIfInBounds_toArray, List.set_cons_zero, List.set_cons_succ]
  refine s_op 6 (by kernel_rfl) rfl (by rfl) (fun K9 hK9 => ?_)
  go_simp
  go_at_call 109
  refine (mclone_calls _ p.m0 D.f0.old (hid (h.out.map0.up (UA0.out.t UC0.out)))).mono ?_
  rintro e wd0 ⟨rfl, hh⟩
  have M0 := hid hh.out.1
  have UD0 := hid hh.out.2
  replace US := (show wd0.cell? ⟨z + 1, 0, none⟩ = some (.slice p.A0 len0 p.c0) ∧ wd0.cell? ⟨z + 1, 1, none⟩ = some (.map (some p.m0)) ∧ wd0.cell? ⟨z + 1, 2, none⟩ = some (.int .i64 su0) from ⟨hh.out.2.c US.1, hh.out.2.c US.2.1, hh.out.2.c US.2.2⟩)
  clear hh
  have MB0 : Hid (w.heap.size ≤ wc0.heap.size ∧ z < wc0.heap.size ∧ wA.heap.size ≤ wc0.heap.size ∧ ∀ q, (Value.slice B0 len0 k0).ownBlock = some q → wA.heap.size ≤ q ∧ q < wc0.heap.size) := hid ⟨Nat.le_trans UA0.out.size UC0.out.size, Nat.lt_of_lt_of_le (Array.getElem?_eq_some_iff.1 XA0.out).1 UC0.out.size, UC0.out.size, fun q hq => own_block O0.out q hq⟩
  generalize wc0.heap.size = mb0 at *
  have XD0 : Hid (wd0.heap[z]? = some (.cells #[.int .i64 D.room, .slice p.A0 len0 p.c0, .map (some p.m0), .int .i64 su0, .slice p.A1 len1 p.c1, .map (some p.m1), .int .i64 su1, .bool D.on, .int .i64 D.ops, .int .i64 D.armed, .slice p.KA kl p.kc, .int .i64 D.torn] 98 (0, 0))) := hid ((UD0.out.block z (Nat.lt_of_lt_of_le (Array.getElem?_eq_some_iff.1 XA0.out).1 UC0.out.size)).trans ((UC0.out.block z (Array.getElem?_eq_some_iff.1 XA0.out).1).trans XA0.out))
  have y1 := cell3 XD0.out 1 rfl
  have y2 := cell3 XD0.out 2 rfl
  have y3 := cell3 XD0.out 3 rfl
  have z1 := free3 XD0.out 1
  have z2 := free3 XD0.out 2
  have z3 := free3 XD0.out 3
  refine hK9.out _ _ US ?_
  clear hK9 K9
  try simp only [Act.put, List.setIfInBounds_toArray, List.set_cons_zero, List.set_cons_succ]
  refine s_take 9 (some 29) (v := ?_) US rfl rfl (by kernel_rfl) (by kernel_rfl) (by kernel_rfl) (fun _ _ _ h => h) (by rfl) (fun w9 hS => ?_) ?_
  rotate_left
  · go_simp <;> with_reducible rfl
  try simp only [Act.put, List.setIfInBounds_toArray, List.set_cons_zero, List.set_cons_succ]
  refine s_take 11 (some 31) (v := ?_) US rfl rfl (by kernel_rfl) (by kernel_rfl) (by kernel_rfl) (fun _ _ _ h => h) (by rfl) (fun w9 hS => ?_) ?_
  rotate_left
  · go_simp <;> with_reducible rfl
  try simp only [Act.put, List.setIfInBounds_toArray, List.set_cons_zero, List.set_cons_succ]
  refine s_op 12 (by kernel_rfl) rfl (by rfl) (fun K9 hK9 => ?_)
  go_simp
  refine hK9.out _ _ ⟨setD_far (setD_far (setD_far US.1 (fun e9 => NZ0.out e9.1)) (fun e9 => NZ0.out e9.1)) (fun e9 => NZ0.out e9.1), setD_far (setD_far (setD_far US.2.1 (fun e9 => NZ0.out e9.1)) (fun e9 => NZ0.out e9.1)) (fun e9 => NZ0.out e9.1), setD_far (setD_far (setD_far US.2.2 (fun e9 => NZ0.out e9.1)) (fun e9 => NZ0.out e9.1)) (fun e9 => NZ0.out e9.1)⟩ ?_
  clear hK9 K9
  try simp only [Act.put, List.setIfInBounds_toArray, List.set_cons_zero, List.set_cons_succ]
  refine s_done (by kernel_rfl) ?_
  rename_i K1 h1
  first | (refine h1 _ _ ?_; clear h1 K1) | skip
  clear US y1 y2 y3 z1 z2 z3 b00 b01 b02
  have XE0 := hid (heap_setCell_same _ z 3 _ _ (.int .i64 su0) (heap_setCell_same _ z 2 _ _ (.map (some mb0)) (heap_setCell_same wd0 z 1 _ _ (.slice B0 len0 k0) XD0.out)))
  have FE0 : Hid (Fr (fun k => k = z) wd0 (((wd0.setCell ⟨z, 1, none⟩ (.slice B0 len0 k0)).setCell ⟨z, 2, none⟩ (.map (some mb0))).setCell ⟨z, 3, none⟩ (.int .i64 su0))) := hid ((((Fr.refl (fun k => k = z) wd0).setCell (p := ⟨z, 1, none⟩) (fun _ => rfl) _).setCell (p := ⟨z, 2, none⟩) (fun _ => rfl) _).setCell (p := ⟨z, 3, none⟩) (fun _ => rfl) _)
  generalize ((wd0.setCell ⟨z, 1, none⟩ (.slice B0 len0 k0)).setCell ⟨z, 2, none⟩ (.map (some mb0))).setCell ⟨z, 3, none⟩ (.int .i64 su0) = we0 at *
  have UE0 : Hid (Below w.heap.size w we0) := hid ((show Below w.heap.size w wd0 from (UA0.out.t UC0.out).t UD0.out).trans (FE0.out.below (Nat.le_trans UA0.out.size (Nat.le_trans UC0.out.size UD0.out.size)) (fun k hk e => by have := HZ.out; omega)))
  go_wp2
  rw [rounds_succ]
  go_wp2
  have XP1 : (we0.alloc (.cells #[.slice p.A1 len1 p.c1, .map (some p.m1), .int .i64 su1] 95)).heap[z]? = _ := ((upAlD (Up.refl we0) _).block z (Array.getElem?_eq_some_iff.1 XE0.out).1).trans XE0.out
  have FP1 := heap_alloc_new we0 (.cells #[.slice p.A1 len1 p.c1, .map (some p.m1), .int .i64 su1] 95)
  have UP1 : Up w (we0.alloc (.cells #[.slice p.A1 len1 p.c1, .map (some p.m1), .int .i64 su1] 95)) := UE0.out.alloc UE0.out.size _
  have UQ1 := hid (upAlD (Up.refl we0) (.cells #[.slice p.A1 len1 p.c1, .map (some p.m1), .int .i64 su1] 95))
  generalize we0.alloc (.cells #[.slice p.A1 len1 p.c1, .map (some p.m1), .int .i64 su1] 95) = wB at *
  have HZY : Hid (¬ z = we0.heap.size) := hid (fun e => by have := (Array.getElem?_eq_some_iff.1 XE0.out).1; omega)
  generalize we0.heap.size = y at *

  have UA1 : Hid (Up w wB) := hid (UP1)
  have XA1 : Hid (wB.heap[z]? = some (.cells #[.int .i64 D.room, .slice B0 len0 k0, .map (some mb0), .int .i64 su0, .slice p.A1 len1 p.c1, .map (some p.m1), .int .i64 su1, .bool D.on, .int .i64 D.ops, .int .i64 D.armed, .slice p.KA kl p.kc, .int .i64 D.torn] 98 (0, 0))) := hid (XP1)
  have FB1 : Hid (wB.heap[y]? = some (.cells #[.slice p.A1 len1 p.c1, .map (some p.m1), .int .i64 su1] 95 (0, 0))) := hid (FP1)
  have b10 : wB.drew.cell? ⟨y, 0, none⟩ = some (.slice p.A1 len1 p.c1) := cell3 FB1.out 0 rfl
  have b11 : wB.drew.cell? ⟨y, 1, none⟩ = some (.map (some p.m1)) := cell3 FB1.out 1 rfl
  have b12 : wB.drew.cell? ⟨y, 2, none⟩ = some (.int .i64 su1) := cell3 FB1.out 2 rfl
  have NZ1 : Hid (¬ z = y) := HZY
  clear UP1 XP1 FP1
  have US : wB.drew.cell? ⟨y, 0, none⟩ = some (.slice p.A1 len1 p.c1) ∧ wB.drew.cell? ⟨y, 1, none⟩ = some (.map (some p.m1)) ∧ wB.drew.cell? ⟨y, 2, none⟩ = some (.int .i64 su1) := ⟨b10, b11, b12⟩
  refine s_start (fun w9 => w9.cell? ⟨y, 0, none⟩ = some (.slice p.A1 len1 p.c1) ∧ w9.cell? ⟨y, 1, none⟩ = some (.map (some p.m1)) ∧ w9.cell? ⟨y, 2, none⟩ = some (.int .i64 su1)) (by kernel_rfl) ?_
  refine s_take 0 (some 20) (v := ?_) US rfl rfl (by kernel_rfl) (by kernel_rfl) (by kernel_rfl) (fun _ _ _ h => h) (by rfl) (fun w9 hS => ?_) ?_
  rotate_left
  · go_simp <;> with_reducible rfl
  try simp only [Act.put, List.setIfInBounds_toArray, List.set_cons_zero, List.set_cons_succ]
  refine s_take 1 (some 21) (v := ?_) US rfl rfl (by kernel_rfl) (by kernel_rfl) (by kernel_rfl) (fun _ _ _ h => h) (by rfl) (fun w9 hS => ?_) ?_
  rotate_left
  · go_simp <;> with_reducible rfl
  try simp only [Act.put, List.setIfInBounds_toArray, List.set_cons_zero, List.set_cons_succ]
  refine s_take 2 (some 22) (v := ?_) US rfl rfl (by kernel_rfl) (by kernel_rfl) (by kernel_rfl) (fun _ _ _ h => h) (by rfl) (fun w9 hS => ?_) ?_
  rotate_left
  · obtain ⟨s0, s1, s2⟩ := hS; go_simp <;> with_reducible rfl
  try simp only [Act.put, List.setIfInBounds_toArray, List.set_cons_zero, List.set_cons_succ]
  refine s_take 4 (some 24) (v := ?_) US rfl rfl (by kernel_rfl) (by kernel_rfl) (by kernel_rfl) (fun _ _ _ h => h) (by rfl) (fun w9 hS => ?_) ?_
  rotate_left
  · go_simp <;> with_reducible rfl
  try simp only [Act.put, List.setIfInBounds_toArray, List.set_cons_zero, List.set_cons_succ]
  refine s_take 5 (some 25) (v := ?_) US rfl rfl (by kernel_rfl) (by kernel_rfl) (by kernel_rfl) (fun _ _ _ h => h) (by rfl) (fun w9 hS => ?_) ?_
  rotate_left
  · obtain ⟨s0, s1, s2⟩ := hS; go_simp <;> with_reducible rfl
  try simp only [Act.put, List.setIfInBounds_toArray, List.set_cons_zero, List.set_cons_succ]
  refine s_take 7 (some 27) (v := ?_) US rfl rfl (by kernel_rfl) (by kernel_rfl) (by kernel_rfl) (fun _ _ _ h => h) (by rfl) (fun w9 hS => ?_) ?_
  rotate_left
  · go_simp <;> with_reducible rfl
  try simp only [Act.put, List.setIfInBounds_toArray, List.set_cons_zero, List.set_cons_succ]
  refine s_take 8 (some 28) (v := ?_) US rfl rfl (by kernel_rfl) (by kernel_rfl) (by kernel_rfl) (fun _ _ _ h => h) (by rfl) (fun w9 hS => ?_) ?_
  rotate_left
  · obtain ⟨s0, s1, s2⟩ := hS; go_simp <;> with_reducible rfl
  try simp only [Act.put, List.setIfInBounds_toArray, List.set_cons_zero, List.set_cons_succ]
  refine s_take 10 (some 30) (v := ?_) US rfl rfl (by kernel_rfl) (by kernel_rfl) (by kernel_rfl) (fun _ _ _ h => h) (by rfl) (fun w9 hS => ?_) ?_
  rotate_left
  · go_simp <;> with_reducible rfl
  try simp only [Act.put, List.setIfInBounds_toArray, List.set_cons_zero, List.set_cons_succ]
  refine s_op 3 (by kernel_rfl) rfl (by rfl) (fun K9 hK9 => ?_)
  go_simp
  go_at_call 108
  refine (cloneSec_calls _ p.A1 (D.f1.now.flatMap secC) len1 p.c1 (by rw [flatS_length h.out.ok1.now, HLN1.out]) (by have := hsz.out.2; have := HLN1.out; omega) (flatS_one _) (hid ((Rd.own h.out.row1).grown (UA1.out.t (Up.drew _))))).mono ?_
  rintro e wc1 ⟨B1, k1, rfl, hh⟩
  have O1 := hid hh.out.1
  have UC1 : Hid (Up wB wc1) := hid ((Up.drew _).t hh.out.2)
  replace US := (show wc1.cell? ⟨y, 0, none⟩ = some (.slice p.A1 len1 p.c1) ∧ wc1.cell? ⟨y, 1, none⟩ = some (.map (some p.m1)) ∧ wc1.cell? ⟨y, 2, none⟩ = some (.int .i64 su1) from ⟨hh.out.2.c US.1, hh.out.2.c US.2.1, hh.out.2.c US.2.2⟩)
  clear hh
  refine hK9.out _ _ US ?_
  clear hK9 K9
  try simp only [Act.put, List.setIfInBounds_toArray, List.set_cons_zero, List.set_cons_succ]
  refine s_op 6 (by kernel_rfl) rfl (by rfl) (fun K9 hK9 => ?_)
  go_simp
  go_at_call 109
  refine (mclone_calls _ p.m1 D.f1.old (hid (h.out.map1.up (UA1.out.t UC1.out)))).mono ?_
  rintro e wd1 ⟨rfl, hh⟩
  have M1 := hid hh.out.1
  have UD1 := hid hh.out.2
  replace US := (show wd1.cell? ⟨y, 0, none⟩ = some (.slice p.A1 len1 p.c1) ∧ wd1.cell? ⟨y, 1, none⟩ = some (.map (some p.m1)) ∧ wd1.cell? ⟨y, 2, none⟩ = some (.int .i64 su1) from ⟨hh.out.2.c US.1, hh.out.2.c US.2.1, hh.out.2.c US.2.2⟩)
  clear hh
  have MB1 : Hid (w.heap.size ≤ wc1.heap.size ∧ z < wc1.heap.size ∧ wB.heap.size ≤ wc1.heap.size ∧ ∀ q, (Value.slice B1 len1 k1).ownBlock = some q → wB.heap.size ≤ q ∧ q < wc1.heap.size) := hid ⟨Nat.le_trans UA1.out.size UC1.out.size, Nat.lt_of_lt_of_le (Array.getElem?_eq_some_iff.1 XA1.out).1 UC1.out.size, UC1.out.size, fun q hq => own_block O1.out q hq⟩
  generalize wc1.heap.size = mb1 at *
  have XD1 : Hid (wd1.heap[z]? = some (.cells #[.int .i64 D.room, .slice B0 len0 k0, .map (some mb0), .int .i64 su0, .slice p.A1 len1 p.c1, .map (some p.m1), .int .i64 su1, .bool D.on, .int .i64 D.ops, .int .i64 D.armed, .slice p.KA kl p.kc, .int .i64 D.torn] 98 (0, 0))) := hid ((UD1.out.block z (Nat.lt_of_lt_of_le (Array.getElem?_eq_some_iff.1 XA1.out).1 UC1.out.size)).trans ((UC1.out.block z (Array.getElem?_eq_some_iff.1 XA1.out).1).trans XA1.out))
  have y1 := cell3 XD1.out 4 rfl
  have y2 := cell3 XD1.out 5 rfl
  have y3 := cell3 XD1.out 6 rfl
  have z1 := free3 XD1.out 4
  have z2 := free3 XD1.out 5
  have z3 := free3 XD1.out 6
  refine hK9.out _ _ US ?_
  clear hK9 K9
  try simp only [Act.put, List.setIfInBounds_toArray, List.set_cons_zero, List.set_cons_succ]
  refine s_take 9 (some 29) (v := ?_) US rfl rfl (by kernel_rfl) (by kernel_rfl) (by kernel_rfl) (fun _ _ _ h => h) (by rfl) (fun w9 hS => ?_) ?_
  rotate_left
  · go_simp <;> with_reducible rfl
  try simp only [Act.put, List.setIfInBounds_toArray, List.set_cons_zero, List.set_cons_succ]
  refine s_take 11 (some 31) (v := ?_) US rfl rfl (by kernel_rfl) (by kernel_rfl) (by kernel_rfl) (fun _ _ _ h => h) (by rfl) (fun w9 hS => ?_) ?_
  rotate_left
  · go_simp <;> with_reducible rfl
  try simp only [Act.put, List.setIfInBounds_toArray, List.set_cons_zero, List.set_cons_succ]
  refine s_op 12 (by kernel_rfl) rfl (by rfl) (fun K9 hK9 => ?_)
  go_simp
  refine hK9.out _ _ ⟨setD_far (setD_far (setD_far US.1 (fun e9 => NZ1.out e9.1)) (fun e9 => NZ1.out e9.1)) (fun e9 => NZ1.out e9.1), setD_far (setD_far (setD_far US.2.1 (fun e9 => NZ1.out e9.1)) (fun e9 => NZ1.out e9.1)) (fun e9 => NZ1.out e9.1), setD_far (setD_far (setD_far US.2.2 (fun e9 => NZ1.out e9.1)) (fun e9 => NZ1.out e9.1)) (fun e9 => NZ1.out e9.1)⟩ ?_
  clear hK9 K9
  try simp only [Act.put, List.setIfInBounds_toArray, List.set_cons_zero, List.set_cons_succ]
  refine s_done (by kernel_rfl) ?_
  rename_i K1 h1
  first | (refine h1 _ _ ?_; clear h1 K1) | skip
  clear US y1 y2 y3 z1 z2 z3 b10 b11 b12
  have XE1 := hid (heap_setCell_same _ z 6 _ _ (.int .i64 su1) (heap_setCell_same _ z 5 _ _ (.map (some mb1)) (heap_setCell_same wd1 z 4 _ _ (.slice B1 len1 k1) XD1.out)))
  have FE1 : Hid (Fr (fun k => k = z) wd1 (((wd1.setCell ⟨z, 4, none⟩ (.slice B1 len1 k1)).setCell ⟨z, 5, none⟩ (.map (some mb1))).setCell ⟨z, 6, none⟩ (.int .i64 su1))) := hid ((((Fr.refl (fun k => k = z) wd1).setCell (p := ⟨z, 4, none⟩) (fun _ => rfl) _).setCell (p := ⟨z, 5, none⟩) (fun _ => rfl) _).setCell (p := ⟨z, 6, none⟩) (fun _ => rfl) _)
  generalize ((wd1.setCell ⟨z, 4, none⟩ (.slice B1 len1 k1)).setCell ⟨z, 5, none⟩ (.map (some mb1))).setCell ⟨z, 6, none⟩ (.int .i64 su1) = we1 at *
  have UE1 : Hid (Below w.heap.size w we1) := hid ((show Below w.heap.size w wd1 from (UA1.out.t UC1.out).t UD1.out).trans (FE1.out.below (Nat.le_trans UA1.out.size (Nat.le_trans UC1.out.size UD1.out.size)) (fun k hk e => by have := HZ.out; omega)))
  go_wp2
  rw [rounds_succ]
  go_wp2
  go_ret
  have UQ1 := UQ1.out
  have zA := (Array.getElem?_eq_some_iff.1 XA0.out).1
  have zB := (Array.getElem?_eq_some_iff.1 XA1.out).1
  have q0 := UD0.out.size
  have q1 := FE0.out.size
  have q2 := UQ1.size
  have q3 := UC1.out.size
  have q4 := UD1.out.size
  have q5 := M0.out.lt
  have q6 := M1.out.lt
  have o0 := MB0.out
  have o1 := MB1.out
  have q7 := HZ.out
  have r0 : we1.ownsRow w.heap.size 137 128 (.slice B0 len0 k0) len0 (D.f0.now.flatMap secC) := by
    have t1 := (Fr.of_below UD0.out).own O0.out (fun _ _ e => e)
    have t2 := FE0.out.own t1 (fun k hk e => by have := (o0.2.2.2 k hk).1; omega)
    have t3 := (Fr.of_below ((UQ1.t UC1.out).t UD1.out)).own t2 (fun _ _ e => e)
    have t4 := FE1.out.own t3 (fun k hk e => by have := (o0.2.2.2 k hk).1; omega)
    exact own_base t4 UA0.out.size
  have r1 : we1.ownsRow w.heap.size 137 128 (.slice B1 len1 k1) len1 (D.f1.now.flatMap secC) := by
    have t1 := (Fr.of_below UD1.out).own O1.out (fun _ _ e => e)
    have t2 := FE1.out.own t1 (fun k hk e => by have := (o1.2.2.2 k hk).1; omega)
    exact own_base t2 UA1.out.size
  have n0 : MapS we1 mb0 D.f0.old := ((M0.out.kept FE0.out (by omega)).up ((UQ1.t UC1.out).t UD1.out)).kept FE1.out (by omega)
  have n1 : MapS we1 mb1 D.f1.old := M1.out.kept FE1.out (by omega)
  obtain ⟨rfl, rfl, rfl, rfl, rfl⟩ := HN.out
  refine ⟨z, ⟨B0, k0, mb0, B1, k1, mb1, p.KA, p.kc⟩, rfl, hid ⟨⟨XE1.out, r0, r1, n0, n1, by show mb0 ≠ mb1; omega, fun k hk0 hk1 => ?_, (Fr.of_below UE1.out).own h.out.keepR (fun _ _ e => e), h.out.ok0, h.out.ok1, ⟨q7, o0.1, o1.1⟩, h.out.room⟩, UE1.out⟩⟩
  have t1 := (o0.2.2.2 k hk0).2
  have t2 := (o1.2.2.2 k hk1).1
  omega
end Go.Proofs.Ytlikggeceeennaa
