/- THE WALK of Cut, and of the refusals. -/
import Derived.Test.YtlikggeceeennaaDskO
set_option linter.unusedVariables false
set_option linter.unusedSimpArgs false
namespace Go.Proofs.Ytlikggeceeennaa
open Go Go.RowKit Go.Maps Hach

theorem tick_fl (D : DiskV) (b : Bool) : (tick D).fl b = D.fl b := by cases b <;> rfl
set_option maxRecDepth 100000 in
set_option maxHeartbeats 2000000 in
theorem cut_calls (w : World) (base d : Nat) (p : DiskP) (D : DiskV) (b : Bool) (k : Nat) (h : Hid (DiskAt w base d p D)) (ho : Hid (D.on = true)) (hn : Hid (NumOk D)) (hkl : Hid (D.keep.length < 1000000)) (hk : Hid (k ≤ (D.fl b).now.length)) :
    Calls Try.prog 55 #[.pointer (some ⟨d, 0, none⟩), .int .i64 (idx b), .int .i64 k] w (StepF w (foot d p D) base d (opV D (cutV b k (tick D))) (.int .i64 (opR D 0))) := by
  have hsz : (D.fl b).now.length < 40000 := by
    have h1 := hn.out.size
    have h2 := h.out.room
    cases b
    · show D.f0.now.length < 40000; omega
    · show D.f1.now.length < 40000; omega
  have HSZ := hid hsz
  obtain ⟨o, hoo⟩ : ∃ o, off b = o := ⟨_, rfl⟩
  have HOO := hid hoo
  have UA := upAlD (Up.refl w) (.cells #[.int .i64 k] 3)
  have UB := upAlD (Up.refl (w.alloc (.cells #[.int .i64 k] 3))) (.cells #[.pointer (some ⟨d, o, none⟩)] 131)
  have CF := fileB_calls (w.alloc (.cells #[.int .i64 k] 3)) base d D b (hid ⟨p, h.out.up UA⟩) ho.out
  rw [hoo] at CF
  have s1 : (w.alloc (.cells #[.int .i64 k] 3)).heap.size = w.heap.size + 1 := by simp
  have BA := UB.block w.heap.size (by omega) |>.trans (heap_alloc_new w (.cells #[.int .i64 k] 3))
  have BB := heap_alloc_new (w.alloc (.cells #[.int .i64 k] 3)) (.cells #[.pointer (some ⟨d, o, none⟩)] 131)
  rw [s1] at BB
  have UC := UA.t (UB.t (Up.drew _))
  have F0 := (h.out.up UC).fileB b
  rw [hoo] at F0
  have e0 := F0.cell0.1
  obtain ⟨len, hlen⟩ : ∃ z, (D.fl b).now.length = z := ⟨_, rfl⟩
  rw [hlen] at e0
  have h0 : ¬ (k : Int) < 0 := by omega
  have hkle : ¬ (len : Int) < (k : Int) := by have := hk.out; omega
  have a0 : ((w.alloc (.cells #[.int .i64 k] 3)).alloc (.cells #[.pointer (some ⟨d, o, none⟩)] 131)).drew.cell? ⟨w.heap.size, 0, none⟩ = some (.int .i64 k) := by
    show World.cell? _ _ = _
    rw [show (((w.alloc (.cells #[.int .i64 k] 3)).alloc (.cells #[.pointer (some ⟨d, o, none⟩)] 131)).drew).cell? ⟨w.heap.size, 0, none⟩ = ((w.alloc (.cells #[.int .i64 k] 3)).alloc (.cells #[.pointer (some ⟨d, o, none⟩)] 131)).cell? ⟨w.heap.size, 0, none⟩ from rfl, cell_of_row _ _ _ _ _ _ BA]; rfl
  have a1 : ((w.alloc (.cells #[.int .i64 k] 3)).alloc (.cells #[.pointer (some ⟨d, o, none⟩)] 131)).drew.cell? ⟨w.heap.size + 1, 0, none⟩ = some (.pointer (some ⟨d, o, none⟩)) := by
    rw [show (((w.alloc (.cells #[.int .i64 k] 3)).alloc (.cells #[.pointer (some ⟨d, o, none⟩)] 131)).drew).cell? ⟨w.heap.size + 1, 0, none⟩ = ((w.alloc (.cells #[.int .i64 k] 3)).alloc (.cells #[.pointer (some ⟨d, o, none⟩)] 131)).cell? ⟨w.heap.size + 1, 0, none⟩ from rfl, cell_of_row _ _ _ _ _ _ BB]; rfl
  have OP := op_calls ((w.alloc (.cells #[.int .i64 k] 3)).alloc (.cells #[.pointer (some ⟨d, o, none⟩)] 131)).drew base d p D (hid (h.out.up UC)) ho hn hkl 114 #[.pointer (some ⟨w.heap.size + 1, 0, none⟩), .pointer (some ⟨w.heap.size, 0, none⟩)] cut1_ent 0 (cutV b k (tick D)) (hid fun w1 h1 f1 => by
    have hd := (Array.getElem?_eq_some_iff.1 h.out.own).1
    have z1 : ((w.alloc (.cells #[.int .i64 k] 3)).alloc (.cells #[.pointer (some ⟨d, o, none⟩)] 131)).drew.heap.size = w.heap.size + 1 + 1 := by show ((w.alloc (.cells #[.int .i64 k] 3)).alloc (.cells #[.pointer (some ⟨d, o, none⟩)] 131)).heap.size = _; simp
    exact cut1_calls w1 base d p (tick D) b k (w.heap.size + 1) w.heap.size (hid h1) (hid (by rw [tick_fl]; have h1 := hk.out; have h2 := HSZ.out; exact ⟨h1, by omega⟩)) ((f1.block (w.heap.size + 1) (by omega) (by omega)).trans (by rw [HOO.out]; exact BB)) ((f1.block w.heap.size (by omega) (by omega)).trans BA))
  have UC := hid UC
  clear hoo BA BB UA UB F0 hlen hsz
  generalize idx b = ib at *
  go_enter Try.func55, Try.ntmps55
  go_wp2_with (go_at_call 100; refine CF.mono ?_; rintro e w' ⟨rfl, hw⟩; subst hw)
  go_region
  go_wp2_with (go_at_call 101; refine OP.mono ?_; rintro e w6 ⟨rfl, hh⟩)
  all_goals
    go_ret
    exact ⟨rfl, hid (hh.out.pre UC.out)⟩
end Go.Proofs.Ytlikggeceeennaa
