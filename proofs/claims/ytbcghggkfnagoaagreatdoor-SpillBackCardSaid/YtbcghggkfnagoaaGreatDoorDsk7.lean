/- THE DISK: its form; New; what is asked of it. THE WALKS of the disk's file, look, On, Ops, Room, Sectors, Dirty, Start. -/
import Derived.Test.YtbcghggkfnagoaaGreatDoorDsk6
set_option linter.unusedVariables false
set_option linter.unusedSimpArgs false
namespace Go.Proofs.YtbcghggkfnagoaaGreatDoor
open Go Go.RowKit Go.Maps Hach

structure DiskV where
  room : Int
  f0 : FileV
  f1 : FileV
  on : Bool
  ops : Int
  armed : Int
  keep : List Bool
  torn : Int
/-- Where it lies. -/
structure DiskP where
  A0 : Option Addr
  c0 : Nat
  m0 : Nat
  A1 : Option Addr
  c1 : Nat
  m1 : Nat
  KA : Option Addr
  kc : Nat
def diskCs (p : DiskP) (D : DiskV) : Array Value :=
  #[.int .i64 D.room, .slice p.A0 D.f0.now.length p.c0, .map (some p.m0), .int .i64 D.f0.sure, .slice p.A1 D.f1.now.length p.c1, .map (some p.m1), .int .i64 D.f1.sure, .bool D.on, .int .i64 D.ops, .int .i64 D.armed, .slice p.KA D.keep.length p.kc, .int .i64 D.torn]
structure DiskAt (w : World) (base d : Nat) (p : DiskP) (D : DiskV) : Prop where
  own : w.heap[d]? = some (.cells (diskCs p D) 87 (0, 0))
  row0 : w.ownsRow base 173 128 (.slice p.A0 D.f0.now.length p.c0) D.f0.now.length (D.f0.now.flatMap secC)
  row1 : w.ownsRow base 173 128 (.slice p.A1 D.f1.now.length p.c1) D.f1.now.length (D.f1.now.flatMap secC)
  map0 : MapS w p.m0 D.f0.old
  map1 : MapS w p.m1 D.f1.old
  maps : p.m0 ≠ p.m1
  rows : ∀ k, (Value.slice p.A0 D.f0.now.length p.c0).ownBlock = some k → (Value.slice p.A1 D.f1.now.length p.c1).ownBlock ≠ some k
  keepR : w.ownsRow 0 4 1 (.slice p.KA D.keep.length p.kc) D.keep.length (D.keep.map .bool)
  ok0 : FileOk D.f0
  ok1 : FileOk D.f1
  low : base ≤ d ∧ base ≤ p.m0 ∧ base ≤ p.m1
  room : 1 ≤ D.room ∧ D.room ≤ 32768
def DiskM (w : World) (base d : Nat) (D : DiskV) : Prop := ∃ p, DiskAt w base d p D
section
variable {w w' : World} {base d : Nat} {p : DiskP} {D : DiskV}
theorem DiskAt.cell (h : DiskAt w base d p D) {i : Nat} {v : Value} (hv : (diskCs p D)[i]? = some v) : w.cell? ⟨d, i, none⟩ = some v := by
  unfold World.cell?
  rw [show (⟨d, i, none⟩ : Addr).block = d from rfl, h.own]
  exact hv
theorem DiskAt.free (h : DiskAt w base d p D) (i : Nat) : w.frozen? ⟨d, i, none⟩ = false := by
  unfold World.frozen?; rw [show (⟨d, i, none⟩ : Addr).block = d from rfl, h.own]; simp
theorem DiskAt.file0 (h : DiskAt w base d p D) : FileAt w base d (diskCs p D) 87 1 p.A0 p.c0 p.m0 D.f0 :=
  ⟨h.own, rfl, rfl, rfl, h.row0, h.map0, h.ok0.now, ⟨h.low.1, h.low.2.1⟩, by decide⟩
theorem DiskAt.file1 (h : DiskAt w base d p D) : FileAt w base d (diskCs p D) 87 4 p.A1 p.c1 p.m1 D.f1 :=
  ⟨h.own, rfl, rfl, rfl, h.row1, h.map1, h.ok1.now, ⟨h.low.1, h.low.2.2⟩, by decide⟩
theorem DiskAt.up (h : DiskAt w base d p D) (hu : Up w w') : DiskAt w' base d p D :=
  ⟨(hu.block d (Array.getElem?_eq_some_iff.1 h.own).1).trans h.own, (Fr.of_below hu).own h.row0 (fun _ _ e => e), (Fr.of_below hu).own h.row1 (fun _ _ e => e), h.map0.up hu, h.map1.up hu, h.maps, h.rows, (Fr.of_below hu).own h.keepR (fun _ _ e => e), h.ok0, h.ok1, h.low, h.room⟩
theorem DiskM.up (h : DiskM w base d D) (hu : Up w w') : DiskM w' base d D := by obtain ⟨p, h⟩ := h; exact ⟨p, h.up hu⟩
end
def fileNo : FileV := ⟨[], [], 0⟩
theorem fileNo_ok : FileOk fileNo := ⟨by simp [fileNo], by simp [fileNo], by simp [fileNo], by simp [fileNo], Nat.le_refl _⟩
def newD (room : Int) : DiskV := ⟨room, fileNo, fileNo, true, 0, 0, [], 0⟩
def DNewRet (w : World) (room : Int) (en : Ending) (w' : World) : Prop := ∃ d, en = .returned (.pointer (some ⟨d, 0, none⟩)) ∧ Hid (DiskM w' w.heap.size d (newD room) ∧ Up w w')
theorem dmade_calls (w : World) (d : Nat) (room : Int) (h : w.cell? ⟨d, 0, none⟩ = some (.int .i64 room)) (h1 : Hid (1 ≤ room)) :
    Calls Tryz.prog 111 #[.pointer (some ⟨d, 0, none⟩)] w fun en w' => en = .returned (.bool true) ∧ w' = w := by
  have h2 : 0 < room := by have := h1.out; omega
  go_enter Tryz.func111, Tryz.ntmps111
  go_wp2
  go_ret
  exact ⟨rfl, rfl⟩
set_option maxRecDepth 100000 in
set_option maxHeartbeats 2000000 in
theorem dnew_calls (w : World) (room : Int) (h1 : 1 ≤ room) (h2 : room ≤ 32768) : Calls Tryz.prog 20 #[.int .i64 room] w (DNewRet w room) := by
  have hmm := @run_makeMap Tryz.prog
  have HR := hid (And.intro h1 h2)
  have d1 : ¬ room < 1 := by omega
  have d2 : ¬ (32768 : Int) < room := by omega
  clear h1 h2
  go_enter Tryz.func20, Tryz.ntmps20
  go_wp2
  refine wp_loop_rounds 3 ?_
  rw [rounds_succ]
  go_wp2
  rw [rounds_succ]
  go_wp2
  rw [rounds_succ]
  go_wp2
  go_ret
  obtain ⟨C, hC⟩ : ∃ C : Array Value, #[Value.int .i64 room, .slice none 0 0, .map (some (w.heap.size + 1)), .int .i64 0, .slice none 0 0, .map (some (w.heap.size + 1 + 1)), .int .i64 0, .bool true, .int .i64 0, .int .i64 0, .slice none 0 0, .int .i64 0] = C := ⟨_, rfl⟩
  rw [hC]
  have s1 : (w.alloc (.cells C 87)).heap.size = w.heap.size + 1 := by simp
  have s2 : ((w.alloc (.cells C 87)).alloc (.map #[] 0)).heap.size = w.heap.size + 1 + 1 := by simp
  have u1 : Up w (w.alloc (.cells C 87)) := upAlD (Up.refl w) _
  have u2 : Up (w.alloc (.cells C 87)) ((w.alloc (.cells C 87)).alloc (.map #[] 0)) := upAlD (Up.refl _) _
  have u3 : Up ((w.alloc (.cells C 87)).alloc (.map #[] 0)) (((w.alloc (.cells C 87)).alloc (.map #[] 0)).alloc (.map #[] 0)) := upAlD (Up.refl _) _
  have k1 := heap_alloc_new w (.cells C 87)
  have k2 := MapS.made (w.alloc (.cells C 87))
  have k3 := MapS.made ((w.alloc (.cells C 87)).alloc (.map #[] 0))
  rw [s1] at k2
  rw [s2] at k3
  refine ⟨w.heap.size, rfl, hid ⟨⟨⟨none, 0, w.heap.size + 1, none, 0, w.heap.size + 1 + 1, none, 0⟩, ?_, own_nil _ _ _ _, own_nil _ _ _ _, k2.up u3, k3, by show w.heap.size + 1 ≠ w.heap.size + 1 + 1; omega, (fun k hk => by cases hk), own_nil _ _ _ _, fileNo_ok, fileNo_ok, ⟨Nat.le_refl _, by show w.heap.size ≤ w.heap.size + 1; omega, by show w.heap.size ≤ w.heap.size + 1 + 1; omega⟩, HR.out⟩, (u1.t u2).t u3⟩⟩
  have hlt : w.heap.size < (w.alloc (.cells C 87)).heap.size := by omega
  rw [show diskCs ⟨none, 0, w.heap.size + 1, none, 0, w.heap.size + 1 + 1, none, 0⟩ (newD room) = C from hC]
  exact ((u2.t u3).block w.heap.size hlt).trans k1
end Go.Proofs.YtbcghggkfnagoaaGreatDoor

namespace Go.Proofs.YtbcghggkfnagoaaGreatDoor
open Go Go.RowKit Go.Maps Hach

section
variable (w : World) (base d : Nat) (D : DiskV)
/-- The cells that a walk reads. -/
theorem DiskAt.reads {w : World} {base d : Nat} {p : DiskP} {D : DiskV} (h : DiskAt w base d p D) :
    w.cell? ⟨d, 0, none⟩ = some (.int .i64 D.room) ∧ w.cell? ⟨d, 1, none⟩ = some (.slice p.A0 D.f0.now.length p.c0) ∧ w.cell? ⟨d, 2, none⟩ = some (.map (some p.m0)) ∧ w.cell? ⟨d, 3, none⟩ = some (.int .i64 D.f0.sure) ∧
    w.cell? ⟨d, 4, none⟩ = some (.slice p.A1 D.f1.now.length p.c1) ∧ w.cell? ⟨d, 5, none⟩ = some (.map (some p.m1)) ∧ w.cell? ⟨d, 6, none⟩ = some (.int .i64 D.f1.sure) ∧
    w.cell? ⟨d, 7, none⟩ = some (.bool D.on) ∧ w.cell? ⟨d, 8, none⟩ = some (.int .i64 D.ops) ∧ w.cell? ⟨d, 9, none⟩ = some (.int .i64 D.armed) ∧ w.cell? ⟨d, 10, none⟩ = some (.slice p.KA D.keep.length p.kc) ∧ w.cell? ⟨d, 11, none⟩ = some (.int .i64 D.torn) :=
  ⟨h.cell rfl, h.cell rfl, h.cell rfl, h.cell rfl, h.cell rfl, h.cell rfl, h.cell rfl, h.cell rfl, h.cell rfl, h.cell rfl, h.cell rfl, h.cell rfl⟩
theorem fileOff_calls (h : Hid (DiskM w base d D)) (i : Int) (ho : D.on = false) : Calls Tryz.prog 161 #[.pointer (some ⟨d, 0, none⟩), .int .i64 i] w fun en w' => en = .returned (.tuple #[.pointer none, .int .i64 4]) ∧ w' = w := by
  obtain ⟨p, h⟩ := h.out
  obtain ⟨e0, _, _, _, _, _, _, e7, _, _, _, _⟩ := h.reads
  rw [ho] at e7
  have HR := hid h.room.1
  clear h ho
  go_enter Tryz.func161, Tryz.ntmps161
  go_wp2_with (go_at_call 111; refine (dmade_calls _ d _ e0 HR).mono ?_; rintro e w' ⟨rfl, rfl⟩)
  go_ret2
  exact ⟨rfl, rfl⟩
theorem fileNo_calls (h : Hid (DiskM w base d D)) (i : Int) (ho : D.on = true) (hi : i < 0 ∨ 2 ≤ i) : Calls Tryz.prog 161 #[.pointer (some ⟨d, 0, none⟩), .int .i64 i] w fun en w' => en = .returned (.tuple #[.pointer none, .int .i64 11]) ∧ w' = w := by
  obtain ⟨p, h⟩ := h.out
  obtain ⟨e0, _, _, _, _, _, _, e7, _, _, _, _⟩ := h.reads
  rw [ho] at e7
  have HR := hid h.room.1
  clear h ho
  by_cases h0 : i < 0
  · clear hi
    go_enter Tryz.func161, Tryz.ntmps161
    go_wp2_with (go_at_call 111; refine (dmade_calls _ d _ e0 HR).mono ?_; rintro e w' ⟨rfl, rfl⟩)
    go_ret2
    exact ⟨rfl, rfl⟩
  · have h1 : 2 ≤ i := hi.resolve_left h0
    clear hi
    go_enter Tryz.func161, Tryz.ntmps161
    go_wp2_with (go_at_call 111; refine (dmade_calls _ d _ e0 HR).mono ?_; rintro e w' ⟨rfl, rfl⟩)
    go_ret2
    exact ⟨rfl, rfl⟩
theorem file0_calls (h : Hid (DiskM w base d D)) (ho : D.on = true) : Calls Tryz.prog 161 #[.pointer (some ⟨d, 0, none⟩), .int .i64 0] w fun en w' => en = .returned (.tuple #[.pointer (some ⟨d, 1, none⟩), .int .i64 0]) ∧ w' = w := by
  obtain ⟨p, h⟩ := h.out
  obtain ⟨e0, _, _, _, _, _, _, e7, _, _, _, _⟩ := h.reads
  rw [ho] at e7
  have HR := hid h.room.1
  clear h ho
  go_enter Tryz.func161, Tryz.ntmps161
  go_wp2_with (go_at_call 111; refine (dmade_calls _ d _ e0 HR).mono ?_; rintro e w' ⟨rfl, rfl⟩)
  go_ret2
  exact ⟨rfl, rfl⟩
theorem file1_calls (h : Hid (DiskM w base d D)) (ho : D.on = true) : Calls Tryz.prog 161 #[.pointer (some ⟨d, 0, none⟩), .int .i64 1] w fun en w' => en = .returned (.tuple #[.pointer (some ⟨d, 4, none⟩), .int .i64 0]) ∧ w' = w := by
  obtain ⟨p, h⟩ := h.out
  obtain ⟨e0, _, _, _, _, _, _, e7, _, _, _, _⟩ := h.reads
  rw [ho] at e7
  have HR := hid h.room.1
  clear h ho
  go_enter Tryz.func161, Tryz.ntmps161
  go_wp2_with (go_at_call 111; refine (dmade_calls _ d _ e0 HR).mono ?_; rintro e w' ⟨rfl, rfl⟩)
  go_ret2
  exact ⟨rfl, rfl⟩
theorem don_calls (h : Hid (DiskM w base d D)) : Calls Tryz.prog 40 #[.pointer (some ⟨d, 0, none⟩)] w fun en w' => en = .returned (.bool D.on) ∧ w' = w := by
  obtain ⟨p, h⟩ := h.out
  obtain ⟨e0, _, _, _, _, _, _, e7, _, _, _, _⟩ := h.reads
  have HR := hid h.room.1
  clear h
  go_enter Tryz.func40, Tryz.ntmps40
  go_wp2_with (go_at_call 111; refine (dmade_calls _ d _ e0 HR).mono ?_; rintro e w' ⟨rfl, rfl⟩)
  go_ret
  exact ⟨rfl, rfl⟩
theorem dops_calls (h : Hid (DiskM w base d D)) : Calls Tryz.prog 88 #[.pointer (some ⟨d, 0, none⟩)] w fun en w' => en = .returned (.int .i64 D.ops) ∧ w' = w := by
  obtain ⟨p, h⟩ := h.out
  obtain ⟨e0, _, _, _, _, _, _, _, e8, _, _, _⟩ := h.reads
  have HR := hid h.room.1
  clear h
  go_enter Tryz.func88, Tryz.ntmps88
  go_wp2_with (go_at_call 111; refine (dmade_calls _ d _ e0 HR).mono ?_; rintro e w' ⟨rfl, rfl⟩)
  go_ret
  exact ⟨rfl, rfl⟩
theorem droom_calls (h : Hid (DiskM w base d D)) : Calls Tryz.prog 73 #[.pointer (some ⟨d, 0, none⟩)] w fun en w' => en = .returned (.int .i64 D.room) ∧ w' = w := by
  obtain ⟨p, h⟩ := h.out
  obtain ⟨e0, _, _, _, _, _, _, _, _, _, _, _⟩ := h.reads
  have HR := hid h.room.1
  clear h
  go_enter Tryz.func73, Tryz.ntmps73
  go_wp2_with (go_at_call 111; refine (dmade_calls _ d _ e0 HR).mono ?_; rintro e w' ⟨rfl, rfl⟩)
  go_ret
  exact ⟨rfl, rfl⟩
end
end Go.Proofs.YtbcghggkfnagoaaGreatDoor
