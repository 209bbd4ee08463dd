/- THE WALK of CacheActs. -/
import Derived.Test.YtlikggeceeennaaActS
import Derived.Test.YtlikggeceeennaaAli
import Derived.Test.YtlikggeceeennaaCac13
set_option linter.unusedVariables false
set_option linter.unusedSimpArgs false
namespace Go.Proofs.Ytlikggeceeennaa
open Go Go.RowKit Hach

theorem newNo_calls (w : World) (room : Int) (h : room < 1 ∨ 4096 < room) :
    Calls Try.prog 16 #[.int .i64 room] w fun en w' => en = .returned (.pointer none) ∧ Up w w' := by
  by_cases h1 : room < 1
  · clear h
    go_enter Try.func16, Try.ntmps16
    go_wp2
    go_ret
    exact ⟨rfl, Up.refl _⟩
  · have h2 : 4096 < room := h.resolve_left h1
    clear h
    go_enter Try.func16, Try.ntmps16
    go_wp2
    go_ret
    exact ⟨rfl, Up.refl _⟩
/-- Both tell the same. -/
def SameI (w wr : World) (B g mp br b : Nat) (room : Int) (N : Nat) : Prop :=
  ∃ V h m, CacheM wr B g mp room h m V ∧ RefM wr br b room h m V ∧ Ok5 V N ∧ Nums h m N ∧ Below w.heap.size w wr
set_option maxRecDepth 100000 in
set_option maxHeartbeats 2000000 in
theorem cacheActs_walk (w : World) (room : Int) (A : Option Addr) (l : List ActV) (c : Nat) (hl : Hid (l.length ≤ 9223372036854775807)) (hr : Hid (Rd w A (l.flatMap actCells))) (hwf : Hid (∀ a ∈ l, ActWf a)) :
    Calls Try.prog 7 #[.int .i64 room, .slice A l.length c] w fun en w' => en = .returned (.bool true) ∧ Below w.heap.size w w' := by
  obtain ⟨n, hn⟩ : ∃ n, l.length = n := ⟨_, rfl⟩
  rw [hn]
  have HN := hid hn
  clear hn
  by_cases hlen : (150 : Int) < (n : Int)
  · go_enter Try.func7, Try.ntmps7
    go_wp2_with fail
    refine (lives_calls _).mono ?_
    rintro en wz ⟨rfl, uz⟩
    go_wp2
    go_ret
    exact ⟨rfl, uz⟩
  have hlen2 : (n : Int) ≤ 150 := by omega
  have HLE := hid hlen2
  by_cases hroom : room < 1 ∨ 4096 < room
  · clear hlen2
    go_enter Try.func7, Try.ntmps7
    have HR := hid hroom
    clear hroom
    go_wp2_with fail
    refine (newNo_calls _ room HR.out).mono ?_
    rintro en w1 ⟨rfl, u1⟩
    go_wp2_with fail
    refine (rnewNo_calls _ room HR.out).mono ?_
    rintro en w2 ⟨rfl, u2⟩
    go_wp2_with fail
    refine (lives_calls _).mono ?_
    rintro en wz ⟨rfl, uz⟩
    go_wp2
    go_ret
    exact ⟨rfl, (u1.t u2).t uz⟩
  have r1 : 1 ≤ room := by omega
  have r2 : room ≤ 4096 := by omega
  have HR := hid (And.intro r1 r2)
  clear hroom r1 r2 hlen2
  go_enter Try.func7, Try.ntmps7
  go_wp2_with fail
  refine (new_calls w room HR.out.1 HR.out.2).mono ?_
  rintro en w1 ⟨g, mp, r, rfl, h1⟩
  have C1 := hid (show CacheM w1 w.heap.size g mp room 0 0 [] from ⟨r, [], h1.out.1, rfl⟩)
  have B1 := hid h1.out.2
  clear h1
  unfold ptr
  go_wp2_with fail
  refine (rnew_calls w1 room HR.out.1 HR.out.2).mono ?_
  rintro en w2 ⟨b, rfl, h2⟩
  obtain ⟨r2, u2, _⟩ := h2.out
  have START : Hid (SameI w w2 w.heap.size g mp w1.heap.size b room 0) := hid ⟨[], 0, 0, C1.out.up u2, r2, Ok5.nil, ⟨by decide, by decide, by decide, by decide⟩, B1.out.trans (u2.mono B1.out.size)⟩
  have BR := hid B1.out.size
  clear h2 r2 u2 C1 B1
  unfold ptr
  go_wp2
  go_loopw [27] (fun i wr => ∃ k : Nat, k ≤ n ∧ i = .int .i64 k ∧ Hid (SameI w wr w.heap.size g mp w1.heap.size b room k)) (fun i _ => n - (intOf i).toNat)
  case atStart => exact ⟨0, Nat.zero_le _, rfl, START⟩
  case round =>
    obtain ⟨k, hk, rfl, iv⟩ := hrel
    by_cases hlt : (k : Int) < n
    · have hkl : k < l.length := by have := HN.out; omega
      obtain ⟨V, h, m, cm, rm, ok, nm, bl⟩ := iv.out
      obtain ⟨gl, off, rfl, hgl, q0, q1, q2, q3⟩ := act_cells hr.out hkl
      have hwa := hwf.out l[k] (List.getElem_mem hkl)
      generalize l[k] = a at *
      have c0 : wr.cell? ⟨gl, off + k * 4, none⟩ = some (.int .i64 a.kind) := (bl.cell (p := ⟨gl, off + k * 4, none⟩) hgl).trans q0
      have c1 : wr.cell? ⟨gl, off + k * 4 + 1, none⟩ = some (.int .i64 a.page) := (bl.cell (p := ⟨gl, off + k * 4 + 1, none⟩) hgl).trans q1
      have c2 : wr.cell? ⟨gl, off + k * 4 + 2, none⟩ = some (.int .u8 (n8 a.seed)) := (bl.cell (p := ⟨gl, off + k * 4 + 2, none⟩) hgl).trans q2
      have c3 : wr.cell? ⟨gl, off + k * 4 + 3, none⟩ = some (.bool a.short) := (bl.cell (p := ⟨gl, off + k * 4 + 3, none⟩) hgl).trans q3
      have uA : Up wr (wr.alloc (.cells #[.int .i64 a.kind, .int .i64 a.page, .int .u8 (n8 a.seed), .bool a.short] 51)) := upAl (Up.refl wr) _
      have bxA : BoxAt (wr.alloc (.cells #[.int .i64 a.kind, .int .i64 a.page, .int .u8 (n8 a.seed), .bool a.short] 51)) wr.heap.size a := heap_alloc_new wr _
      have CM := hid (cm.up uA)
      have RM := hid (rm.up uA)
      have OK := hid (And.intro ok nm)
      have BL := hid (bl.trans (uA.mono bl.size))
      have BX := hid bxA
      have WA := hid hwa
      have HK := hid (And.intro hkl hlt)
      clear iv cm rm ok nm bl q0 q1 q2 q3 uA bxA hwa hkl
      go_wp2_with fail
      refine (actG_calls _ w.heap.size g mp room h m V w1.heap.size b room h m V a k CM RM OK OK (by have := HLE.out; have := HK.out.2; omega) (hid WA.out.2)).mono ?_
      rintro en w3 ⟨r, V2, h2, m2, U2, i2, j2, rfl, hh⟩
      obtain ⟨cm, rm, okv, oku, rest, same⟩ := hh.out
      obtain ⟨rfl, rfl, rfl, rfl⟩ := same rfl rfl rfl rfl
      have CM2 := hid cm
      have RM2 := hid rm
      have OK2 := hid okv
      have BL2 := hid (BL.out.trans (rest.1 w.heap.size (Nat.le_refl _) BR.out))
      have bx := (show BoxAt w3 wr.heap.size a from rest.2 _ _ _ _ BX.out (by decide)).cells
      obtain ⟨bx0, bx1, bx2, bx3⟩ := bx
      clear hh cm rm okv oku rest same CM RM OK BL c0 c1 c2 c3
      go_wp2_with fail
      refine (alike_calls w3 w.heap.size g mp room h2 m2 V2 w1.heap.size b a.page (k + 1) CM2 RM2 (hid ⟨OK2.out.1, by have := HLE.out; have := HK.out.2; omega⟩) (hid WA.out.2)).mono ?_
      rintro en w4 ⟨rfl, u4⟩
      have NI : Hid (SameI w w4 w.heap.size g mp w1.heap.size b room (k + 1)) := hid ⟨V2, h2, m2, CM2.out.up u4, RM2.out.up u4, OK2.out.1, OK2.out.2, BL2.out.trans (u4.mono BL2.out.size)⟩
      clear u4 bx0 bx1 bx2 bx3 CM2 RM2 OK2 BL2 BX
      go_wp2
      go_roundw
      case rel => exact ⟨k + 1, by have := HK.out.2; omega, rfl, NI⟩
      case measure => have := HLE.out; have := HK.out.2; simp only [intOf]; omega
    · have I := iv
      clear iv
      go_wp2_with fail
      refine (lives_calls _).mono ?_
      rintro en wz ⟨rfl, uz⟩
      go_wp2
      go_ret
      obtain ⟨V, h, m, cm, rm, ok, nm, bl⟩ := I.out
      exact ⟨rfl, bl.trans (uz.mono bl.size)⟩
end Go.Proofs.Ytlikggeceeennaa
