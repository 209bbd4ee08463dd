/- THE WALK of journal.ReadRecord. -/
import Derived.Test.YtlmlplpbgkbhdaaDoorJrn4
import Derived.Deep.RegionHeld3
set_option linter.unusedVariables false
set_option linter.unusedSimpArgs false
namespace Go.Proofs.YtlmlplpbgkbhdaaDoor
open Go.RowKit Hach

/-- What ReadRecord hands back. -/
def RetRec (w : World) (b : List UInt8) (n : Nat) (en : Ending) (w' : World) : Prop :=
  Below w.heap.size w w' ∧
  ((b.length < 640 ∧ en = .returned (.tuple #[.agg #[.int .i64 0, .slice none 0 0], .int .i64 8])) ∨
   (640 ≤ b.length ∧ Jrn.recIs b n = false ∧ en = .returned (.tuple #[.agg #[.int .i64 0, .slice none 0 0], .int .i64 9])) ∨
   (640 ≤ b.length ∧ Jrn.recIs b n = true ∧ ∃ A c, en = .returned (.tuple #[.agg #[.int .i64 (Oct.val (b.take 4) : Int), .slice A 512 c], .int .i64 0]) ∧
      w'.ownsRow w.heap.size 5 1 (.slice A 512 c) 512 (((b.drop 128).take 512).map byteCell)))

set_option maxRecDepth 100000 in
set_option maxHeartbeats 1000000 in
theorem readRecord_short (w : World) (A : Option Addr) (xs : List UInt8) (c n : Nat) (hl : xs.length < 640) :
    Calls Tryd.prog 21 #[.slice A xs.length c, .int .u64 (n : Int)] w (RetRec w xs n) := by
  go_enter Tryd.func21, Tryd.ntmps21
  go_wp2
  refine bodyPost_ret (v := .tuple #[.agg #[.int .i64 0, .slice none 0 0], .int .i64 8]) (by simp [results, Tryd.results21, go_sem]) rfl ⟨(Below.refl _ _).alloc (Nat.le_refl _) _, .inl ⟨hl, rfl⟩⟩

set_option maxRecDepth 100000 in
set_option maxHeartbeats 1000000 in
theorem readRecord_long (w : World) (ht : Hid (TabOk w)) (A : Option Addr) (xs : List UInt8) (c n : Nat) (hl : 640 ≤ xs.length) (hm : xs.length ≤ 1073741824) (hcap : xs.length ≤ c) (hn : Hid ((n : Int) < 18446744073709551616)) (hc : Hid (Bytes w A xs)) :
    Calls Tryd.prog 21 #[.slice A xs.length c, .int .u64 (n : Int)] w (RetRec w xs n) := by
  obtain ⟨b, off, rfl, _⟩ := hc.out 0 (by omega)
  obtain ⟨p, hp⟩ : ∃ p, Oct.val (xs.take 4) = p := ⟨_, rfl⟩
  have hp4 : p < 4294967296 := by
    rw [← hp]; refine Nat.lt_of_lt_of_le (Oct.val_lt _) ?_
    rw [List.length_take, Nat.min_eq_left (by omega)]; decide
  obtain ⟨D, hD⟩ : ∃ D, (xs.drop 128).take 512 = D := ⟨_, rfl⟩
  have lD : D.length = 512 := by rw [← hD, List.length_take, List.length_drop]; omega
  obtain ⟨R, hR⟩ : ∃ R, Jrn.recB p n D = R := ⟨_, rfl⟩
  have lR : R.length ≤ 640 := by rw [← hR]; exact Jrn.recB_length _ _ _
  have hb := hid (show Bytes w (some ⟨b, off + 128, none⟩) D by rw [← hD]; exact hc.out.sub 128 512)
  have HP := hid hp
  have HD := hid hD
  have LD := hid lD
  have HR := hid hR
  have LR := hid lR
  clear hp hD lD hR lR
  have b0 : ∀ o, Below w.heap.size w (w.alloc o) := fun o => (Below.refl _ _).alloc (Nat.le_refl _) o
  have d1 : ¬ (xs.length : Int) < 640 := by omega
  have d2 : (640 : Int) ≤ c := by omega
  have HL := hid hl
  have HM := hid hm
  have P4 := hid hp4
  have p0 : (0 : Int) ≤ p := by omega
  have p1 : (p : Int) < 4294967296 := by omega
  clear hl hm hcap hp4
  go_enter Tryd.func21, Tryd.ntmps21
  go_wp2_with fail
  refine (get_callsX _ (some ⟨b, off, none⟩) xs c 4 p _ rfl HP (by decide) (by decide) (by have := HL.out; omega) (by have := HM.out; omega) (hc.out.grown (b0 _))).mono ?_
  rintro e w' ⟨rfl, rfl⟩
  go_wp2_with fail
  refine (clone2_callsX _ (some ⟨b, off + 128, none⟩) D _ 512 LD (by decide) (hb.out.grown (b0 _))).mono ?_
  rintro e w1 ⟨A1, c1, rfl, o1, b1⟩
  have B1 := hid ((b0 (.cells #[.int .i64 0, .slice none 0 0] 36)).trans (b1.mono (by simp)))
  have z1 : w.heap.size < w1.heap.size := by have := b1.size; simp at this; omega
  have r0 : w1.cell? ⟨w.heap.size, 0, none⟩ = some (.int .i64 0) := by rw [b1.cell (p := ⟨w.heap.size, 0, none⟩) (by simp)]; go_simp
  have r1 : w1.cell? ⟨w.heap.size, 1, none⟩ = some (.slice none 0 0) := by rw [b1.cell (p := ⟨w.heap.size, 1, none⟩) (by simp)]; go_simp
  have rf : ∀ i, w1.frozen? ⟨w.heap.size, i, none⟩ = false := by intro i; rw [b1.frozen (p := ⟨w.heap.size, i, none⟩) (by simp)]; go_simp
  have O1 := hid o1
  clear o1 b1
  go_wp2
  have r0' : (w1.alloc (.cells #[.int .i64 (p : Int), .slice A1 512 c1] 36)).cell? ⟨w.heap.size, 0, none⟩ = some (.int .i64 0) := by rw [World.cell?_alloc_lt _ _ _ z1]; exact r0
  have r1' : (w1.alloc (.cells #[.int .i64 (p : Int), .slice A1 512 c1] 36)).cell? ⟨w.heap.size, 1, none⟩ = some (.slice none 0 0) := by rw [World.cell?_alloc_lt _ _ _ z1]; exact r1
  have rf' : ∀ i, (w1.alloc (.cells #[.int .i64 (p : Int), .slice A1 512 c1] 36)).frozen? ⟨w.heap.size, i, none⟩ = false := by intro i; rw [World.frozen?_alloc_old _ _ _ (by show w.heap.size ≠ w1.heap.size; omega)]; exact rf i
  have q0 : (w1.alloc (.cells #[.int .i64 (p : Int), .slice A1 512 c1] 36)).cell? ⟨w1.heap.size, 0, none⟩ = some (.int .i64 (p : Int)) := by go_simp
  have q1 : (w1.alloc (.cells #[.int .i64 (p : Int), .slice A1 512 c1] 36)).cell? ⟨w1.heap.size, 1, none⟩ = some (.slice A1 512 c1) := by go_simp
  have o2 := O1.out.alloc (.cells #[.int .i64 (p : Int), .slice A1 512 c1] 36)
  have b2 := B1.out.alloc B1.out.size (.cells #[.int .i64 (p : Int), .slice A1 512 c1] 36)
  have zW : w1.heap.size < (w1.alloc (.cells #[.int .i64 (p : Int), .slice A1 512 c1] 36)).heap.size := by simp
  clear r0 r1 rf O1 B1
  generalize w1.alloc (.cells #[.int .i64 (p : Int), .slice A1 512 c1] 36) = W at *
  generalize hg : w1.heap.size = g at *
  have O2 := hid o2
  have B2 := hid b2
  have T2 := hid (ht.out.below' b2)
  have X2 := hid ((hc.out.grown b2).take 640)
  have Y2 := hid (Rd.bytes (Rd.own o2))
  have L6 := hid (show (xs.take 640).length = 640 by have := HL.out; rw [List.length_take]; omega)
  obtain ⟨r, hr⟩ : ∃ r, decide (R = xs.take 640) = r := ⟨_, rfl⟩
  have HR2 := hid hr
  have q0d : W.drew.cell? ⟨g, 0, none⟩ = some (.int .i64 (p : Int)) := q0
  have q1d : W.drew.cell? ⟨g, 1, none⟩ = some (.slice A1 512 c1) := q1
  clear o2 b2 hr hg
  generalize hlr : R.length = lr
  have HLR := hid hlr
  clear hlr
  go_region_held3 (fun w' => w'.cell? ⟨g, 0, none⟩ = some (.int .i64 (p : Int)) ∧ w'.cell? ⟨g, 1, none⟩ = some (.slice A1 512 c1))
    (first | exact ⟨u0, u1⟩ | exact ⟨q0d, q1d⟩ | go_keep)
    (first
      | (go_at_call 19; refine (recordBytes_callsX _ ?_ p n 512 A1 D R c1 LD HR hn ?_).mono ?_; exact (show Hid (TabOk W.drew) from T2); exact (show Hid (Bytes W.drew A1 D) from Y2); rintro e w3 ⟨A3, c3, rfl, o3, b3⟩; have u0 := (b3.cell (p := ⟨g, 0, none⟩) zW).trans q0d; have u1 := (b3.cell (p := ⟨g, 1, none⟩) zW).trans q1d)
      | (go_at_call 47; refine (equal_callsX _ A3 (some ⟨b, off, none⟩) R (xs.take 640) c3 _ R.length 640 rfl L6 ?_ (by decide) ?_ ?_ r HR2).mono ?_; (have := LR.out; omega); exact o3.bytes; exact Bytes.grown (w := W.drew) X2.out b3; rintro e w' ⟨rfl, rfl⟩))
  rename_i K1 h1 K2 h2 hHeld
  have z3 : w.heap.size < W.heap.size := by omega
  have v0 : w3.cell? ⟨w.heap.size, 0, none⟩ = some (.int .i64 0) := (b3.cell (p := ⟨w.heap.size, 0, none⟩) z3).trans r0'
  have v1 : w3.cell? ⟨w.heap.size, 1, none⟩ = some (.slice none 0 0) := (b3.cell (p := ⟨w.heap.size, 1, none⟩) z3).trans r1'
  have vf : ∀ i, w3.frozen? ⟨w.heap.size, i, none⟩ = false := fun i => (b3.frozen (p := ⟨w.heap.size, i, none⟩) z3).trans (rf' i)
  have BB : Below W.heap.size W w3 := (Below.refl _ _).drew.trans b3
  have B3 := hid (B2.out.trans (BB.mono B2.out.size))
  have Z3 := hid z3
  have O3 := hid BB
  have D2 := hid (show ¬ xs.length < 640 by have := HL.out; omega)
  clear o3 b3 BB z3 hHeld r0' r1' rf' q0d q1d q0 q1 z1 zW b0 d1 d2
  clear p0 p1
  cases r
  · show K2 _ _
    refine h2 _ _ ?_
    clear h2 K2
    simp only [Bool.not_false, Bool.not_true]
    go_wp2
    refine bodyPost_ret (v := .tuple #[.agg #[.int .i64 0, .slice none 0 0], .int .i64 9]) (by simp [results, Tryd.results21, go_sem, u0, u1, v0, v1, vf]) rfl ⟨(B3.out.setCell (Nat.le_refl _) _).setCell (Nat.le_refl _) _, .inr (.inl ⟨HL.out, ?_, rfl⟩)⟩
    unfold Jrn.recIs; rw [HP.out, HD.out, HR.out]; exact HR2.out
  · show K2 _ _
    refine h2 _ _ ?_
    clear h2 K2
    simp only [Bool.not_false, Bool.not_true]
    go_wp2
    refine bodyPost_ret (v := .tuple #[.agg #[.int .i64 (p : Int), .slice A1 512 c1], .int .i64 0]) (by simp [results, Tryd.results21, go_sem, u0, u1, v0, v1, vf]) rfl ⟨(B3.out.setCell (Nat.le_refl _) _).setCell (Nat.le_refl _) _, .inr (.inr ⟨HL.out, ?_, A1, c1, by rw [HP.out], ?_⟩)⟩
    · unfold Jrn.recIs; rw [HP.out, HD.out, HR.out]; exact HR2.out
    · rw [HD.out]
      have hs : (w.alloc (Obj.cells #[Value.int IntKind.i64 0, Value.slice none 0 0] 36)).heap.size = w.heap.size + 1 := by simp
      have o := (Fr.of_below O3.out).own O2.out (fun _ _ => id)
      rw [hs] at o
      exact own_base (ownsRow_setCell_below (ownsRow_setCell_below o (Nat.lt_succ_self _) _) (Nat.lt_succ_self _) _) (Nat.le_succ _)

theorem readRecord_calls (w : World) (ht : Hid (TabOk w)) (A : Option Addr) (xs : List UInt8) (c n : Nat) (hm : xs.length ≤ 1073741824) (hcap : xs.length ≤ c) (hn : Hid ((n : Int) < 18446744073709551616)) (hc : Hid (Bytes w A xs)) :
    Calls Tryd.prog 21 #[.slice A xs.length c, .int .u64 (n : Int)] w (RetRec w xs n) := by
  by_cases h : xs.length < 640
  · exact readRecord_short w A xs c n h
  · exact readRecord_long w ht A xs c n (by omega) hm hcap hn hc
end Go.Proofs.YtlmlplpbgkbhdaaDoor
