/- THE WALKS of package journal's forms: sector, within, good, HeadBytes, RecordBytes. -/
import Derived.Test.YtlmlplpbgkbhdaaDoorOct2
import Derived.Test.YtlmlplpbgkbhdaaDoorSum1
import Derived.Test.YtlmlplpbgkbhdaaDoorJrnP
import Derived.Lib.SlBytesConst
set_option linter.unusedVariables false
set_option linter.unusedSimpArgs false
namespace Go.Proofs.YtlmlplpbgkbhdaaDoor
open Go.RowKit Hach Hach.Crc

set_option maxHeartbeats 400000 in
theorem within_calls (n : Int) (w : World) :
    Calls Tryd.prog 51 #[.int .i64 n] w fun e w' => e = .returned (.bool (decide (0 ≤ n ∧ n ≤ 4000))) ∧ w = w' := by
  by_cases h0 : 0 ≤ n
  all_goals by_cases h1 : n ≤ 4000
  all_goals
    go_enter Tryd.func51, Tryd.ntmps51
    go_wp2
    go_ret
    exact ⟨by first | (rw [decide_eq_true (by omega)]; rfl) | (rw [decide_eq_false (by omega)]; rfl), rfl⟩

/-- New bytes, in a row whose block is of type e. -/
def RetE (e : TypeId) (w : World) (xs : List UInt8) (en : Ending) (w' : World) : Prop :=
  ∃ A c, (en = .returned (.slice A xs.length c) ∧ c = xs.length) ∧ w'.ownsRow w.heap.size e 1 (.slice A xs.length c) xs.length (xs.map byteCell) ∧ Below w.heap.size w w'

theorem zc128 : Tryd.zeroCells90 = (List.replicate 128 (Value.int .u8 0)).toArray := by kernel_rfl
theorem size1 : (Tryd.prog.info? 5).map (·.size) = some 1 := by kernel_rfl

set_option maxRecDepth 100000 in
set_option maxHeartbeats 1000000 in
theorem sector_callsS (w : World) (A : Option Addr) (xs : List UInt8) (c : Nat) (hl : xs.length ≤ 128) (hc : Hid (Bytes w A xs)) :
    Calls Tryd.prog 44 #[.slice A xs.length c] w fun en w' => ∃ g, en = .returned (.slice (some ⟨g, 0, none⟩) 128 128) ∧ w'.ownsRow w.heap.size 90 1 (.slice (some ⟨g, 0, none⟩) 128 128) 128 ((Jrn.sect xs).map byteCell) ∧ Below w.heap.size w w' := by
  have b1 : Below w.heap.size w (w.alloc (.cells Tryd.zeroCells90 90)) := (Below.refl _ _).alloc (Nat.le_refl _) _
  have o1 : (w.alloc (.cells Tryd.zeroCells90 90)).ownsRow w.heap.size 90 1 (.slice (some ⟨w.heap.size, 0, none⟩) 128 128) 128 (List.replicate 128 (Value.int .u8 0)) := by
    rw [zc128]; exact own_lit w w.heap.size _ 128 _ (Nat.le_refl _) (by decide) (by simp)
  have hc1 := hid ((hc.out.grown b1).rd)
  have B1 := hid b1
  have O1 := hid o1
  clear b1 o1
  go_enter Tryd.func44, Tryd.ntmps44
  go_wp2_with (with_reducible refine hold_at 6 ?_)
  refine hid (wl_copy Tryd.underlying22 size1 rfl (.tmp 4) (.tmp 5) 22 rfl O1.out rfl rfl hc1.out (by show xs.length = min xs.length 128; omega) (by simp) (byteCells_one _) (by omega) ?_)
  intro w2 o2 f2
  have b2 := B1.out.trans (f2.below B1.out.size (fun k hk e => by omega))
  have e : splice (List.replicate 128 (Value.int .u8 0)) 0 (xs.map byteCell) = (Jrn.sect xs).map byteCell := by
    unfold splice Jrn.sect
    rw [List.take_zero, List.nil_append, List.drop_replicate, List.map_append, List.map_replicate, List.length_map, Nat.zero_add]; rfl
  rw [e] at o2
  have ls : (Jrn.sect xs).length = 128 := by unfold Jrn.sect; rw [List.length_append, List.length_replicate]; omega
  have O2 := hid o2
  have B2 := hid b2
  have LS := hid ls
  clear o2 b2 ls e f2
  go_wp2
  go_ret
  exact ⟨w.heap.size, rfl, O2.out, B2.out⟩
theorem sector_calls (w : World) (A : Option Addr) (xs : List UInt8) (c : Nat) (hl : xs.length ≤ 128) (hc : Hid (Bytes w A xs)) :
    Calls Tryd.prog 44 #[.slice A xs.length c] w (RetE 90 w (Jrn.sect xs)) := by
  have ls : (Jrn.sect xs).length = 128 := by unfold Jrn.sect; rw [List.length_append, List.length_replicate]; omega
  refine (sector_callsS w A xs c hl hc).mono ?_
  rintro e w' ⟨g, rfl, o, b⟩
  exact ⟨some ⟨g, 0, none⟩, 128, ⟨by rw [ls], ls.symm⟩, by rw [ls]; exact o, b⟩
end Go.Proofs.YtlmlplpbgkbhdaaDoor
