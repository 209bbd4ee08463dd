/- A FILE OF THE DISK: its form in the world. -/
import Derived.Test.YtbcghggkfnagoaaGreatDoorDsk1
import Derived.Test.YtbcghggkfnagoaaGreatDoorK6
import Derived.Test.YtbcghggkfnagoaaGreatDoorK8
import Derived.Test.YtbcghggkfnagoaaGreatDoorK7
import Derived.Deep.MidRow
import Derived.Deep.WholeRow
set_option linter.unusedVariables false
set_option linter.unusedSimpArgs false
namespace Go.Proofs.YtbcghggkfnagoaaGreatDoor
open Go Go.RowKit Go.Maps Hach

theorem elemS : Elem Tryz.prog 81 173 (secV zeroS) 128 128 := ⟨Tryz.underlying81, by kernel_rfl, rfl, by decide⟩
structure FileV where
  now : List Sec
  old : Olds
  sure : Nat
/-- Sectors are whole. -/
structure FileOk (f : FileV) : Prop where
  now : ∀ s ∈ f.now, s.length = 128
  old : ∀ p ∈ f.old, p.2.length = 128
  keys : (f.old.map (·.1)).Pairwise (· < ·)
  rng : ∀ p ∈ f.old, 0 ≤ p.1 ∧ p.1 < (f.now.length : Int)
  sure : f.sure ≤ f.now.length
structure FileAt (w : World) (base d : Nat) (cs : Array Value) (t : TypeId) (o : Nat) (A : Option Addr) (c m : Nat) (f : FileV) : Prop where
  own : w.heap[d]? = some (.cells cs t (0, 0))
  c0 : cs[o]? = some (.slice A f.now.length c)
  c1 : cs[o + 1]? = some (.map (some m))
  c2 : cs[o + 2]? = some (.int .i64 f.sure)
  row : w.ownsRow base 173 128 (.slice A f.now.length c) f.now.length (f.now.flatMap secC)
  map : MapS w m f.old
  len : ∀ s ∈ f.now, s.length = 128
  low : base ≤ d ∧ base ≤ m
  ty : t ≠ 173 ∧ t ≠ 5
/-- One sector is put. -/
def oldAt (f : FileV) (i : Nat) : Sec := if i < f.sure then (f.now[i]?.getD zeroS) else zeroS
def growF (f : FileV) (i : Nat) : FileV := if i = f.now.length then { f with now := f.now ++ [zeroS] } else f
def markF (f : FileV) (i : Nat) : FileV := if (getL f.old i).isSome then f else { f with old := putL f.old i (oldAt f i) }
def putF (f : FileV) (i : Nat) (s : Sec) : FileV := let g := markF (growF f i) i; { g with now := g.now.set i s }

/-! ### a whole sector, made, read, written -/
theorem secV_cells (s : Sec) : (secV s).cells = (secC s).toArray := rfl
theorem secC_length (s : Sec) : (secC s).length = s.length := List.length_map _
theorem secC_one (s : Sec) : ∀ u ∈ secC s, u.oneCell' = true := byteCells_one s
theorem buildZ (w : World) : (Instr.build 173 #[]).run Tryz.prog w = .ok (secV zeroS) w := by kernel_rfl
theorem allocZ (w : World) : (Instr.alloc 173 true (.tuple #[])).run Tryz.prog w = .ok (.pointer (some ⟨w.heap.size, 0, none⟩)) (w.alloc (.cells (secC zeroS).toArray 173)) := by kernel_rfl
theorem bslZ (w : World) : (Instr.buildSlice 81 1 #[(0, secV zeroS)]).run Tryz.prog w = .ok (.slice (some ⟨w.heap.size, 0, none⟩) 1 1) (w.alloc (.cells (secC zeroS).toArray 173)) := by kernel_rfl
theorem secInfo {cs : Array Value} (h : cs.size = 128) : (Tryz.prog.info? 173).map (·.size) = some cs.size := by rw [h]; kernel_rfl
theorem secUnder : Tryz.prog.underlying 173 = some (.array 128 5) := by kernel_rfl
theorem storeNewS (w : World) (c s : Sec) (hc : c.length = 128) (hs : s.length = 128) : (Instr.storeAt 173 (.pointer (some ⟨w.heap.size, 0, none⟩)) (secV s)).run Tryz.prog (w.alloc (.cells (secC c).toArray 173)) = .ok () (w.alloc (.cells (secC s).toArray 173)) :=
  run_storeAt_new w _ _ _ (secInfo (by rw [List.size_toArray, secC_length, hs])) (by rw [List.size_toArray, List.size_toArray, secC_length, secC_length, hs, hc]) (all_oneCell_toArray (secC_one s))
theorem zeroC : Tryz.zeroCells173 = (secC zeroS).toArray := by kernel_rfl
theorem storeNewZ (w : World) (s : Sec) (hs : s.length = 128) : (Instr.storeAt 173 (.pointer (some ⟨w.heap.size, 0, none⟩)) (secV s)).run Tryz.prog (w.alloc (.cells Tryz.zeroCells173 173)) = .ok () (w.alloc (.cells (secC s).toArray 173)) := by
  rw [zeroC]; exact storeNewS w zeroS s List.length_replicate hs
theorem zeroS_len : zeroS.length = 128 := List.length_replicate
end Go.Proofs.YtbcghggkfnagoaaGreatDoor
