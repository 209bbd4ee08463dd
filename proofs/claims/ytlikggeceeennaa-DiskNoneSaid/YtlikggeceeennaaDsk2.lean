/- A FILE OF THE DISK: its form in the world. -/
import Derived.Test.YtlikggeceeennaaDsk1
import Derived.Test.YtlikggeceeennaaK6
import Derived.Test.YtlikggeceeennaaK8
import Derived.Test.YtlikggeceeennaaK7
import Derived.Deep.MidRow
import Derived.Deep.WholeRow
set_option linter.unusedVariables false
set_option linter.unusedSimpArgs false
namespace Go.Proofs.Ytlikggeceeennaa
open Go Go.RowKit Go.Maps Hach

theorem elemS : Elem Try.prog 92 137 (secV zeroS) 128 128 := ⟨Try.underlying92, by kernel_rfl, rfl, by decide⟩
structure FileV where
  now : List Sec
  old : Olds
  sure : Nat
/-- Sectors are whole. -/
structure FileOk (f : FileV) : Prop where
  now : ∀ s ∈ f.now, s.length = 128
  old : ∀ p ∈ f.old, p.2.length = 128
  keys : (f.old.map (·.1)).Pairwise (· < ·)
  rng : ∀ p ∈ f.old, 0 ≤ p.1 ∧ p.1 < (f.now.length : Int)
  sure : f.sure ≤ f.now.length
structure FileAt (w : World) (base d : Nat) (cs : Array Value) (t : TypeId) (o : Nat) (A : Option Addr) (c m : Nat) (f : FileV) : Prop where
  own : w.heap[d]? = some (.cells cs t (0, 0))
  c0 : cs[o]? = some (.slice A f.now.length c)
  c1 : cs[o + 1]? = some (.map (some m))
  c2 : cs[o + 2]? = some (.int .i64 f.sure)
  row : w.ownsRow base 137 128 (.slice A f.now.length c) f.now.length (f.now.flatMap secC)
  map : MapS w m f.old
  len : ∀ s ∈ f.now, s.length = 128
  low : base ≤ d ∧ base ≤ m
  ty : t ≠ 137 ∧ t ≠ 5
/-- One sector is put. -/
def oldAt (f : FileV) (i : Nat) : Sec := if i < f.sure then (f.now[i]?.getD zeroS) else zeroS
def growF (f : FileV) (i : Nat) : FileV := if i = f.now.length then { f with now := f.now ++ [zeroS] } else f
def markF (f : FileV) (i : Nat) : FileV := if (getL f.old i).isSome then f else { f with old := putL f.old i (oldAt f i) }
def putF (f : FileV) (i : Nat) (s : Sec) : FileV := let g := markF (growF f i) i; { g with now := g.now.set i s }

/-! ### a whole sector, made, read, written -/
theorem secV_cells (s : Sec) : (secV s).cells = (secC s).toArray := rfl
theorem secC_length (s : Sec) : (secC s).length = s.length := List.length_map _
theorem secC_one (s : Sec) : ∀ u ∈ secC s, u.oneCell' = true := byteCells_one s
theorem buildZ (w : World) : (Instr.build 137 #[]).run Try.prog w = .ok (secV zeroS) w := by kernel_rfl
theorem allocZ (w : World) : (Instr.alloc 137 true (.tuple #[])).run Try.prog w = .ok (.pointer (some ⟨w.heap.size, 0, none⟩)) (w.alloc (.cells (secC zeroS).toArray 137)) := by kernel_rfl
theorem bslZ (w : World) : (Instr.buildSlice 92 1 #[(0, secV zeroS)]).run Try.prog w = .ok (.slice (some ⟨w.heap.size, 0, none⟩) 1 1) (w.alloc (.cells (secC zeroS).toArray 137)) := by kernel_rfl
theorem secInfo {cs : Array Value} (h : cs.size = 128) : (Try.prog.info? 137).map (·.size) = some cs.size := by rw [h]; kernel_rfl
theorem secUnder : Try.prog.underlying 137 = some (.array 128 5) := by kernel_rfl
theorem storeNewS (w : World) (c s : Sec) (hc : c.length = 128) (hs : s.length = 128) : (Instr.storeAt 137 (.pointer (some ⟨w.heap.size, 0, none⟩)) (secV s)).run Try.prog (w.alloc (.cells (secC c).toArray 137)) = .ok () (w.alloc (.cells (secC s).toArray 137)) :=
  run_storeAt_new w _ _ _ (secInfo (by rw [List.size_toArray, secC_length, hs])) (by rw [List.size_toArray, List.size_toArray, secC_length, secC_length, hs, hc]) (all_oneCell_toArray (secC_one s))
theorem zeroC : Try.zeroCells137 = (secC zeroS).toArray := by kernel_rfl
theorem storeNewZ (w : World) (s : Sec) (hs : s.length = 128) : (Instr.storeAt 137 (.pointer (some ⟨w.heap.size, 0, none⟩)) (secV s)).run Try.prog (w.alloc (.cells Try.zeroCells137 137)) = .ok () (w.alloc (.cells (secC s).toArray 137)) := by
  rw [zeroC]; exact storeNewS w zeroS s List.length_replicate hs
theorem zeroS_len : zeroS.length = 128 := List.length_replicate
end Go.Proofs.Ytlikggeceeennaa
