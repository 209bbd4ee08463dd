/- PARTS OF A PROOF, one behind the other: THE DISK's MAPS OF SECTORS, as the world has them. CONDITIONS: none of this text's own. -/
import Derived.Test.YtbcghggkfnagoaaGreatDoorQS6
import Derived.Test.YtbcghggkfnagoaaGreatDoorQS5
import Derived.MapKept
set_option linter.unusedVariables false
set_option linter.unusedSimpArgs false
namespace Go.Proofs.YtbcghggkfnagoaaGreatDoor
open Go Go.RowKit Go.Maps Hach

theorem keyI : Keyed Tryz.prog 3 := int_keyed Tryz.underlying3
theorem keyI_mk {p : Int} (h : (Lit.int .i64 p).wf = true) : keyOf Tryz.prog 3 (.int .i64 p) = some (.int .i64 p) := keyOf_int_mk Tryz.underlying3 h
theorem zeroSec (w : World) : (zeroValue 173).run Tryz.prog w = .ok (secV zeroS) w := by kernel_rfl
def MapS (w : World) (m : Nat) (L : Olds) : Prop := w.ownsMap Tryz.prog 3 secElem m L.length (datL L)
theorem MapS.of {w : World} {m n : Nat} {D : DataW Unit} {L : Olds} (h : w.ownsMap Tryz.prog 3 secElem m n D) (e : D = datL L) : MapS w m L := by
  subst e
  obtain ⟨es, clock, hb, F, hs, hD⟩ := h
  refine ⟨es, clock, hb, F, ?_, hD⟩
  have := sizeL_dat L
  rw [hD, Maps.size_eq, length_sorted, List.length_map, Array.length_toList] at this
  omega
theorem MapS.made (w : World) : MapS (w.alloc (.map #[] 0)) w.heap.size [] := World.ownsMap_made _ _ _ _
theorem MapS.kept {w w' : World} {m : Nat} {L : Olds} {S : Nat → Prop} (h : MapS w m L) (hf : Fr S w w') (hS : ¬ S m) : MapS w' m L := by
  have hlt := World.ownsMap.lt h
  obtain ⟨es, clock, hb, r⟩ := h
  exact ⟨es, clock, (hf.block m hlt hS).trans hb, r⟩
theorem MapS.lt {w : World} {m : Nat} {L : Olds} (h : MapS w m L) : m < w.heap.size := World.ownsMap.lt h
theorem MapS.up {w w' : World} {m : Nat} {L : Olds} (h : MapS w m L) (hu : Up w w') : MapS w' m L := h.kept (Fr.of_below hu) id
theorem MapS.isMap {w : World} {m : Nat} {L : Olds} (h : MapS w m L) : ∃ es clock, w.heap[m]? = some (.map es clock) := by obtain ⟨es, clock, hb, _⟩ := h; exact ⟨es, clock, hb⟩
theorem MapS.get {w : World} {m : Nat} {L : Olds} (h : MapS w m L) {p : Int} (hp : (Lit.int .i64 p).wf = true) :
    (Instr.lookup 82 (.map (some m)) (.int .i64 p) false).run Tryz.prog w = .ok (secV ((getL L p).getD zeroS)) w := by
  obtain ⟨v, ps, hrun, hv⟩ := World.ownsMap.lookup h keyI Tryz.underlying82 (zeroSec w) (secElem_mk zeroS) (keyI_mk hp)
  rw [hrun]
  rw [getL_dat] at hv
  cases hl : getL L p with
  | none => rw [hl] at hv; rw [secElem_inv hv]; rfl
  | some s => rw [hl] at hv; rw [secElem_inv hv]; rfl
theorem MapS.look {w : World} {m : Nat} {L : Olds} (h : MapS w m L) {p : Int} (hp : (Lit.int .i64 p).wf = true) :
    (Instr.lookup 82 (.map (some m)) (.int .i64 p) true).run Tryz.prog w = .ok (.tuple #[secV ((getL L p).getD zeroS), .bool (getL L p).isSome]) w := by
  obtain ⟨v, ps, hrun, hv⟩ := World.ownsMap.look_ok h keyI Tryz.underlying82 (zeroSec w) (secElem_mk zeroS) (keyI_mk hp)
  rw [hrun, hasL_dat]
  rw [getL_dat] at hv
  cases hl : getL L p with
  | none => rw [hl] at hv; rw [secElem_inv hv]; rfl
  | some s => rw [hl] at hv; rw [secElem_inv hv]; rfl
theorem MapS.len {w : World} {m : Nat} {L : Olds} (h : MapS w m L) (ty : TypeId) : (Builtin.len_ #[82] ty #[.map (some m)]).run Tryz.prog w = .ok (.int .i64 L.length) w := by
  have := World.ownsMap.len h Tryz.underlying82 ty
  rw [sizeL_dat] at this
  exact this
theorem MapS.put {w : World} {m : Nat} {L : Olds} (h : MapS w m L) {p : Int} (s : Sec) (hp : (Lit.int .i64 p).wf = true) (hL : L.length < 1000000) :
    ∃ w', (Instr.mapUpdate 82 (.map (some m)) (.int .i64 p) (secV s)).run Tryz.prog w = .ok () w' ∧ MapS w' m (putL L p s) ∧ w.grownBy w' (some m) := by
  obtain ⟨w', hrun, k1, k2⟩ := World.ownsMap.update h keyI Tryz.underlying82 (by unfold maxLen; omega) (keyI_mk hp) (secElem_mk s)
  exact ⟨w', hrun, MapS.of k1 (putL_dat L p s), k2⟩
theorem MapS.clear {w : World} {m : Nat} {L : Olds} (h : MapS w m L) (ty : TypeId) :
    ∃ w', (Builtin.clear_ #[82] ty #[.map (some m)]).run Tryz.prog w = .ok (.tuple #[]) w' ∧ MapS w' m [] ∧ w.grownBy w' (some m) := by
  obtain ⟨es, clock, hb, F, hs, hD⟩ := h
  have hlt := (Array.getElem?_eq_some_iff.1 hb).1
  refine ⟨ChangeMaps.setBlock w m (.map #[] clock), ?_, ⟨#[], clock, ChangeMaps.heap_setBlock_same hb _, ?_, Nat.le_refl _, rfl⟩, ⟨rfl, rfl, rfl, by simp [ChangeMaps.setBlock], fun i _ hi => ChangeMaps.heap_setBlock_other hb _ (fun e => hi (by rw [e]))⟩⟩
  · simp [Builtin.clear_, run_underlying Tryz.underlying82, MapKept.run_getObj_map hb, MapKept.run_setObj_map _ hb, Result.andThen]
    rfl
  · exact ⟨by simp, MapKept.stamped_empty clock, by simp⟩
theorem mergeSort_rising {L ss : List Int} (h : L.Pairwise (· < ·)) (hp : ss.Perm L) : ss.mergeSort (fun x y => decide (x ≤ y)) = L := by
  rw [show (fun x y : Int => decide (x ≤ y)) = leI from rfl, mergeSort_of_perm_i hp]
  exact List.mergeSort_of_pairwise (h.imp (fun h => by simp only [leI, decide_eq_true_eq]; omega))
end Go.Proofs.YtbcghggkfnagoaaGreatDoor
