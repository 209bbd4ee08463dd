/- PARTS OF A PROOF, one behind the other: ARGUMENTS, opened: what a slice of bytes that came in holds. No program in sight. CONDITIONS: none of this text's own. -/
import Derived.Test.YtbcghggkfnagoaaGreatDoorQN3
import Derived.ProofKit
import Derived.OpenShut
set_option linter.unusedVariables false
set_option linter.unusedSimpArgs false
namespace Hach
open Go Go.RowKit Go.ChangeShapes Go.WideShapes Go.ChangeAt

theorem add_plain (b off i : Nat) : (⟨b, off, none⟩ : Addr).add i = ⟨b, off + i, none⟩ := by unfold Addr.add; split <;> simp_all
theorem addr_plain {w : World} {a : Addr} {v : Value} (h : w.cell? (a.add 0) = some v) : ∃ b off, a = ⟨b, off, none⟩ := by
  obtain ⟨b, off, s⟩ := a
  cases s with
  | none => exact ⟨b, off, rfl⟩
  | some s =>
    exfalso
    have : (⟨b, off, some s⟩ : Addr).add 0 = ⟨b, off, some s⟩ := by simp [Addr.add]
    rw [this] at h
    unfold World.cell? at h
    split at h <;> simp at h
theorem n32_of {a : Int} (h : (Lit.int .u32 a).wf = true) : ∃ s, a = n32 s := by
  have := bounds_u32 h
  exact ⟨BitVec.ofNat 32 a.toNat, by unfold n32; rw [BitVec.toNat_ofNat]; omega⟩
theorem n8_of {a : Int} (h : (Lit.int .u8 a).wf = true) : ∃ s, a = n8 s := by
  have := bounds_u8 h
  exact ⟨UInt8.ofNat a.toNat, by unfold n8; rw [UInt8.toNat_ofNat']; omega⟩
theorem open_bytes {P : Program} {H : Type} {enc : TypeId × Value → H} {W : World} {T E : TypeId} {sp : Nat → Bool} {base b0 : Nat} {held : Bool} {v : Value} {d : DataW H} {ps : List MemPlace} (hT : P.underlying T = some (.slice E)) (hE : P.underlying E = some (.int .u8)) (hC : P.cellsOf E = 1)
    (hok : Value.okWide P W .any b0 T v) (h : DataW.Trod enc P W base sp held T v d ps) :
    ∃ A xs c, v = .slice A xs.length c ∧ xs.length ≤ 9223372036854775807 ∧ Bytes W A xs ∧ xs.length ≤ c := by
  obtain ⟨a, len, cap, rfl⟩ := okWide_slice hT hok
  obtain ⟨fuel, hf⟩ := h
  rcases open_ints hT hE hC hf with ⟨hcs, _⟩ | ⟨x, l, c, zs, hcs, _, hl, hm, hz, _, hcell, hwz⟩
  · simp [Value.cells] at hcs
    obtain ⟨rfl, rfl, rfl⟩ := hcs
    exact ⟨none, [], 0, rfl, by simp, Bytes.nil _ _, Nat.le_refl _⟩
  · simp [Value.cells] at hcs
    obtain ⟨rfl, rfl, rfl⟩ := hcs
    have hzl : len ≤ zs.length := by rw [hz]; split <;> omega
    have hlen : ((zs.take len).map (fun z => UInt8.ofNat z.toNat)).length = len := by rw [List.length_map, List.length_take]; omega
    refine ⟨some x, (zs.take len).map (fun z => UInt8.ofNat z.toNat), cap, by rw [hlen], by unfold maxLen at hm; omega, ?_, by rw [hlen]; exact hl⟩
    intro i hi
    rw [hlen] at hi
    have h0 := hcell 0 (by omega)
    obtain ⟨b, off, rfl⟩ := addr_plain h0
    refine ⟨b, off, rfl, ?_⟩
    have hc := hcell i (by omega)
    rw [add_plain] at hc
    rw [hc]
    have hiz : i < zs.length := by omega
    have hg : zs.getD i 0 = zs[i] := by simp [hiz]
    have hw := bounds_u8 (hwz zs[i] (List.getElem_mem hiz))
    rw [hg, List.getElem?_map, List.getElem?_take, if_pos hi, List.getElem?_eq_getElem hiz]
    congr 2
    simp only [Option.map_some, Option.getD_some, n8]
    rw [UInt8.toNat_ofNat']
    omega
end Hach
