/- PARTS OF A PROOF, one behind the other: WORDS: numbers behind names that the walk does not open; byte slices that are read. No program in sight. PLAIN LAWS: a nonce one bit of which is another one: one byte of it is. CONDITIONS: none of this text's own. -/
import Derived.Test.YtbcghggkfnagoaaGreatDoorQS1
import Derived.WalkKit
import Derived.WalkSpells
import Derived.WalkLawsBesides
set_option linter.unusedVariables false
set_option linter.unusedSimpArgs false
namespace Hach
open Go Go.RowKit

theorem hid {p : Prop} (h : p) : Hid p := h
theorem hold {p : Prop} (h : Hid p) : p := h
theorem hold_at (d : Tmp) {P : Program} {ops : Array Oper} {Q : Exit → Act → World → Prop} {op : Op} {ty : TypeId} {pos : String} {after : Array Edge} {guard : Option (Nat × Bool)} {rest : List Oper} {a : Act} {w : World}
    (h : Hid (wpList P ops Q (⟨some d, op, ty, pos, after, guard⟩ :: rest) a w)) : wpList P ops Q (⟨some d, op, ty, pos, after, guard⟩ :: rest) a w := h
theorem ret_int {k : IntKind} {a b : Int} (h : a = b) : Ending.returned (.int k a) = .returned (.int k b) := by rw [h]

/-! ### bytes, words of 32 bits -/
def n8 (x : UInt8) : Int := (x.toNat : Int)
def n32 (a : BitVec 32) : Int := (a.toNat : Int)
theorem n32_lo (a : BitVec 32) : 0 ≤ n32 a := by unfold n32; omega
theorem n32_hi (a : BitVec 32) : n32 a < 4294967296 := by unfold n32; have := a.isLt; omega
theorem n8_lo (a : UInt8) : 0 ≤ n8 a := by unfold n8; omega
theorem n8_hi (a : UInt8) : n8 a < 256 := by unfold n8; have := a.toNat_lt; omega
theorem n8_mod (a : UInt8) : n8 a % 4294967296 = n8 a := by have := n8_lo a; have := n8_hi a; omega
theorem xor32 (a b : BitVec 32) : bits .xor .u32 (n32 a) (n32 b) = n32 (a ^^^ b) := by
  show IntKind.u32.wrap ((BitVec.ofInt 32 (a.toNat : Int) ^^^ BitVec.ofInt 32 (b.toNat : Int)).toNat : Int) = _
  rw [BitVec.ofInt_natCast, BitVec.ofInt_natCast, BitVec.ofNat_toNat, BitVec.ofNat_toNat, IntKind.wrap_u32', BitVec.setWidth_eq, BitVec.setWidth_eq]
  unfold n32
  have := (a ^^^ b).isLt
  omega
theorem and32 (a b : BitVec 32) : bits .and .u32 (n32 a) (n32 b) = n32 (a &&& b) := by
  show IntKind.u32.wrap ((BitVec.ofInt 32 (a.toNat : Int) &&& BitVec.ofInt 32 (b.toNat : Int)).toNat : Int) = _
  rw [BitVec.ofInt_natCast, BitVec.ofInt_natCast, BitVec.ofNat_toNat, BitVec.ofNat_toNat, IntKind.wrap_u32', BitVec.setWidth_eq, BitVec.setWidth_eq]
  unfold n32
  have := (a &&& b).isLt
  omega
theorem not32 (a : BitVec 32) : bits .xor .u32 IntKind.u32.max (n32 a) = n32 (~~~ a) := by
  have e : IntKind.u32.max = n32 (BitVec.allOnes 32) := by decide
  rw [e, xor32, BitVec.allOnes_xor]
theorem and32_15 (a : BitVec 32) : bits .and .u32 (n32 a) 15 = n32 (a &&& 15#32) := and32 a 15#32
theorem and32_1 (a : BitVec 32) : bits .and .u32 (n32 a) 1 = n32 (a &&& 1#32) := and32 a 1#32
theorem shr32_4 (a : BitVec 32) : n32 a / (16 : Int) = n32 (a >>> 4) := by
  unfold n32; rw [BitVec.toNat_ushiftRight, Nat.shiftRight_eq_div_pow]; omega
theorem shr32_1 (a : BitVec 32) : n32 a / (2 : Int) = n32 (a >>> 1) := by
  unfold n32; rw [BitVec.toNat_ushiftRight, Nat.shiftRight_eq_div_pow]; omega
theorem and15_lt (a : BitVec 32) : n32 (a &&& 15#32) < 16 := by
  unfold n32; rw [BitVec.toNat_and]
  have : a.toNat &&& (15#32).toNat ≤ 15 := Nat.and_le_right
  omega

def Cells (w : World) (A : Option Addr) (vs : List Value) : Prop :=
  ∀ i, i < vs.length → ∃ b off, A = some ⟨b, off, none⟩ ∧ w.cell? ⟨b, off + i, none⟩ = vs[i]?
def byteCell (x : UInt8) : Value := .int .u8 (n8 x)
def Bytes (w : World) (A : Option Addr) (xs : List UInt8) : Prop :=
  ∀ i, i < xs.length → ∃ b off, A = some ⟨b, off, none⟩ ∧ w.cell? ⟨b, off + i, none⟩ = some (.int .u8 (n8 (xs[i]?.getD 0)))
theorem Bytes.nil (w : World) (A : Option Addr) : Bytes w A [] := fun i h => by simp at h
theorem Bytes.below {B : Nat} {w w' : World} {A : Option Addr} {xs : List UInt8} (h : Bytes w A xs) (hb : Below B w w') (hA : ∀ b off, A = some ⟨b, off, none⟩ → b < B) : Bytes w' A xs := by
  intro i hi
  obtain ⟨b, off, e, hc⟩ := h i hi
  exact ⟨b, off, e, by rw [hb.cell (p := ⟨b, off + i, none⟩) (hA b off e)]; exact hc⟩
theorem Bytes.grown {w w' : World} {A : Option Addr} {xs : List UInt8} (h : Bytes w A xs) (hb : Below w.heap.size w w') : Bytes w' A xs := by
  intro i hi
  obtain ⟨b, off, e, hc⟩ := h i hi
  exact ⟨b, off, e, by rw [hb.cell (p := ⟨b, off + i, none⟩) (World.block_lt_of_cell? _ _ hc)]; exact hc⟩
theorem take_succ' {α : Type} (d : α) (xs : List α) (k : Nat) (h : k < xs.length) : xs.take (k + 1) = xs.take k ++ [xs[k]?.getD d] := by
  rw [List.take_add_one, List.getElem?_eq_getElem h]; rfl
end Hach

namespace Hach.Oct
end Hach.Oct
namespace Hach
open Go
end Hach
