/- PARTS OF A PROOF, one behind the other: WORDS: numbers behind names that the walk does not open; byte slices that are read. No program in sight. PLAIN LAWS: a nonce one bit of which is another one: one byte of it is. CONDITIONS: none of this text's own. -/
import Derived.Test.YtbcghggkfnagoaaGreatDoorQN1
import Derived.WalkKit
import Derived.WalkSpells
import Derived.WalkLawsBesides
set_option linter.unusedVariables false
set_option linter.unusedSimpArgs false
namespace Hach
open Go Go.RowKit

theorem hid {p : Prop} (h : p) : Hid p := h
/-- The walk stands still here. -/
theorem hold {p : Prop} (h : Hid p) : p := h
/-- The walk stands still before the operation that writes slot d. -/
theorem hold_at (d : Tmp) {P : Program} {ops : Array Oper} {Q : Exit → Act → World → Prop} {op : Op} {ty : TypeId} {pos : String} {after : Array Edge} {guard : Option (Nat × Bool)} {rest : List Oper} {a : Act} {w : World}
    (h : Hid (wpList P ops Q (⟨some d, op, ty, pos, after, guard⟩ :: rest) a w)) : wpList P ops Q (⟨some d, op, ty, pos, after, guard⟩ :: rest) a w := h
theorem ret_int {k : IntKind} {a b : Int} (h : a = b) : Ending.returned (.int k a) = .returned (.int k b) := by rw [h]

/-! ### bytes, words of 32 bits -/
def n8 (x : UInt8) : Int := (x.toNat : Int)
def n32 (a : BitVec 32) : Int := (a.toNat : Int)
theorem n32_lo (a : BitVec 32) : 0 ≤ n32 a := by unfold n32; omega
theorem n32_hi (a : BitVec 32) : n32 a < 4294967296 := by unfold n32; have := a.isLt; omega
theorem n8_lo (a : UInt8) : 0 ≤ n8 a := by unfold n8; omega
theorem n8_hi (a : UInt8) : n8 a < 256 := by unfold n8; have := a.toNat_lt; omega
theorem n8_mod (a : UInt8) : n8 a % 4294967296 = n8 a := by have := n8_lo a; have := n8_hi a; omega
theorem n8_inj {a b : UInt8} (h : n8 a = n8 b) : a = b := by unfold n8 at h; exact UInt8.toNat.inj (by omega)
theorem n32_inj {a b : BitVec 32} (h : n32 a = n32 b) : a = b := by unfold n32 at h; exact BitVec.eq_of_toNat_eq (by omega)

theorem xor32 (a b : BitVec 32) : bits .xor .u32 (n32 a) (n32 b) = n32 (a ^^^ b) := by
  show IntKind.u32.wrap ((BitVec.ofInt 32 (a.toNat : Int) ^^^ BitVec.ofInt 32 (b.toNat : Int)).toNat : Int) = _
  rw [BitVec.ofInt_natCast, BitVec.ofInt_natCast, BitVec.ofNat_toNat, BitVec.ofNat_toNat, IntKind.wrap_u32', BitVec.setWidth_eq, BitVec.setWidth_eq]
  unfold n32
  have := (a ^^^ b).isLt
  omega
theorem and32 (a b : BitVec 32) : bits .and .u32 (n32 a) (n32 b) = n32 (a &&& b) := by
  show IntKind.u32.wrap ((BitVec.ofInt 32 (a.toNat : Int) &&& BitVec.ofInt 32 (b.toNat : Int)).toNat : Int) = _
  rw [BitVec.ofInt_natCast, BitVec.ofInt_natCast, BitVec.ofNat_toNat, BitVec.ofNat_toNat, IntKind.wrap_u32', BitVec.setWidth_eq, BitVec.setWidth_eq]
  unfold n32
  have := (a &&& b).isLt
  omega
theorem not32 (a : BitVec 32) : bits .xor .u32 IntKind.u32.max (n32 a) = n32 (~~~ a) := by
  have e : IntKind.u32.max = n32 (BitVec.allOnes 32) := by decide
  rw [e, xor32, BitVec.allOnes_xor]
theorem and32_15 (a : BitVec 32) : bits .and .u32 (n32 a) 15 = n32 (a &&& 15#32) := and32 a 15#32
theorem and32_1 (a : BitVec 32) : bits .and .u32 (n32 a) 1 = n32 (a &&& 1#32) := and32 a 1#32
theorem shr32_4 (a : BitVec 32) : n32 a / (16 : Int) = n32 (a >>> 4) := by
  unfold n32; rw [BitVec.toNat_ushiftRight, Nat.shiftRight_eq_div_pow]; omega
theorem shr32_1 (a : BitVec 32) : n32 a / (2 : Int) = n32 (a >>> 1) := by
  unfold n32; rw [BitVec.toNat_ushiftRight, Nat.shiftRight_eq_div_pow]; omega
theorem and15_lt (a : BitVec 32) : n32 (a &&& 15#32) < 16 := by
  unfold n32; rw [BitVec.toNat_and]
  have : a.toNat &&& (15#32).toNat ≤ 15 := Nat.and_le_right
  omega

theorem xor8 (a b : UInt8) : bits .xor .u8 (n8 a) (n8 b) = n8 (a ^^^ b) := by
  have := a.toNat_lt; have := b.toNat_lt
  unfold n8
  rw [u8_xor_nat _ _ (by omega) (by omega), UInt8.toNat_xor]
theorem pow8 (j : Nat) (h : j < 8) : (2 ^ j % 256 : Int) = n8 (UInt8.ofNat (2 ^ j)) := by
  have : ∀ j : Fin 8, (2 ^ j.1 % 256 : Int) = n8 (UInt8.ofNat (2 ^ j.1)) := by decide
  exact this ⟨j, h⟩
theorem pow8_ne (j : Nat) (h : j < 8) : UInt8.ofNat (2 ^ j) ≠ 0 := by
  have : ∀ j : Fin 8, UInt8.ofNat (2 ^ j.1) ≠ 0 := by decide
  exact this ⟨j, h⟩
/-- A slice's cells, read: nothing is known of the slice where there are none. -/
def Cells (w : World) (A : Option Addr) (vs : List Value) : Prop :=
  ∀ i, i < vs.length → ∃ b off, A = some ⟨b, off, none⟩ ∧ w.cell? ⟨b, off + i, none⟩ = vs[i]?
def byteCell (x : UInt8) : Value := .int .u8 (n8 x)
/-- Bytes, read. -/
def Bytes (w : World) (A : Option Addr) (xs : List UInt8) : Prop :=
  ∀ i, i < xs.length → ∃ b off, A = some ⟨b, off, none⟩ ∧ w.cell? ⟨b, off + i, none⟩ = some (.int .u8 (n8 (xs[i]?.getD 0)))
theorem Bytes.nil (w : World) (A : Option Addr) : Bytes w A [] := fun i h => by simp at h
theorem Bytes.below {B : Nat} {w w' : World} {A : Option Addr} {xs : List UInt8} (h : Bytes w A xs) (hb : Below B w w') (hA : ∀ b off, A = some ⟨b, off, none⟩ → b < B) : Bytes w' A xs := by
  intro i hi
  obtain ⟨b, off, e, hc⟩ := h i hi
  exact ⟨b, off, e, by rw [hb.cell (p := ⟨b, off + i, none⟩) (hA b off e)]; exact hc⟩
theorem Bytes.grown {w w' : World} {A : Option Addr} {xs : List UInt8} (h : Bytes w A xs) (hb : Below w.heap.size w w') : Bytes w' A xs := by
  intro i hi
  obtain ⟨b, off, e, hc⟩ := h i hi
  exact ⟨b, off, e, by rw [hb.cell (p := ⟨b, off + i, none⟩) (World.block_lt_of_cell? _ _ hc)]; exact hc⟩
theorem take_succ' {α : Type} (d : α) (xs : List α) (k : Nat) (h : k < xs.length) : xs.take (k + 1) = xs.take k ++ [xs[k]?.getD d] := by
  rw [List.take_add_one, List.getElem?_eq_getElem h]; rfl
end Hach

namespace Hach.Oct
theorem be_get (n s i : Nat) (h : i < s) : (be n s)[i]? = some (UInt8.ofNat (n / 2 ^ (8 * (s - 1 - i)))) := by
  unfold be
  rw [List.getElem?_reverse (by rw [le_length]; exact h), le_length, le_get _ _ _ (by omega)]
theorem byte_bit (n m t : Nat) (ht : t < 8) : (UInt8.ofNat (n / 2 ^ (8 * m))).toNat.testBit t = n.testBit (8 * m + t) := by
  rw [UInt8.toNat_ofNat', Nat.testBit_mod_two_pow, Nat.testBit_div_two_pow, decide_eq_true ht, Bool.true_and, Nat.add_comm]
theorem byte_ext (x y : UInt8) (h : ∀ t, t < 8 → x.toNat.testBit t = y.toNat.testBit t) : x = y := by
  apply UInt8.toNat.inj
  apply Nat.eq_of_testBit_eq
  intro t
  by_cases ht : t < 8
  · exact h t ht
  · have hx := x.toNat_lt
    have hy := y.toNat_lt
    have hp : 2 ^ 8 ≤ 2 ^ t := Nat.pow_le_pow_right (by decide) (by omega)
    rw [Nat.testBit_lt_two_pow (by omega), Nat.testBit_lt_two_pow (by omega)]
theorem xor_bit (n j i : Nat) : (n ^^^ 2 ^ j).testBit i = (n.testBit i ^^ decide (j = i)) := by
  rw [Nat.testBit_xor, Nat.testBit_two_pow]
theorem be_xor (n j : Nat) (hj : j < 64) : ∃ i y, i < 8 ∧ (be n 8)[i]? ≠ some y ∧ be (n ^^^ 2 ^ j) 8 = (be n 8).set i y := by
  refine ⟨7 - j / 8, UInt8.ofNat ((n ^^^ 2 ^ j) / 2 ^ (8 * (j / 8))), by omega, ?_, ?_⟩
  · rw [be_get _ _ _ (by omega), show 8 - 1 - (7 - j / 8) = j / 8 by omega]
    intro e
    injection e with e
    have := congrArg (fun x => x.toNat.testBit (j % 8)) e
    simp only [byte_bit _ _ _ (Nat.mod_lt _ (by decide : 0 < 8)), xor_bit, show 8 * (j / 8) + j % 8 = j by omega, decide_true] at this
    revert this
    cases n.testBit j <;> decide
  · apply List.ext_getElem?
    intro i
    by_cases hi : i < 8
    · by_cases e : 7 - j / 8 = i
      · subst e
        rw [List.getElem?_set_self (by rw [be_length]; omega), be_get _ _ _ hi, show 8 - 1 - (7 - j / 8) = j / 8 by omega]
      · rw [List.getElem?_set_ne e, be_get _ _ _ hi, be_get _ _ _ hi]
        congr 1
        apply byte_ext
        intro t ht
        rw [byte_bit _ _ _ ht, byte_bit _ _ _ ht, xor_bit, decide_eq_false (by omega), Bool.xor_false]
    · rw [List.getElem?_eq_none (by rw [be_length]; omega), List.getElem?_eq_none (by rw [List.length_set, be_length]; omega)]
end Hach.Oct
namespace Hach
open Go
theorem xor64 (a b : Nat) (ha : a < 18446744073709551616) (hb : b < 18446744073709551616) : bits .xor .u64 (a : Int) (b : Int) = ((a ^^^ b : Nat) : Int) := by
  show IntKind.u64.wrap ((BitVec.ofInt 64 (a : Int) ^^^ BitVec.ofInt 64 (b : Int)).toNat : Int) = _
  have h : (2 : Nat) ^ 64 = 18446744073709551616 := by decide
  rw [BitVec.ofInt_natCast, BitVec.ofInt_natCast, BitVec.toNat_xor, BitVec.toNat_ofNat, BitVec.toNat_ofNat, h, Nat.mod_eq_of_lt ha, Nat.mod_eq_of_lt hb]
  have hx : a ^^^ b < 2 ^ 64 := Nat.xor_lt_two_pow (by rw [h]; exact ha) (by rw [h]; exact hb)
  rw [h] at hx
  rw [show ∀ m : Int, IntKind.u64.wrap m = m % 18446744073709551616 from fun m => by simp [IntKind.wrap, IntKind.bits, IntKind.signed]]
  omega
theorem pow64 (j : Nat) (h : j < 64) : (2 : Nat) ^ j < 18446744073709551616 := by
  have : (2 : Nat) ^ j < 2 ^ 64 := Nat.pow_lt_pow_right (by decide) h
  have e : (2 : Nat) ^ 64 = 18446744073709551616 := by decide
  rw [e] at this; exact this
theorem nonce_bit (n j : Nat) (hn : (n : Int) < 18446744073709551616) (hj : j < 64) : ∃ n' : Nat, bits .xor .u64 (n : Int) (2 ^ j % 18446744073709551616) = (n' : Int) ∧ (n' : Int) < 18446744073709551616 ∧ ∃ i y, i < 8 ∧ (Oct.be n 8)[i]? ≠ some y ∧ Oct.be n' 8 = (Oct.be n 8).set i y := by
  have hp := pow64 j hj
  refine ⟨n ^^^ 2 ^ j, ?_, ?_, Oct.be_xor n j hj⟩
  · have e : ((2 : Int) ^ j % 18446744073709551616) = ((2 ^ j : Nat) : Int) := by
      have e2 : ((2 : Int) ^ j) = ((2 ^ j : Nat) : Int) := by rw [Int.natCast_pow]; rfl
      rw [e2]
      generalize 2 ^ j = m at *
      omega
    rw [e, xor64 n (2 ^ j) (by omega) hp]
  · have e : (2 : Nat) ^ 64 = 18446744073709551616 := by decide
    have : n ^^^ 2 ^ j < 2 ^ 64 := Nat.xor_lt_two_pow (by omega) (by omega)
    omega
end Hach
