/- PLAIN LAWS: a nonce one bit of which is another one: one byte of it is. -/
import Derived.Test.YtlmlplpbgkbhdaaDoorJrnQ
import Derived.Test.YtlmlplpbgkbhdaaDoorK0
set_option linter.unusedVariables false
namespace Hach.Oct
theorem be_get (n s i : Nat) (h : i < s) : (be n s)[i]? = some (UInt8.ofNat (n / 2 ^ (8 * (s - 1 - i)))) := by
  unfold be
  rw [List.getElem?_reverse (by rw [le_length]; exact h), le_length, le_get _ _ _ (by omega)]
theorem byte_bit (n m t : Nat) (ht : t < 8) : (UInt8.ofNat (n / 2 ^ (8 * m))).toNat.testBit t = n.testBit (8 * m + t) := by
  rw [UInt8.toNat_ofNat', Nat.testBit_mod_two_pow, Nat.testBit_div_two_pow, decide_eq_true ht, Bool.true_and, Nat.add_comm]
theorem byte_ext (x y : UInt8) (h : ∀ t, t < 8 → x.toNat.testBit t = y.toNat.testBit t) : x = y := by
  apply UInt8.toNat.inj
  apply Nat.eq_of_testBit_eq
  intro t
  by_cases ht : t < 8
  · exact h t ht
  · have hx := x.toNat_lt
    have hy := y.toNat_lt
    have hp : 2 ^ 8 ≤ 2 ^ t := Nat.pow_le_pow_right (by decide) (by omega)
    rw [Nat.testBit_lt_two_pow (by omega), Nat.testBit_lt_two_pow (by omega)]
theorem xor_bit (n j i : Nat) : (n ^^^ 2 ^ j).testBit i = (n.testBit i ^^ decide (j = i)) := by
  rw [Nat.testBit_xor, Nat.testBit_two_pow]
theorem be_xor (n j : Nat) (hj : j < 64) : ∃ i y, i < 8 ∧ (be n 8)[i]? ≠ some y ∧ be (n ^^^ 2 ^ j) 8 = (be n 8).set i y := by
  refine ⟨7 - j / 8, UInt8.ofNat ((n ^^^ 2 ^ j) / 2 ^ (8 * (j / 8))), by omega, ?_, ?_⟩
  · rw [be_get _ _ _ (by omega), show 8 - 1 - (7 - j / 8) = j / 8 by omega]
    intro e
    injection e with e
    have := congrArg (fun x => x.toNat.testBit (j % 8)) e
    simp only [byte_bit _ _ _ (Nat.mod_lt _ (by decide : 0 < 8)), xor_bit, show 8 * (j / 8) + j % 8 = j by omega, decide_true] at this
    revert this
    cases n.testBit j <;> decide
  · apply List.ext_getElem?
    intro i
    by_cases hi : i < 8
    · by_cases e : 7 - j / 8 = i
      · subst e
        rw [List.getElem?_set_self (by rw [be_length]; omega), be_get _ _ _ hi, show 8 - 1 - (7 - j / 8) = j / 8 by omega]
      · rw [List.getElem?_set_ne e, be_get _ _ _ hi, be_get _ _ _ hi]
        congr 1
        apply byte_ext
        intro t ht
        rw [byte_bit _ _ _ ht, byte_bit _ _ _ ht, xor_bit, decide_eq_false (by omega), Bool.xor_false]
    · rw [List.getElem?_eq_none (by rw [be_length]; omega), List.getElem?_eq_none (by rw [List.length_set, be_length]; omega)]
end Hach.Oct
namespace Hach
open Go
theorem xor64 (a b : Nat) (ha : a < 18446744073709551616) (hb : b < 18446744073709551616) : bits .xor .u64 (a : Int) (b : Int) = ((a ^^^ b : Nat) : Int) := by
  show IntKind.u64.wrap ((BitVec.ofInt 64 (a : Int) ^^^ BitVec.ofInt 64 (b : Int)).toNat : Int) = _
  have h : (2 : Nat) ^ 64 = 18446744073709551616 := by decide
  rw [BitVec.ofInt_natCast, BitVec.ofInt_natCast, BitVec.toNat_xor, BitVec.toNat_ofNat, BitVec.toNat_ofNat, h, Nat.mod_eq_of_lt ha, Nat.mod_eq_of_lt hb]
  have hx : a ^^^ b < 2 ^ 64 := Nat.xor_lt_two_pow (by rw [h]; exact ha) (by rw [h]; exact hb)
  rw [h] at hx
  rw [show ∀ m : Int, IntKind.u64.wrap m = m % 18446744073709551616 from fun m => by simp [IntKind.wrap, IntKind.bits, IntKind.signed]]
  omega
theorem pow64 (j : Nat) (h : j < 64) : (2 : Nat) ^ j < 18446744073709551616 := by
  have : (2 : Nat) ^ j < 2 ^ 64 := Nat.pow_lt_pow_right (by decide) h
  have e : (2 : Nat) ^ 64 = 18446744073709551616 := by decide
  rw [e] at this; exact this
theorem nonce_bit (n j : Nat) (hn : (n : Int) < 18446744073709551616) (hj : j < 64) : ∃ n' : Nat, bits .xor .u64 (n : Int) (2 ^ j % 18446744073709551616) = (n' : Int) ∧ (n' : Int) < 18446744073709551616 ∧ ∃ i y, i < 8 ∧ (Oct.be n 8)[i]? ≠ some y ∧ Oct.be n' 8 = (Oct.be n 8).set i y := by
  have hp := pow64 j hj
  refine ⟨n ^^^ 2 ^ j, ?_, ?_, Oct.be_xor n j hj⟩
  · have e : ((2 : Int) ^ j % 18446744073709551616) = ((2 ^ j : Nat) : Int) := by
      have e2 : ((2 : Int) ^ j) = ((2 ^ j : Nat) : Int) := by rw [Int.natCast_pow]; rfl
      rw [e2]
      generalize 2 ^ j = m at *
      omega
    rw [e, xor64 n (2 ^ j) (by omega) hp]
  · have e : (2 : Nat) ^ 64 = 18446744073709551616 := by decide
    have : n ^^^ 2 ^ j < 2 ^ 64 := Nat.xor_lt_two_pow (by omega) (by omega)
    omega
end Hach
