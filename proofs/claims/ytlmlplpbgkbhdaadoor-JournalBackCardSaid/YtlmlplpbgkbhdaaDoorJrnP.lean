/- PLAIN LAWS of the journal's form. No program in sight. -/
import Derived.Test.YtlmlplpbgkbhdaaDoorOct
import Derived.Test.YtlmlplpbgkbhdaaDoorCrc
set_option linter.unusedVariables false
namespace Hach.Jrn
open Hach.Oct Hach.Crc
def magic : List UInt8 := [104, 97, 99, 104, 117, 114]
def sect (xs : List UInt8) : List UInt8 := xs ++ List.replicate (128 - xs.length) 0
def headW (c p n : Nat) : List UInt8 := magic ++ be c 4 ++ be p 4 ++ be n 8
def headN (c p n : Nat) : List UInt8 := sect (headW c p n ++ be (ofF (headW c p n)).toNat 4)
def headB (c p : Int) (n : Nat) (whole : Bool) : List UInt8 :=
  if (0 ≤ c ∧ c ≤ 4000) ∧ (0 ≤ p ∧ p ≤ 4000) then (if whole then (headN c.toNat p.toNat n).set 127 165 else headN c.toNat p.toNat n) else []
def recSum (page n : Nat) (data : List UInt8) : W := addF (ofF (be page 4 ++ be n 8)) data
def recN (page n : Nat) (data : List UInt8) : List UInt8 := sect (be page 4 ++ be (recSum page n data).toNat 4) ++ data
def recGood (page : Int) (data : List UInt8) : Bool := decide ((1 ≤ page ∧ page ≤ 4000) ∧ data.length = 512)
def recB (page : Int) (n : Nat) (data : List UInt8) : List UInt8 := if recGood page data then recN page.toNat n data else []
end Hach.Jrn
namespace Hach.Jrn
open Hach.Oct Hach.Crc
theorem recB_length (page : Int) (n : Nat) (data : List UInt8) : (recB page n data).length ≤ 640 := by
  unfold recB
  split
  · rename_i h
    have := (of_decide_eq_true h).2
    unfold recN sect
    simp [be_length, this]
  · simp
/-- What bytes are, as a record: 640 bytes or more. -/
def recIs (b : List UInt8) (n : Nat) : Bool := decide (recB (val (b.take 4) : Int) n ((b.drop 128).take 512) = b.take 640)
end Hach.Jrn
