/- PARTS OF A PROOF, one behind the other: PLAIN LAWS of numbers as bytes. No program in sight. PLAIN LAWS of the check sum: no program in sight: 32 bits, the step by one bit, products of remainders. PLAIN LAWS of the journal's form. No program in sight. PLAIN LAWS: a record one byte of which (but of its padding's, too) is another one is none; nor under a nonce one byte of which is another one. CONDITIONS: none of this text's own. -/

set_option linter.unusedVariables false
namespace Hach.Oct
def le (n : Nat) : Nat → List UInt8
  | 0 => []
  | s + 1 => le n s ++ [UInt8.ofNat (n / 2 ^ (8 * s))]
def be (n s : Nat) : List UInt8 := (le n s).reverse
theorem le_length (n s : Nat) : (le n s).length = s := by
  induction s with
  | zero => rfl
  | succ s ih => simp [le, ih]
theorem be_length (n s : Nat) : (be n s).length = s := by unfold be; rw [List.length_reverse, le_length]
def val (xs : List UInt8) : Nat := xs.foldl (fun a x => a * 256 + x.toNat) 0
theorem val_foldl (xs : List UInt8) (a : Nat) : xs.foldl (fun a x => a * 256 + x.toNat) a = a * 256 ^ xs.length + val xs := by
  induction xs generalizing a with
  | nil => simp [val]
  | cons x xs ih =>
    unfold val
    rw [List.foldl_cons, List.foldl_cons, ih, ih (0 * 256 + x.toNat), List.length_cons, Nat.pow_succ, Nat.add_mul, Nat.zero_mul, Nat.zero_add, Nat.mul_assoc, Nat.mul_comm 256]
    omega
theorem val_cons (x : UInt8) (xs : List UInt8) : val (x :: xs) = x.toNat * 256 ^ xs.length + val xs := by
  unfold val; rw [List.foldl_cons, Nat.zero_mul, Nat.zero_add, val_foldl]; rfl
theorem val_snoc (xs : List UInt8) (x : UInt8) : val (xs ++ [x]) = val xs * 256 + x.toNat := by
  unfold val; rw [List.foldl_append]; rfl
theorem val_lt (xs : List UInt8) : val xs < 256 ^ xs.length := by
  induction xs with
  | nil => decide
  | cons x xs ih =>
    rw [val_cons, List.length_cons, Nat.pow_succ]
    have := x.toNat_lt
    have h : x.toNat * 256 ^ xs.length ≤ 255 * 256 ^ xs.length := Nat.mul_le_mul_right _ (by omega)
    omega
theorem be_succ (n s : Nat) : be n (s + 1) = UInt8.ofNat (n / 2 ^ (8 * s)) :: be n s := by
  unfold be; rw [le, List.reverse_append]; rfl
theorem pow_256 (s : Nat) : (256 : Nat) ^ s = 2 ^ (8 * s) := by rw [Nat.pow_mul]
theorem val_be (n s : Nat) : val (be n s) = n % 256 ^ s := by
  induction s with
  | zero => rw [Nat.pow_zero, Nat.mod_one]; rfl
  | succ s ih =>
    have h8 : (2 : Nat) ^ 8 = 256 := by decide
    rw [be_succ, val_cons, ih, be_length, UInt8.toNat_ofNat', ← pow_256, h8, Nat.pow_succ (n := 256), Nat.mod_mul, Nat.mul_comm]
    omega
/-! ### turning a row round, pair by pair -/
def swp (l : List UInt8) (i j : Nat) : List UInt8 := (l.set i (l[j]?.getD 0)).set j (l[i]?.getD 0)
def rev (l : List UInt8) : Nat → List UInt8
  | 0 => l
  | i + 1 => swp (rev l i) i (l.length - 1 - i)
theorem swp_length (l : List UInt8) (i j : Nat) : (swp l i j).length = l.length := by unfold swp; simp
theorem rev_length (l : List UInt8) (i : Nat) : (rev l i).length = l.length := by
  induction i with
  | zero => rfl
  | succ i ih => rw [rev, swp_length, ih]
theorem rev_get (l : List UInt8) (i : Nat) (h : 2 * i ≤ l.length) (k : Nat) (hk : k < l.length) :
    (rev l i)[k]? = if k < i ∨ l.length - i ≤ k then l[l.length - 1 - k]? else l[k]? := by
  induction i generalizing k with
  | zero => rw [if_neg (by omega)]; rfl
  | succ i ih =>
    have ih := ih (by omega)
    rw [rev, swp]
    have e1 := ih i (by omega)
    have e2 := ih (l.length - 1 - i) (by omega)
    rw [if_neg (by omega)] at e1
    rw [if_neg (by omega)] at e2
    rw [e1, e2, List.getElem?_set, List.getElem?_set, ih k hk, List.length_set, rev_length]
    by_cases h1 : l.length - 1 - i = k
    · rw [if_pos h1, if_pos (by omega), if_pos (by omega)]
      subst h1
      rw [show l.length - 1 - (l.length - 1 - i) = i by omega, List.getElem?_eq_getElem (by omega)]; rfl
    · rw [if_neg h1]
      by_cases h2 : i = k
      · subst h2
        rw [if_pos rfl, if_pos (by omega), if_pos (by omega), List.getElem?_eq_getElem (by omega)]; rfl
      · rw [if_neg h2]
        by_cases h3 : k < i ∨ l.length - i ≤ k
        · rw [if_pos h3, if_pos (by omega)]
        · rw [if_neg h3, if_neg (by omega)]
theorem rev_done (l : List UInt8) (i : Nat) (h : 2 * i ≤ l.length) (h2 : l.length ≤ 2 * i + 1) : rev l i = l.reverse := by
  apply List.ext_getElem?
  intro k
  by_cases hk : k < l.length
  · rw [rev_get l i h k hk, List.getElem?_reverse hk]
    by_cases c : k < i ∨ l.length - i ≤ k
    · rw [if_pos c]
    · rw [if_neg c, show l.length - 1 - k = k by omega]
  · rw [List.getElem?_eq_none (by rw [rev_length]; omega), List.getElem?_eq_none (by rw [List.length_reverse]; omega)]
end Hach.Oct

namespace Hach.Crc
abbrev W := BitVec 32
def poly : W := 0x82F63B78#32
def stp (r : W) : W := (r >>> 1) ^^^ (if r.getLsbD 0 = true then poly else 0#32)

def it : Nat → W → W
  | 0, r => r
  | n+1, r => it n (stp r)

/-! ### products -/
def tmS (a b : W) : Nat → W
  | 0 => 0#32
  | k + 1 => if a.getLsbD (31 - k) = true then tmS a b k ^^^ it k b else tmS a b k
def tm (a b : W) : W := tmS a b 32

def one : W := 0x80000000#32
def pwF (n : Nat) (p x : W) : W := if n = 0 then p else pwF (n / 2) (if n % 2 = 1 then tm p x else p) (tm x x)
termination_by n
decreasing_by omega
def x8 : W := 0x00800000#32
def power (n : Nat) : W := pwF n one x8
def join (a b : W) (n : Nat) : W := tm a (power n) ^^^ b
/-! ### bytes -/
def b8 (x : UInt8) : W := BitVec.ofNat 32 x.toNat
def tabL : List W := [0#32, 274646895#32, 549293790#32, 820201905#32, 1098587580#32, 1361435347#32, 1640403810#32, 1905808397#32, 2197175160#32, 2460548119#32, 2722870694#32, 2987750089#32, 3280807620#32, 3553878443#32, 3811616794#32, 4084100981#32]
def tab (i : W) : W := tabL[i.toNat]?.getD 0#32
def half (r : W) : W := (r >>> 4) ^^^ tab (r &&& 15#32)
def byteStep (r : W) (x : UInt8) : W := half (half (r ^^^ b8 x))
def run (r : W) (xs : List UInt8) : W := xs.foldl byteStep r
def addF (s : W) (xs : List UInt8) : W := ~~~ (run (~~~ s) xs)
def ofF (xs : List UInt8) : W := addF 0#32 xs

theorem run_append (r : W) (xs ys : List UInt8) : run r (xs ++ ys) = run (run r xs) ys := by unfold run; rw [List.foldl_append]
theorem addF_append (s : W) (xs ys : List UInt8) : addF (addF s xs) ys = addF s (xs ++ ys) := by
  unfold addF; rw [BitVec.not_not, run_append]
theorem ofF_append (xs ys : List UInt8) : ofF (xs ++ ys) = addF (ofF xs) ys := by unfold ofF; rw [addF_append]
/-! ### the reference: bit by bit -/
def refBit (x : UInt8) (r : W) (i : Nat) : W := (r >>> 1) ^^^ (if (r ^^^ (b8 x >>> i)).getLsbD 0 = true then poly else 0#32)
def refB (x : UInt8) (r : W) : Nat → W
  | 0 => r
  | i + 1 => refBit x (refB x r i) i
/-! ### one bit turned; sums of as many bytes -/
def zs (xs ys : List UInt8) : List UInt8 := List.zipWith (· ^^^ ·) xs ys
end Hach.Crc
namespace Hach.Crc
end Hach.Crc

namespace Hach.Jrn
open Hach.Oct Hach.Crc
def magic : List UInt8 := [104, 97, 99, 104, 117, 114]
def sect (xs : List UInt8) : List UInt8 := xs ++ List.replicate (128 - xs.length) 0
def headW (c p n : Nat) : List UInt8 := magic ++ be c 4 ++ be p 4 ++ be n 8
def headN (c p n : Nat) : List UInt8 := sect (headW c p n ++ be (ofF (headW c p n)).toNat 4)
def headB (c p : Int) (n : Nat) (whole : Bool) : List UInt8 :=
  if (0 ≤ c ∧ c ≤ 4000) ∧ (0 ≤ p ∧ p ≤ 4000) then (if whole then (headN c.toNat p.toNat n).set 127 165 else headN c.toNat p.toNat n) else []
def recSum (page n : Nat) (data : List UInt8) : W := addF (ofF (be page 4 ++ be n 8)) data
def recN (page n : Nat) (data : List UInt8) : List UInt8 := sect (be page 4 ++ be (recSum page n data).toNat 4) ++ data
def recGood (page : Int) (data : List UInt8) : Bool := decide ((1 ≤ page ∧ page ≤ 4000) ∧ data.length = 512)
def recB (page : Int) (n : Nat) (data : List UInt8) : List UInt8 := if recGood page data then recN page.toNat n data else []
end Hach.Jrn
namespace Hach.Jrn
open Hach.Oct Hach.Crc
theorem recB_length (page : Int) (n : Nat) (data : List UInt8) : (recB page n data).length ≤ 640 := by
  unfold recB
  split
  · rename_i h
    have := (of_decide_eq_true h).2
    unfold recN sect
    simp [be_length, this]
  · simp
def recIs (b : List UInt8) (n : Nat) : Bool := decide (recB (val (b.take 4) : Int) n ((b.drop 128).take 512) = b.take 640)
end Hach.Jrn

namespace Hach.Crc
end Hach.Crc
namespace Hach.Oct
end Hach.Oct
namespace Hach.Jrn
open Hach.Oct Hach.Crc
def msg (X N : List UInt8) : List UInt8 := (X.take 4 ++ N) ++ X.drop 128
def isR (X N : List UInt8) : Prop := X.length = 640 ∧ (X.drop 4).take 4 = be (ofF (msg X N)).toNat 4 ∧ (X.drop 8).take 120 = List.replicate 120 0

theorem recN_parts (p n : Nat) (D : List UInt8) : recN p n D = be p 4 ++ (be (recSum p n D).toNat 4 ++ (List.replicate 120 0 ++ D)) := by
  unfold recN sect
  rw [List.length_append, be_length, be_length, List.append_assoc, List.append_assoc]
theorem recN_isR (p n : Nat) (D : List UInt8) (hD : D.length = 512) : isR (recN p n D) (be n 8) := by
  have h4 : (be p 4).length = 4 := be_length _ _
  have hs : (be (recSum p n D).toNat 4).length = 4 := be_length _ _
  have ht : (recN p n D).take 4 = be p 4 := by rw [recN_parts, List.take_append_of_le_length (by omega), List.take_of_length_le (by omega)]
  have hd4 : (recN p n D).drop 4 = be (recSum p n D).toNat 4 ++ (List.replicate 120 0 ++ D) := by rw [recN_parts, List.drop_append_of_le_length (by omega), List.drop_of_length_le (by omega), List.nil_append]
  have hd8 : (recN p n D).drop 8 = List.replicate 120 0 ++ D := by
    rw [show 8 = 4 + 4 from rfl, ← List.drop_drop, hd4, List.drop_append_of_le_length (by omega), List.drop_of_length_le (by omega), List.nil_append]
  have hd128 : (recN p n D).drop 128 = D := by
    rw [show 128 = 8 + 120 from rfl, ← List.drop_drop, hd8, List.drop_append_of_le_length (by simp), List.drop_of_length_le (by simp), List.nil_append]
  refine ⟨?_, ?_, ?_⟩
  · rw [recN_parts]; simp only [List.length_append, List.length_replicate, be_length, hD]
  · rw [hd4, List.take_append_of_le_length (by omega), List.take_of_length_le (by omega)]
    unfold msg
    rw [ht, hd128]
    unfold recSum
    rw [← ofF_append]
  · rw [hd8, List.take_append_of_le_length (by simp), List.take_of_length_le (by simp)]

end Hach.Jrn
