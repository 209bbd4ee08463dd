/- PARTS OF A PROOF, one behind the other: PLAIN LAWS of numbers as bytes. No program in sight. PLAIN LAWS of the check sum: no program in sight: 32 bits, the step by one bit, products of remainders. PLAIN LAWS of the journal's form. No program in sight. PLAIN LAWS: a record one byte of which (but of its padding's, too) is another one is none; nor under a nonce one byte of which is another one. CONDITIONS: none of this text's own. -/

set_option linter.unusedVariables false
namespace Hach.Oct
/-- The lowest bytes, the lowest first. -/
def le (n : Nat) : Nat → List UInt8
  | 0 => []
  | s + 1 => le n s ++ [UInt8.ofNat (n / 2 ^ (8 * s))]
def be (n s : Nat) : List UInt8 := (le n s).reverse
theorem le_length (n s : Nat) : (le n s).length = s := by
  induction s with
  | zero => rfl
  | succ s ih => simp [le, ih]
theorem be_length (n s : Nat) : (be n s).length = s := by unfold be; rw [List.length_reverse, le_length]
def val (xs : List UInt8) : Nat := xs.foldl (fun a x => a * 256 + x.toNat) 0
theorem val_foldl (xs : List UInt8) (a : Nat) : xs.foldl (fun a x => a * 256 + x.toNat) a = a * 256 ^ xs.length + val xs := by
  induction xs generalizing a with
  | nil => simp [val]
  | cons x xs ih =>
    unfold val
    rw [List.foldl_cons, List.foldl_cons, ih, ih (0 * 256 + x.toNat), List.length_cons, Nat.pow_succ, Nat.add_mul, Nat.zero_mul, Nat.zero_add, Nat.mul_assoc, Nat.mul_comm 256]
    omega
theorem val_nil : val [] = 0 := rfl
theorem val_cons (x : UInt8) (xs : List UInt8) : val (x :: xs) = x.toNat * 256 ^ xs.length + val xs := by
  unfold val; rw [List.foldl_cons, Nat.zero_mul, Nat.zero_add, val_foldl]; rfl
theorem val_snoc (xs : List UInt8) (x : UInt8) : val (xs ++ [x]) = val xs * 256 + x.toNat := by
  unfold val; rw [List.foldl_append]; rfl
theorem val_lt (xs : List UInt8) : val xs < 256 ^ xs.length := by
  induction xs with
  | nil => decide
  | cons x xs ih =>
    rw [val_cons, List.length_cons, Nat.pow_succ]
    have := x.toNat_lt
    have h : x.toNat * 256 ^ xs.length ≤ 255 * 256 ^ xs.length := Nat.mul_le_mul_right _ (by omega)
    omega
theorem be_succ (n s : Nat) : be n (s + 1) = UInt8.ofNat (n / 2 ^ (8 * s)) :: be n s := by
  unfold be; rw [le, List.reverse_append]; rfl
theorem pow_256 (s : Nat) : (256 : Nat) ^ s = 2 ^ (8 * s) := by rw [Nat.pow_mul]
theorem val_be (n s : Nat) : val (be n s) = n % 256 ^ s := by
  induction s with
  | zero => rw [Nat.pow_zero, Nat.mod_one]; rfl
  | succ s ih =>
    have h8 : (2 : Nat) ^ 8 = 256 := by decide
    rw [be_succ, val_cons, ih, be_length, UInt8.toNat_ofNat', ← pow_256, h8, Nat.pow_succ (n := 256), Nat.mod_mul, Nat.mul_comm]
    omega
theorem val_inj {xs ys : List UInt8} (hl : xs.length = ys.length) (h : val xs = val ys) : xs = ys := by
  induction xs generalizing ys with
  | nil => cases ys with
    | nil => rfl
    | cons y ys => simp at hl
  | cons x xs ih => cases ys with
    | nil => simp at hl
    | cons y ys =>
      have hl' : xs.length = ys.length := by simpa using hl
      rw [val_cons, val_cons, hl'] at h
      have h1 := val_lt xs
      have h2 := val_lt ys
      rw [hl'] at h1
      have hx : x.toNat = y.toNat := by
        have a1 : (x.toNat * 256 ^ ys.length + val xs) / 256 ^ ys.length = x.toNat := by
          rw [Nat.mul_comm, Nat.mul_add_div (Nat.pow_pos (by decide)), Nat.div_eq_of_lt h1]; omega
        have a2 : (y.toNat * 256 ^ ys.length + val ys) / 256 ^ ys.length = y.toNat := by
          rw [Nat.mul_comm, Nat.mul_add_div (Nat.pow_pos (by decide)), Nat.div_eq_of_lt h2]; omega
        rw [← a1, ← a2, h]
      rw [hx] at h
      rw [UInt8.toNat.inj hx, ih hl' (by omega)]
theorem be_val (xs : List UInt8) : be (val xs) xs.length = xs := by
  apply val_inj (be_length _ _)
  rw [val_be, Nat.mod_eq_of_lt (val_lt xs)]
theorem le_get (n s i : Nat) (h : i < s) : (le n s)[i]? = some (UInt8.ofNat (n / 2 ^ (8 * i))) := by
  induction s with
  | zero => omega
  | succ s ih =>
    rw [le]
    by_cases e : i < s
    · rw [List.getElem?_append_left (by rw [le_length]; exact e), ih e]
    · obtain rfl : i = s := by omega
      rw [List.getElem?_append_right (by rw [le_length]; omega), le_length, Nat.sub_self]; rfl

/-! ### turning a row round, pair by pair -/
def swp (l : List UInt8) (i j : Nat) : List UInt8 := (l.set i (l[j]?.getD 0)).set j (l[i]?.getD 0)
def rev (l : List UInt8) : Nat → List UInt8
  | 0 => l
  | i + 1 => swp (rev l i) i (l.length - 1 - i)
theorem swp_length (l : List UInt8) (i j : Nat) : (swp l i j).length = l.length := by unfold swp; simp
theorem rev_length (l : List UInt8) (i : Nat) : (rev l i).length = l.length := by
  induction i with
  | zero => rfl
  | succ i ih => rw [rev, swp_length, ih]
theorem rev_get (l : List UInt8) (i : Nat) (h : 2 * i ≤ l.length) (k : Nat) (hk : k < l.length) :
    (rev l i)[k]? = if k < i ∨ l.length - i ≤ k then l[l.length - 1 - k]? else l[k]? := by
  induction i generalizing k with
  | zero => rw [if_neg (by omega)]; rfl
  | succ i ih =>
    have ih := ih (by omega)
    rw [rev, swp]
    have e1 := ih i (by omega)
    have e2 := ih (l.length - 1 - i) (by omega)
    rw [if_neg (by omega)] at e1
    rw [if_neg (by omega)] at e2
    rw [e1, e2, List.getElem?_set, List.getElem?_set, ih k hk, List.length_set, rev_length]
    by_cases h1 : l.length - 1 - i = k
    · rw [if_pos h1, if_pos (by omega), if_pos (by omega)]
      subst h1
      rw [show l.length - 1 - (l.length - 1 - i) = i by omega, List.getElem?_eq_getElem (by omega)]; rfl
    · rw [if_neg h1]
      by_cases h2 : i = k
      · subst h2
        rw [if_pos rfl, if_pos (by omega), if_pos (by omega), List.getElem?_eq_getElem (by omega)]; rfl
      · rw [if_neg h2]
        by_cases h3 : k < i ∨ l.length - i ≤ k
        · rw [if_pos h3, if_pos (by omega)]
        · rw [if_neg h3, if_neg (by omega)]
theorem rev_done (l : List UInt8) (i : Nat) (h : 2 * i ≤ l.length) (h2 : l.length ≤ 2 * i + 1) : rev l i = l.reverse := by
  apply List.ext_getElem?
  intro k
  by_cases hk : k < l.length
  · rw [rev_get l i h k hk, List.getElem?_reverse hk]
    by_cases c : k < i ∨ l.length - i ≤ k
    · rw [if_pos c]
    · rw [if_neg c, show l.length - 1 - k = k by omega]
  · rw [List.getElem?_eq_none (by rw [rev_length]; omega), List.getElem?_eq_none (by rw [List.length_reverse]; omega)]
end Hach.Oct

namespace Hach.Crc
abbrev W := BitVec 32
def poly : W := 0x82F63B78#32
/-- One bit on: times x. -/
def stp (r : W) : W := (r >>> 1) ^^^ (if r.getLsbD 0 = true then poly else 0#32)

theorem stp_xor (a b : W) : stp (a ^^^ b) = stp a ^^^ stp b := by
  unfold stp
  rw [BitVec.ushiftRight_xor_distrib, BitVec.getLsbD_xor]
  cases a.getLsbD 0 <;> cases b.getLsbD 0 <;> simp
  · rw [BitVec.xor_assoc]
  · rw [BitVec.xor_assoc, BitVec.xor_assoc, BitVec.xor_comm poly]
  · rw [BitVec.xor_assoc, ← BitVec.xor_assoc poly, BitVec.xor_comm poly, BitVec.xor_assoc, BitVec.xor_self]; simp

theorem stp_zero : stp 0#32 = 0#32 := by decide

def it : Nat → W → W
  | 0, r => r
  | n+1, r => it n (stp r)

theorem it_xor (n : Nat) (a b : W) : it n (a ^^^ b) = it n a ^^^ it n b := by
  induction n generalizing a b with
  | zero => rfl
  | succ n ih => simp only [it, stp_xor, ih]
theorem it_zero (n : Nat) : it n 0#32 = 0#32 := by
  induction n with
  | zero => rfl
  | succ n ih => simp only [it, stp_zero, ih]
theorem it_stp (n : Nat) (a : W) : it n (stp a) = stp (it n a) := by
  induction n generalizing a with
  | zero => rfl
  | succ n ih => simp only [it]; rw [ih]
theorem it_succ (n : Nat) (a : W) : it (n + 1) a = stp (it n a) := it_stp n a
theorem it_add (m n : Nat) (a : W) : it (m + n) a = it n (it m a) := by
  induction n with
  | zero => rfl
  | succ n ih => rw [Nat.add_succ, it_succ, it_succ, ih]
theorem it_comm (m n : Nat) (a : W) : it m (it n a) = it n (it m a) := by
  rw [← it_add, ← it_add, Nat.add_comm]

theorem stp_inj0 (a : W) (h : stp a = 0#32) : a = 0#32 := by
  unfold stp at h
  have h31 : (a >>> 1).getLsbD 31 = false := by simp
  by_cases h0 : a.getLsbD 0 = true
  · rw [if_pos h0] at h
    have : ((a >>> 1) ^^^ poly).getLsbD 31 = true := by rw [BitVec.getLsbD_xor, h31]; decide
    rw [h] at this; simp at this
  · rw [if_neg h0] at h
    have h' : a >>> 1 = 0#32 := by simpa using h
    apply BitVec.eq_of_getLsbD_eq
    intro i hi
    cases i with
    | zero => simpa using h0
    | succ i => have := congrArg (fun x => BitVec.getLsbD x i) h'; simp at this; simp; rw [Nat.add_comm]; exact this
theorem it_inj0 (n : Nat) (a : W) (h : it n a = 0#32) : a = 0#32 := by
  induction n with
  | zero => exact h
  | succ n ih => exact ih (stp_inj0 _ (by rw [← it_succ]; exact h))

/-! ### products -/
/-- The part of the product out of the k highest bits of a. -/
def tmS (a b : W) : Nat → W
  | 0 => 0#32
  | k + 1 => if a.getLsbD (31 - k) = true then tmS a b k ^^^ it k b else tmS a b k
def tm (a b : W) : W := tmS a b 32

theorem xor4 (a b c d : W) : (a ^^^ b) ^^^ (c ^^^ d) = (a ^^^ c) ^^^ (b ^^^ d) := by
  rw [BitVec.xor_assoc, BitVec.xor_assoc, ← BitVec.xor_assoc b, BitVec.xor_comm b, BitVec.xor_assoc]

theorem tmS_xor_right (a b c : W) (k : Nat) : tmS a (b ^^^ c) k = tmS a b k ^^^ tmS a c k := by
  induction k with
  | zero => simp [tmS]
  | succ k ih =>
    simp only [tmS]
    split
    · rw [ih, it_xor, xor4]
    · exact ih
theorem tmS_stp_right (a b : W) (k : Nat) : tmS a (stp b) k = stp (tmS a b k) := by
  induction k with
  | zero => simp only [tmS, stp_zero]
  | succ k ih =>
    simp only [tmS]
    split
    · rw [ih, stp_xor, it_stp]
    · exact ih
theorem tmS_xor_left (a b c : W) (k : Nat) : tmS (a ^^^ b) c k = tmS a c k ^^^ tmS b c k := by
  induction k with
  | zero => simp [tmS]
  | succ k ih =>
    simp only [tmS, BitVec.getLsbD_xor]
    cases a.getLsbD (31 - k) <;> cases b.getLsbD (31 - k) <;> simp [ih]
    · rw [BitVec.xor_assoc]
    · rw [BitVec.xor_assoc, BitVec.xor_assoc, BitVec.xor_comm (tmS b c k)]
    · rw [xor4, BitVec.xor_self]; simp
theorem tm_xor_right (a b c : W) : tm a (b ^^^ c) = tm a b ^^^ tm a c := tmS_xor_right a b c 32
theorem tm_xor_left (a b c : W) : tm (a ^^^ b) c = tm a c ^^^ tm b c := tmS_xor_left a b c 32
theorem tm_stp_right (a b : W) : tm a (stp b) = stp (tm a b) := tmS_stp_right a b 32
theorem tm_it_right (a b : W) (n : Nat) : tm a (it n b) = it n (tm a b) := by
  induction n with
  | zero => rfl
  | succ n ih => rw [it_succ, tm_stp_right, ih, it_succ]
theorem tm_zero_right (a : W) : tm a 0#32 = 0#32 := by
  have := tm_xor_right a 0#32 0#32
  simp only [BitVec.xor_self] at this
  exact this

def one : W := 0x80000000#32
theorem it_one (k : Nat) (h : k < 32) : it k one = 1#32 <<< (31 - k) := by
  have : ∀ k : Fin 32, it k.1 one = 1#32 <<< (31 - k.1) := by decide
  exact this ⟨k, h⟩
theorem tmS_one_bits (c : W) (k : Nat) (hk : k ≤ 32) (i : Nat) (hi : i < 32) : (tmS c one k).getLsbD i = (decide (32 - k ≤ i) && c.getLsbD i) := by
  induction k with
  | zero => simp only [tmS]; rw [show decide (32 - 0 ≤ i) = false by simp; omega]; simp
  | succ k ih =>
    have ih := ih (by omega)
    have e : (it k one).getLsbD i = decide (i = 31 - k) := by
      rw [it_one k (by omega), BitVec.getLsbD_shiftLeft]
      by_cases h : i = 31 - k
      · subst h; simp; omega
      · rw [show decide (i = 31 - k) = false by simpa using h]
        by_cases h2 : i < 31 - k
        · simp [h2]
        · have : ¬ (i - (31 - k) = 0) := by omega
          simp [BitVec.getLsbD_one, this]
    simp only [tmS]
    by_cases hc : c.getLsbD (31 - k) = true
    · rw [if_pos hc, BitVec.getLsbD_xor, ih, e]
      by_cases h : i = 31 - k
      · subst h
        rw [hc, show decide (32 - k ≤ 31 - k) = false by simp; omega, show decide (32 - (k + 1) ≤ 31 - k) = true by simp; try omega]; simp
      · rw [show decide (i = 31 - k) = false by simpa using h]
        by_cases h2 : 32 - k ≤ i
        · rw [show decide (32 - k ≤ i) = true by simpa using h2, show decide (32 - (k + 1) ≤ i) = true by simp; omega]; simp
        · rw [show decide (32 - k ≤ i) = false by simpa using h2, show decide (32 - (k + 1) ≤ i) = false by simp; omega]; simp
    · rw [if_neg hc, ih]
      by_cases h : i = 31 - k
      · subst h
        have : c.getLsbD (31 - k) = false := by simpa using hc
        rw [this]; simp
      · by_cases h2 : 32 - k ≤ i
        · rw [show decide (32 - k ≤ i) = true by simpa using h2, show decide (32 - (k + 1) ≤ i) = true by simp; omega]
        · rw [show decide (32 - k ≤ i) = false by simpa using h2, show decide (32 - (k + 1) ≤ i) = false by simp; omega]
theorem tm_one_right (c : W) : tm c one = c := by
  apply BitVec.eq_of_getLsbD_eq
  intro i hi
  unfold tm
  rw [tmS_one_bits c 32 (by omega) i hi]; simp
/-- What holds of one and is handed on by a step and by a sum holds of all. -/
theorem all_of_one {p : W → Prop} (h0 : p 0#32) (h1 : p one) (hs : ∀ a, p a → p (stp a)) (hx : ∀ a b, p a → p b → p (a ^^^ b)) (c : W) : p c := by
  have hit : ∀ k, p (it k one) := by
    intro k
    induction k with
    | zero => exact h1
    | succ k ih => rw [it_succ]; exact hs _ ih
  have : ∀ k, p (tmS c one k) := by
    intro k
    induction k with
    | zero => exact h0
    | succ k ih =>
      simp only [tmS]
      split
      · exact hx _ _ ih (hit k)
      · exact ih
  rw [← tm_one_right c]
  exact this 32
theorem it32 (c : W) : it 32 c = tm poly c := by
  refine all_of_one (p := fun c => it 32 c = tm poly c) ?_ ?_ ?_ ?_ c
  · rw [it_zero, tm_zero_right]
  · rw [tm_one_right]; decide
  · intro a ha; rw [it_stp, ha, tm_stp_right]
  · intro a b ha hb; rw [it_xor, ha, hb, tm_xor_right]
theorem tm_one_left (c : W) : tm one c = c := by
  refine all_of_one (p := fun c => tm one c = c) (tm_zero_right _) (tm_one_right _) ?_ ?_ c
  · intro a ha; rw [tm_stp_right, ha]
  · intro a b ha hb; rw [tm_xor_right, ha, hb]
theorem tm_comm (a b : W) : tm a b = tm b a := by
  have hp : ∀ a, tm (stp a) one = stp (tm a one) ∧ True := fun a => ⟨by rw [tm_one_right, tm_one_right], trivial⟩
  have key : ∀ a b, tm (stp a) b = stp (tm a b) := by
    intro a b
    refine all_of_one (p := fun b => tm (stp a) b = stp (tm a b)) ?_ (hp a).1 ?_ ?_ b
    · rw [tm_zero_right, tm_zero_right, stp_zero]
    · intro c hc; rw [tm_stp_right, hc, tm_stp_right]
    · intro c d hc hd; rw [tm_xor_right, hc, hd, tm_xor_right, stp_xor]
  refine all_of_one (p := fun a => tm a b = tm b a) ?_ ?_ ?_ ?_ a
  · rw [tm_zero_right]
    have := tm_xor_left 0#32 0#32 b
    simp only [BitVec.xor_self] at this
    exact this
  · rw [tm_one_left, tm_one_right]
  · intro c hc; rw [key, hc, tm_stp_right]
  · intro c d hc hd; rw [tm_xor_left, hc, hd, tm_xor_right]
theorem tm_it_left (a b : W) (n : Nat) : tm (it n a) b = it n (tm a b) := by
  rw [tm_comm, tm_it_right, tm_comm]
theorem tm_it_one (n : Nat) (c : W) : tm (it n one) c = it n c := by rw [tm_it_left, tm_one_left]

/-- Powers of x to the 8th: the loop of squares. -/
def pwF (n : Nat) (p x : W) : W := if n = 0 then p else pwF (n / 2) (if n % 2 = 1 then tm p x else p) (tm x x)
termination_by n
decreasing_by omega
theorem pwF_it (n : Nat) : ∀ (q m : Nat), pwF n (it q one) (it m one) = it (q + m * n) one := by
  induction n using Nat.strongRecOn with
  | ind n ih =>
    intro q m
    unfold pwF
    by_cases h : n = 0
    · rw [if_pos h, h]; rfl
    · rw [if_neg h]
      have e : tm (it m one) (it m one) = it (2 * m) one := by rw [tm_it_one, ← it_add]; congr 1; omega
      rw [e]
      have hn := Nat.div_add_mod n 2
      by_cases h1 : n % 2 = 1
      · rw [if_pos h1, tm_it_one, ← it_add, ih (n / 2) (by omega)]
        congr 1
        rw [h1] at hn
        have : m * n = m * (2 * (n / 2)) + m := by rw [← Nat.mul_succ, Nat.succ_eq_add_one, hn]
        rw [this, Nat.mul_assoc, Nat.mul_left_comm]
        omega
      · rw [if_neg h1, ih (n / 2) (by omega)]
        congr 1
        have h0 : n % 2 = 0 := by omega
        rw [h0] at hn
        have : m * n = m * (2 * (n / 2)) := by rw [← Nat.add_zero (2 * (n / 2)), hn]
        rw [this, Nat.mul_assoc, Nat.mul_left_comm]
def x8 : W := 0x00800000#32
theorem x8_it : x8 = it 8 one := by decide
def power (n : Nat) : W := pwF n one x8
theorem power_it (n : Nat) : power n = it (8 * n) one := by
  have := pwF_it n 0 8
  rw [Nat.zero_add] at this
  unfold power; rw [x8_it]; exact this
def join (a b : W) (n : Nat) : W := tm a (power n) ^^^ b
theorem join_it (a b : W) (n : Nat) : join a b n = it (8 * n) a ^^^ b := by
  unfold join; rw [power_it, tm_it_right, tm_one_right]

/-! ### bytes -/
def b8 (x : UInt8) : W := BitVec.ofNat 32 x.toNat
def tabL : List W := [0#32, 274646895#32, 549293790#32, 820201905#32, 1098587580#32, 1361435347#32, 1640403810#32, 1905808397#32, 2197175160#32, 2460548119#32, 2722870694#32, 2987750089#32, 3280807620#32, 3553878443#32, 3811616794#32, 4084100981#32]
def tab (i : W) : W := tabL[i.toNat]?.getD 0#32
def half (r : W) : W := (r >>> 4) ^^^ tab (r &&& 15#32)
def byteStep (r : W) (x : UInt8) : W := half (half (r ^^^ b8 x))
def run (r : W) (xs : List UInt8) : W := xs.foldl byteStep r
def addF (s : W) (xs : List UInt8) : W := ~~~ (run (~~~ s) xs)
def ofF (xs : List UInt8) : W := addF 0#32 xs

theorem stp_even (r : W) (h : r.getLsbD 0 = false) : stp r = r >>> 1 := by unfold stp; rw [h]; simp
theorem shr_shr (r : W) (a b : Nat) : (r >>> a) >>> b = r >>> (a + b) := (BitVec.shiftRight_add r a b).symm
theorem it4_even (r : W) (h0 : r.getLsbD 0 = false) (h1 : r.getLsbD 1 = false) (h2 : r.getLsbD 2 = false) (h3 : r.getLsbD 3 = false) : it 4 r = r >>> 4 := by
  simp only [it]
  rw [stp_even r h0, stp_even (r >>> 1) (by simpa using h1), shr_shr, stp_even (r >>> 2) (by simpa using h2), shr_shr, stp_even (r >>> 3) (by simpa using h3), shr_shr]
theorem tab_it (r : W) : it 4 (r &&& 15#32) = tab (r &&& 15#32) := by
  have : ∀ i : Fin 16, it 4 (BitVec.ofNat 32 i.1) = tab (BitVec.ofNat 32 i.1) := by decide
  have hlt : (r &&& 15#32).toNat < 16 := by
    rw [BitVec.toNat_and]
    have : r.toNat &&& (15#32).toNat ≤ 15 := Nat.and_le_right
    omega
  have := this ⟨(r &&& 15#32).toNat, hlt⟩
  simpa only [BitVec.ofNat_toNat, BitVec.setWidth_eq] using this
theorem half_it (r : W) : half r = it 4 r := by
  have e : r = (r &&& ~~~ 15#32) ^^^ (r &&& 15#32) := by
    apply BitVec.eq_of_getLsbD_eq
    intro i hi
    simp only [BitVec.getLsbD_xor, BitVec.getLsbD_and, BitVec.getLsbD_not, hi, decide_true, Bool.true_and]
    cases r.getLsbD i <;> cases (15#32).getLsbD i <;> rfl
  have z : ∀ i, i < 4 → (r &&& ~~~ 15#32).getLsbD i = false := by
    intro i hi
    have : ∀ i : Fin 4, (15#32).getLsbD i.1 = true := by decide
    have := this ⟨i, hi⟩
    simp only at this
    rw [BitVec.getLsbD_and, BitVec.getLsbD_not, this]; simp
  have hs : (r &&& ~~~ 15#32) >>> 4 = r >>> 4 := by
    apply BitVec.eq_of_getLsbD_eq
    intro i hi
    simp only [BitVec.getLsbD_ushiftRight, BitVec.getLsbD_and, BitVec.getLsbD_not]
    by_cases h : 4 + i < 32
    · have : ∀ i : Fin 28, (15#32).getLsbD (4 + i.1) = false := by decide
      have := this ⟨i, by omega⟩
      simp only at this
      rw [this]; simp [h]
    · rw [BitVec.getLsbD_of_ge r _ (by omega)]; simp
  have h4 := it4_even (r &&& ~~~ 15#32) (z 0 (by decide)) (z 1 (by decide)) (z 2 (by decide)) (z 3 (by decide))
  conv => rhs; rw [e]
  rw [it_xor, h4, tab_it, hs]; rfl
theorem byteStep_it (r : W) (x : UInt8) : byteStep r x = it 8 (r ^^^ b8 x) := by
  unfold byteStep; rw [half_it, half_it, ← it_add]
theorem run_nil (r : W) : run r [] = r := rfl
theorem run_cons (r : W) (x : UInt8) (xs : List UInt8) : run r (x :: xs) = run (it 8 (r ^^^ b8 x)) xs := by
  unfold run; rw [List.foldl_cons, byteStep_it]
theorem run_append (r : W) (xs ys : List UInt8) : run r (xs ++ ys) = run (run r xs) ys := by unfold run; rw [List.foldl_append]
theorem run_lin (r s : W) (xs : List UInt8) : run (r ^^^ s) xs = run r xs ^^^ it (8 * xs.length) s := by
  induction xs generalizing r s with
  | nil => rfl
  | cons x xs ih =>
    rw [run_cons, run_cons, BitVec.xor_assoc, BitVec.xor_comm s, ← BitVec.xor_assoc, it_xor, ih, ← it_add]
    congr 2
    rw [List.length_cons]; omega
theorem addF_append (s : W) (xs ys : List UInt8) : addF (addF s xs) ys = addF s (xs ++ ys) := by
  unfold addF; rw [BitVec.not_not, run_append]
theorem not_xor' (a b : W) : ~~~ (a ^^^ b) = ~~~ a ^^^ b := by
  apply BitVec.eq_of_getLsbD_eq
  intro i hi
  simp only [BitVec.getLsbD_xor, BitVec.getLsbD_not, hi, decide_true, Bool.true_and]
  cases a.getLsbD i <;> cases b.getLsbD i <;> rfl
theorem addF_lin (s : W) (xs : List UInt8) : addF s xs = it (8 * xs.length) s ^^^ ofF xs := by
  unfold ofF addF
  have e : ~~~ s = ~~~ 0#32 ^^^ s := by rw [← not_xor', BitVec.zero_xor]
  rw [e, run_lin, not_xor', BitVec.xor_comm]
theorem join_of (s : W) (ys : List UInt8) : join s (ofF ys) ys.length = addF s ys := by rw [join_it, addF_lin]
theorem ofF_append (xs ys : List UInt8) : ofF (xs ++ ys) = addF (ofF xs) ys := by unfold ofF; rw [addF_append]
/-- joined the other way round -/
theorem join_join (x y z : W) (m n : Nat) : join x (join y z n) (m + n) = join (join x y m) z n := by
  rw [join_it, join_it, join_it, join_it, it_xor, ← it_add, Nat.mul_add, BitVec.xor_assoc]

/-! ### the reference: bit by bit -/
def refBit (x : UInt8) (r : W) (i : Nat) : W := (r >>> 1) ^^^ (if (r ^^^ (b8 x >>> i)).getLsbD 0 = true then poly else 0#32)
def refB (x : UInt8) (r : W) : Nat → W
  | 0 => r
  | i + 1 => refBit x (refB x r i) i
theorem refB_it (x : UInt8) (r : W) (i : Nat) : refB x r i ^^^ (b8 x >>> i) = it i (r ^^^ b8 x) := by
  induction i with
  | zero => simp [refB, it]
  | succ i ih =>
    rw [it_succ, ← ih]
    simp only [refB, refBit, stp]
    rw [BitVec.ushiftRight_xor_distrib, shr_shr, BitVec.xor_assoc, BitVec.xor_comm (ite _ _ _), ← BitVec.xor_assoc]
theorem b8_shr8 (x : UInt8) : b8 x >>> 8 = 0#32 := by
  apply BitVec.eq_of_toNat_eq
  rw [BitVec.toNat_ushiftRight, Nat.shiftRight_eq_div_pow]
  unfold b8
  rw [BitVec.toNat_ofNat]
  have := x.toNat_lt
  simp; omega
theorem refB_8 (x : UInt8) (r : W) : refB x r 8 = byteStep r x := by
  have := refB_it x r 8
  rw [b8_shr8] at this
  rw [byteStep_it, ← this]; simp

/-! ### one bit turned; sums of as many bytes -/
theorem b8_xor (x y : UInt8) : b8 (x ^^^ y) = b8 x ^^^ b8 y := by
  apply BitVec.eq_of_toNat_eq
  unfold b8
  have := x.toNat_lt; have := y.toNat_lt
  have h2 : x.toNat ^^^ y.toNat < 2 ^ 8 := Nat.xor_lt_two_pow (by omega) (by omega)
  rw [BitVec.toNat_xor, BitVec.toNat_ofNat, BitVec.toNat_ofNat, BitVec.toNat_ofNat, UInt8.toNat_xor, Nat.mod_eq_of_lt (by omega), Nat.mod_eq_of_lt (by omega), Nat.mod_eq_of_lt (by omega)]
theorem b8_ne (x : UInt8) (h : x ≠ 0) : b8 x ≠ 0#32 := by
  intro e
  apply h
  have := congrArg BitVec.toNat e
  unfold b8 at this
  have h2 := x.toNat_lt
  simp at this
  apply UInt8.toNat.inj
  simp
  omega
def zs (xs ys : List UInt8) : List UInt8 := List.zipWith (· ^^^ ·) xs ys
theorem run_zip (r s : W) (xs ys : List UInt8) (h : xs.length = ys.length) : run (r ^^^ s) (zs xs ys) = run r xs ^^^ run s ys := by
  induction xs generalizing r s ys with
  | nil => cases ys with
    | nil => rfl
    | cons y ys => simp at h
  | cons x xs ih => cases ys with
    | nil => simp at h
    | cons y ys =>
      rw [run_cons, run_cons, zs, List.zipWith_cons_cons, run_cons, b8_xor, xor4, it_xor]
      exact ih _ _ _ (by simpa using h)
theorem run_zeros (n : Nat) : run 0#32 (List.replicate n 0) = 0#32 := by
  induction n with
  | zero => rfl
  | succ n ih =>
    rw [List.replicate_succ, run_cons]
    have : it 8 (0#32 ^^^ b8 0) = 0#32 := by decide
    rw [this, ih]
theorem not_not_xor (a b : W) : ~~~ a ^^^ ~~~ b = a ^^^ b := by
  apply BitVec.eq_of_getLsbD_eq
  intro i hi
  simp only [BitVec.getLsbD_xor, BitVec.getLsbD_not, hi, decide_true, Bool.true_and]
  cases a.getLsbD i <;> cases b.getLsbD i <;> rfl
/-- Sums of as many bytes differ by what their difference makes. -/
theorem ofF_diff (xs ys : List UInt8) (h : xs.length = ys.length) : ofF xs ^^^ ofF ys = ofF (zs xs ys) ^^^ ofF (List.replicate xs.length 0) := by
  have hz : (zs xs ys).length = xs.length := by unfold zs; rw [List.length_zipWith]; omega
  have e1 := run_zip (~~~ 0#32) (~~~ 0#32) xs ys h
  have e2 := run_zip (~~~ 0#32) (~~~ 0#32) (zs xs ys) (List.replicate xs.length 0) (by simp [hz])
  have e3 : zs (zs xs ys) (List.replicate xs.length 0) = zs xs ys := by
    unfold zs
    have : ∀ (l : List UInt8) (n : Nat), l.length = n → List.zipWith (· ^^^ ·) l (List.replicate n 0) = l := by
      intro l
      induction l with
      | nil => intro n _; cases n <;> rfl
      | cons a l ih =>
        intro n hn
        cases n with
        | zero => simp at hn
        | succ n => rw [List.replicate_succ, List.zipWith_cons_cons, ih n (by simpa using hn)]; simp
    exact this _ _ (by rw [← hz]; rfl)
  rw [e3] at e2
  unfold ofF addF
  rw [not_not_xor, not_not_xor, ← e1, ← e2]
/-- One bit turned: another sum. -/
theorem run_ne (r : W) (xs zs' : List UInt8) (x y : UInt8) (h : x ≠ y) : run r (xs ++ x :: zs') ≠ run r (xs ++ y :: zs') := by
  intro e
  rw [run_append, run_append, run_cons, run_cons] at e
  have e2 : ∀ a b : W, run a zs' = run b zs' → a = b := by
    intro a b hab
    have : run (a ^^^ (a ^^^ b)) zs' = run a zs' ^^^ it (8 * zs'.length) (a ^^^ b) := run_lin _ _ _
    rw [← BitVec.xor_assoc, BitVec.xor_self, BitVec.zero_xor, ← hab] at this
    have h0 : it (8 * zs'.length) (a ^^^ b) = 0#32 := by
      have h1 := congrArg (fun t => run a zs' ^^^ t) this
      simp only [← BitVec.xor_assoc, BitVec.xor_self, BitVec.zero_xor] at h1
      exact h1.symm
    have := it_inj0 _ _ h0
    have h2 := congrArg (fun t => a ^^^ t) this
    simp only [← BitVec.xor_assoc, BitVec.xor_self, BitVec.zero_xor, BitVec.xor_zero] at h2
    exact h2.symm
  have e3 := e2 _ _ e
  have e4 : it 8 (b8 x ^^^ b8 y) = 0#32 := by
    rw [it_xor, it_xor] at e3
    have h1 := congrArg (fun t => it 8 (run r xs) ^^^ t) e3
    simp only [← BitVec.xor_assoc, BitVec.xor_self, BitVec.zero_xor] at h1
    rw [it_xor, h1, BitVec.xor_self]
  have e5 := it_inj0 _ _ e4
  rw [← b8_xor] at e5
  refine b8_ne _ ?_ e5
  intro h0
  apply h
  have := congrArg (fun t => x ^^^ t) h0
  simp only [← UInt8.xor_assoc, UInt8.xor_self, UInt8.zero_xor, UInt8.xor_zero] at this
  exact this.symm
end Hach.Crc
namespace Hach.Crc
theorem and_bit (a : W) (k : Nat) (hk : k < 32) : (a &&& it k one = 0#32) ↔ a.getLsbD (31 - k) = false := by
  rw [it_one k hk]
  constructor
  · intro h
    have := congrArg (fun t => t.getLsbD (31 - k)) h
    simp only [BitVec.getLsbD_and, BitVec.getLsbD_shiftLeft] at this
    have e : (decide (31 - k < 32) && (!decide (31 - k < 31 - k) && (1#32).getLsbD (31 - k - (31 - k)))) = true := by simp; omega
    rw [Bool.and_assoc, e] at this
    simpa using this
  · intro h
    apply BitVec.eq_of_getLsbD_eq
    intro i hi
    rw [BitVec.getLsbD_and, BitVec.getLsbD_shiftLeft]
    by_cases e : i = 31 - k
    · subst e; rw [h]; simp
    · by_cases h2 : i < 31 - k
      · simp [h2]
      · have : ¬ (i - (31 - k) = 0) := by omega
        simp [BitVec.getLsbD_one, this]
theorem and_one (b : W) : (b &&& 1#32 = 0#32) ↔ b.getLsbD 0 = false := and_bit b 31 (by omega)
theorem it_one_shr (k : Nat) (hk : k < 31) : it (k + 1) one = it k one >>> 1 := by
  have : ∀ k : Fin 31, it (k.1 + 1) one = it k.1 one >>> 1 := by decide
  exact this ⟨k, hk⟩
theorem it_one_gt (k : Nat) (hk : k < 31) : 1 < (it k one).toNat := by
  have : ∀ k : Fin 31, 1 < (it k.1 one).toNat := by decide
  exact this ⟨k, hk⟩
theorem it_one_31 : it 31 one = 1#32 := by decide
theorem stp_odd (r : W) (h : r.getLsbD 0 = true) : stp r = (r >>> 1) ^^^ poly := by unfold stp; rw [if_pos h]
end Hach.Crc

namespace Hach.Jrn
open Hach.Oct Hach.Crc
def magic : List UInt8 := [104, 97, 99, 104, 117, 114]
def sect (xs : List UInt8) : List UInt8 := xs ++ List.replicate (128 - xs.length) 0
def headW (c p n : Nat) : List UInt8 := magic ++ be c 4 ++ be p 4 ++ be n 8
def headN (c p n : Nat) : List UInt8 := sect (headW c p n ++ be (ofF (headW c p n)).toNat 4)
def headB (c p : Int) (n : Nat) (whole : Bool) : List UInt8 :=
  if (0 ≤ c ∧ c ≤ 4000) ∧ (0 ≤ p ∧ p ≤ 4000) then (if whole then (headN c.toNat p.toNat n).set 127 165 else headN c.toNat p.toNat n) else []
def recSum (page n : Nat) (data : List UInt8) : W := addF (ofF (be page 4 ++ be n 8)) data
def recN (page n : Nat) (data : List UInt8) : List UInt8 := sect (be page 4 ++ be (recSum page n data).toNat 4) ++ data
def recGood (page : Int) (data : List UInt8) : Bool := decide ((1 ≤ page ∧ page ≤ 4000) ∧ data.length = 512)
def recB (page : Int) (n : Nat) (data : List UInt8) : List UInt8 := if recGood page data then recN page.toNat n data else []
end Hach.Jrn
namespace Hach.Jrn
open Hach.Oct Hach.Crc
theorem recB_length (page : Int) (n : Nat) (data : List UInt8) : (recB page n data).length ≤ 640 := by
  unfold recB
  split
  · rename_i h
    have := (of_decide_eq_true h).2
    unfold recN sect
    simp [be_length, this]
  · simp
/-- What bytes are, as a record: 640 bytes or more. -/
def recIs (b : List UInt8) (n : Nat) : Bool := decide (recB (val (b.take 4) : Int) n ((b.drop 128).take 512) = b.take 640)
end Hach.Jrn

namespace Hach.Crc
theorem ofF_set_ne (m : List UInt8) (j : Nat) (y : UInt8) (hj : j < m.length) (h : m[j] ≠ y) : ofF (m.set j y) ≠ ofF m := by
  intro e
  have e1 : m = m.take j ++ m[j] :: m.drop (j + 1) := by
    rw [← List.drop_eq_getElem_cons hj, List.take_append_drop]
  have e2 : m.set j y = m.take j ++ y :: m.drop (j + 1) := by
    rw [List.set_eq_take_append_cons_drop, if_pos hj]
  rw [e2] at e
  conv at e => rhs; rw [e1]
  unfold ofF addF at e
  have e3 := congrArg (fun t => ~~~ t) e
  simp only [BitVec.not_not] at e3
  exact run_ne _ _ _ _ _ h e3.symm
end Hach.Crc
namespace Hach.Oct
theorem be4_inj (a b : Hach.Crc.W) (h : be a.toNat 4 = be b.toNat 4) : a = b := by
  have := congrArg val h
  rw [val_be, val_be] at this
  have h1 := a.isLt
  have h2 := b.isLt
  apply BitVec.eq_of_toNat_eq
  have h256 : (256 : Nat) ^ 4 = 2 ^ 32 := by decide
  rw [h256, Nat.mod_eq_of_lt h1, Nat.mod_eq_of_lt h2] at this
  exact this
end Hach.Oct
namespace Hach.Jrn
open Hach.Oct Hach.Crc
/-- The bytes that a record's sum is of. -/
def msg (X N : List UInt8) : List UInt8 := (X.take 4 ++ N) ++ X.drop 128
/-- What a record is in its bytes. -/
def isR (X N : List UInt8) : Prop := X.length = 640 ∧ (X.drop 4).take 4 = be (ofF (msg X N)).toNat 4 ∧ (X.drop 8).take 120 = List.replicate 120 0

theorem recN_parts (p n : Nat) (D : List UInt8) : recN p n D = be p 4 ++ (be (recSum p n D).toNat 4 ++ (List.replicate 120 0 ++ D)) := by
  unfold recN sect
  rw [List.length_append, be_length, be_length, List.append_assoc, List.append_assoc]
theorem recN_isR (p n : Nat) (D : List UInt8) (hD : D.length = 512) : isR (recN p n D) (be n 8) := by
  have h4 : (be p 4).length = 4 := be_length _ _
  have hs : (be (recSum p n D).toNat 4).length = 4 := be_length _ _
  have ht : (recN p n D).take 4 = be p 4 := by rw [recN_parts, List.take_append_of_le_length (by omega), List.take_of_length_le (by omega)]
  have hd4 : (recN p n D).drop 4 = be (recSum p n D).toNat 4 ++ (List.replicate 120 0 ++ D) := by rw [recN_parts, List.drop_append_of_le_length (by omega), List.drop_of_length_le (by omega), List.nil_append]
  have hd8 : (recN p n D).drop 8 = List.replicate 120 0 ++ D := by
    rw [show 8 = 4 + 4 from rfl, ← List.drop_drop, hd4, List.drop_append_of_le_length (by omega), List.drop_of_length_le (by omega), List.nil_append]
  have hd128 : (recN p n D).drop 128 = D := by
    rw [show 128 = 8 + 120 from rfl, ← List.drop_drop, hd8, List.drop_append_of_le_length (by simp), List.drop_of_length_le (by simp), List.nil_append]
  refine ⟨?_, ?_, ?_⟩
  · rw [recN_parts]; simp only [List.length_append, List.length_replicate, be_length, hD]
  · rw [hd4, List.take_append_of_le_length (by omega), List.take_of_length_le (by omega)]
    unfold msg
    rw [ht, hd128]
    unfold recSum
    rw [← ofF_append]
  · rw [hd8, List.take_append_of_le_length (by simp), List.take_of_length_le (by simp)]

theorem recIs_isR (X : List UInt8) (n : Nat) (hX : X.length = 640) (h : recIs X n = true) : isR X (be n 8) := by
  have h := of_decide_eq_true h
  rw [List.take_of_length_le (show X.length ≤ 640 by omega)] at h
  have hg : recGood (val (X.take 4) : Int) ((X.drop 128).take 512) = true := by
    cases hb : recGood (val (X.take 4) : Int) ((X.drop 128).take 512) with
    | true => rfl
    | false =>
      unfold recB at h
      rw [hb, if_neg (by decide)] at h
      rw [← h] at hX
      simp at hX
  unfold recB at h
  rw [hg, if_pos rfl] at h
  rw [← h]
  exact recN_isR _ _ _ (of_decide_eq_true hg).2

theorem isR_set (X N : List UInt8) (i : Nat) (y : UInt8) (hN : N.length = 8) (h : isR X N) (hi : i < X.length) (hy : X[i] ≠ y) : ¬ isR (X.set i y) N := by
  intro k
  obtain ⟨l1, s1, z1⟩ := h
  obtain ⟨l2, s2, z2⟩ := k
  have same : ∀ (a b : Nat), (X.drop a).take b = ((X.set i y).drop a).take b → a ≤ i → i < a + b → False := by
    intro a b e ha hb
    have e1 : ((X.drop a).take b)[i - a]? = some X[i] := by
      rw [List.getElem?_take_of_lt (by omega), List.getElem?_drop, show a + (i - a) = i by omega, List.getElem?_eq_getElem hi]
    have e2 : (((X.set i y).drop a).take b)[i - a]? = some y := by
      rw [List.getElem?_take_of_lt (by omega), List.getElem?_drop, show a + (i - a) = i by omega, List.getElem?_set_self hi]
    rw [e, e2] at e1
    injection e1 with e1
    exact hy e1.symm
  by_cases c4 : i < 4
  · have m : msg (X.set i y) N = (msg X N).set i y := by
      unfold msg
      rw [List.take_set, List.drop_set, if_pos (by omega), List.append_assoc, List.append_assoc, List.set_append_left _ _ (by rw [List.length_take]; omega)]
    have hsum : (X.drop 4).take 4 = ((X.set i y).drop 4).take 4 := by rw [List.drop_set, if_pos (by omega)]
    rw [s1, s2, m] at hsum
    have e := be4_inj _ _ hsum
    have hl : (msg X N).length = 524 := by unfold msg; simp only [List.length_append, List.length_take, List.length_drop, hN]; omega
    refine ofF_set_ne (msg X N) i y (by omega) ?_ e.symm
    have : (msg X N)[i]? = X[i]? := by
      unfold msg
      rw [List.append_assoc, List.getElem?_append_left (by rw [List.length_take]; omega), List.getElem?_take_of_lt c4]
    rw [List.getElem?_eq_getElem (by omega), List.getElem?_eq_getElem hi] at this
    injection this with this
    rw [this]; exact hy
  · by_cases c8 : i < 8
    · have m : msg (X.set i y) N = msg X N := by
        unfold msg
        rw [List.take_set_of_le (by omega), List.drop_set, if_pos (by omega)]
      rw [m, ← s1] at s2
      exact same 4 4 s2.symm (by omega) (by omega)
    · by_cases c128 : i < 128
      · rw [← z1] at z2
        exact same 8 120 z2.symm (by omega) (by omega)
      · have m : msg (X.set i y) N = (msg X N).set (i - 116) y := by
          have hl12 : (X.take 4 ++ N).length = 12 := by simp only [List.length_append, List.length_take, hN]; omega
          have e12 : i - 116 - (X.take 4 ++ N).length = i - 128 := by omega
          unfold msg
          rw [List.take_set_of_le (by omega), List.drop_set, if_neg (by omega), List.set_append_right _ _ (by omega), e12]
        have hsum : (X.drop 4).take 4 = ((X.set i y).drop 4).take 4 := by rw [List.drop_set, if_neg (by omega), List.take_set_of_le (by omega)]
        rw [s1, s2, m] at hsum
        have e := be4_inj _ _ hsum
        have hl : (msg X N).length = 524 := by unfold msg; simp only [List.length_append, List.length_take, List.length_drop, hN]; omega
        refine ofF_set_ne (msg X N) (i - 116) y (by omega) ?_ e.symm
        have : (msg X N)[i - 116]? = X[i]? := by
          unfold msg
          rw [List.getElem?_append_right (by simp only [List.length_append, List.length_take, hN]; omega), List.getElem?_drop]
          congr 1
          simp only [List.length_append, List.length_take, hN]; omega
        rw [List.getElem?_eq_getElem (by omega), List.getElem?_eq_getElem hi] at this
        injection this with this
        rw [this]; exact hy

theorem isR_nonce (X N : List UInt8) (i : Nat) (y : UInt8) (hN : N.length = 8) (h : isR X N) (hi : i < N.length) (hy : N[i] ≠ y) : ¬ isR X (N.set i y) := by
  intro k
  have m : msg X (N.set i y) = (msg X N).set (4 + i) y := by
    unfold msg
    have := h.1
    rw [List.set_append_left _ _ (by simp only [List.length_append, List.length_take, hN]; omega), List.set_append_right _ _ (by simp only [List.length_take]; omega)]
    congr 3
    simp only [List.length_take]; omega
  have s1 := h.2.1
  have s2 := k.2.1
  rw [s1, m] at s2
  have e := be4_inj _ _ s2
  have hl : (msg X N).length = 524 := by unfold msg; simp only [List.length_append, List.length_take, List.length_drop, hN]; have := h.1; omega
  refine ofF_set_ne (msg X N) (4 + i) y (by omega) ?_ e.symm
  have : (msg X N)[4 + i]? = N[i]? := by
    unfold msg
    have := h.1
    rw [List.getElem?_append_left (by simp only [List.length_append, List.length_take, hN]; omega), List.getElem?_append_right (by simp only [List.length_take]; omega)]
    congr 1
    simp only [List.length_take]; omega
  rw [List.getElem?_eq_getElem (by omega), List.getElem?_eq_getElem hi] at this
  injection this with this
  rw [this]; exact hy

theorem rec_flip (p n : Nat) (D : List UInt8) (hD : D.length = 512) (i : Nat) (y : UInt8) (hi : i < (recN p n D).length) (hy : (recN p n D)[i] ≠ y) : recIs ((recN p n D).set i y) n = false := by
  have h := recN_isR p n D hD
  cases hb : recIs ((recN p n D).set i y) n with
  | false => rfl
  | true => exact absurd (recIs_isR _ _ (by rw [List.length_set]; exact h.1) hb) (isR_set _ _ i y (be_length _ _) h hi hy)
theorem rec_nonce (p n n' : Nat) (D : List UInt8) (hD : D.length = 512) (i : Nat) (y : UInt8) (hi : i < 8) (hy : (be n 8)[i]? ≠ some y) (hn : be n' 8 = (be n 8).set i y) : recIs (recN p n D) n' = false := by
  have h := recN_isR p n D hD
  cases hb : recIs (recN p n D) n' with
  | false => rfl
  | true =>
    have := recIs_isR _ _ h.1 hb
    rw [hn] at this
    have hl : i < (be n 8).length := by rw [be_length]; exact hi
    refine absurd this (isR_nonce _ _ i y (be_length _ _) h hl ?_)
    intro e
    apply hy
    rw [List.getElem?_eq_getElem hl, e]
end Hach.Jrn
