/- PLAIN LAWS of numbers as bytes. No program in sight. -/
namespace Hach.Oct
/-- The lowest bytes, the lowest first. -/
def le (n : Nat) : Nat → List UInt8
  | 0 => []
  | s + 1 => le n s ++ [UInt8.ofNat (n / 2 ^ (8 * s))]
def be (n s : Nat) : List UInt8 := (le n s).reverse
theorem le_length (n s : Nat) : (le n s).length = s := by
  induction s with
  | zero => rfl
  | succ s ih => simp [le, ih]
theorem be_length (n s : Nat) : (be n s).length = s := by unfold be; rw [List.length_reverse, le_length]
def val (xs : List UInt8) : Nat := xs.foldl (fun a x => a * 256 + x.toNat) 0
theorem val_foldl (xs : List UInt8) (a : Nat) : xs.foldl (fun a x => a * 256 + x.toNat) a = a * 256 ^ xs.length + val xs := by
  induction xs generalizing a with
  | nil => simp [val]
  | cons x xs ih =>
    unfold val
    rw [List.foldl_cons, List.foldl_cons, ih, ih (0 * 256 + x.toNat), List.length_cons, Nat.pow_succ, Nat.add_mul, Nat.zero_mul, Nat.zero_add, Nat.mul_assoc, Nat.mul_comm 256]
    omega
theorem val_nil : val [] = 0 := rfl
theorem val_cons (x : UInt8) (xs : List UInt8) : val (x :: xs) = x.toNat * 256 ^ xs.length + val xs := by
  unfold val; rw [List.foldl_cons, Nat.zero_mul, Nat.zero_add, val_foldl]; rfl
theorem val_snoc (xs : List UInt8) (x : UInt8) : val (xs ++ [x]) = val xs * 256 + x.toNat := by
  unfold val; rw [List.foldl_append]; rfl
theorem val_lt (xs : List UInt8) : val xs < 256 ^ xs.length := by
  induction xs with
  | nil => decide
  | cons x xs ih =>
    rw [val_cons, List.length_cons, Nat.pow_succ]
    have := x.toNat_lt
    have h : x.toNat * 256 ^ xs.length ≤ 255 * 256 ^ xs.length := Nat.mul_le_mul_right _ (by omega)
    omega
theorem be_succ (n s : Nat) : be n (s + 1) = UInt8.ofNat (n / 2 ^ (8 * s)) :: be n s := by
  unfold be; rw [le, List.reverse_append]; rfl
theorem pow_256 (s : Nat) : (256 : Nat) ^ s = 2 ^ (8 * s) := by rw [Nat.pow_mul]
theorem val_be (n s : Nat) : val (be n s) = n % 256 ^ s := by
  induction s with
  | zero => rw [Nat.pow_zero, Nat.mod_one]; rfl
  | succ s ih =>
    have h8 : (2 : Nat) ^ 8 = 256 := by decide
    rw [be_succ, val_cons, ih, be_length, UInt8.toNat_ofNat', ← pow_256, h8, Nat.pow_succ (n := 256), Nat.mod_mul, Nat.mul_comm]
    omega
theorem val_inj {xs ys : List UInt8} (hl : xs.length = ys.length) (h : val xs = val ys) : xs = ys := by
  induction xs generalizing ys with
  | nil => cases ys with
    | nil => rfl
    | cons y ys => simp at hl
  | cons x xs ih => cases ys with
    | nil => simp at hl
    | cons y ys =>
      have hl' : xs.length = ys.length := by simpa using hl
      rw [val_cons, val_cons, hl'] at h
      have h1 := val_lt xs
      have h2 := val_lt ys
      rw [hl'] at h1
      have hx : x.toNat = y.toNat := by
        have a1 : (x.toNat * 256 ^ ys.length + val xs) / 256 ^ ys.length = x.toNat := by
          rw [Nat.mul_comm, Nat.mul_add_div (Nat.pow_pos (by decide)), Nat.div_eq_of_lt h1]; omega
        have a2 : (y.toNat * 256 ^ ys.length + val ys) / 256 ^ ys.length = y.toNat := by
          rw [Nat.mul_comm, Nat.mul_add_div (Nat.pow_pos (by decide)), Nat.div_eq_of_lt h2]; omega
        rw [← a1, ← a2, h]
      rw [hx] at h
      rw [UInt8.toNat.inj hx, ih hl' (by omega)]
theorem be_val (xs : List UInt8) : be (val xs) xs.length = xs := by
  apply val_inj (be_length _ _)
  rw [val_be, Nat.mod_eq_of_lt (val_lt xs)]
theorem le_get (n s i : Nat) (h : i < s) : (le n s)[i]? = some (UInt8.ofNat (n / 2 ^ (8 * i))) := by
  induction s with
  | zero => omega
  | succ s ih =>
    rw [le]
    by_cases e : i < s
    · rw [List.getElem?_append_left (by rw [le_length]; exact e), ih e]
    · obtain rfl : i = s := by omega
      rw [List.getElem?_append_right (by rw [le_length]; omega), le_length, Nat.sub_self]; rfl

/-! ### turning a row round, pair by pair -/
def swp (l : List UInt8) (i j : Nat) : List UInt8 := (l.set i (l[j]?.getD 0)).set j (l[i]?.getD 0)
def rev (l : List UInt8) : Nat → List UInt8
  | 0 => l
  | i + 1 => swp (rev l i) i (l.length - 1 - i)
theorem swp_length (l : List UInt8) (i j : Nat) : (swp l i j).length = l.length := by unfold swp; simp
theorem rev_length (l : List UInt8) (i : Nat) : (rev l i).length = l.length := by
  induction i with
  | zero => rfl
  | succ i ih => rw [rev, swp_length, ih]
theorem rev_get (l : List UInt8) (i : Nat) (h : 2 * i ≤ l.length) (k : Nat) (hk : k < l.length) :
    (rev l i)[k]? = if k < i ∨ l.length - i ≤ k then l[l.length - 1 - k]? else l[k]? := by
  induction i generalizing k with
  | zero => rw [if_neg (by omega)]; rfl
  | succ i ih =>
    have ih := ih (by omega)
    rw [rev, swp]
    have e1 := ih i (by omega)
    have e2 := ih (l.length - 1 - i) (by omega)
    rw [if_neg (by omega)] at e1
    rw [if_neg (by omega)] at e2
    rw [e1, e2, List.getElem?_set, List.getElem?_set, ih k hk, List.length_set, rev_length]
    by_cases h1 : l.length - 1 - i = k
    · rw [if_pos h1, if_pos (by omega), if_pos (by omega)]
      subst h1
      rw [show l.length - 1 - (l.length - 1 - i) = i by omega, List.getElem?_eq_getElem (by omega)]; rfl
    · rw [if_neg h1]
      by_cases h2 : i = k
      · subst h2
        rw [if_pos rfl, if_pos (by omega), if_pos (by omega), List.getElem?_eq_getElem (by omega)]; rfl
      · rw [if_neg h2]
        by_cases h3 : k < i ∨ l.length - i ≤ k
        · rw [if_pos h3, if_pos (by omega)]
        · rw [if_neg h3, if_neg (by omega)]
theorem rev_done (l : List UInt8) (i : Nat) (h : 2 * i ≤ l.length) (h2 : l.length ≤ 2 * i + 1) : rev l i = l.reverse := by
  apply List.ext_getElem?
  intro k
  by_cases hk : k < l.length
  · rw [rev_get l i h k hk, List.getElem?_reverse hk]
    by_cases c : k < i ∨ l.length - i ≤ k
    · rw [if_pos c]
    · rw [if_neg c, show l.length - 1 - k = k by omega]
  · rw [List.getElem?_eq_none (by rw [rev_length]; omega), List.getElem?_eq_none (by rw [List.length_reverse]; omega)]
end Hach.Oct
