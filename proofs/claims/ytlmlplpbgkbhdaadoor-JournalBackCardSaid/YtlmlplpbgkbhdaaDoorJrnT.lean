/- PLAIN LAWS: what bytes are, as a head; a head's bytes are it; bytes without the mark are none. No program in sight. -/
import Derived.Test.YtlmlplpbgkbhdaaDoorJrnQ
import Derived.Test.YtlmlplpbgkbhdaaDoorJrn11
set_option linter.unusedVariables false
namespace Hach.Jrn
open Hach.Oct Hach.Crc
def hdC (b : List UInt8) : Nat := val ((b.drop 6).take 4)
def hdP (b : List UInt8) : Nat := val ((b.drop 10).take 4)
def hdN (b : List UInt8) : Nat := val ((b.drop 14).take 8)
/-- Do 128 bytes or more begin with a whole head? -/
def headIs (b : List UInt8) : Bool := decide (headB (hdC b) (hdP b) (hdN b) true = b.take 128)
def hotB (b : List UInt8) : Bool := if b.length < 128 then false else headIs b
theorem hdC_lt (b : List UInt8) : hdC b < 4294967296 := by
  refine Nat.lt_of_lt_of_le (val_lt _) ?_
  rw [List.length_take]
  exact Nat.le_trans (Nat.pow_le_pow_right (by decide) (show min 4 _ ≤ 4 by omega)) (by decide)
theorem hdP_lt (b : List UInt8) : hdP b < 4294967296 := by
  refine Nat.lt_of_lt_of_le (val_lt _) ?_
  rw [List.length_take]
  exact Nat.le_trans (Nat.pow_le_pow_right (by decide) (show min 4 _ ≤ 4 by omega)) (by decide)
theorem hdN_lt (b : List UInt8) : hdN b < 18446744073709551616 := by
  refine Nat.lt_of_lt_of_le (val_lt _) ?_
  rw [List.length_take]
  exact Nat.le_trans (Nat.pow_le_pow_right (by decide) (show min 8 _ ≤ 8 by omega)) (by decide)

theorem headN_form (c p n : Nat) : headN c p n = magic ++ (be c 4 ++ (be p 4 ++ (be n 8 ++ (be (ofF (headW c p n)).toNat 4 ++ List.replicate 102 0)))) := by
  have hl : (headW c p n ++ be (ofF (headW c p n)).toNat 4).length = 26 := by
    unfold headW; simp only [List.length_append, be_length]; rfl
  unfold headN sect
  rw [hl]
  unfold headW
  simp only [List.append_assoc]
theorem headN_length (c p n : Nat) : (headN c p n).length = 128 := by
  rw [headN_form]; simp only [List.length_append, be_length, List.length_replicate]; rfl
theorem headT_form (c p n : Nat) : (headN c p n).set 127 165 = magic ++ (be c 4 ++ (be p 4 ++ (be n 8 ++ (be (ofF (headW c p n)).toNat 4 ++ (List.replicate 102 (0 : UInt8)).set 101 165)))) := by
  rw [headN_form]
  have hm : magic.length = 6 := rfl
  rw [List.set_append_right _ _ (by rw [hm]; decide), List.set_append_right _ _ (by rw [be_length, hm]; decide), List.set_append_right _ _ (by rw [be_length, be_length, hm]; decide),
    List.set_append_right _ _ (by rw [be_length, be_length, be_length, hm]; decide), List.set_append_right _ _ (by rw [be_length, be_length, be_length, be_length, hm]; decide)]
  simp only [be_length, hm]
theorem parts6 {A B C D E : List UInt8} (ha : A.length = 6) (hb : B.length = 4) (hc : C.length = 4) (hd : D.length = 8) :
    ((A ++ (B ++ (C ++ (D ++ E)))).drop 6).take 4 = B ∧ ((A ++ (B ++ (C ++ (D ++ E)))).drop 10).take 4 = C ∧ ((A ++ (B ++ (C ++ (D ++ E)))).drop 14).take 8 = D := by
  refine ⟨?_, ?_, ?_⟩
  · rw [List.drop_append_of_le_length (by omega), List.drop_of_length_le (by omega), List.nil_append, List.take_append_of_le_length (by omega), List.take_of_length_le (by omega)]
  · rw [← List.append_assoc, List.drop_append_of_le_length (by rw [List.length_append]; omega), List.drop_of_length_le (by rw [List.length_append]; omega), List.nil_append, List.take_append_of_le_length (by omega), List.take_of_length_le (by omega)]
  · rw [← List.append_assoc, ← List.append_assoc, List.drop_append_of_le_length (by simp only [List.length_append]; omega), List.drop_of_length_le (by simp only [List.length_append]; omega), List.nil_append, List.take_append_of_le_length (by omega), List.take_of_length_le (by omega)]
theorem hd_of_head (c p n : Nat) (X : List UInt8) (hc : c < 4294967296) (hp : p < 4294967296) (hn : n < 18446744073709551616) :
    hdC ((headN c p n).set 127 165 ++ X) = c ∧ hdP ((headN c p n).set 127 165 ++ X) = p ∧ hdN ((headN c p n).set 127 165 ++ X) = n := by
  unfold hdC hdP hdN
  rw [headT_form]
  simp only [List.append_assoc]
  obtain ⟨h1, h2, h3⟩ := parts6 (A := magic) (B := be c 4) (C := be p 4) (D := be n 8) (E := be (ofF (headW c p n)).toNat 4 ++ ((List.replicate 102 (0 : UInt8)).set 101 165 ++ X)) rfl (be_length _ _) (be_length _ _) (be_length _ _)
  rw [h1, h2, h3, val_be, val_be, val_be]
  exact ⟨Nat.mod_eq_of_lt hc, Nat.mod_eq_of_lt hp, Nat.mod_eq_of_lt hn⟩
/-- A whole head's bytes, whatever is behind, are it. -/
theorem headIs_head (c p : Int) (n : Nat) (X : List UInt8) (hc : 0 ≤ c ∧ c ≤ 4000) (hp : 0 ≤ p ∧ p ≤ 4000) (hn : n < 18446744073709551616) :
    headIs (headB c p n true ++ X) = true ∧ (hdC (headB c p n true ++ X) : Int) = c ∧ (hdP (headB c p n true ++ X) : Int) = p ∧ hdN (headB c p n true ++ X) = n := by
  have e : headB c p n true = (headN c.toNat p.toNat n).set 127 165 := by unfold headB; rw [if_pos ⟨hc, hp⟩]; rfl
  obtain ⟨h1, h2, h3⟩ := hd_of_head c.toNat p.toNat n X (by omega) (by omega) hn
  rw [← e] at h1 h2 h3
  refine ⟨?_, by omega, by omega, h3⟩
  unfold headIs
  rw [h1, h2, h3, Int.toNat_of_nonneg hc.1, Int.toNat_of_nonneg hp.1]
  have hl : (headB c p n true).length = 128 := by rw [e, List.length_set]; exact headN_length _ _ _
  rw [List.take_append_of_le_length (by omega), List.take_of_length_le (by omega)]
  exact decide_eq_true rfl
/-- Without the mark at the end of a sector bytes are no head. -/
theorem headIs_unmarked (b : List UInt8) (h : b[127]? ≠ some 165) (hl : 128 ≤ b.length) : headIs b = false := by
  unfold headIs
  refine decide_eq_false fun e => ?_
  have h1 := congrArg List.length e
  unfold headB at h1 e
  split at h1
  · rename_i hg
    rw [if_pos hg, if_pos rfl] at e
    apply h
    have h2 := congrArg (fun x => x[127]?) e
    simp only [List.getElem?_take] at h2
    rw [if_pos (by decide)] at h2
    rw [← h2, List.getElem?_set_self (by rw [headN_length]; decide)]
  · rw [List.length_take] at h1
    simp only [List.length_nil] at h1
    omega
end Hach.Jrn
