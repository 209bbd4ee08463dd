/- PLAIN LAWS: a record one byte of which (but of its padding's, too) is another one is none; nor under a nonce one byte of which is another one. -/
import Derived.Test.YtlmlplpbgkbhdaaDoorJrnP
set_option linter.unusedVariables false
namespace Hach.Crc
theorem ofF_set_ne (m : List UInt8) (j : Nat) (y : UInt8) (hj : j < m.length) (h : m[j] ≠ y) : ofF (m.set j y) ≠ ofF m := by
  intro e
  have e1 : m = m.take j ++ m[j] :: m.drop (j + 1) := by
    rw [← List.drop_eq_getElem_cons hj, List.take_append_drop]
  have e2 : m.set j y = m.take j ++ y :: m.drop (j + 1) := by
    rw [List.set_eq_take_append_cons_drop, if_pos hj]
  rw [e2] at e
  conv at e => rhs; rw [e1]
  unfold ofF addF at e
  have e3 := congrArg (fun t => ~~~ t) e
  simp only [BitVec.not_not] at e3
  exact run_ne _ _ _ _ _ h e3.symm
end Hach.Crc
namespace Hach.Oct
theorem be4_inj (a b : Hach.Crc.W) (h : be a.toNat 4 = be b.toNat 4) : a = b := by
  have := congrArg val h
  rw [val_be, val_be] at this
  have h1 := a.isLt
  have h2 := b.isLt
  apply BitVec.eq_of_toNat_eq
  have h256 : (256 : Nat) ^ 4 = 2 ^ 32 := by decide
  rw [h256, Nat.mod_eq_of_lt h1, Nat.mod_eq_of_lt h2] at this
  exact this
end Hach.Oct
namespace Hach.Jrn
open Hach.Oct Hach.Crc
/-- The bytes that a record's sum is of. -/
def msg (X N : List UInt8) : List UInt8 := (X.take 4 ++ N) ++ X.drop 128
/-- What a record is in its bytes. -/
def isR (X N : List UInt8) : Prop := X.length = 640 ∧ (X.drop 4).take 4 = be (ofF (msg X N)).toNat 4 ∧ (X.drop 8).take 120 = List.replicate 120 0

theorem recN_parts (p n : Nat) (D : List UInt8) : recN p n D = be p 4 ++ (be (recSum p n D).toNat 4 ++ (List.replicate 120 0 ++ D)) := by
  unfold recN sect
  rw [List.length_append, be_length, be_length, List.append_assoc, List.append_assoc]
theorem recN_isR (p n : Nat) (D : List UInt8) (hD : D.length = 512) : isR (recN p n D) (be n 8) := by
  have h4 : (be p 4).length = 4 := be_length _ _
  have hs : (be (recSum p n D).toNat 4).length = 4 := be_length _ _
  have ht : (recN p n D).take 4 = be p 4 := by rw [recN_parts, List.take_append_of_le_length (by omega), List.take_of_length_le (by omega)]
  have hd4 : (recN p n D).drop 4 = be (recSum p n D).toNat 4 ++ (List.replicate 120 0 ++ D) := by rw [recN_parts, List.drop_append_of_le_length (by omega), List.drop_of_length_le (by omega), List.nil_append]
  have hd8 : (recN p n D).drop 8 = List.replicate 120 0 ++ D := by
    rw [show 8 = 4 + 4 from rfl, ← List.drop_drop, hd4, List.drop_append_of_le_length (by omega), List.drop_of_length_le (by omega), List.nil_append]
  have hd128 : (recN p n D).drop 128 = D := by
    rw [show 128 = 8 + 120 from rfl, ← List.drop_drop, hd8, List.drop_append_of_le_length (by simp), List.drop_of_length_le (by simp), List.nil_append]
  refine ⟨?_, ?_, ?_⟩
  · rw [recN_parts]; simp only [List.length_append, List.length_replicate, be_length, hD]
  · rw [hd4, List.take_append_of_le_length (by omega), List.take_of_length_le (by omega)]
    unfold msg
    rw [ht, hd128]
    unfold recSum
    rw [← ofF_append]
  · rw [hd8, List.take_append_of_le_length (by simp), List.take_of_length_le (by simp)]

theorem recIs_isR (X : List UInt8) (n : Nat) (hX : X.length = 640) (h : recIs X n = true) : isR X (be n 8) := by
  have h := of_decide_eq_true h
  rw [List.take_of_length_le (show X.length ≤ 640 by omega)] at h
  have hg : recGood (val (X.take 4) : Int) ((X.drop 128).take 512) = true := by
    cases hb : recGood (val (X.take 4) : Int) ((X.drop 128).take 512) with
    | true => rfl
    | false =>
      unfold recB at h
      rw [hb, if_neg (by decide)] at h
      rw [← h] at hX
      simp at hX
  unfold recB at h
  rw [hg, if_pos rfl] at h
  rw [← h]
  exact recN_isR _ _ _ (of_decide_eq_true hg).2

theorem isR_set (X N : List UInt8) (i : Nat) (y : UInt8) (hN : N.length = 8) (h : isR X N) (hi : i < X.length) (hy : X[i] ≠ y) : ¬ isR (X.set i y) N := by
  intro k
  obtain ⟨l1, s1, z1⟩ := h
  obtain ⟨l2, s2, z2⟩ := k
  have same : ∀ (a b : Nat), (X.drop a).take b = ((X.set i y).drop a).take b → a ≤ i → i < a + b → False := by
    intro a b e ha hb
    have e1 : ((X.drop a).take b)[i - a]? = some X[i] := by
      rw [List.getElem?_take_of_lt (by omega), List.getElem?_drop, show a + (i - a) = i by omega, List.getElem?_eq_getElem hi]
    have e2 : (((X.set i y).drop a).take b)[i - a]? = some y := by
      rw [List.getElem?_take_of_lt (by omega), List.getElem?_drop, show a + (i - a) = i by omega, List.getElem?_set_self hi]
    rw [e, e2] at e1
    injection e1 with e1
    exact hy e1.symm
  by_cases c4 : i < 4
  · have m : msg (X.set i y) N = (msg X N).set i y := by
      unfold msg
      rw [List.take_set, List.drop_set, if_pos (by omega), List.append_assoc, List.append_assoc, List.set_append_left _ _ (by rw [List.length_take]; omega)]
    have hsum : (X.drop 4).take 4 = ((X.set i y).drop 4).take 4 := by rw [List.drop_set, if_pos (by omega)]
    rw [s1, s2, m] at hsum
    have e := be4_inj _ _ hsum
    have hl : (msg X N).length = 524 := by unfold msg; simp only [List.length_append, List.length_take, List.length_drop, hN]; omega
    refine ofF_set_ne (msg X N) i y (by omega) ?_ e.symm
    have : (msg X N)[i]? = X[i]? := by
      unfold msg
      rw [List.append_assoc, List.getElem?_append_left (by rw [List.length_take]; omega), List.getElem?_take_of_lt c4]
    rw [List.getElem?_eq_getElem (by omega), List.getElem?_eq_getElem hi] at this
    injection this with this
    rw [this]; exact hy
  · by_cases c8 : i < 8
    · have m : msg (X.set i y) N = msg X N := by
        unfold msg
        rw [List.take_set_of_le (by omega), List.drop_set, if_pos (by omega)]
      rw [m, ← s1] at s2
      exact same 4 4 s2.symm (by omega) (by omega)
    · by_cases c128 : i < 128
      · rw [← z1] at z2
        exact same 8 120 z2.symm (by omega) (by omega)
      · have m : msg (X.set i y) N = (msg X N).set (i - 116) y := by
          have hl12 : (X.take 4 ++ N).length = 12 := by simp only [List.length_append, List.length_take, hN]; omega
          have e12 : i - 116 - (X.take 4 ++ N).length = i - 128 := by omega
          unfold msg
          rw [List.take_set_of_le (by omega), List.drop_set, if_neg (by omega), List.set_append_right _ _ (by omega), e12]
        have hsum : (X.drop 4).take 4 = ((X.set i y).drop 4).take 4 := by rw [List.drop_set, if_neg (by omega), List.take_set_of_le (by omega)]
        rw [s1, s2, m] at hsum
        have e := be4_inj _ _ hsum
        have hl : (msg X N).length = 524 := by unfold msg; simp only [List.length_append, List.length_take, List.length_drop, hN]; omega
        refine ofF_set_ne (msg X N) (i - 116) y (by omega) ?_ e.symm
        have : (msg X N)[i - 116]? = X[i]? := by
          unfold msg
          rw [List.getElem?_append_right (by simp only [List.length_append, List.length_take, hN]; omega), List.getElem?_drop]
          congr 1
          simp only [List.length_append, List.length_take, hN]; omega
        rw [List.getElem?_eq_getElem (by omega), List.getElem?_eq_getElem hi] at this
        injection this with this
        rw [this]; exact hy

theorem isR_nonce (X N : List UInt8) (i : Nat) (y : UInt8) (hN : N.length = 8) (h : isR X N) (hi : i < N.length) (hy : N[i] ≠ y) : ¬ isR X (N.set i y) := by
  intro k
  have m : msg X (N.set i y) = (msg X N).set (4 + i) y := by
    unfold msg
    have := h.1
    rw [List.set_append_left _ _ (by simp only [List.length_append, List.length_take, hN]; omega), List.set_append_right _ _ (by simp only [List.length_take]; omega)]
    congr 3
    simp only [List.length_take]; omega
  have s1 := h.2.1
  have s2 := k.2.1
  rw [s1, m] at s2
  have e := be4_inj _ _ s2
  have hl : (msg X N).length = 524 := by unfold msg; simp only [List.length_append, List.length_take, List.length_drop, hN]; have := h.1; omega
  refine ofF_set_ne (msg X N) (4 + i) y (by omega) ?_ e.symm
  have : (msg X N)[4 + i]? = N[i]? := by
    unfold msg
    have := h.1
    rw [List.getElem?_append_left (by simp only [List.length_append, List.length_take, hN]; omega), List.getElem?_append_right (by simp only [List.length_take]; omega)]
    congr 1
    simp only [List.length_take]; omega
  rw [List.getElem?_eq_getElem (by omega), List.getElem?_eq_getElem hi] at this
  injection this with this
  rw [this]; exact hy

theorem rec_flip (p n : Nat) (D : List UInt8) (hD : D.length = 512) (i : Nat) (y : UInt8) (hi : i < (recN p n D).length) (hy : (recN p n D)[i] ≠ y) : recIs ((recN p n D).set i y) n = false := by
  have h := recN_isR p n D hD
  cases hb : recIs ((recN p n D).set i y) n with
  | false => rfl
  | true => exact absurd (recIs_isR _ _ (by rw [List.length_set]; exact h.1) hb) (isR_set _ _ i y (be_length _ _) h hi hy)
theorem rec_nonce (p n n' : Nat) (D : List UInt8) (hD : D.length = 512) (i : Nat) (y : UInt8) (hi : i < 8) (hy : (be n 8)[i]? ≠ some y) (hn : be n' 8 = (be n 8).set i y) : recIs (recN p n D) n' = false := by
  have h := recN_isR p n D hD
  cases hb : recIs (recN p n D) n' with
  | false => rfl
  | true =>
    have := recIs_isR _ _ h.1 hb
    rw [hn] at this
    have hl : i < (be n 8).length := by rw [be_length]; exact hi
    refine absurd this (isR_nonce _ _ i y (be_length _ _) h hl ?_)
    intro e
    apply hy
    rw [List.getElem?_eq_getElem hl, e]
end Hach.Jrn
