/- PLAIN LAWS: a whole journal's bytes, whatever is behind, are that journal. No program in sight. -/
import Derived.Test.YtlmlplpbgkbhdaaDoorJrnV
import Derived.Test.YtlmlplpbgkbhdaaDoorJrn15
set_option linter.unusedVariables false
namespace Hach.Jrn
open Hach.Oct Hach.Crc
theorem recB_good {p : Int} {n : Nat} {D : List UInt8} (h : recGood p D = true) : recB p n D = recN p.toNat n D := by unfold recB; rw [h]; rfl
theorem recsB_length {n : Nat} {l : List (Int × List UInt8)} (h : ∀ r ∈ l, recGood r.1 r.2 = true) : (recsB n l).length = 640 * l.length := by
  induction l with
  | nil => rfl
  | cons r l ih =>
    have h1 := recB_length_good (n := n) (h r List.mem_cons_self)
    have h2 := ih fun q hq => h q (List.mem_cons_of_mem _ hq)
    unfold recsB at h2 ⊢
    rw [List.flatMap_cons, List.length_append, h1, h2, List.length_cons]
    omega
theorem recsB_drop {n : Nat} {l : List (Int × List UInt8)} (h : ∀ r ∈ l, recGood r.1 r.2 = true) (i : Nat) (hi : i ≤ l.length) : (recsB n l).drop (640 * i) = recsB n (l.drop i) := by
  induction i generalizing l with
  | zero => rfl
  | succ i ih =>
    cases l with
    | nil => simp at hi
    | cons r l =>
      have h1 := recB_length_good (n := n) (h r List.mem_cons_self)
      have h2 := ih (l := l) (fun q hq => h q (List.mem_cons_of_mem _ hq)) (by simpa using hi)
      rw [List.drop_succ_cons, ← h2]
      show (recB r.1 n r.2 ++ recsB n l).drop (640 * (i + 1)) = _
      have d0 : (recB r.1 n r.2).drop 640 = [] := List.drop_of_length_le (by omega)
      rw [show 640 * (i + 1) = 640 + 640 * i by omega, ← List.drop_drop, List.drop_append_of_le_length (by omega), d0, List.nil_append]
/-- A record's bytes, whatever is behind, are it. -/
theorem rec_back (p : Int) (n : Nat) (D R : List UInt8) (h : recGood p D = true) :
    recIs (recB p n D ++ R) n = true ∧ (val ((recB p n D ++ R).take 4) : Int) = p ∧ ((recB p n D ++ R).drop 128).take 512 = D := by
  have hl := recB_length_good (n := n) h
  have hg := of_decide_eq_true h
  have hD := hg.2
  have e := recB_good (n := n) h
  have h4 : (be p.toNat 4).length = 4 := be_length _ _
  have hs : (be (recSum p.toNat n D).toNat 4).length = 4 := be_length _ _
  have t4 : (recB p n D ++ R).take 4 = be p.toNat 4 := by
    rw [e, recN_parts, List.append_assoc, List.take_append_of_le_length (by omega), List.take_of_length_le (by omega)]
  have v4 : (val ((recB p n D ++ R).take 4) : Int) = p := by
    rw [t4, val_be, Nat.mod_eq_of_lt (by have := hg.1; omega)]
    exact Int.toNat_of_nonneg (by omega)
  have d5 : ((recB p n D ++ R).drop 128).take 512 = D := by
    have : recB p n D = (be p.toNat 4 ++ (be (recSum p.toNat n D).toNat 4 ++ List.replicate 120 0)) ++ D := by
      rw [e, recN_parts]; simp only [List.append_assoc]
    have hl2 : (be p.toNat 4 ++ (be (recSum p.toNat n D).toNat 4 ++ List.replicate 120 (0 : UInt8))).length = 128 := by simp only [List.length_append, h4, hs, List.length_replicate]
    rw [this, List.append_assoc, List.drop_append_of_le_length (by omega), List.drop_of_length_le (by omega), List.nil_append, List.take_append_of_le_length (by omega), List.take_of_length_le (by omega)]
  refine ⟨?_, v4, d5⟩
  unfold recIs
  rw [v4, d5, List.take_append_of_le_length (by omega), List.take_of_length_le (by omega)]
  exact decide_eq_true rfl

section
variable {c p : Int} {n : Nat} {l : List (Int × List UInt8)}
theorem journal_parts (hg : goodJ c p l = true) : c = l.length ∧ (0 ≤ c ∧ c ≤ 4000) ∧ (0 ≤ p ∧ p ≤ 4000) ∧ (∀ r ∈ l, recGood r.1 r.2 = true) := by
  unfold goodJ at hg
  simp only [Bool.and_eq_true, decide_eq_true_eq] at hg
  exact ⟨hg.1.1.1, hg.1.1.2, hg.1.2, goodL_all hg.2⟩
theorem recAt_whole (hg : goodJ c p l = true) (M : List UInt8) (i : Nat) (hi : i ≤ l.length) : recAt (bytesJ c p n l true ++ M) i = recsB n (l.drop i) ++ M := by
  obtain ⟨h1, h2, h3, h4⟩ := journal_parts hg
  have hl := headB_length (c := c) (p := p) (n := n) (b := true) h2 h3
  have hr := recsB_length (n := n) h4
  unfold recAt bytesJ
  have d0 : (headB c p n true).drop 128 = [] := List.drop_of_length_le (by omega)
  rw [if_pos hg, ← List.drop_drop, List.append_assoc, List.drop_append_of_le_length (by omega), d0, List.nil_append, List.drop_append_of_le_length (by rw [hr]; omega), recsB_drop h4 i hi]
theorem whole_back (hg : goodJ c p l = true) (hn : n < 18446744073709551616) (M : List UInt8) :
    parseOk (bytesJ c p n l true ++ M) = true ∧ (hdC (bytesJ c p n l true ++ M) : Int) = c ∧ (hdP (bytesJ c p n l true ++ M) : Int) = p ∧ hdN (bytesJ c p n l true ++ M) = n ∧ recsOf (bytesJ c p n l true ++ M) l.length = l := by
  obtain ⟨h1, h2, h3, h4⟩ := journal_parts hg
  have hl := headB_length (c := c) (p := p) (n := n) (b := true) h2 h3
  have hr := recsB_length (n := n) h4
  have eB : bytesJ c p n l true ++ M = headB c p n true ++ (recsB n l ++ M) := by unfold bytesJ; rw [if_pos hg, List.append_assoc]
  obtain ⟨k1, k2, k3, k4⟩ := headIs_head c p n (recsB n l ++ M) h2 h3 hn
  rw [← eB] at k1 k2 k3 k4
  have len : (bytesJ c p n l true ++ M).length = 128 + 640 * l.length + M.length := by rw [eB, List.length_append, List.length_append, hl, hr]; omega
  have hcN : hdC (bytesJ c p n l true ++ M) = l.length := by omega
  have hrecs : ∀ i (hi : i < l.length), recIs (recAt (bytesJ c p n l true ++ M) i) n = true ∧ recOf (bytesJ c p n l true ++ M) i = l[i] := by
    intro i hi
    have hd : l.drop i = l[i] :: l.drop (i + 1) := List.drop_eq_getElem_cons hi
    have ha := recAt_whole (n := n) hg M i (by omega)
    have hb : recsB n (l.drop i) ++ M = recB l[i].1 n l[i].2 ++ (recsB n (l.drop (i + 1)) ++ M) := by rw [hd]; unfold recsB; rw [List.flatMap_cons, List.append_assoc]
    obtain ⟨q1, q2, q3⟩ := rec_back l[i].1 n l[i].2 (recsB n (l.drop (i + 1)) ++ M) (h4 _ (List.getElem_mem hi))
    rw [← hb, ← ha] at q1 q2 q3
    refine ⟨q1, ?_⟩
    unfold recOf
    rw [q2, q3]
  have hrec : recsOf (bytesJ c p n l true ++ M) l.length = l := by
    apply List.ext_getElem?
    intro i
    unfold recsOf
    rw [List.getElem?_map]
    by_cases hi : i < l.length
    · rw [List.getElem?_range hi, List.getElem?_eq_getElem hi, Option.map_some, (hrecs i hi).2]
    · rw [List.getElem?_eq_none (by rw [List.length_range]; omega), List.getElem?_eq_none (by omega)]; rfl
  refine ⟨?_, k2, k3, k4, hrec⟩
  refine parseOk_good ?_ (by rw [hcN, len]; omega) ?_ ?_
  · unfold hotB; rw [if_neg (by omega)]; exact k1
  · rw [k4, hcN]
    unfold recsOk
    rw [List.all_eq_true]
    intro i hi
    exact (hrecs i (List.mem_range.1 hi)).1
  · rw [k2, k3, hcN, hrec]; exact hg
theorem cold_back (hg : goodJ c p l = true) : hotB (bytesJ c p n l false) = false := by
  obtain ⟨h1, h2, h3, h4⟩ := journal_parts hg
  have hl := headB_length (c := c) (p := p) (n := n) (b := false) h2 h3
  have eB : bytesJ c p n l false = headB c p n false ++ recsB n l := by unfold bytesJ; rw [if_pos hg]
  unfold hotB
  have len : 128 ≤ (bytesJ c p n l false).length := by rw [eB, List.length_append]; omega
  rw [if_neg (by omega)]
  refine headIs_unmarked _ ?_ len
  have e : headB c p n false = headN c.toNat p.toNat n := by unfold headB; rw [if_pos ⟨h2, h3⟩]; rfl
  rw [eB, List.getElem?_append_left (by omega), e, headN_last]
  decide
end
end Hach.Jrn
