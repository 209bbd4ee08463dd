/- PLAIN LAWS: what bytes are, as a journal. No program in sight. -/
import Derived.Test.YtlmlplpbgkbhdaaDoorJrnT
import Derived.Test.YtlmlplpbgkbhdaaDoorJrnR
set_option linter.unusedVariables false
namespace Hach.Jrn
open Hach.Oct Hach.Crc
def recAt (b : List UInt8) (i : Nat) : List UInt8 := b.drop (128 + 640 * i)
def recOf (b : List UInt8) (i : Nat) : Int × List UInt8 := ((val ((recAt b i).take 4) : Int), ((recAt b i).drop 128).take 512)
def recsOf (b : List UInt8) (k : Nat) : List (Int × List UInt8) := (List.range k).map (recOf b)
def recsOk (b : List UInt8) (n k : Nat) : Bool := (List.range k).all fun i => recIs (recAt b i) n
def parseOk (b : List UInt8) : Bool := hotB b && (decide (128 * (1 + 5 * hdC b) ≤ b.length) && (recsOk b (hdN b) (hdC b) && goodJ (hdC b) (hdP b) (recsOf b (hdC b))))
theorem recsOf_length (b : List UInt8) (k : Nat) : (recsOf b k).length = k := by unfold recsOf; rw [List.length_map, List.length_range]
theorem recsOf_succ (b : List UInt8) (k : Nat) : recsOf b (k + 1) = recsOf b k ++ [recOf b k] := by unfold recsOf; rw [List.range_succ, List.map_append]; rfl
theorem recsOk_succ (b : List UInt8) (n k : Nat) : recsOk b n (k + 1) = (recsOk b n k && recIs (recAt b k) n) := by unfold recsOk; rw [List.range_succ, List.all_append]; simp
theorem recsOk_not {b : List UInt8} {n k m : Nat} (h : recIs (recAt b k) n = false) (hk : k < m) : recsOk b n m = false := by
  unfold recsOk
  rw [List.all_eq_false]
  exact ⟨k, List.mem_range.2 hk, by rw [h]; decide⟩
theorem headIs_true {b : List UInt8} (hl : 128 ≤ b.length) (h : headIs b = true) : b[0]? = some 104 ∧ hdC b ≤ 4000 ∧ hdP b ≤ 4000 := by
  have e := of_decide_eq_true h
  by_cases hg : (0 ≤ (hdC b : Int) ∧ (hdC b : Int) ≤ 4000) ∧ (0 ≤ (hdP b : Int) ∧ (hdP b : Int) ≤ 4000)
  · refine ⟨?_, by omega, by omega⟩
    unfold headB at e
    rw [if_pos hg, if_pos rfl] at e
    have h2 := congrArg (fun x => x[0]?) e
    simp only [List.getElem?_take] at h2
    rw [if_pos (by decide), headT_form] at h2
    rw [← h2]; rfl
  · unfold headB at e
    rw [if_neg hg] at e
    have := congrArg List.length e
    rw [List.length_take] at this
    simp only [List.length_nil] at this
    omega
theorem parseOk_cold {b : List UInt8} (h : hotB b = false) : parseOk b = false := by unfold parseOk; rw [h]; rfl
theorem parseOk_short {b : List UInt8} (h : ¬ 128 * (1 + 5 * hdC b) ≤ b.length) : parseOk b = false := by unfold parseOk; rw [decide_eq_false h]; simp
theorem parseOk_bad {b : List UInt8} (h : recsOk b (hdN b) (hdC b) = false) : parseOk b = false := by unfold parseOk; rw [h]; simp
theorem parseOk_good {b : List UInt8} {g : Bool} (h1 : hotB b = true) (h2 : 128 * (1 + 5 * hdC b) ≤ b.length) (h3 : recsOk b (hdN b) (hdC b) = true) (h4 : goodJ (hdC b) (hdP b) (recsOf b (hdC b)) = g) : parseOk b = g := by
  unfold parseOk
  simp only [h1, h3, h4, Bool.true_and, decide_eq_true h2]
theorem recAt_length (b : List UInt8) (i : Nat) : (recAt b i).length = b.length - (128 + 640 * i) := by unfold recAt; rw [List.length_drop]
theorem recAt_succ (b : List UInt8) (i : Nat) : recAt b (i + 1) = (recAt b i).drop 640 := by unfold recAt; rw [List.drop_drop, show 128 + 640 * (i + 1) = 128 + 640 * i + 640 by omega]
theorem recOf_data {b : List UInt8} {i : Nat} (h : 640 ≤ (recAt b i).length) : (recOf b i).2.length = 512 := by
  unfold recOf; show (((recAt b i).drop 128).take 512).length = 512; rw [List.length_take, List.length_drop]; omega
end Hach.Jrn
