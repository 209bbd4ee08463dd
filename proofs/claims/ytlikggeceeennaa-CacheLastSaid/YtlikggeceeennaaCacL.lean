/- PLAIN LAWS of pages that are put once each. -/
import Derived.Test.YtlikggeceeennaaCac12
set_option linter.unusedVariables false
set_option linter.unusedSimpArgs false
namespace Go.Proofs.Ytlikggeceeennaa
open Go Go.RowKit Hach

def putV (xs : List UInt8) (i : Nat) : Vis := (1 + (i : Int), pageD (xs[i]?.getD 0), 0, false)
/-- The last n of the first k. -/
def lastV (n : Nat) (xs : List UInt8) (k : Nat) : List Vis := ((List.range k).drop (k - n)).map (putV xs)
theorem lastV_length (n : Nat) (xs : List UInt8) (k : Nat) : (lastV n xs k).length = k - (k - n) := by unfold lastV; rw [List.length_map, List.length_drop, List.length_range]
theorem lastV_mem {n k : Nat} {xs : List UInt8} {v : Vis} (h : v ∈ lastV n xs k) : ∃ i, k - n ≤ i ∧ i < k ∧ v = putV xs i := by
  obtain ⟨i, hi, rfl⟩ := List.mem_map.1 h
  obtain ⟨j, hj⟩ := List.mem_iff_getElem?.1 hi
  rw [List.getElem?_drop] at hj
  obtain ⟨h1, h2⟩ := List.getElem?_eq_some_iff.1 hj
  rw [List.getElem_range] at h2
  rw [List.length_range] at h1
  exact ⟨i, by omega, by omega, rfl⟩
theorem evictV_last (room : Nat) (p : Int) (D : List UInt8) (V : List Vis) (hr : 1 ≤ room) (hV : ∀ v ∈ V, v.1 ≠ p ∧ v.2.2.1 = 0 ∧ v.2.2.2 = false) (hl : V.length ≤ room) :
    evictV room p [] (V ++ [(p, D, 0, false)]) = (V ++ [(p, D, 0, false)]).drop (V.length + 1 - room) := by
  cases V with
  | nil =>
    have : ∀ n, goesV (room : Int) p n (p, D, 0, false) = false := fun n => by unfold goesV; simp
    rw [List.nil_append]
    unfold evictV
    rw [this, if_neg (by decide), if_neg (by simp; omega), List.length_nil, show 0 + 1 - room = 0 by omega]
    rfl
  | cons v V =>
    obtain ⟨h1, h2, h3⟩ := hV v List.mem_cons_self
    have hg : ∀ n : Nat, goesV (room : Int) p n v = decide ((room : Int) < n) := fun n => by
      unfold goesV
      rw [decide_eq_true h1, h2, h3]; simp
    simp only [List.length_cons] at hl
    rw [List.cons_append]
    unfold evictV
    rw [hg]
    by_cases hlt : room < V.length + 2
    · rw [if_pos (decide_eq_true (by simp; omega)), if_neg (by simp; omega)]
      rw [List.length_cons, show V.length + 1 + 1 - room = 1 by omega]; rfl
    · rw [if_neg (by rw [decide_eq_false]; decide; simp; omega), if_neg (by simp; omega)]
      rw [List.length_cons, show V.length + 1 + 1 - room = 0 by omega]; rfl
theorem lastV_succ (n : Nat) (hn : 1 ≤ n) (xs : List UInt8) (k : Nat) : evictV n (1 + (k : Int)) [] (lastV n xs k ++ [putV xs k]) = lastV n xs (k + 1) := by
  have := evictV_last n (1 + (k : Int)) (pageD (xs[k]?.getD 0)) (lastV n xs k) hn (fun v hv => by
    obtain ⟨i, _, h2, rfl⟩ := lastV_mem hv
    exact ⟨by unfold putV; simp only; omega, rfl, rfl⟩) (by rw [lastV_length]; omega)
  rw [show putV xs k = (1 + (k : Int), pageD (xs[k]?.getD 0), 0, false) from rfl, this, lastV_length]
  rw [show (1 + (k : Int), pageD (xs[k]?.getD 0), (0 : Int), false) = putV xs k from rfl]
  unfold lastV
  rw [show [putV xs k] = [k].map (putV xs) from rfl, ← List.map_append, ← List.map_drop, List.range_succ]
  congr 1
  by_cases h : k < n
  · rw [show k - n = 0 by omega, show k + 1 - n = 0 by omega, show k - 0 + 1 - n = 0 by omega]; rfl
  · rw [show k - (k - n) + 1 - n = 1 by omega, show k + 1 - n = (k - n) + 1 by omega, ← List.drop_drop, List.drop_append_of_le_length (show k - n ≤ (List.range k).length by rw [List.length_range]; omega)]
theorem lastV_find (n : Nat) (xs : List UInt8) (k i : Nat) (hi : i < k) : (lastV n xs k).find? (fun v => v.1 == 1 + (i : Int)) = if k - n ≤ i then some (putV xs i) else none := by
  split
  · rename_i h
    cases hf : (lastV n xs k).find? (fun v => v.1 == 1 + (i : Int)) with
    | none =>
      rw [List.find?_eq_none] at hf
      have hm : putV xs i ∈ lastV n xs k := by
        refine List.mem_map.2 ⟨i, ?_, rfl⟩
        refine List.mem_iff_getElem?.2 ⟨i - (k - n), ?_⟩
        rw [List.getElem?_drop, show k - n + (i - (k - n)) = i by omega, List.getElem?_range hi]
      exact absurd (beq_self_eq_true (1 + (i : Int))) (hf _ hm)
    | some v =>
      have hm := List.mem_of_find?_eq_some hf
      have he := List.find?_some hf
      obtain ⟨j, _, _, rfl⟩ := lastV_mem hm
      have e : (1 + (j : Int)) = 1 + (i : Int) := beq_iff_eq.1 he
      rw [show j = i by omega]
  · rename_i h
    rw [List.find?_eq_none]
    intro v hv he
    obtain ⟨j, h1, _, rfl⟩ := lastV_mem hv
    have e : (1 + (j : Int)) = 1 + (i : Int) := beq_iff_eq.1 he
    omega
theorem lastV_not (n : Nat) (xs : List UInt8) (k : Nat) : (1 + (k : Int)) ∉ (lastV n xs k).map (·.1) := by
  intro hm
  obtain ⟨v, hv, e⟩ := List.mem_map.1 hm
  obtain ⟨j, _, h2, rfl⟩ := lastV_mem hv
  have : (1 + (j : Int)) = 1 + (k : Int) := e
  omega
end Go.Proofs.Ytlikggeceeennaa
