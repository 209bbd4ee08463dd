/- THE PAGER's MAPS OF PAGES, as the world has them. -/
import Derived.Test.YtbcghggkfnagoaaGreatDoorDsk6
import Derived.Test.YtbcghggkfnagoaaGreatDoorOct2
set_option linter.unusedVariables false
set_option linter.unusedSimpArgs false
namespace Go.Proofs.YtbcghggkfnagoaaGreatDoor
open Go Go.RowKit Go.Maps Hach

/-! ### rows of keys and things -/
section
variable {α : Type}
def insG (x : Int × α) : List (Int × α) → List (Int × α)
  | [] => [x]
  | y :: r => if x.1 < y.1 then x :: y :: r else y :: insG x r
def gput (L : List (Int × α)) (k : Int) (a : α) : List (Int × α) := insG (k, a) (L.filter fun q => !decide (q.1 = k))
def gget (L : List (Int × α)) (k : Int) : Option α := (L.find? fun q => decide (q.1 = k)).map (·.2)
theorem mem_insG {x y : Int × α} {L : List (Int × α)} : y ∈ insG x L ↔ y = x ∨ y ∈ L := by
  induction L with
  | nil => simp [insG]
  | cons z r ih =>
    unfold insG
    split
    · simp
    · rw [List.mem_cons, ih, List.mem_cons]
      constructor
      · rintro (h | h | h)
        · exact .inr (.inl h)
        · exact .inl h
        · exact .inr (.inr h)
      · rintro (h | h | h)
        · exact .inr (.inl h)
        · exact .inl h
        · exact .inr (.inr h)
theorem gget_ins {x : Int × α} {L : List (Int × α)} (hx : ∀ y ∈ L, y.1 ≠ x.1) (k : Int) : gget (insG x L) k = if x.1 = k then some x.2 else gget L k := by
  induction L with
  | nil => unfold gget insG; by_cases h : x.1 = k <;> simp [h]
  | cons z r ih =>
    have hz := hx z List.mem_cons_self
    have ih' := ih (fun y hy => hx y (List.mem_cons_of_mem _ hy))
    unfold insG
    split
    · unfold gget
      rw [List.find?_cons]
      by_cases h : x.1 = k <;> simp [h]
    · unfold gget at ih' ⊢
      rw [List.find?_cons, List.find?_cons]
      by_cases h : z.1 = k
      · have : ¬ x.1 = k := fun e => hz (h.trans e.symm)
        simp [h, this]
      · simp only [h, decide_false]
        exact ih'
theorem gget_filter (L : List (Int × α)) (k j : Int) (h : j ≠ k) : gget (L.filter fun q => !decide (q.1 = k)) j = gget L j := by
  induction L with
  | nil => rfl
  | cons z r ih =>
    unfold gget at ih ⊢
    rw [List.filter_cons]
    by_cases hz : z.1 = k
    · have : ¬ z.1 = j := fun e => h (e.symm.trans hz)
      simp only [hz, decide_true, Bool.not_true]
      rw [List.find?_cons]
      simp only [this, decide_false]
      exact ih
    · simp only [hz, decide_false, Bool.not_false, if_true]
      rw [List.find?_cons, List.find?_cons]
      by_cases h2 : z.1 = j
      · simp [h2]
      · simp only [h2, decide_false]
        exact ih
theorem gget_put (L : List (Int × α)) (k : Int) (a : α) (j : Int) : gget (gput L k a) j = if k = j then some a else gget L j := by
  unfold gput
  rw [gget_ins (x := (k, a)) (fun y hy e => by
    have := (List.mem_filter.1 hy).2
    have e' : y.1 = k := e
    rw [decide_eq_true e'] at this
    cases this)]
  by_cases h : k = j
  · rw [if_pos h, if_pos h]
  · rw [if_neg h, if_neg h, gget_filter _ _ _ (fun e => h e.symm)]
theorem mem_gput {L : List (Int × α)} {k : Int} {a : α} {y : Int × α} (h : y ∈ gput L k a) : y = (k, a) ∨ (y ∈ L ∧ y.1 ≠ k) := by
  unfold gput at h
  rcases mem_insG.1 h with h | h
  · exact .inl h
  · have := List.mem_filter.1 h
    exact .inr ⟨this.1, fun e => by rw [decide_eq_true e] at this; exact absurd this.2 (by decide)⟩
theorem gget_mem {L : List (Int × α)} {k : Int} {a : α} (h : gget L k = some a) : (k, a) ∈ L := by
  unfold gget at h
  cases hf : L.find? (fun q => decide (q.1 = k)) with
  | none => rw [hf] at h; cases h
  | some q =>
    rw [hf] at h
    injection h with h
    have h1 := List.mem_of_find?_eq_some hf
    have h2 : q.1 = k := of_decide_eq_true (p := q.1 = k) (List.find?_some (p := fun q : Int × α => decide (q.1 = k)) hf)
    rw [← h, ← h2]; exact h1
theorem insL_map (f : α → Sec) (x : Int × α) (L : List (Int × α)) : insL (x.1, f x.2) (L.map fun y => (y.1, f y.2)) = (insG x L).map fun y => (y.1, f y.2) := by
  induction L with
  | nil => rfl
  | cons z r ih =>
    simp only [List.map_cons, insL, insG, decide_eq_true_eq]
    by_cases h : x.1 < z.1
    · rw [if_pos h, if_pos h]; rfl
    · rw [if_neg h, if_neg h, ih]; rfl
theorem putL_map (f : α → Sec) (L : List (Int × α)) (k : Int) (a : α) : putL (L.map fun y => (y.1, f y.2)) k (f a) = (gput L k a).map fun y => (y.1, f y.2) := by
  unfold putL gput
  rw [← insL_map f (k, a)]
  congr 1
  rw [List.filter_map]
  rfl
theorem getL_map (f : α → Sec) (L : List (Int × α)) (k : Int) : getL (L.map fun y => (y.1, f y.2)) k = (gget L k).map f := by
  unfold getL gget
  rw [List.find?_map]
  rw [Option.map_map, Option.map_map]
  rfl
end
/-! ### a page, as a map's element -/
/-- Where a page lies: a block, and its room. -/
def encP (g c : Nat) : Sec := List.replicate g 0 ++ 1 :: List.replicate c 0
theorem encP_inj {g c g' c' : Nat} (h : encP g c = encP g' c') : g = g' ∧ c = c' := by
  have key : ∀ g c, ((encP g c).takeWhile fun b => b == 0).length = g ∧ (encP g c).length = g + 1 + c := fun g c => by
    unfold encP
    refine ⟨?_, by simp; omega⟩
    induction g with
    | zero => rfl
    | succ g ih => rw [List.replicate_succ, List.cons_append, List.takeWhile_cons]; simp only [beq_self_eq_true, if_true, List.length_cons]; rw [ih]
  have h1 := key g c
  have h2 := key g' c'
  rw [h] at h1
  have e := h1.1.symm.trans h2.1
  subst e
  exact ⟨rfl, by have := h1.2.symm.trans h2.2; omega⟩
def pgV (g c : Nat) : Value := .slice (some ⟨g, 0, none⟩) 512 c
def pgElem (v : Value) : Option (DataW Unit × List MemPlace) :=
  match v with
  | .slice none 0 0 => some (.lit (.string []), [])
  | .slice (some ⟨g, 0, none⟩) 512 c => some (.lit (.string (encP g c)), [])
  | _ => none
theorem pgElem_mk (g c : Nat) : pgElem (pgV g c) = some (.lit (.string (encP g c)), []) := rfl
theorem pgElem_inv {v : Value} {g c : Nat} {ps : List MemPlace} (h : pgElem v = some (.lit (.string (encP g c)), ps)) : v = pgV g c := by
  unfold pgElem at h
  split at h
  · injection h with h
    injection h with h _
    injection h with h
    injection h with h
    have := congrArg List.length h
    unfold encP at this
    simp at this
  · injection h with h
    injection h with h _
    injection h with h
    injection h with h
    obtain ⟨rfl, rfl⟩ := encP_inj h
    rfl
  · cases h
end Go.Proofs.YtbcghggkfnagoaaGreatDoor
