/- WORDS FOR A ROW OF LINKED BLOCKS. No program in sight. -/
import Derived.Test.YtlikggeceeennaaK1
set_option linter.unusedVariables false
set_option linter.unusedSimpArgs false
namespace Hach
open Go Go.RowKit
def ptr0 (b : Nat) : Value := .pointer (some ⟨b, 0, none⟩)
/-- From x on: x's next is the first of l, whose back is x, and so on. -/
def Chain (w : World) : Nat → List Nat → Prop
  | _, [] => True
  | x, b :: l => (w.cell? ⟨x, 4, none⟩ = some (ptr0 b) ∧ w.cell? ⟨b, 5, none⟩ = some (ptr0 x)) ∧ Chain w b l
/-- The last of x and l. -/
def lastOf (x : Nat) : List Nat → Nat
  | [] => x
  | b :: l => lastOf b l
theorem lastOf_append (x : Nat) (l m : List Nat) : lastOf x (l ++ m) = lastOf (lastOf x l) m := by
  induction l generalizing x with
  | nil => rfl
  | cons b l ih => exact ih b
theorem lastOf_mem (x : Nat) (l : List Nat) : lastOf x l ∈ x :: l := by
  induction l generalizing x with
  | nil => exact List.mem_singleton.2 rfl
  | cons b l ih => exact List.mem_cons_of_mem _ (ih b)
theorem lastOf_not_drop {x : Nat} {l : List Nat} (nd : (x :: l).Nodup) : lastOf x l ∉ (x :: l).dropLast := by
  induction l generalizing x with
  | nil => simp
  | cons a l ih =>
    intro hb
    rw [List.dropLast_cons_of_ne_nil (by simp)] at hb
    rw [List.nodup_cons] at nd
    rcases List.mem_cons.1 hb with hb | hb
    · have := lastOf_mem a l
      rw [show lastOf x (a :: l) = lastOf a l from rfl] at hb
      rw [hb] at this
      exact nd.1 this
    · exact ih nd.2 hb
theorem Chain.append {w : World} {x : Nat} {l m : List Nat} : Chain w x (l ++ m) ↔ Chain w x l ∧ Chain w (lastOf x l) m := by
  induction l generalizing x with
  | nil => exact ⟨fun h => ⟨trivial, h⟩, fun h => h.2⟩
  | cons b l ih =>
    show (_ ∧ Chain w b (l ++ m)) ↔ (_ ∧ Chain w b l) ∧ Chain w (lastOf b l) m
    rw [ih]
    exact ⟨fun ⟨a, b, c⟩ => ⟨⟨a, b⟩, c⟩, fun ⟨⟨a, b⟩, c⟩ => ⟨a, b, c⟩⟩
/-- A chain stays where its nexts (of all but the last) and its backs (of all but the first) stay. -/
theorem Chain.keep {w w' : World} {x : Nat} {l : List Nat} (h : Chain w x l) (hn : ∀ b ∈ (x :: l).dropLast, ∀ v, w.cell? ⟨b, 4, none⟩ = some v → w'.cell? ⟨b, 4, none⟩ = some v)
    (hb : ∀ b ∈ l, ∀ v, w.cell? ⟨b, 5, none⟩ = some v → w'.cell? ⟨b, 5, none⟩ = some v) : Chain w' x l := by
  induction l generalizing x with
  | nil => trivial
  | cons b l ih =>
    refine ⟨⟨hn x (by simp) _ h.1.1, hb b List.mem_cons_self _ h.1.2⟩, ih h.2 ?_ (fun c hc => hb c (List.mem_cons_of_mem _ hc))⟩
    intro c hc
    exact hn c (by rw [List.dropLast_cons_of_ne_nil (by simp)]; exact List.mem_cons_of_mem _ hc)
theorem Chain.up {w w' : World} {x : Nat} {l : List Nat} {S : Nat → Prop} (h : Chain w x l) (hf : Fr S w w') (hS : ∀ b ∈ x :: l, ¬ S b) : Chain w' x l :=
  h.keep (fun b hb v hv => hf.cell hv (hS b (List.dropLast_subset _ hb))) (fun b hb v hv => hf.cell hv (hS b (List.mem_cons_of_mem _ hb)))
theorem set_far {w : World} {b i c j : Nat} {u v : Value} (h : w.cell? ⟨b, i, none⟩ = some v) (hne : ¬ (c = b ∧ j = i)) : (w.setCell ⟨c, j, none⟩ u).cell? ⟨b, i, none⟩ = some v := by
  rw [World.cell?_setCell_other _ _ _ _ (fun e => hne (by injection e with e1 e2; exact ⟨e1, e2⟩))]; exact h
theorem set_near {w : World} {b i : Nat} {u v : Value} (h : w.cell? ⟨b, i, none⟩ = some v) : (w.setCell ⟨b, i, none⟩ u).cell? ⟨b, i, none⟩ = some u := World.cell?_setCell_same _ _ _ h

/-- An entry taken out of the row. -/
theorem Chain.out {w : World} {r e : Nat} {l1 l2 : List Nat} (h : Chain w r (l1 ++ e :: (l2 ++ [r]))) (hd : (r :: (l1 ++ e :: l2)).Nodup) :
    ∃ p q, p = lastOf r l1 ∧ (∃ t, l2 ++ [r] = q :: t) ∧ w.cell? ⟨e, 4, none⟩ = some (ptr0 q) ∧ w.cell? ⟨e, 5, none⟩ = some (ptr0 p) ∧ w.cell? ⟨p, 4, none⟩ = some (ptr0 e) ∧ w.cell? ⟨q, 5, none⟩ = some (ptr0 e) ∧ p ≠ e ∧ q ≠ e ∧
      ∀ w' : World, (∀ b i v, w.cell? ⟨b, i, none⟩ = some v → ¬ (b = p ∧ i = 4) → ¬ (b = q ∧ i = 5) → w'.cell? ⟨b, i, none⟩ = some v) → w'.cell? ⟨p, 4, none⟩ = some (ptr0 q) → w'.cell? ⟨q, 5, none⟩ = some (ptr0 p) → Chain w' r (l1 ++ (l2 ++ [r])) := by
  obtain ⟨q, t, hq⟩ : ∃ q t, l2 ++ [r] = q :: t := by
    cases l2 with
    | nil => exact ⟨r, [], rfl⟩
    | cons a l => exact ⟨a, l ++ [r], rfl⟩
  rw [hq] at h
  obtain ⟨h1, h2⟩ := Chain.append.1 h
  obtain ⟨⟨h3, h4⟩, ⟨h5, h6⟩, h7⟩ := h2
  have hp := lastOf_mem r l1
  have hd' := hd
  rw [List.nodup_cons] at hd
  obtain ⟨hr, hd2⟩ := hd
  rw [List.nodup_append] at hd2
  obtain ⟨n1, n2, n3⟩ := hd2
  rw [List.nodup_cons] at n2
  have pe : lastOf r l1 ≠ e := by
    intro hh
    rw [hh] at hp
    rcases List.mem_cons.1 hp with hp | hp
    · apply hr; rw [← hp]; simp
    · exact n3 e hp e (by simp) rfl
  have qe : q ≠ e := by
    intro hh
    have : q ∈ l2 ++ [r] := by rw [hq]; exact List.mem_cons_self
    rw [hh] at this
    rcases List.mem_append.1 this with hm | hm
    · exact n2.1 hm
    · apply hr; rw [← List.mem_singleton.1 hm]; simp
  refine ⟨lastOf r l1, q, rfl, ⟨t, hq⟩, h5, h4, h3, h6, pe, qe, ?_⟩
  intro w' hk hp4 hq5
  rw [hq]
  refine Chain.append.2 ⟨?_, ⟨hp4, hq5⟩, ?_⟩
  · -- the first part: p's next is not in it, q's back neither
    refine h1.keep (fun b hb v hv => hk _ _ _ hv ?_ (fun e => by cases e.2)) (fun b hb v hv => hk _ _ _ hv (fun e => by cases e.2) ?_)
    · rintro ⟨hbp, _⟩
      rw [hbp] at hb
      exact lastOf_not_drop (List.nodup_cons.2 ⟨fun hm => hr (List.mem_append_left _ hm), n1⟩) hb
    · rintro ⟨hbq, _⟩
      rw [hbq] at hb
      have : q ∈ l2 ++ [r] := by rw [hq]; exact List.mem_cons_self
      rcases List.mem_append.1 this with hm | hm
      · exact n3 q hb q (List.mem_cons_of_mem _ hm) rfl
      · rw [List.mem_singleton.1 hm] at hb
        exact hr (List.mem_append_left _ hb)
  · -- the second part
    refine h7.keep (fun b hb v hv => hk _ _ _ hv ?_ (fun e => by cases e.2)) (fun b hb v hv => hk _ _ _ hv (fun e => by cases e.2) ?_)
    · rintro ⟨hbp, _⟩
      rw [hbp] at hb
      have hb2 : lastOf r l1 ∈ l2 := by
        rw [← hq, List.dropLast_concat] at hb; exact hb
      rcases List.mem_cons.1 hp with hp | hp
      · apply hr; rw [← hp]; exact List.mem_append_right _ (List.mem_cons_of_mem _ hb2)
      · exact n3 _ hp _ (List.mem_cons_of_mem _ hb2) rfl
    · rintro ⟨hbq, _⟩
      rw [hbq] at hb
      cases l2 with
      | nil =>
        simp at hq
        rw [hq.2] at hb; simp at hb
      | cons a l =>
        simp at hq
        obtain ⟨rfl, rfl⟩ := hq
        rcases List.mem_append.1 hb with hm | hm
        · exact (List.nodup_cons.1 n2.2).1 hm
        · apply hr; rw [← List.mem_singleton.1 hm]; simp
/-- An entry set at the row's end. -/
theorem Chain.last {w w' : World} {r e : Nat} {l : List Nat} (h : Chain w r (l ++ [r])) (hd : (r :: l).Nodup) (he : e ∉ r :: l)
    (hk : ∀ b i v, w.cell? ⟨b, i, none⟩ = some v → b ≠ e → ¬ (b = lastOf r l ∧ i = 4) → ¬ (b = r ∧ i = 5) → w'.cell? ⟨b, i, none⟩ = some v)
    (h1 : w'.cell? ⟨lastOf r l, 4, none⟩ = some (ptr0 e)) (h2 : w'.cell? ⟨e, 5, none⟩ = some (ptr0 (lastOf r l))) (h3 : w'.cell? ⟨e, 4, none⟩ = some (ptr0 r)) (h4 : w'.cell? ⟨r, 5, none⟩ = some (ptr0 e)) :
    Chain w' r ((l ++ [e]) ++ [r]) := by
  obtain ⟨c1, c2⟩ := Chain.append.1 h
  rw [List.append_assoc]
  refine Chain.append.2 ⟨?_, ⟨h1, h2⟩, ⟨h3, h4⟩, trivial⟩
  rw [List.nodup_cons] at hd
  refine c1.keep (fun b hb v hv => hk _ _ _ hv ?_ ?_ (fun e => by cases e.2)) (fun b hb v hv => hk _ _ _ hv ?_ (fun e => by cases e.2) ?_)
  · rintro rfl; exact he (List.dropLast_subset _ hb)
  · rintro ⟨hbp, _⟩
    rw [hbp] at hb
    exact lastOf_not_drop (List.nodup_cons.2 hd) hb
  · rintro rfl; exact he (List.mem_cons_of_mem _ hb)
  · rintro ⟨rfl, _⟩; exact hd.1 hb
end Hach
