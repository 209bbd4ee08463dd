/- ROWS OF SECTORS: one sector read, one written. -/
import Derived.Test.YtbcghggkfnagoaaGreatDoorDsk2
set_option linter.unusedVariables false
set_option linter.unusedSimpArgs false
namespace Go.Proofs.YtbcghggkfnagoaaGreatDoor
open Go Go.RowKit Go.Maps Hach

def Whole (l : List Sec) : Prop := ∀ s ∈ l, s.length = 128
theorem Whole.tail {s : Sec} {l : List Sec} (h : Whole (s :: l)) : Whole l := fun x hx => h x (List.mem_cons_of_mem _ hx)
theorem flatS_length {l : List Sec} (h : Whole l) : (l.flatMap secC).length = l.length * 128 := by
  induction l with
  | nil => rfl
  | cons s l ih => rw [List.flatMap_cons, List.length_append, ih h.tail, secC_length, h s List.mem_cons_self, List.length_cons]; omega
theorem flatS_split {l : List Sec} (h : Whole l) {i : Nat} (hi : i < l.length) : l.flatMap secC = (l.take i).flatMap secC ++ (secC l[i] ++ (l.drop (i + 1)).flatMap secC) := by
  conv => lhs; rw [← List.take_append_drop i l, List.drop_eq_getElem_cons hi, List.flatMap_append, List.flatMap_cons]
theorem flatS_at {l : List Sec} (h : Whole l) {i j : Nat} (hi : i < l.length) (hj : j < 128) : (l.flatMap secC)[i * 128 + j]? = (secC l[i])[j]? := by
  have hl : ((l.take i).flatMap secC).length = i * 128 := by
    rw [flatS_length (fun s hs => h s (List.mem_of_mem_take hs)), List.length_take, Nat.min_eq_left (by omega)]
  rw [flatS_split h hi, List.getElem?_append_right (by omega), hl, show i * 128 + j - i * 128 = j by omega, List.getElem?_append_left (by rw [secC_length, h _ (List.getElem_mem hi)]; exact hj)]
/-- Cells are replaced from o on. -/
def setL (xs : List Value) (o : Nat) : List Value → List Value
  | [] => xs
  | v :: r => setL (xs.set o v) (o + 1) r
theorem setL_mid (P Q R : List Value) (vs : List Value) (hq : vs.length = Q.length) : setL (P ++ (Q ++ R)) P.length vs = P ++ (vs ++ R) := by
  induction vs generalizing P Q with
  | nil =>
    have : Q = [] := List.eq_nil_of_length_eq_zero hq.symm
    subst this; rfl
  | cons v r ih =>
    cases Q with
    | nil => cases hq
    | cons q Q =>
      unfold setL
      rw [List.set_append_right _ _ (Nat.le_refl _), Nat.sub_self, List.cons_append, List.set_cons_zero]
      have := ih (P ++ [v]) Q (by simpa using hq)
      rw [List.length_append, List.append_assoc, List.append_assoc] at this
      exact this
theorem setL_flat {l : List Sec} (h : Whole l) {i : Nat} (hi : i < l.length) {s : Sec} (hs : s.length = 128) : setL (l.flatMap secC) (i * 128) (secC s) = (l.set i s).flatMap secC := by
  have hl : ((l.take i).flatMap secC).length = i * 128 := by
    rw [flatS_length (fun s hs => h s (List.mem_of_mem_take hs)), List.length_take, Nat.min_eq_left (by omega)]
  rw [flatS_split h hi, ← hl, setL_mid _ _ _ _ (by rw [secC_length, secC_length, hs, h _ (List.getElem_mem hi)])]
  have e : l.set i s = l.take i ++ s :: l.drop (i + 1) := by
    conv => lhs; rw [← List.take_append_drop i l, List.drop_eq_getElem_cons hi]
    rw [List.set_append_right _ _ (by rw [List.length_take]; omega), List.length_take, Nat.min_eq_left (by omega), Nat.sub_self, List.set_cons_zero]
  rw [e, List.flatMap_append, List.flatMap_cons]
theorem Whole.set {l : List Sec} (h : Whole l) (i : Nat) {s : Sec} (hs : s.length = 128) : Whole (l.set i s) := fun x hx => by
  rcases List.mem_or_eq_of_mem_set hx with hx | rfl
  · exact h x hx
  · exact hs
section
variable {w : World} {base g n c : Nat} {e : TypeId} {size : Nat}
theorem own_setCells {xs : List Value} (vs : List Value) (o : Nat) (h : w.ownsRow base e size (.slice (some ⟨g, 0, none⟩) n c) n xs) : (w.setCells g o vs).ownsRow base e size (.slice (some ⟨g, 0, none⟩) n c) n (setL xs o vs) := by
  induction vs generalizing w xs o with
  | nil => exact h
  | cons v r ih =>
    unfold World.setCells setL
    exact ih (o + 1) (h.stored o v).1
theorem fr_setCells {S : Nat → Prop} {w0 : World} (hS : S g) (vs : List Value) (o : Nat) (h : Fr S w0 w) : Fr S w0 (w.setCells g o vs) := by
  induction vs generalizing w o with
  | nil => exact h
  | cons v r ih => unfold World.setCells; exact ih (o + 1) (h.setCell (p := ⟨g, o, none⟩) (fun _ => hS) _)
theorem below_setCells {w0 : World} {B : Nat} (hB : B ≤ g) (vs : List Value) (o : Nat) (h : Below B w0 w) : Below B w0 (w.setCells g o vs) := by
  induction vs generalizing w o with
  | nil => exact h
  | cons v r ih => unfold World.setCells; exact ih (o + 1) (h.setCell (p := ⟨g, o, none⟩) hB _)
end
end Go.Proofs.YtbcghggkfnagoaaGreatDoor
