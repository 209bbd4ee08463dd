/- PARTS OF A PROOF, one behind the other: ARGUMENTS, opened: a slice of values of several cells each. No program in sight. CONDITIONS: none of this text's own. -/
import Derived.Test.YtbcghggkfnagoaaGreatDoorQS4
import Derived.Deep.Strs
import Derived.Deep.Slices
import Derived.Lib.SmallJoins
set_option linter.unusedVariables false
set_option linter.unusedSimpArgs false
namespace Hach
open Go Go.RowKit Go.ChangeShapes Go.WideShapes Go.ChangeAt Go.Deep

theorem flat_length {α : Type} {f : α → List Value} {k : Nat} (hk : ∀ a, (f a).length = k) (l : List α) : (l.flatMap f).length = l.length * k := by
  induction l with
  | nil => simp
  | cons a l ih => rw [List.flatMap_cons, List.length_append, ih, hk, List.length_cons, Nat.succ_mul, Nat.add_comm]
theorem open_rows {P : Program} {H : Type} {enc : TypeId × Value → H} {W : World} {T E : TypeId} {sp : Nat → Bool} {base b0 : Nat} {held : Bool} {v : Value} {d : DataW H} {ps : List MemPlace}
    {α : Type} (f : α → List Value) (Q : α → Prop) (k : Nat) (hk : ∀ a, (f a).length = k) (hk0 : 0 < k) (hT : P.underlying T = some (.slice E)) (hC : P.cellsOf E = k)
    (hE : ∀ {fuel : Nat} {cs : List Value} {x : DataW H × List MemPlace}, DataW.trod enc P W base sp held fuel E cs = some x → ∃ a, cs = f a ∧ Q a)
    (hok : Value.okWide P W .any b0 T v) (h : DataW.Trod enc P W base sp held T v d ps) :
    ∃ (A : Option Addr) (l : List α) (c : Nat), v = .slice A l.length c ∧ l.length ≤ 9223372036854775807 ∧ Rd W A (l.flatMap f) ∧ l.length ≤ c ∧ ∀ a ∈ l, Q a := by
  obtain ⟨a, len, cap, rfl⟩ := okWide_slice hT hok
  obtain ⟨fuel, hf⟩ := h
  rcases open_slice hT hf with ⟨hcs, _⟩ | ⟨x, l, c, m, n, D, Pl, hcs, _, hl, hm, hmm, _, hx⟩
  · simp [Value.cells] at hcs
    obtain ⟨rfl, rfl, rfl⟩ := hcs
    exact ⟨none, [], 0, rfl, by simp, Rd.nil _ _, Nat.le_refl _, by simp⟩
  · simp [Value.cells] at hcs
    obtain ⟨rfl, rfl, rfl⟩ := hcs
    have hlm : len ≤ m := by rw [hmm]; split <;> omega
    have key : ∀ j, j ≤ len → ∃ l : List α, l.length = j ∧ (∀ a ∈ l, Q a) ∧ ∀ i u, (l.flatMap f)[i]? = some u → W.cell? (x.add i) = some u := by
      intro j
      induction j with
      | zero => intro _; exact ⟨[], rfl, by simp, fun i u hi => by simp at hi⟩
      | succ j ih =>
        intro hj
        obtain ⟨l, hlen, hq, hl'⟩ := ih (by omega)
        obtain ⟨cs', h1, h2⟩ := hx j (by omega)
        obtain ⟨a, rfl, hqa⟩ := hE h2
        rw [hC] at h1
        obtain ⟨_, _, hc⟩ := World.cells?_some h1
        refine ⟨l ++ [a], by rw [List.length_append, hlen]; rfl, ?_, ?_⟩
        · intro b hb
          rcases List.mem_append.1 hb with hb | hb
          · exact hq b hb
          · rw [List.mem_singleton.1 hb]; exact hqa
        intro i u hi
        have e : (l ++ [a]).flatMap f = l.flatMap f ++ f a := by rw [List.flatMap_append]; simp
        have hsl : (l.flatMap f).length = j * k := by rw [flat_length hk, hlen]
        rw [e] at hi
        by_cases hik : i < j * k
        · rw [List.getElem?_append_left (by omega)] at hi; exact hl' i u hi
        · rw [List.getElem?_append_right (by omega), hsl] at hi
          have h3 : i - j * k < k := by have := (List.getElem?_eq_some_iff.1 hi).1; rwa [hk] at this
          have := hc (i - j * k) h3
          rw [add_add, show j * k + (i - j * k) = i by omega] at this
          rw [this]; exact hi
    obtain ⟨l, hlen, hq, hl'⟩ := key len (Nat.le_refl _)
    refine ⟨some x, l, cap, by rw [hlen], by unfold maxLen at hm; omega, ?_, by omega, hq⟩
    intro j u hj
    have h0 : ∃ u0, (l.flatMap f)[0]? = some u0 := by
      have : 0 < (l.flatMap f).length := by have := (List.getElem?_eq_some_iff.1 hj).1; omega
      exact ⟨_, List.getElem?_eq_getElem this⟩
    obtain ⟨u0, h0⟩ := h0
    obtain ⟨b, off, rfl⟩ := addr_plain (hl' 0 u0 h0)
    have := hl' j u hj
    rw [Hach.add_plain] at this
    exact ⟨b, off, rfl, this⟩
theorem flat_at {α : Type} {f : α → List Value} {k : Nat} (hk : ∀ a, (f a).length = k) {l : List α} {i j : Nat} {a : α} (hi : l[i]? = some a) (hj : j < k) : (l.flatMap f)[i * k + j]? = (f a)[j]? := by
  induction l generalizing i with
  | nil => simp at hi
  | cons b l ih =>
    rw [List.flatMap_cons]
    cases i with
    | zero =>
      simp only [List.getElem?_cons_zero, Option.some.injEq] at hi
      subst hi
      rw [Nat.zero_mul, Nat.zero_add, List.getElem?_append_left (by rw [hk]; exact hj)]
    | succ i =>
      rw [List.getElem?_append_right (by rw [hk, Nat.succ_mul]; omega), hk, show (i + 1) * k + j - k = i * k + j by rw [Nat.succ_mul]; omega]
      exact ih (by simpa using hi)
theorem Rd.row {w : World} {A : Option Addr} {α : Type} {f : α → List Value} {k : Nat} (hk : ∀ a, (f a).length = k) {l : List α} (h : Rd w A (l.flatMap f)) {i : Nat} {a : α} (hi : l[i]? = some a) (hk0 : 0 < k) :
    ∃ b off, A = some ⟨b, off, none⟩ ∧ ∀ j u, (f a)[j]? = some u → w.cell? ⟨b, off + (i * k + j), none⟩ = some u := by
  have h0 : ∃ u0, (f a)[0]? = some u0 := ⟨_, List.getElem?_eq_getElem (by rw [hk]; exact hk0)⟩
  obtain ⟨u0, h0⟩ := h0
  obtain ⟨b, off, e, _⟩ := h (i * k + 0) u0 (by rw [flat_at hk hi hk0]; exact h0)
  refine ⟨b, off, e, fun j u hj => ?_⟩
  have hjk : j < k := by have := (List.getElem?_eq_some_iff.1 hj).1; rwa [hk] at this
  obtain ⟨b', off', e', hc⟩ := h (i * k + j) u (by rw [flat_at hk hi hjk]; exact hj)
  rw [e] at e'
  injection e' with e'
  injection e' with e1 e2 _
  subst e1; subst e2
  exact hc
theorem Rd.drop {w : World} {b off : Nat} {vs : List Value} (h : Rd w (some ⟨b, off, none⟩) vs) (j : Nat) : Rd w (some ⟨b, off + j, none⟩) (vs.drop j) := by
  intro i u hi
  rw [List.getElem?_drop] at hi
  obtain ⟨b', off', e, hc⟩ := h _ _ hi
  injection e with e
  injection e with e1 e2 _
  subst e1; subst e2
  exact ⟨b, off + j, rfl, by rw [Nat.add_assoc]; exact hc⟩
theorem flat_one {α : Type} {f : α → List Value} (h1 : ∀ a, ∀ u ∈ f a, u.oneCell' = true) (l : List α) : ∀ u ∈ l.flatMap f, u.oneCell' = true := by
  intro u hu
  obtain ⟨a, _, h⟩ := List.mem_flatMap.1 hu
  exact h1 a u h
theorem own_lit0 (w : World) (base : Nat) (e : TypeId) (size : Nat) (hb : base ≤ w.heap.size) : (w.alloc (.cells #[] e)).ownsRow base e size (.slice (some ⟨w.heap.size, 0, none⟩) 0 0) 0 [] := by
  have := World.ownsRow_lit (base := base) (e := e) (size := size) w #[] 0 hb (by decide) (by simp)
  simpa using this
end Hach
