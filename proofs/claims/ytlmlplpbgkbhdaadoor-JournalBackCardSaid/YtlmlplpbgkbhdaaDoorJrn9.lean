/- ARGUMENTS, opened: a seed, a head, a slice of seeds. -/
import Derived.Test.YtlmlplpbgkbhdaaDoorJrn6
import Derived.Test.YtlmlplpbgkbhdaaDoorK2
import Derived.Deep.Strs
import Derived.Deep.Slices
set_option linter.unusedVariables false
set_option linter.unusedSimpArgs false
namespace Go.Proofs.YtlmlplpbgkbhdaaDoor
open Go Go.RowKit Go.ChangeShapes Go.WideShapes Go.ChangeAt Go.Deep Hach

theorem c_int : Tryd.prog.cellsOf 3 = 1 := by kernel_rfl
theorem c_u8 : Tryd.prog.cellsOf 5 = 1 := by kernel_rfl
theorem c_bool : Tryd.prog.cellsOf 4 = 1 := by kernel_rfl
theorem c_u64 : Tryd.prog.cellsOf 34 = 1 := by kernel_rfl
theorem c_seed : Tryd.prog.cellsOf 33 = 3 := by kernel_rfl
theorem c_head : Tryd.prog.cellsOf 46 = 3 := by kernel_rfl

section
variable {H : Type} {enc : TypeId × Value → H} {W : World} {base : Nat} {sp : Nat → Bool} {held : Bool}

theorem trod_seed {fuel : Nat} {cs : List Value} {x : DataW H × List MemPlace} (h : DataW.trod enc Tryd.prog W base sp held fuel 33 cs = some x) :
    ∃ p b s, cs = [.int .i64 p, .int .u8 (n8 b), .bool s] := by
  obtain ⟨y0, y1, y2, n, _, hl, h0, h1, h2⟩ := trod_struct3 Tryd.underlying33 h
  rw [c_seed] at hl
  match cs, hl with
  | [a, b, c], _ =>
    simp only [c_int, c_u8, c_bool, List.drop_zero, List.take_succ_cons, List.take_zero, List.drop_succ_cons] at h0 h1 h2
    obtain ⟨p, e0, _, _⟩ := DataW.trod_int Tryd.underlying3 h0
    obtain ⟨q, e1, _, w1⟩ := DataW.trod_int Tryd.underlying5 h1
    obtain ⟨s, e2, _⟩ := DataW.trod_bool Tryd.underlying4 h2
    obtain ⟨bt, rfl⟩ := n8_of w1
    injection e0 with e0; injection e1 with e1; injection e2 with e2
    subst e0; subst e1; subst e2
    exact ⟨p, bt, s, rfl⟩

theorem trod_head {fuel : Nat} {cs : List Value} {x : DataW H × List MemPlace} (h : DataW.trod enc Tryd.prog W base sp held fuel 46 cs = some x) :
    ∃ (c p : Int) (n : Nat), cs = [.int .i64 c, .int .i64 p, .int .u64 (n : Int)] ∧ (n : Int) < 18446744073709551616 := by
  obtain ⟨y0, y1, y2, n, _, hl, h0, h1, h2⟩ := trod_struct3 Tryd.underlying46 h
  rw [c_head] at hl
  match cs, hl with
  | [a, b, c], _ =>
    simp only [c_int, c_u64, List.drop_zero, List.take_succ_cons, List.take_zero, List.drop_succ_cons] at h0 h1 h2
    obtain ⟨p, e0, _, _⟩ := DataW.trod_int Tryd.underlying3 h0
    obtain ⟨q, e1, _, w1⟩ := DataW.trod_int Tryd.underlying3 h1
    obtain ⟨s, e2, _, w2⟩ := DataW.trod_int Tryd.underlying34 h2
    have hb := bounds_u64 w2
    obtain ⟨m, rfl⟩ := Int.eq_ofNat_of_zero_le hb.1
    injection e0 with e0; injection e1 with e1; injection e2 with e2
    subst e0; subst e1; subst e2
    exact ⟨p, q, m, rfl, by omega⟩

theorem open_seed {b0 : Nat} {v : Value} {d : DataW H} {ps : List MemPlace} (hok : Value.okWide Tryd.prog W .any b0 33 v) (h : DataW.Trod enc Tryd.prog W base sp held 33 v d ps) :
    ∃ p b s, v = .agg #[.int .i64 p, .int .u8 (n8 b), .bool s] := by
  obtain ⟨cs, rfl, _⟩ := okWide_struct Tryd.underlying33 hok
  obtain ⟨fuel, hf⟩ := h
  obtain ⟨p, b, s, e⟩ := trod_seed hf
  refine ⟨p, b, s, ?_⟩
  cases cs
  simp only [Value.cells] at e
  rw [e]

theorem open_head {b0 : Nat} {v : Value} {d : DataW H} {ps : List MemPlace} (hok : Value.okWide Tryd.prog W .any b0 46 v) (h : DataW.Trod enc Tryd.prog W base sp held 46 v d ps) :
    ∃ (c p : Int) (n : Nat), v = .agg #[.int .i64 c, .int .i64 p, .int .u64 (n : Int)] ∧ (n : Int) < 18446744073709551616 := by
  obtain ⟨cs, rfl, _⟩ := okWide_struct Tryd.underlying46 hok
  obtain ⟨fuel, hf⟩ := h
  obtain ⟨c, p, n, e, hn⟩ := trod_head hf
  refine ⟨c, p, n, ?_, hn⟩
  cases cs
  simp only [Value.cells] at e
  rw [e]

theorem seedCells_length (l : List (Int × UInt8 × Bool)) : (seedCells l).length = l.length * 3 := by
  unfold seedCells
  induction l with
  | nil => rfl
  | cons a l ih =>
    have h3 : (a :: l).length = l.length + 1 := rfl
    rw [List.flatMap_cons, List.length_append, ih, h3, Nat.succ_mul, Nat.add_comm]; rfl

theorem open_seeds {b0 : Nat} {v : Value} {d : DataW H} {ps : List MemPlace} (hok : Value.okWide Tryd.prog W .any b0 39 v) (h : DataW.Trod enc Tryd.prog W base sp held 39 v d ps) :
    ∃ A l c, v = .slice A l.length c ∧ l.length ≤ 9223372036854775807 ∧ Rd W A (seedCells l) ∧ l.length ≤ c := by
  obtain ⟨a, len, cap, rfl⟩ := okWide_slice Tryd.underlying39 hok
  obtain ⟨fuel, hf⟩ := h
  rcases open_slice Tryd.underlying39 hf with ⟨hcs, _⟩ | ⟨x, l, c, m, n, D, Pl, hcs, _, hl, hm, hmm, _, hx⟩
  · simp [Value.cells] at hcs
    obtain ⟨rfl, rfl, rfl⟩ := hcs
    exact ⟨none, [], 0, rfl, by simp, Rd.nil _ _, Nat.le_refl _⟩
  · simp [Value.cells] at hcs
    obtain ⟨rfl, rfl, rfl⟩ := hcs
    have hlm : len ≤ m := by rw [hmm]; split <;> omega
    have key : ∀ k, k ≤ len → ∃ l : List (Int × UInt8 × Bool), l.length = k ∧ ∀ j u, (seedCells l)[j]? = some u → W.cell? (x.add j) = some u := by
      intro k
      induction k with
      | zero => intro _; exact ⟨[], rfl, fun j u hj => by simp [seedCells] at hj⟩
      | succ k ih =>
        intro hk
        obtain ⟨l, hlen, hl'⟩ := ih (by omega)
        obtain ⟨cs', h1, h2⟩ := hx k (by omega)
        obtain ⟨p, b, s, rfl⟩ := trod_seed h2
        rw [c_seed] at h1
        obtain ⟨_, _, hc⟩ := World.cells?_some h1
        refine ⟨l ++ [(p, b, s)], by rw [List.length_append, hlen]; rfl, ?_⟩
        intro j u hj
        have e : seedCells (l ++ [(p, b, s)]) = seedCells l ++ [.int .i64 p, .int .u8 (n8 b), .bool s] := by unfold seedCells; rw [List.flatMap_append]; rfl
        have hsl : (seedCells l).length = k * 3 := by
          rw [← hlen]; exact seedCells_length l
        rw [e] at hj
        by_cases hjk : j < k * 3
        · rw [List.getElem?_append_left (by omega)] at hj; exact hl' j u hj
        · rw [List.getElem?_append_right (by omega), hsl] at hj
          have h3 : j - k * 3 < 3 := by have := (List.getElem?_eq_some_iff.1 hj).1; simpa using this
          have := hc (j - k * 3) h3
          rw [add_add, show k * 3 + (j - k * 3) = j by omega] at this
          rw [this]; exact hj
    obtain ⟨l, hlen, hl'⟩ := key len (Nat.le_refl _)
    refine ⟨some x, l, cap, by rw [hlen], by unfold maxLen at hm; omega, ?_, by omega⟩
    intro j u hj
    have h0 : ∃ u0, (seedCells l)[0]? = some u0 := by
      have : 0 < (seedCells l).length := by have := (List.getElem?_eq_some_iff.1 hj).1; omega
      exact ⟨_, List.getElem?_eq_getElem this⟩
    obtain ⟨u0, h0⟩ := h0
    obtain ⟨b, off, rfl⟩ := addr_plain (hl' 0 u0 h0)
    have := hl' j u hj
    rw [Hach.add_plain] at this
    exact ⟨b, off, rfl, this⟩
end
end Go.Proofs.YtlmlplpbgkbhdaaDoor
