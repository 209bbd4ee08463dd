/- THE WALK of hachurelaw06.records: of seeds. -/
import Derived.Test.YtlmlplpbgkbhdaaDoorJrn5
set_option linter.unusedVariables false
set_option linter.unusedSimpArgs false
namespace Go.Proofs.YtlmlplpbgkbhdaaDoor
open Go.RowKit Hach

theorem elemR : Elem Tryd.prog 37 36 (.agg #[.int .i64 0, .slice none 0 0]) 2 32 := ⟨Tryd.underlying37, by kernel_rfl, rfl, by decide⟩

/-- Records in a row: each one's page and its data, which lie in blocks of their own. -/
def RecsRow (w : World) (base : Nat) : List (Int × List UInt8) → List Value → Prop
  | [], [] => True
  | (p, D) :: l, u :: v :: xs => u = .int .i64 p ∧ (∃ A c, v = .slice A D.length c ∧ OwnB w base A c D) ∧ RecsRow w base l xs
  | _, _ => False

theorem RecsRow.length {w : World} {base : Nat} {l : List (Int × List UInt8)} {xs : List Value} (h : RecsRow w base l xs) : xs.length = l.length * 2 := by
  induction l generalizing xs with
  | nil => cases xs with
    | nil => rfl
    | cons _ _ => exact h.elim
  | cons r l ih => match xs, h with
    | u :: v :: xs, h => simp only [List.length_cons, ih h.2.2]; omega

theorem RecsRow.snoc {w : World} {base : Nat} {l : List (Int × List UInt8)} {xs : List Value} (h : RecsRow w base l xs) (p : Int) (D : List UInt8) (A : Option Addr) (c : Nat) (o : OwnB w base A c D) :
    RecsRow w base (l ++ [(p, D)]) (xs ++ [.int .i64 p, .slice A D.length c]) := by
  induction l generalizing xs with
  | nil => cases xs with
    | nil => exact ⟨rfl, ⟨A, c, rfl, o⟩, trivial⟩
    | cons _ _ => exact h.elim
  | cons r l ih => match xs, h with
    | u :: v :: xs, h => exact ⟨h.1, h.2.1, ih h.2.2⟩

theorem RecsRow.keep {w w' : World} {base : Nat} {l : List (Int × List UInt8)} {xs : List Value} (h : RecsRow w base l xs) (hk : ∀ A c D, OwnB w base A c D → OwnB w' base A c D) : RecsRow w' base l xs := by
  induction l generalizing xs with
  | nil => cases xs with
    | nil => trivial
    | cons _ _ => exact h.elim
  | cons r l ih => match xs, h with
    | u :: v :: xs, h => obtain ⟨A, c, hv, o⟩ := h.2.1; exact ⟨h.1, ⟨A, c, hv, hk _ _ _ o⟩, ih h.2.2⟩

theorem OwnB.keep {w w' : World} {base : Nat} {A : Option Addr} {c : Nat} {D : List UInt8} (o : OwnB w base A c D) {S : Nat → Prop} (hf : Fr S w w') (hS : ∀ k cur fr, w.heap[k]? = some (.cells cur 5 fr) → ¬ S k) : OwnB w' base A c D := by
  refine hf.own o ?_
  intro k hk
  rcases o.2 with ⟨hv, _⟩ | ⟨g, cap, cur, hv, hb, hg, _⟩
  · injection hv with hv _ _; subst hv; cases hk
  · injection hv with hv _ _; subst hv; obtain rfl : g = k := by simpa [Value.ownBlock] using hk
    exact hS _ _ _ hg

/-- A row of another type is no row of bytes. -/
theorem row_other {w : World} {base : Nat} {e : TypeId} {size n : Nat} {v : Value} {xs : List Value} (h : w.ownsRow base e size v n xs) (he : e ≠ 5) : ∀ k cur fr, w.heap[k]? = some (.cells cur 5 fr) → ¬ some k = v.ownBlock := by
  intro k cur fr hk e'
  rcases h.2 with ⟨rfl, _⟩ | ⟨g, cap, cur', rfl, _, hg, _⟩
  · cases e'
  · obtain rfl : k = g := by simpa [Value.ownBlock] using e'
    rw [hk] at hg
    injection hg with hg
    injection hg with _ h2 _
    exact he h2.symm

theorem RecsRow.get {w : World} {base : Nat} {l : List (Int × List UInt8)} {xs : List Value} (h : RecsRow w base l xs) (i : Nat) (hi : i < l.length) :
    xs[i * 2]? = some (.int .i64 l[i].1) ∧ ∃ A c, xs[i * 2 + 1]? = some (.slice A l[i].2.length c) ∧ OwnB w base A c l[i].2 := by
  induction l generalizing xs i with
  | nil => simp at hi
  | cons r l ih => match xs, h with
    | u :: v :: xs, h =>
      cases i with
      | zero => obtain ⟨h1, ⟨A, c, h2, o⟩, _⟩ := h; subst h1; subst h2; exact ⟨rfl, A, c, rfl, o⟩
      | succ i =>
        have := ih h.2.2 i (by simpa using hi)
        rw [Nat.succ_mul]
        simpa using this

/-- A seed's data. -/
def seedData (s : Int × UInt8 × Bool) : List UInt8 := List.replicate (if s.2.2 = true then 3 else 512) s.2.1
def seedRec (s : Int × UInt8 × Bool) : Int × List UInt8 := (s.1, seedData s)
def seedCells (l : List (Int × UInt8 × Bool)) : List Value := l.flatMap fun s => [.int .i64 s.1, .int .u8 (n8 s.2.1), .bool s.2.2]
theorem seedCells_get (l : List (Int × UInt8 × Bool)) (i : Nat) (hi : i < l.length) :
    (seedCells l)[i * 3]? = some (.int .i64 l[i].1) ∧ (seedCells l)[i * 3 + 1]? = some (.int .u8 (n8 l[i].2.1)) ∧ (seedCells l)[i * 3 + 2]? = some (.bool l[i].2.2) := by
  induction l generalizing i with
  | nil => simp at hi
  | cons s l ih =>
    cases i with
    | zero => simp [seedCells]
    | succ i =>
      have := ih i (by simpa using hi)
      unfold seedCells at this ⊢
      rw [List.flatMap_cons, Nat.succ_mul]
      simpa using this
end Go.Proofs.YtlmlplpbgkbhdaaDoor
