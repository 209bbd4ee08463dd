/- PARTS OF A PROOF, one behind the other: THE DISK's MAPS OF SECTORS: the datum is the row of keys and sectors, rising. CONDITIONS: none of this text's own. -/
import Derived.Test.YtbcghggkfnagoaaGreatDoorQS4
import Derived.Maps.OwnSet
import Derived.Maps.OwnOps
import Derived.Lib.SlKeysI
import Derived.Test.YtbcghggkfnagoaaGreatDoorProg
import Derived.Test.YtbcghggkfnagoaaGreatDoorChecked
set_option linter.unusedVariables false
set_option linter.unusedSimpArgs false
namespace Go.Proofs.YtbcghggkfnagoaaGreatDoor
open Go Go.RowKit Go.Maps Hach

abbrev Sec := List UInt8
def secC (s : Sec) : List Value := s.map byteCell
def secV (s : Sec) : Value := .agg (secC s).toArray
def zeroS : Sec := List.replicate 128 0
def byteOf : Value → Option UInt8
  | .int .u8 i => if 0 ≤ i ∧ i < 256 then some (UInt8.ofNat i.toNat) else none
  | _ => none
def bytesOf : List Value → Option Sec
  | [] => some []
  | v :: r => match byteOf v, bytesOf r with | some b, some l => some (b :: l) | _, _ => none
theorem byteOf_cell (b : UInt8) : byteOf (byteCell b) = some b := by
  have h0 := n8_lo b
  have h1 := n8_hi b
  show (if 0 ≤ n8 b ∧ n8 b < 256 then some (UInt8.ofNat (n8 b).toNat) else none) = some b
  rw [if_pos ⟨h0, h1⟩]
  unfold n8
  simp
theorem byteOf_inv {v : Value} {b : UInt8} (h : byteOf v = some b) : v = byteCell b := by
  unfold byteOf at h
  split at h
  · rename_i i
    split at h
    · rename_i hb
      injection h with h
      subst h
      show Value.int .u8 i = .int .u8 (n8 _)
      unfold n8
      congr 1
      have : (UInt8.ofNat i.toNat).toNat = i.toNat := by
        rw [UInt8.toNat_ofNat']
        exact Nat.mod_eq_of_lt (by omega)
      omega
    · cases h
  · cases h
theorem bytesOf_cells (s : Sec) : bytesOf (s.map byteCell) = some s := by
  induction s with
  | nil => rfl
  | cons b s ih => unfold bytesOf; rw [List.map_cons]; simp only [byteOf_cell, ih]
theorem bytesOf_inv {l : List Value} {s : Sec} (h : bytesOf l = some s) : l = s.map byteCell := by
  induction l generalizing s with
  | nil => injection h with h; subst h; rfl
  | cons v r ih =>
    unfold bytesOf at h
    cases h1 : byteOf v with
    | none => rw [h1] at h; cases h
    | some b =>
      cases h2 : bytesOf r with
      | none => rw [h1, h2] at h; cases h
      | some l =>
        rw [h1, h2] at h
        injection h with h
        subst h
        rw [List.map_cons, ← byteOf_inv h1, ← ih h2]
def secElem (v : Value) : Option (DataW Unit × List MemPlace) :=
  match v with
  | .agg cs => (bytesOf cs.toList).map fun s => (.lit (.string s), [])
  | _ => none
theorem secElem_mk (s : Sec) : secElem (secV s) = some (.lit (.string s), []) := by
  show (bytesOf (s.map byteCell)).map _ = _
  rw [bytesOf_cells]; rfl
theorem secElem_inv {v : Value} {s : Sec} {ps : List MemPlace} (h : secElem v = some (.lit (.string s), ps)) : v = secV s := by
  unfold secElem at h
  split at h
  · rename_i cs
    cases h1 : bytesOf cs.toList with
    | none => rw [h1] at h; cases h
    | some l =>
      rw [h1] at h
      injection h with h
      injection h with h _
      injection h with h
      injection h with h
      subst h
      unfold secV secC
      rw [← bytesOf_inv h1]
  · cases h

/-! ### the row of keys and sectors -/
abbrev Olds := List (Int × Sec)
def keep (k : Int) (p : Int × Sec) : Bool := !(decide (p.1 = k))
def insL (x : Int × Sec) : Olds → Olds
  | [] => [x]
  | y :: r => if decide (x.1 < y.1) = true then x :: y :: r else y :: insL x r
def putL (L : Olds) (k : Int) (s : Sec) : Olds := insL (k, s) (L.filter (keep k))
def getL (L : Olds) (k : Int) : Option Sec := (L.find? fun p => decide (p.1 = k)).map (·.2)
def entL (p : Int × Sec) : Lit × DataW Unit := (.int .i64 p.1, .lit (.string p.2))
def datL (L : Olds) : DataW Unit := .map (L.map entL)
theorem insL_dat (x : Int × Sec) (L : Olds) : DataW.insert (entL x) (L.map entL) = (insL x L).map entL := by
  induction L with
  | nil => rfl
  | cons y r ih =>
    unfold insL DataW.insert
    rw [List.map_cons]
    simp only
    rw [show (entL x).1.before (entL y).1 = decide (x.1 < y.1) from rfl]
    split
    · rfl
    · rw [ih]; rfl
theorem keep_dat (k : Int) (L : Olds) : ((L.map entL).filter fun p => !p.1.sameKey (.int .i64 k)) = (L.filter (keep k)).map entL := by
  rw [List.filter_map]
  congr 1
  refine List.filter_congr (fun p _ => ?_)
  show (!(decide (IntKind.i64 = IntKind.i64 ∧ p.1 = k))) = keep k p
  unfold keep
  congr 1
  exact decide_eq_decide.2 ⟨fun h => h.2, fun h => ⟨rfl, h⟩⟩
theorem putL_dat (L : Olds) (k : Int) (s : Sec) : (datL L).put (.int .i64 k) (.lit (.string s)) = datL (putL L k s) := by
  unfold datL DataW.put putL
  simp only
  rw [keep_dat]
  exact congrArg _ (insL_dat (k, s) _)
theorem getL_dat (L : Olds) (k : Int) (z : DataW Unit) : (datL L).atKey (.int .i64 k) z = match getL L k with | none => z | some s => .lit (.string s) := by
  unfold datL DataW.atKey getL
  simp only
  rw [List.find?_map]
  have e : ((fun p : Lit × DataW Unit => p.1.sameKey (.int .i64 k)) ∘ entL) = fun p : Int × Sec => decide (p.1 = k) := by
    funext p
    show decide (IntKind.i64 = IntKind.i64 ∧ p.1 = k) = decide (p.1 = k)
    exact decide_eq_decide.2 ⟨fun h => h.2, fun h => ⟨rfl, h⟩⟩
  rw [e]
  cases List.find? (fun p : Int × Sec => decide (p.1 = k)) L <;> rfl
theorem hasL_dat (L : Olds) (k : Int) : has (datL L) (.int .i64 k) = (getL L k).isSome := by
  unfold datL getL
  rw [has_eq, List.any_map]
  have e : ((fun p : Lit × DataW Unit => p.1.sameKey (.int .i64 k)) ∘ entL) = fun p : Int × Sec => decide (p.1 = k) := by
    funext p
    show decide (IntKind.i64 = IntKind.i64 ∧ p.1 = k) = decide (p.1 = k)
    exact decide_eq_decide.2 ⟨fun h => h.2, fun h => ⟨rfl, h⟩⟩
  rw [e]
  induction L with
  | nil => rfl
  | cons y r ih =>
    rw [List.any_cons, List.find?_cons]
    cases decide (y.1 = k) with
    | true => rfl
    | false => rw [Bool.false_or]; exact ih
theorem sizeL_dat (L : Olds) : Maps.size (datL L) = L.length := by
  unfold datL
  rw [Maps.size_eq, List.length_map]
theorem keysL_dat (L : Olds) : intKeys (datL L) = L.map (·.1) := by
  unfold datL intKeys
  simp only
  rw [List.map_map]
  rfl
end Go.Proofs.YtbcghggkfnagoaaGreatDoor
