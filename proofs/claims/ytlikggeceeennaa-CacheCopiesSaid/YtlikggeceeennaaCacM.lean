/- THE CACHE's MAP: pages to blocks. -/
import Derived.Test.YtlikggeceeennaaCac1
import Derived.Test.YtlikggeceeennaaCacP
import Derived.Maps.OwnSet
import Derived.Maps.OwnOps
set_option linter.unusedVariables false
set_option linter.unusedSimpArgs false
namespace Go.Proofs.Ytlikggeceeennaa
open Go Go.RowKit Go.Maps Hach

/-- How an element reads: a pointer to a whole block as the block's number. -/
def ptrElem (v : Value) : Option (DataW Unit × List MemPlace) :=
  match v with
  | .pointer none => some (.nil, [])
  | .pointer (some ⟨b, 0, none⟩) => some (.lit (.int .i64 (b : Int)), [])
  | _ => none
theorem ptrElem_ptr (b : Nat) : ptrElem (ptr b) = some (.lit (.int .i64 (b : Int)), []) := rfl
theorem ptrElem_inv_nil {v : Value} {ps : List MemPlace} (h : ptrElem v = some (.nil, ps)) : v = .pointer none := by
  unfold ptrElem at h
  split at h
  · rfl
  · cases h
  · cases h
theorem ptrElem_inv_lit {v : Value} {b : Nat} {ps : List MemPlace} (h : ptrElem v = some (.lit (.int .i64 (b : Int)), ps)) : v = ptr b := by
  unfold ptrElem at h
  split at h
  · cases h
  · rename_i c
    injection h with h
    injection h with h _
    injection h with h
    injection h with _ h
    unfold ptr
    rw [show c = b by omega]
  · cases h
theorem keyL : Keyed Try.prog 3 := int_keyed Try.underlying3
theorem zeroP (w : World) : (zeroValue 65).run Try.prog w = .ok (.pointer none) w := by kernel_rfl
theorem key_mk {p : Int} (h : (Lit.int .i64 p).wf = true) : keyOf Try.prog 3 (.int .i64 p) = some (.int .i64 p) := keyOf_int_mk Try.underlying3 h
theorem key_lit (p : Int) : WideAt.IsKeyLit (.int .i64 p) := by simp [WideAt.IsKeyLit]

/-- What a key reads as. -/
def seen (L : List (Int × Nat)) (p : Int) : DataW Unit := match L.lookup p with | none => .nil | some b => .lit (.int .i64 (b : Int))
def MapIs (w : World) (mp : Nat) (L : List (Int × Nat)) : Prop :=
  ∃ D : DataW Unit, w.ownsMap Try.prog 3 ptrElem mp L.length D ∧ (∀ p, D.atKey (.int .i64 p) .nil = seen L p) ∧ (∀ p, has D (.int .i64 p) = (L.lookup p).isSome) ∧ Maps.size D = L.length
theorem MapIs.made (w : World) : MapIs (w.alloc (.map #[] 0)) w.heap.size [] :=
  ⟨.map [], World.ownsMap_made _ _ _ _, fun p => rfl, fun p => rfl, rfl⟩
theorem MapIs.kept {w w' : World} {mp : Nat} {L : List (Int × Nat)} {S : Nat → Prop} (h : MapIs w mp L) (hf : Fr S w w') (hS : ¬ S mp) : MapIs w' mp L := by
  obtain ⟨D, h1, h2⟩ := h
  refine ⟨D, ?_, h2⟩
  have hlt := h1.lt
  obtain ⟨es, clock, hb, r⟩ := h1
  exact ⟨es, clock, (hf.block mp hlt hS).trans hb, r⟩
theorem MapIs.lt {w : World} {mp : Nat} {L : List (Int × Nat)} (h : MapIs w mp L) : mp < w.heap.size := by obtain ⟨D, h1, _⟩ := h; exact h1.lt
/-- m[p]. -/
theorem MapIs.look {w : World} {mp : Nat} {L : List (Int × Nat)} (h : MapIs w mp L) {p : Int} (hp : (Lit.int .i64 p).wf = true) :
    (Instr.lookup 64 (.map (some mp)) (.int .i64 p) false).run Try.prog w = .ok (match L.lookup p with | none => .pointer none | some b => ptr b) w := by
  obtain ⟨D, h1, h2, _⟩ := h
  obtain ⟨v, ps, hrun, hv⟩ := h1.lookup keyL Try.underlying64 (zeroP w) (zd := .nil) (zp := []) rfl (key_mk hp)
  rw [hrun, h2 p] at *
  unfold seen at hv
  cases hl : L.lookup p with
  | none => rw [hl] at hv; rw [ptrElem_inv_nil hv]
  | some b => rw [hl] at hv; rw [ptrElem_inv_lit hv]
/-- len(m). -/
theorem MapIs.len {w : World} {mp : Nat} {L : List (Int × Nat)} (h : MapIs w mp L) (ty : TypeId) : (Builtin.len_ #[64] ty #[.map (some mp)]).run Try.prog w = .ok (.int .i64 L.length) w := by
  obtain ⟨D, h1, _, _, h4⟩ := h
  rw [h1.len Try.underlying64 ty, h4]
theorem lit_ne {p q : Int} (h : q ≠ p) : (Lit.int .i64 q) ≠ (Lit.int .i64 p) := fun e => h (by injection e)
/-- m[p] = b, where p is not there. -/
theorem MapIs.add {w : World} {mp : Nat} {L : List (Int × Nat)} (h : MapIs w mp L) {p : Int} {b : Nat} (hp : (Lit.int .i64 p).wf = true) (hn : L.lookup p = none) (hL : L.length < 1000000) :
    ∃ w', (Instr.mapUpdate 64 (.map (some mp)) (.int .i64 p) (ptr b)).run Try.prog w = .ok () w' ∧ MapIs w' mp (L ++ [(p, b)]) ∧ w.grownBy w' (some mp) := by
  obtain ⟨D, h1, h2, h3, h4⟩ := h
  obtain ⟨w', hrun, k1, k2⟩ := h1.update keyL Try.underlying64 (by unfold maxLen; omega) (key_mk hp) (ptrElem_ptr b)
  have hm := h1.isMap
  have hno : has D (.int .i64 p) = false := by rw [h3, hn]; rfl
  refine ⟨w', hrun, ⟨_, by rw [List.length_append]; exact k1, fun q => ?_, fun q => ?_, ?_⟩, k2⟩
  · unfold seen
    rw [List.lookup_append]
    by_cases e : q = p
    · subst e
      rw [atKey_put_same hm (key_lit q), hn]
      simp [List.lookup]
    · rw [atKey_put_other (lit_ne e), h2]
      unfold seen
      cases hl : L.lookup q with
      | none => simp [List.lookup, beq_eq_false_iff_ne.2 e]
      | some c => rfl
  · rw [List.lookup_append]
    by_cases e : q = p
    · subst e
      rw [has_put_same hm (key_lit q), hn]
      simp [List.lookup]
    · rw [has_put_other (lit_ne e), h3]
      cases hl : L.lookup q with
      | none => simp [List.lookup, beq_eq_false_iff_ne.2 e]
      | some c => rfl
  · rw [size_put (h1.tidy keyL), hno, List.length_append, h4]; rfl
theorem lookup_mid {L1 L2 : List (Int × Nat)} {p : Int} {b : Nat} (hn : (L1 ++ L2).lookup p = none) (q : Int) : (L1 ++ (p, b) :: L2).lookup q = if q = p then some b else (L1 ++ L2).lookup q := by
  rw [List.lookup_append] at hn ⊢
  rw [List.lookup_append]
  by_cases e : q = p
  · subst e
    have h1 : L1.lookup q = none := by
      cases h : L1.lookup q with
      | none => rfl
      | some c => rw [h] at hn; cases hn
    rw [h1, if_pos rfl]
    simp [List.lookup]
  · rw [if_neg e]
    simp [List.lookup, beq_eq_false_iff_ne.2 e]
/-- delete(m, p). -/
theorem MapIs.del {w : World} {mp : Nat} {L1 L2 : List (Int × Nat)} {p : Int} {b : Nat} (h : MapIs w mp (L1 ++ (p, b) :: L2)) (hp : (Lit.int .i64 p).wf = true) (hn : (L1 ++ L2).lookup p = none) (ty : TypeId) :
    ∃ w', (Builtin.delete_ #[64, 3] ty #[.map (some mp), .int .i64 p]).run Try.prog w = .ok (.tuple #[]) w' ∧ MapIs w' mp (L1 ++ L2) ∧ w.grownBy w' (some mp) := by
  obtain ⟨D, h1, h2, h3, h4⟩ := h
  obtain ⟨w', hrun, k1, k2⟩ := h1.drop keyL Try.underlying64 (key_mk hp) ty
  have hyes : has D (.int .i64 p) = true := by rw [h3, lookup_mid hn, if_pos rfl]; rfl
  have hsz : Maps.size (D.del (.int .i64 p)) = (L1 ++ L2).length := by
    have := size_del (k := Lit.int .i64 p) (h1.tidy keyL)
    rw [hyes, h4] at this
    simp only [List.length_append, List.length_cons, if_true] at this ⊢
    omega
  obtain ⟨es, clock, hb, F, hs, hD⟩ := k1
  refine ⟨w', hrun, ⟨_, ⟨es, clock, hb, F, ?_, hD⟩, fun q => ?_, fun q => ?_, hsz⟩, k2.grown⟩
  · rw [← hsz, hD, Maps.size_eq, length_sorted]; simp
  · by_cases e : q = p
    · subst e
      rw [atKey_del_same]
      unfold seen
      rw [hn]
    · rw [atKey_del_other (lit_ne e), h2]
      unfold seen
      rw [lookup_mid hn, if_neg e]
  · by_cases e : q = p
    · subst e
      rw [has_del_same, hn]; rfl
    · rw [has_del_other (lit_ne e), h3, lookup_mid hn, if_neg e]
end Go.Proofs.Ytlikggeceeennaa
