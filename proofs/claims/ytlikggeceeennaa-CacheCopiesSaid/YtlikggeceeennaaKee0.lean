/- WORDS FOR CacheKeeps: what stays at a Put; rows of numbers behind what the cache does. -/
import Derived.Test.YtlikggeceeennaaActS
set_option linter.unusedVariables false
set_option linter.unusedSimpArgs false
namespace Go.Proofs.Ytlikggeceeennaa
open Go Go.RowKit Hach

def heldV (p : Int) (v : Vis) : Prop := 0 < v.2.2.1 ∨ v.2.2.2 = true ∨ v.1 = p
theorem goes_held {room p : Int} {n : Nat} {v : Vis} (h : heldV p v) : goesV room p n v = false := by
  unfold goesV
  rcases h with h | h | h
  · rw [show (v.2.2.1 == 0) = false from beq_eq_false_iff_ne.2 (by omega)]; simp
  · rw [h]; simp
  · rw [show decide (v.1 ≠ p) = false from decide_eq_false (by simp [h])]; simp
theorem held_goes {room p : Int} {n : Nat} {v : Vis} (h : ¬ goesV room p n v = true) (hn : room < (n : Int)) (h0 : 0 ≤ v.2.2.1) : heldV p v := by
  unfold goesV at h
  rw [decide_eq_true hn, Bool.true_and] at h
  by_cases h1 : v.1 = p
  · exact .inr (.inr h1)
  by_cases h2 : v.2.2.2 = true
  · exact .inr (.inl h2)
  refine .inl ?_
  rw [show decide (v.1 ≠ p) = true from decide_eq_true h1, Bool.true_and, show v.2.2.2 = false by simpa using h2] at h
  have : ¬ v.2.2.1 = 0 := by simpa using h
  omega
theorem evictV_keeps {room p : Int} {done rest : List Vis} {v : Vis} (hv : v ∈ done ++ rest) (h : heldV p v) : v ∈ evictV room p done rest := by
  induction rest generalizing done with
  | nil => rw [List.append_nil] at hv; exact hv
  | cons x rest ih =>
    unfold evictV
    split
    · rename_i hg
      have hne : v ≠ x := by rintro rfl; rw [goes_held h] at hg; cases hg
      have hm : v ∈ done ++ rest := by
        rcases List.mem_append.1 hv with hv | hv
        · exact List.mem_append_left _ hv
        · rcases List.mem_cons.1 hv with hv | hv
          · exact absurd hv hne
          · exact List.mem_append_right _ hv
      split
      · exact ih hm
      · exact hm
    · split
      · exact ih (by rw [List.append_assoc]; exact hv)
      · exact hv
theorem evictV_full {room p : Int} {done rest : List Vis} (hd : ∀ v ∈ done, heldV p v) (h0 : ∀ v ∈ rest, 0 ≤ v.2.2.1) (hf : room < ((evictV room p done rest).length : Int)) : ∀ v ∈ evictV room p done rest, heldV p v := by
  induction rest generalizing done with
  | nil => exact hd
  | cons x rest ih =>
    have h1 : ∀ v ∈ rest, 0 ≤ v.2.2.1 := fun v hv => h0 v (List.mem_cons_of_mem _ hv)
    unfold evictV at hf ⊢
    split
    · rename_i hg
      rw [if_pos hg] at hf
      split
      · rename_i hl
        rw [if_pos hl] at hf
        exact ih hd h1 hf
      · rename_i hl
        rw [if_neg hl] at hf
        exact absurd hf hl
    · rename_i hg
      rw [if_neg hg] at hf
      split
      · rename_i hl
        rw [if_pos hl] at hf
        refine ih (fun v hv => ?_) h1 hf
        rcases List.mem_append.1 hv with hv | hv
        · exact hd v hv
        · rw [List.mem_singleton.1 hv]
          exact held_goes hg hl (h0 x List.mem_cons_self)
      · rename_i hl
        rw [if_neg hl] at hf
        exact absurd hf hl
theorem foundV_mem {p : Int} {V : List Vis} (h : p ∈ V.map (·.1)) : foundV p V = true := by
  unfold foundV
  cases hs : splitV p V with
  | none => exact absurd h (splitV_none hs)
  | some t => rfl
theorem putV_mem {room p : Int} {D : List UInt8} {V : List Vis} {v : Vis} (hv : v ∈ V) (h : 0 < v.2.2.1 ∨ v.2.2.2 = true) : v.1 ∈ (putV room p D V).map (·.1) := by
  unfold putV
  split
  · have := evictV_keeps (room := room) (p := p) (done := []) (rest := V ++ [(p, D, 0, false)]) (v := v) (by rw [List.nil_append]; exact List.mem_append_left _ hv) (h.elim .inl (fun h => .inr (.inl h)))
    exact List.mem_map_of_mem (f := (·.1)) this
  · rename_i t ht
    obtain ⟨e, hp, _⟩ := splitV_some ht
    rw [e] at hv
    have key : ∀ u, u ∈ (t.1 ++ t.2.2) ++ [(p, D, t.2.1.2.2.1, t.2.1.2.2.2)] → heldV p u → u.1 ∈ (evictV room p [] ((t.1 ++ t.2.2) ++ [(p, D, t.2.1.2.2.1, t.2.1.2.2.2)])).map (·.1) := fun u hu h =>
      List.mem_map_of_mem (f := (·.1)) (evictV_keeps (room := room) (p := p) (done := []) hu h)
    rcases List.mem_append.1 hv with hv | hv
    · exact key v (List.mem_append_left _ (List.mem_append_left _ hv)) (h.elim .inl (fun h => .inr (.inl h)))
    · rcases List.mem_cons.1 hv with rfl | hv
      · rw [hp]
        exact key (p, D, t.2.1.2.2.1, t.2.1.2.2.2) (List.mem_append_right _ (List.mem_singleton.2 rfl)) (.inr (.inr rfl))
      · exact key v (List.mem_append_left _ (List.mem_append_right _ hv)) (h.elim .inl (fun h => .inr (.inl h)))
theorem putV_full {room p : Int} {D : List UInt8} {V : List Vis} (h0 : ∀ v ∈ V, 0 ≤ v.2.2.1) (hf : room < ((putV room p D V).length : Int)) : ∀ v ∈ putV room p D V, heldV p v := by
  unfold putV at hf ⊢
  split
  · rename_i hs
    rw [hs] at hf
    refine evictV_full (by simp) (fun v hv => ?_) hf
    rcases List.mem_append.1 hv with hv | hv
    · exact h0 v hv
    · rw [List.mem_singleton.1 hv]; exact Int.le_refl _
  · rename_i t ht
    rw [ht] at hf
    obtain ⟨e, hp, _⟩ := splitV_some ht
    refine evictV_full (by simp) (fun v hv => ?_) hf
    rcases List.mem_append.1 hv with hv | hv
    · refine h0 v ?_
      rw [e]
      rcases List.mem_append.1 hv with hv | hv
      · exact List.mem_append_left _ hv
      · exact List.mem_append_right _ (List.mem_cons_of_mem _ hv)
    · rw [List.mem_singleton.1 hv]; exact h0 t.2.1 (by rw [e]; simp)
theorem pinsV_of {V : List Vis} (hn : (V.map (·.1)).Nodup) {v : Vis} (hv : v ∈ V) : pinsV v.1 V = v.2.2.1 := by
  unfold pinsV
  cases hs : splitV v.1 V with
  | none => exact absurd (List.mem_map_of_mem (f := (·.1)) hv) (splitV_none hs)
  | some t =>
    obtain ⟨e, hp, hno⟩ := splitV_some hs
    have : t.2.1 = v := by
      rw [e] at hn hv
      rw [List.map_append, List.map_cons, List.nodup_append] at hn
      rcases List.mem_append.1 hv with hv | hv
      · exact absurd (List.mem_map_of_mem (f := (·.1)) hv) hno
      · rcases List.mem_cons.1 hv with hv | hv
        · exact hv.symm
        · have := (List.nodup_cons.1 hn.2.1).1
          rw [hp] at this
          exact absurd (List.mem_map_of_mem (f := (·.1)) hv) this
    exact congrArg (·.2.2.1) this
theorem mem_rising {L : List Int} {p : Int} : p ∈ rising L ↔ p ∈ L := (List.mergeSort_perm L _).mem_iff
theorem mem_dirtyOf {V : List Vis} {p : Int} : p ∈ dirtyOf V ↔ ∃ v ∈ V, v.2.2.2 = true ∧ v.1 = p := by
  unfold dirtyOf
  rw [List.mem_map]
  constructor
  · rintro ⟨v, hv, e⟩; rw [List.mem_filter] at hv; exact ⟨v, hv.1, hv.2, e⟩
  · rintro ⟨v, hv, hd, e⟩; exact ⟨v, List.mem_filter.2 ⟨hv, hd⟩, e⟩
/-- The pages that hold pins, of some. -/
def pinned (V : List Vis) (L : List Int) : List Int := L.filter fun p => decide (0 < pinsV p V)
/-- What must be here behind the Put. -/
theorem keeps_all {room p : Int} {D : List UInt8} {V : List Vis} {N : Nat} (hok : Ok5 V N) {q : Int} (hq : q ∈ rising (dirtyOf V) ++ pinned V (V.map (·.1))) : foundV q (putV room p D V) = true := by
  rcases List.mem_append.1 hq with hq | hq
  · obtain ⟨v, hv, hd, rfl⟩ := mem_dirtyOf.1 (mem_rising.1 hq)
    exact foundV_mem (putV_mem hv (.inr hd))
  · unfold pinned at hq
    rw [List.mem_filter] at hq
    obtain ⟨hq, hp⟩ := hq
    obtain ⟨v, hv, rfl⟩ := List.mem_map.1 hq
    rw [pinsV_of hok.nd hv] at hp
    exact foundV_mem (putV_mem hv (.inl (of_decide_eq_true hp)))
/-- Whether a page is held. -/
def heldB (a : Int) (V : List Vis) (DL : List Int) (p : Int) : Bool := (decide (0 < pinsV p V) || decide (p = a)) || DL.any fun q => decide (p = q)
theorem held_all {room a : Int} {D : List UInt8} {V : List Vis} {N M : Nat} (hok : Ok5 V N) (hok2 : Ok5 (putV room a D V) M) (hf : room < ((putV room a D V).length : Int)) {p : Int} (hp : p ∈ (putV room a D V).map (·.1)) :
    heldB a (putV room a D V) (rising (dirtyOf (putV room a D V))) p = true := by
  obtain ⟨v, hv, rfl⟩ := List.mem_map.1 hp
  have h := putV_full (fun v hv => (hok.pins v hv).1) hf v hv
  unfold heldB
  rcases h with h | h | h
  · rw [pinsV_of hok2.nd hv, decide_eq_true h]; simp
  · rw [Bool.or_eq_true]
    exact .inr (List.any_eq_true.2 ⟨v.1, mem_rising.2 (mem_dirtyOf.2 ⟨v, hv, h, rfl⟩), by simp⟩)
  · rw [decide_eq_true h]; simp
theorem keeps_wf {V : List Vis} (hw : ∀ v ∈ V, (Lit.int .i64 v.1).wf = true) {q : Int} (hq : q ∈ rising (dirtyOf V) ++ pinned V (V.map (·.1))) : (Lit.int .i64 q).wf = true := by
  rcases List.mem_append.1 hq with hq | hq
  · obtain ⟨v, hv, _, rfl⟩ := mem_dirtyOf.1 (mem_rising.1 hq)
    exact hw v hv
  · unfold pinned at hq
    rw [List.mem_filter] at hq
    obtain ⟨v, hv, rfl⟩ := List.mem_map.1 hq.1
    exact hw v hv
section
variable {w w1 : World} {bc g mp br b : Nat} {room hits miss : Int} {V : List Vis}
theorem own_afterC {e : TypeId} {B n c : Nat} {A : Option Addr} {xs : List Value} (h : CacheM w bc g mp room hits miss V) (hf : Fr (CacheS w g mp) w w1) (he : e ≠ 67 ∧ e ≠ 103) (ho : w.ownsRow B e 1 (.slice A n c) n xs) : w1.ownsRow B e 1 (.slice A n c) n xs := by
  obtain ⟨r, es, h1, h2⟩ := h
  refine hf.own ho (fun k hk hs => ?_)
  rcases hs with rfl | rfl | ⟨cs, h4, _⟩
  · exact own_ne ho h1.own he.1 hk
  · obtain ⟨D, ⟨es', clock, h3, _⟩, _⟩ := h1.map
    rcases ho.2 with ⟨hv, _⟩ | ⟨g', cap, cur, hv, _, hg, _⟩
    · rw [hv] at hk; cases hk
    · rw [hv] at hk
      obtain rfl : g' = k := by simpa [Value.ownBlock] using hk
      rw [h3] at hg; cases hg
  · exact own_ne ho h4 he.2 hk
/-- The cache behind what grows a row of numbers. -/
theorem CacheM.grow {e : TypeId} {B n c : Nat} {A : Option Addr} {xs : List Value} (h : CacheM w bc g mp room hits miss V) (ho : w.ownsRow B e 1 (.slice A n c) n xs) (he : e ≠ 67 ∧ e ≠ 103 ∧ e ≠ 5) (hg : w.grownBy w1 (Value.slice A n c).ownBlock) : CacheM w1 bc g mp room hits miss V := by
  obtain ⟨r, es, h1, h2⟩ := h
  refine CacheM.apart ⟨r, es, h1, h2⟩ (Fr.of_grown hg) (fun k hk' hlt => ?_)
  have hk := hk'.symm
  refine ⟨?_, ?_, ?_, ?_⟩
  · rintro rfl
    exact own_ne ho h1.own he.1 hk
  · rintro rfl
    obtain ⟨D, ⟨es', clock, h3, _⟩, _⟩ := h1.map
    rcases ho.2 with ⟨hv, _⟩ | ⟨g', cap, cur, hv, _, hg', _⟩
    · rw [hv] at hk; cases hk
    · rw [hv] at hk
      obtain rfl : g' = k := by simpa [Value.ownBlock] using hk
      rw [h3] at hg'; cases hg'
  · rintro ⟨cs', h3, _⟩
    exact own_ne ho h3 he.2.1 hk
  · intro cs' fr' h3
    exact own_ne ho h3 he.2.2 hk
end
end Go.Proofs.Ytlikggeceeennaa
