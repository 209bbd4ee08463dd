/- THE CACHE's STEPS, and the document's, told by one list law each. -/
import Derived.Test.YtlikggeceeennaaCac27
import Derived.Test.YtlikggeceeennaaRf6
import Derived.Test.YtlikggeceeennaaRf7
import Derived.Test.YtlikggeceeennaaRf8
set_option linter.unusedVariables false
set_option linter.unusedSimpArgs false
namespace Go.Proofs.Ytlikggeceeennaa
open Go Go.RowKit Hach

/-- A list parted at a page. -/
def splitV (p : Int) : List Vis → Option (List Vis × Vis × List Vis)
  | [] => none
  | v :: l => if v.1 = p then some ([], v, l) else (splitV p l).map fun t => (v :: t.1, t.2.1, t.2.2)
theorem splitV_some {p : Int} {V : List Vis} {t : List Vis × Vis × List Vis} (h : splitV p V = some t) : V = t.1 ++ t.2.1 :: t.2.2 ∧ t.2.1.1 = p ∧ p ∉ t.1.map (·.1) := by
  induction V generalizing t with
  | nil => cases h
  | cons v l ih =>
    unfold splitV at h
    split at h
    · injection h with h; subst h; rename_i hv; exact ⟨rfl, hv, by simp⟩
    · rename_i hv
      obtain ⟨t', h1, rfl⟩ := Option.map_eq_some_iff.1 h
      obtain ⟨e1, e2, e3⟩ := ih h1
      refine ⟨by rw [List.cons_append, ← e1], e2, ?_⟩
      rw [List.map_cons, List.mem_cons, not_or]
      exact ⟨fun e => hv e.symm, e3⟩
theorem splitV_none {p : Int} {V : List Vis} (h : splitV p V = none) : p ∉ V.map (·.1) := by
  induction V with
  | nil => simp
  | cons v l ih =>
    unfold splitV at h
    split at h
    · cases h
    · rename_i hv
      rw [List.map_cons, List.mem_cons, not_or]
      exact ⟨fun e => hv e.symm, ih (by simpa using h)⟩

/-- What a cache may hold: pages but once; pins in bounds. -/
structure Ok5 (V : List Vis) (N : Nat) : Prop where
  nd : (V.map (·.1)).Nodup
  pins : ∀ v ∈ V, 0 ≤ v.2.2.1 ∧ v.2.2.1 ≤ (N : Int)
  len : V.length ≤ N
theorem Ok5.mono {V : List Vis} {N M : Nat} (h : Ok5 V N) (hm : N ≤ M) : Ok5 V M := ⟨h.nd, fun v hv => ⟨(h.pins v hv).1, by have := (h.pins v hv).2; omega⟩, Nat.le_trans h.len hm⟩
theorem Ok5.sub {V U : List Vis} {N : Nat} (h : Ok5 V N) (hs : List.Sublist U V) : Ok5 U N := ⟨h.nd.sublist (hs.map _), fun v hv => h.pins v (hs.subset hv), Nat.le_trans hs.length_le h.len⟩
theorem Ok5.perm {V U : List Vis} {N : Nat} (h : Ok5 V N) (hs : U.Perm V) : Ok5 U N := ⟨(hs.map _).nodup_iff.2 h.nd, fun v hv => h.pins v (hs.mem_iff.1 hv), by rw [hs.length_eq]; exact h.len⟩

/-! ### the laws on lists -/
def onV (p : Int) (f : Vis → Vis) (V : List Vis) : List Vis := match splitV p V with | none => V | some t => t.1 ++ f t.2.1 :: t.2.2
def codeV (p : Int) (c : Vis → Int) (V : List Vis) : Int := match splitV p V with | none => 5 | some t => c t.2.1
def pinV (p : Int) (V : List Vis) : List Vis := onV p (fun v => (v.1, v.2.1, v.2.2.1 + 1, v.2.2.2)) V
def pinCode (p : Int) (V : List Vis) : Int := codeV p (fun _ => 0) V
def freeV (p : Int) (V : List Vis) : List Vis := onV p (fun v => if v.2.2.1 = 0 then v else (v.1, v.2.1, v.2.2.1 - 1, v.2.2.2)) V
def freeCode (p : Int) (V : List Vis) : Int := codeV p (fun v => if v.2.2.1 = 0 then 6 else 0) V
def markV (p : Int) (d : Bool) (V : List Vis) : List Vis := onV p (fun v => (v.1, v.2.1, v.2.2.1, d)) V
def dropV (p : Int) (V : List Vis) : List Vis := match splitV p V with | none => V | some t => if 0 < t.2.1.2.2.1 then V else t.1 ++ t.2.2
def dropCode (p : Int) (V : List Vis) : Int := codeV p (fun v => if 0 < v.2.2.1 then 6 else 0) V
def getV (p : Int) (V : List Vis) : List Vis := match splitV p V with | none => V | some t => (t.1 ++ t.2.2) ++ [t.2.1]
def foundV (p : Int) (V : List Vis) : Bool := (splitV p V).isSome
def dataV (p : Int) (V : List Vis) : List UInt8 := match splitV p V with | none => [] | some t => t.2.1.2.1
def putV (room p : Int) (D : List UInt8) (V : List Vis) : List Vis :=
  match splitV p V with | none => evictV room p [] (V ++ [(p, D, 0, false)]) | some t => evictV room p [] ((t.1 ++ t.2.2) ++ [(p, D, t.2.1.2.2.1, t.2.1.2.2.2)])
def pinsV (p : Int) (V : List Vis) : Int := match splitV p V with | none => 0 | some t => t.2.1.2.2.1

theorem mid_perm {α : Type} (a b : List α) (x : α) : ((a ++ b) ++ [x]).Perm (a ++ x :: b) := by
  rw [List.append_assoc]
  exact List.Perm.append_left a (List.perm_append_comm (l₁ := b) (l₂ := [x]))
theorem Ok5.on {p : Int} {f : Vis → Vis} {V : List Vis} {N : Nat} (h : Ok5 V N) (hf : ∀ v ∈ V, (f v).1 = v.1 ∧ 0 ≤ (f v).2.2.1 ∧ (f v).2.2.1 ≤ ((N + 1 : Nat) : Int)) : Ok5 (onV p f V) (N + 1) := by
  unfold onV
  split
  · exact h.mono (Nat.le_succ N)
  · rename_i t ht
    obtain ⟨e, hp, _⟩ := splitV_some ht
    have hm := hf t.2.1 (by rw [e]; simp)
    have hnd := h.nd
    have hpi := h.pins
    have hl := h.len
    rw [e] at hnd hpi hl
    refine ⟨?_, ?_, ?_⟩
    · rw [List.map_append, List.map_cons] at hnd ⊢
      rw [hm.1]; exact hnd
    · intro v hv
      rcases List.mem_append.1 hv with hv | hv
      · have := hpi v (List.mem_append_left _ hv); exact ⟨this.1, by omega⟩
      · rcases List.mem_cons.1 hv with rfl | hv
        · exact hm.2
        · have := hpi v (List.mem_append_right _ (List.mem_cons_of_mem _ hv)); exact ⟨this.1, by omega⟩
    · simp only [List.length_append, List.length_cons] at hl ⊢; omega
theorem evictV_sub (room p : Int) (done rest : List Vis) : List.Sublist (evictV room p done rest) (done ++ rest) := by
  induction rest generalizing done with
  | nil => rw [List.append_nil]; exact List.Sublist.refl _
  | cons x rest ih =>
    have s1 : List.Sublist (done ++ rest) (done ++ x :: rest) := List.Sublist.append (List.Sublist.refl _) (List.sublist_cons_self _ _)
    unfold evictV
    split
    · split
      · exact (ih done).trans s1
      · exact s1
    · split
      · have := ih (done ++ [x]); rwa [List.append_assoc] at this
      · exact List.Sublist.refl _
theorem Ok5.put {room p : Int} {D : List UInt8} {V : List Vis} {N : Nat} (h : Ok5 V N) : Ok5 (putV room p D V) (N + 1) := by
  unfold putV
  split
  · rename_i hs
    have hno := splitV_none hs
    refine Ok5.sub ?_ (evictV_sub room p [] _)
    rw [List.nil_append]
    refine ⟨?_, ?_, ?_⟩
    · rw [List.map_append, List.nodup_append]
      refine ⟨h.nd, by simp, fun a ha b hb e => hno ?_⟩
      have : b = p := by simpa using hb
      rw [← this, ← e]; exact ha
    · intro v hv
      rcases List.mem_append.1 hv with hv | hv
      · have := h.pins v hv; exact ⟨this.1, by omega⟩
      · rw [List.mem_singleton.1 hv]; exact ⟨Int.le_refl _, by show (0 : Int) ≤ _; omega⟩
    · have := h.len; rw [List.length_append]; simpa using this
  · rename_i t ht
    obtain ⟨e, hp, _⟩ := splitV_some ht
    refine Ok5.sub ?_ (evictV_sub room p [] _)
    rw [List.nil_append]
    have hv := h.pins t.2.1 (by rw [e]; simp)
    have k : Ok5 (t.1 ++ (p, D, t.2.1.2.2.1, t.2.1.2.2.2) :: t.2.2) (N + 1) := by
      have := Ok5.on (p := p) (f := fun v => (v.1, D, v.2.2.1, v.2.2.2)) h (fun v hv => ⟨rfl, (h.pins v hv).1, by have := (h.pins v hv).2; simp only; omega⟩)
      unfold onV at this
      rw [ht] at this
      simp only at this
      rwa [hp] at this
    exact k.perm (mid_perm _ _ _)
theorem Ok5.get {p : Int} {V : List Vis} {N : Nat} (h : Ok5 V N) : Ok5 (getV p V) N := by
  unfold getV
  split
  · exact h
  · rename_i t ht
    obtain ⟨e, _, _⟩ := splitV_some ht
    exact h.perm (by have := mid_perm t.1 t.2.2 t.2.1; rwa [← e] at this)
theorem Ok5.drop {p : Int} {V : List Vis} {N : Nat} (h : Ok5 V N) : Ok5 (dropV p V) N := by
  unfold dropV
  split
  · exact h
  · rename_i t ht
    split
    · exact h
    · obtain ⟨e, _, _⟩ := splitV_some ht
      refine h.sub ?_
      have : List.Sublist (t.1 ++ t.2.2) (t.1 ++ t.2.1 :: t.2.2) := List.Sublist.append (List.Sublist.refl _) (List.sublist_cons_self _ _)
      rwa [← e] at this
theorem clear_eq {V : List Vis} {N : Nat} (h : Ok5 V N) : rclearV V = clearV V := by
  unfold rclearV clearV
  refine List.filter_congr (fun v hv => ?_)
  have := (h.pins v hv).1
  by_cases e : v.2.2.1 = 0
  · rw [decide_eq_false (by omega), beq_iff_eq.2 e]; rfl
  · rw [decide_eq_true (by omega), beq_eq_false_iff_ne.2 e]; rfl

/-! ### the cache's steps -/
section
variable (w : World) (base g mp : Nat) (room hits miss : Int) (V : List Vis) (p : Int)
theorem StepM.same {w : World} {base g mp : Nat} {room hits miss : Int} {V : List Vis} {v : Value} {en : Ending} {w' : World} (h : CacheM w base g mp room hits miss V) (hh : en = .returned v ∧ Up w w') : StepM w base g mp room hits miss V v en w' :=
  ⟨hh.1, hid ⟨h.up hh.2, hh.2.mono h.bs, frS_up hh.2⟩⟩
theorem StepR.same {w : World} {base b : Nat} {room hits miss : Int} {V : List Vis} {v : Value} {en : Ending} {w' : World} (h : RefM w base b room hits miss V) (hh : en = .returned v ∧ Up w w') : StepR w base b room hits miss V v en w' :=
  ⟨hh.1, hid ⟨h.up hh.2, hh.2.mono h.bs, frR_up hh.2⟩⟩
theorem pinS_calls {N : Nat} (h : Hid (CacheM w base g mp room hits miss V)) (hok : Hid (Ok5 V N ∧ N < 900000)) (hwf : Hid ((Lit.int .i64 p).wf = true)) :
    Calls Try.prog 37 #[ptr g, .int .i64 p] w (StepM w base g mp room hits miss (pinV p V) (.int .i64 (pinCode p V))) := by
  unfold pinV pinCode onV codeV
  cases hs : splitV p V with
  | none => exact (pinMiss_calls w base g mp room hits miss V p h hwf (hid (splitV_none hs))).mono fun en w' hh => StepM.same h.out hh
  | some t =>
    obtain ⟨e, hp, hno⟩ := splitV_some hs
    obtain ⟨a, v, b⟩ := t
    simp only at e hp hno
    subst e; subst hp
    have hb := hok.out.1.pins v (by simp)
    exact pinHit_calls w base g mp room hits miss a b v h (hid (by rw [IntKind.wrap_i64]; have := hok.out.2; omega))
theorem freeS_calls {N : Nat} (h : Hid (CacheM w base g mp room hits miss V)) (hok : Hid (Ok5 V N ∧ N < 900000)) (hwf : Hid ((Lit.int .i64 p).wf = true)) :
    Calls Try.prog 38 #[ptr g, .int .i64 p] w (StepM w base g mp room hits miss (freeV p V) (.int .i64 (freeCode p V))) := by
  unfold freeV freeCode onV codeV
  cases hs : splitV p V with
  | none => exact (freeMiss_calls w base g mp room hits miss V p h hwf (hid (splitV_none hs))).mono fun en w' hh => StepM.same h.out hh
  | some t =>
    obtain ⟨e, hp, hno⟩ := splitV_some hs
    obtain ⟨a, v, b⟩ := t
    simp only at e hp hno
    subst e; subst hp
    have hb := hok.out.1.pins v (by simp)
    by_cases hz : v.2.2.1 = 0
    · simp only [hz, if_true]
      exact (freeNo_calls w base g mp room hits miss a b v h (hid (by rw [beq_iff_eq]; exact hz))).mono fun en w' hh => StepM.same h.out hh
    · simp only [hz, if_false]
      exact freeHit_calls w base g mp room hits miss a b v h (hid (by rw [IntKind.wrap_i64]; have := hok.out.2; omega)) (hid (beq_eq_false_iff_ne.2 hz))
theorem markS_calls (d : Bool) (h : Hid (CacheM w base g mp room hits miss V)) (hwf : Hid ((Lit.int .i64 p).wf = true)) :
    Calls Try.prog 39 #[ptr g, .int .i64 p, .bool d] w (StepM w base g mp room hits miss (markV p d V) (.int .i64 (pinCode p V))) := by
  unfold markV pinCode onV codeV
  cases hs : splitV p V with
  | none => exact (markMiss_calls w base g mp room hits miss V p d h hwf (hid (splitV_none hs))).mono fun en w' hh => StepM.same h.out hh
  | some t =>
    obtain ⟨e, hp, hno⟩ := splitV_some hs
    obtain ⟨a, v, b⟩ := t
    simp only at e hp hno
    subst e; subst hp
    exact markHit_calls w base g mp room hits miss a b v d h
theorem dropS_calls (h : Hid (CacheM w base g mp room hits miss V)) (hwf : Hid ((Lit.int .i64 p).wf = true)) :
    Calls Try.prog 40 #[ptr g, .int .i64 p] w (StepM w base g mp room hits miss (dropV p V) (.int .i64 (dropCode p V))) := by
  unfold dropV dropCode codeV
  cases hs : splitV p V with
  | none => exact (dropMiss_calls w base g mp room hits miss V p h hwf (hid (splitV_none hs))).mono fun en w' hh => StepM.same h.out hh
  | some t =>
    obtain ⟨e, hp, hno⟩ := splitV_some hs
    obtain ⟨a, v, b⟩ := t
    simp only at e hp hno
    subst e; subst hp
    by_cases hz : 0 < v.2.2.1
    · simp only [hz, if_true]
      exact (dropNo_calls w base g mp room hits miss a b v h (hid (decide_eq_true hz))).mono fun en w' hh => StepM.same h.out hh
    · simp only [hz, if_false]
      exact dropHit_calls w base g mp room hits miss a b v h (hid (decide_eq_false hz))
/-- A page's bytes are handed back, or none. -/
def DataRet (w : World) (p : Int) (V : List Vis) (T : World → Prop) (en : Ending) (w' : World) : Prop :=
  ∃ A n c, en = .returned (.tuple #[.slice A n c, .bool (foundV p V)]) ∧ Hid ((dataV p V).length = n ∧ n ≤ 512 ∧ Bytes w' A (dataV p V)) ∧ Hid (T w')
/-- The same, bytes of a row of their own. -/
def DataO (w : World) (p : Int) (V : List Vis) (T : World → Prop) (en : Ending) (w' : World) : Prop :=
  ∃ A n c, en = .returned (.tuple #[.slice A n c, .bool (foundV p V)]) ∧ Hid ((dataV p V).length = n ∧ n ≤ 512 ∧ w'.ownsRow 0 5 1 (.slice A n c) n ((dataV p V).map byteCell)) ∧ Hid (T w')
theorem getS_calls (h : Hid (CacheM w base g mp room hits miss V)) (hwf : Hid ((Lit.int .i64 p).wf = true)) (hb : Hid (hits < 1000000 ∧ 0 ≤ hits ∧ miss < 1000000 ∧ 0 ≤ miss)) :
    Calls Try.prog 35 #[ptr g, .int .i64 p] w (DataO w p V fun w' => CacheM w' base g mp room (hits + if foundV p V = true then 1 else 0) (miss + if foundV p V = true then 0 else 1) (getV p V) ∧ Below base w w' ∧ Fr (CacheS w g mp) w w') := by
  have hb' := hb.out
  unfold DataO getV foundV dataV
  cases hs : splitV p V with
  | none =>
    refine (getMiss_calls w base g mp room hits miss V p h hwf (hid (splitV_none hs)) (by rw [IntKind.wrap_i64]; omega)).mono ?_
    rintro en w' ⟨rfl, hh⟩
    exact ⟨none, 0, 0, rfl, hid ⟨rfl, by decide, own_nil _ _ _ _⟩, hid (by simpa using hh.out)⟩
  | some t =>
    obtain ⟨e, hp, hno⟩ := splitV_some hs
    obtain ⟨a, v, b⟩ := t
    simp only at e hp hno
    subst e; subst hp
    have hd := h.out.data v (by simp)
    refine (getHitM_calls w base g mp room hits miss a b v h (by rw [IntKind.wrap_i64]; omega)).mono ?_
    rintro en w' ⟨A, c, rfl, hh⟩
    exact ⟨A, 512, c, rfl, hid ⟨hd, by decide, hh.out.1⟩, hid (by simpa using hh.out.2)⟩
theorem peekS_calls (h : Hid (CacheM w base g mp room hits miss V)) (hwf : Hid ((Lit.int .i64 p).wf = true)) :
    Calls Try.prog 19 #[ptr g, .int .i64 p] w (DataO w p V fun w' => Up w w') := by
  unfold DataO foundV dataV
  cases hs : splitV p V with
  | none =>
    refine (peekMiss_calls w base g mp room hits miss V p h hwf (hid (splitV_none hs))).mono ?_
    rintro en w' ⟨rfl, hu⟩
    exact ⟨none, 0, 0, rfl, hid ⟨rfl, by decide, own_nil _ _ _ _⟩, hid hu⟩
  | some t =>
    obtain ⟨e, hp, hno⟩ := splitV_some hs
    obtain ⟨a, v, b⟩ := t
    simp only at e hp hno
    subst e; subst hp
    have hd := h.out.data v (by simp)
    refine (peekHit_calls w base g mp room hits miss a b v h).mono ?_
    rintro en w' ⟨A, c, rfl, hh, hu⟩
    exact ⟨A, 512, c, rfl, hid ⟨hd, by decide, hh.out⟩, hid hu⟩
theorem putS_calls (A : Option Addr) (n c : Nat) (D : List UInt8) {N : Nat} (h : Hid (CacheM w base g mp room hits miss V)) (hok : Hid (Ok5 V N ∧ N < 900000)) (hwf : Hid ((Lit.int .i64 p).wf = true)) (hD : Hid (D.length = n)) (hb : Hid (Bytes w A D)) :
    Calls Try.prog 17 #[ptr g, .int .i64 p, .slice A n c] w (StepM w base g mp room hits miss (if p < 1 ∨ n ≠ 512 then V else putV room p D V) (.int .i64 (if p < 1 ∨ n ≠ 512 then 2 else 0))) := by
  by_cases hc : p < 1 ∨ n ≠ 512
  · rw [if_pos hc, if_pos hc]
    exact (putErr_calls w base g mp room hits miss V p A n c h (hid hc)).mono fun en w' hh => StepM.same h.out hh
  · rw [if_neg hc, if_neg hc]
    obtain ⟨h1, h2⟩ := not_or.1 hc
    have h2 : n = 512 := by simpa using h2
    subst h2
    unfold putV
    cases hs : splitV p V with
    | none => exact putNewM_calls w base g mp room hits miss V p A c D h (by omega) hwf (hid (splitV_none hs)) hD hb (hid (by have := hok.out.1.len; have := hok.out.2; omega))
    | some t =>
      obtain ⟨e, hp, hno⟩ := splitV_some hs
      obtain ⟨a, v, b⟩ := t
      simp only at e hp hno
      subst e; subst hp
      exact putOldM_calls w base g mp room hits miss a b v A c D h (by omega) hD hb
theorem pinsS_calls (h : Hid (CacheM w base g mp room hits miss V)) (hwf : Hid ((Lit.int .i64 p).wf = true)) :
    Calls Try.prog 27 #[ptr g, .int .i64 p] w fun en w' => en = .returned (.int .i64 (pinsV p V)) ∧ Up w w' := by
  unfold pinsV
  cases hs : splitV p V with
  | none => exact pinsMiss_calls w base g mp room hits miss V p h hwf (hid (splitV_none hs))
  | some t =>
    obtain ⟨e, hp, hno⟩ := splitV_some hs
    obtain ⟨a, v, b⟩ := t
    simp only at e hp hno
    subst e; subst hp
    exact pinsHit_calls w base g mp room hits miss a b v h
end
end Go.Proofs.Ytlikggeceeennaa
