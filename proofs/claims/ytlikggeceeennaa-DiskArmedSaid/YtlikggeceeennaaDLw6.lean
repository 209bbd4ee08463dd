/- TWO DISKS, one of them armed: plain laws and words for DiskArmed. -/
import Derived.Test.YtlikggeceeennaaDLw5
set_option linter.unusedVariables false
set_option linter.unusedSimpArgs false
namespace Go.Proofs.Ytlikggeceeennaa
open Go Go.RowKit Go.Maps Hach

/-! ### plain -/
/-- D is E, but armed. -/
structure Twin (k : Nat) (K : List Bool) (T : Int) (D E : DiskV) (N : Nat) : Prop where
  eq : D = { E with armed := (k : Int) - E.ops, keep := K, torn := T }
  on : E.on = true
  armed : E.armed = 0
  room : E.room = 300
  ops : 0 ≤ E.ops ∧ E.ops < k ∧ E.ops ≤ N
  keep : E.keep = []
  size : (E.f0.now.length + E.f1.now.length : Int) ≤ 300
/-- What both say and are behind one operation. -/
def Both2 (k : Nat) (K : List Bool) (T : Int) (N : Nat) (r s : DiskV × Int) : Prop :=
  (Twin k K T r.1 s.1 N ∧ r.2 = s.2) ∨ (k ≤ s.1.ops ∧ r.1.on = false ∧ r.2 = 4)
section
variable {k N : Nat} {K : List Bool} {T : Int} {D E : DiskV}
theorem Twin.mono (h : Twin k K T D E N) {M : Nat} (hm : N ≤ M) : Twin k K T D E M := ⟨h.eq, h.on, h.armed, h.room, ⟨h.ops.1, h.ops.2.1, by have := h.ops; omega⟩, h.keep, h.size⟩
theorem Twin.same (h : Twin k K T D E N) (r : Int) : Both2 k K T (N + 1) (D, r) (E, r) := .inl ⟨h.mono (Nat.le_succ N), rfl⟩
theorem Twin.op (h : Twin k K T D E N) (F0 F1 : FileV) (hs : (F0.now.length + F1.now.length : Int) ≤ 300) (r : Int) {GD GE : DiskV} (hD : GD = { tick D with f0 := F0, f1 := F1 }) (hE : GE = { tick E with f0 := F0, f1 := F1 }) :
    Both2 k K T (N + 1) (opV D GD, opR D r) (opV E GE, opR E r) := by
  obtain ⟨ho, ha, hr, hops, hk, hz⟩ := (⟨h.on, h.armed, h.room, h.ops, h.keep, h.size⟩ : E.on = true ∧ E.armed = 0 ∧ E.room = 300 ∧ (0 ≤ E.ops ∧ E.ops < k ∧ E.ops ≤ N) ∧ E.keep = [] ∧ _)
  have e := h.eq
  have hDa : D.armed = (k : Int) - E.ops := by rw [e]
  have hDo : D.ops = E.ops := by rw [e]
  have hte : tick E = { E with ops := E.ops + 1 } := by unfold tick; rw [ha]; cases E; simp at ha; subst ha; rfl
  rw [opV_not ha, opR_not ha]
  by_cases h1 : D.armed = 1
  · right
    refine ⟨?_, ?_, ?_⟩
    · show (k : Int) ≤ GE.ops
      rw [hE, hte]; show (k : Int) ≤ E.ops + 1; omega
    · show (opV D GD).on = false
      unfold opV; rw [if_pos h1]; rfl
    · show opR D r = 4
      unfold opR; rw [if_pos h1]
  · left
    have hV : opV D GD = GD := by unfold opV; rw [if_neg h1]
    have hR : opR D r = r := by unfold opR; rw [if_neg h1]
    refine ⟨?_, hR⟩
    show Twin k K T (opV D GD) GE (N + 1)
    rw [hV, hE, hte]
    refine ⟨?_, ho, ha, hr, ⟨by show 0 ≤ E.ops + 1; omega, by show E.ops + 1 < k; omega, by show E.ops + 1 ≤ (N + 1 : Nat); omega⟩, hk, hs⟩
    rw [hD]
    have htd : tick D = { E with ops := E.ops + 1, armed := (k : Int) - (E.ops + 1), keep := K, torn := T } := by
      have hpos : 0 < (k : Int) - E.ops := by omega
      unfold tick
      rw [hDa, if_pos hpos, hDo, e]
      show ({ room := E.room, f0 := E.f0, f1 := E.f1, on := E.on, ops := E.ops + 1, armed := (k : Int) - E.ops - 1, keep := K, torn := T } : DiskV) = { room := E.room, f0 := E.f0, f1 := E.f1, on := E.on, ops := E.ops + 1, armed := (k : Int) - (E.ops + 1), keep := K, torn := T }
      congr 1
      omega
    rw [htd]
theorem Twin.fl (h : Twin k K T D E N) (b : Bool) : D.fl b = E.fl b := by rw [h.eq]; cases b <;> rfl
theorem tick_room (D : DiskV) : (tick D).room = D.room := rfl
theorem setF_eq (D : DiskV) (b : Bool) (f : FileV) : D.setF b f = { D with f0 := if b then D.f0 else f, f1 := if b then f else D.f1 } := by cases b <;> rfl
theorem Twin.setF (h : Twin k K T D E N) (b : Bool) (f : FileV) (hs : (f.now.length + (E.fl (!b)).now.length : Int) ≤ 300) (r : Int) : Both2 k K T (N + 1) (opV D ((tick D).setF b f), opR D r) (opV E ((tick E).setF b f), opR E r) := by
  have e0 : (tick D).f0 = (tick E).f0 := by show D.f0 = E.f0; rw [h.eq]
  have e1 : (tick D).f1 = (tick E).f1 := by show D.f1 = E.f1; rw [h.eq]
  refine h.op (if b then (tick E).f0 else f) (if b then f else (tick E).f1) ?_ r (by rw [setF_eq, e0, e1]) (by rw [setF_eq])
  cases b
  · exact hs
  · have := hs
    show ((E.f0.now.length : Int) + f.now.length) ≤ 300
    have h2 : ((E.fl (!true)).now.length : Int) = E.f0.now.length := rfl
    omega
theorem Twin.len (h : Twin k K T D E N) (b : Bool) : ((E.fl b).now.length + (E.fl (!b)).now.length : Int) ≤ 300 := by
  have := h.size
  cases b
  · exact this
  · show ((E.f1.now.length : Int) + E.f0.now.length) ≤ 300; omega
theorem Twin.write (h : Twin k K T D E N) (i a : Int) (ss : List Sec) : Both2 k K T (N + 1) (writeR D i a ss) (writeR E i a ss) := by
  have hd : D.on = true := by rw [h.eq]; exact h.on
  unfold writeR
  rw [hd, h.on, if_neg (by decide), if_neg (by decide)]
  cases hf : fileNr i with
  | none => exact h.same 11
  | some b =>
    show Both2 k K T (N + 1) (if a < 0 ∨ ((D.fl b).now.length : Int) < a then (D, 11) else if ss = [] then (D, 2) else _) (if a < 0 ∨ ((E.fl b).now.length : Int) < a then (E, 11) else if ss = [] then (E, 2) else _)
    rw [h.fl b]
    by_cases ha : a < 0 ∨ ((E.fl b).now.length : Int) < a
    · rw [if_pos ha, if_pos ha]; exact h.same 11
    rw [if_neg ha, if_neg ha]
    by_cases hz : ss = []
    · rw [if_pos hz, if_pos hz]; exact h.same 2
    rw [if_neg hz, if_neg hz]
    have hle : a.toNat ≤ (E.fl b).now.length := by omega
    have hfull : isFull b a.toNat ss.length (Go.Proofs.Ytlikggeceeennaa.tick D) = isFull b a.toNat ss.length (Go.Proofs.Ytlikggeceeennaa.tick E) := by
      unfold isFull
      rw [tick_fl, tick_fl, tick_fl, tick_fl, h.fl b, h.fl (!b), tick_room, tick_room, h.eq]
    have hfd : (Go.Proofs.Ytlikggeceeennaa.tick D).fl b = E.fl b := by rw [tick_fl, h.fl]
    have hfe : (Go.Proofs.Ytlikggeceeennaa.tick E).fl b = E.fl b := tick_fl E b
    unfold writeV
    rw [hfull]
    by_cases hq : isFull b a.toNat ss.length (Go.Proofs.Ytlikggeceeennaa.tick E) = true
    · rw [if_pos hq, if_pos hq, if_pos hq]
      refine h.op E.f0 E.f1 h.size 3 ?_ rfl
      show Go.Proofs.Ytlikggeceeennaa.tick D = { Go.Proofs.Ytlikggeceeennaa.tick D with f0 := E.f0, f1 := E.f1 }
      have e0 : D.f0 = E.f0 := by rw [h.eq]
      have e1 : D.f1 = E.f1 := by rw [h.eq]
      rw [← e0, ← e1]; rfl
    · rw [if_neg hq, if_neg hq, if_neg hq, hfd, hfe]
      refine h.setF b _ ?_ 0
      rw [putsF_len hle]
      have h9 : ¬ (E.room - ((E.fl (!b)).now.length : Int) < (max (a.toNat + ss.length) (E.fl b).now.length : Nat)) := by
        intro e9; apply hq
        unfold isFull
        rw [tick_fl, tick_fl, tick_room]
        exact decide_eq_true e9
      rw [h.room] at h9
      omega
theorem Twin.sync (h : Twin k K T D E N) (i : Int) : Both2 k K T (N + 1) (syncR D i) (syncR E i) := by
  have hd : D.on = true := by rw [h.eq]; exact h.on
  unfold syncR
  rw [hd, h.on, if_neg (by decide), if_neg (by decide)]
  cases hf : fileNr i with
  | none => exact h.same 11
  | some b =>
    show Both2 k K T (N + 1) (opV D (syncV b (Go.Proofs.Ytlikggeceeennaa.tick D)), opR D 0) (opV E (syncV b (Go.Proofs.Ytlikggeceeennaa.tick E)), opR E 0)
    unfold syncV
    rw [tick_fl, tick_fl, h.fl b]
    exact h.setF b _ (by have := h.len b; exact this) 0
theorem Twin.cut (h : Twin k K T D E N) (i n : Int) : Both2 k K T (N + 1) (cutR D i n) (cutR E i n) := by
  have hd : D.on = true := by rw [h.eq]; exact h.on
  unfold cutR
  rw [hd, h.on, if_neg (by decide), if_neg (by decide)]
  cases hf : fileNr i with
  | none => exact h.same 11
  | some b =>
    show Both2 k K T (N + 1) (if n < 0 ∨ ((D.fl b).now.length : Int) < n then (D, 11) else _) (if n < 0 ∨ ((E.fl b).now.length : Int) < n then (E, 11) else _)
    rw [h.fl b]
    by_cases ha : n < 0 ∨ ((E.fl b).now.length : Int) < n
    · rw [if_pos ha, if_pos ha]; exact h.same 11
    rw [if_neg ha, if_neg ha]
    unfold cutV
    rw [tick_fl, tick_fl, h.fl b]
    refine h.setF b _ ?_ 0
    have h2 : (cutF n.toNat (E.fl b)).now.length ≤ (E.fl b).now.length := by show ((E.fl b).now.take _).length ≤ _; rw [List.length_take]; omega
    have := h.len b
    omega
theorem Twin.okE (h : Twin k K T D E N) (hk : k ≤ 1000) : DiskOk E :=
  ⟨⟨⟨h.ops.1, by have := h.ops; omega⟩, by rw [h.armed]; exact ⟨Int.le_refl _, by decide⟩, by rw [h.room]; exact h.size⟩, by have := h.ops; omega, by rw [h.keep]; decide⟩
theorem Twin.okD (h : Twin k K T D E N) (hk : k ≤ 1000) (hK : K.length ≤ 1000) : DiskOk D := by
  rw [h.eq]
  exact ⟨⟨⟨h.ops.1, by have := h.ops; show E.ops < _; omega⟩, by have := h.ops; show 0 ≤ (k : Int) - E.ops ∧ (k : Int) - E.ops < _; omega, by show _ ≤ E.room; rw [h.room]; exact h.size⟩, by have := h.ops; show E.ops + 1 < _; omega, by show K.length < _; omega⟩
end
end Go.Proofs.Ytlikggeceeennaa
