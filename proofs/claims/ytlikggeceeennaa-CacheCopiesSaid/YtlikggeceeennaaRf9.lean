/- THE DOCUMENT's STEPS, told by the same list laws. -/
import Derived.Test.YtlikggeceeennaaCac28
set_option linter.unusedVariables false
set_option linter.unusedSimpArgs false
namespace Go.Proofs.Ytlikggeceeennaa
open Go Go.RowKit Hach
section
variable (w : World) (base b : Nat) (room hits miss : Int) (V : List Vis) (p : Int)
theorem rpinS_calls {N : Nat} (h : Hid (RefM w base b room hits miss V)) (hok : Hid (Ok5 V N ∧ N < 900000)) :
    Calls Try.prog 86 #[ptr b, .int .i64 p] w (StepR w base b room hits miss (pinV p V) (.int .i64 (pinCode p V))) := by
  unfold pinV pinCode onV codeV
  have hl : Hid (V.length < 1000000) := hid (by have := hok.out.1.len; have := hok.out.2; omega)
  cases hs : splitV p V with
  | none => exact (rpinMiss_calls w base b room hits miss V p h (hid (splitV_none hs)) hl).mono fun en w' hh => StepR.same h.out hh
  | some t =>
    obtain ⟨e, hp, hno⟩ := splitV_some hs
    obtain ⟨x, v, y⟩ := t
    simp only at e hp hno
    subst e; subst hp
    have hb := hok.out.1.pins v (by simp)
    exact rpinHit_calls w base b room hits miss x y v h (hid hno) hl (hid (by rw [IntKind.wrap_i64]; have := hok.out.2; omega))
theorem rfreeS_calls {N : Nat} (h : Hid (RefM w base b room hits miss V)) (hok : Hid (Ok5 V N ∧ N < 900000)) :
    Calls Try.prog 87 #[ptr b, .int .i64 p] w (StepR w base b room hits miss (freeV p V) (.int .i64 (freeCode p V))) := by
  unfold freeV freeCode onV codeV
  have hl : Hid (V.length < 1000000) := hid (by have := hok.out.1.len; have := hok.out.2; omega)
  cases hs : splitV p V with
  | none => exact (rfreeMiss_calls w base b room hits miss V p h (hid (splitV_none hs)) hl).mono fun en w' hh => StepR.same h.out hh
  | some t =>
    obtain ⟨e, hp, hno⟩ := splitV_some hs
    obtain ⟨x, v, y⟩ := t
    simp only at e hp hno
    subst e; subst hp
    have hb := hok.out.1.pins v (by simp)
    by_cases hz : v.2.2.1 = 0
    · simp only [hz, if_true]
      exact (rfreeNo_calls w base b room hits miss x y v h (hid hno) hl (hid (by rw [beq_iff_eq]; exact hz))).mono fun en w' hh => StepR.same h.out hh
    · simp only [hz, if_false]
      exact rfreeHit_calls w base b room hits miss x y v h (hid hno) hl (hid (by rw [IntKind.wrap_i64]; have := hok.out.2; omega)) (hid (beq_eq_false_iff_ne.2 hz))
theorem rmarkS_calls (d : Bool) {N : Nat} (h : Hid (RefM w base b room hits miss V)) (hok : Hid (Ok5 V N ∧ N < 900000)) :
    Calls Try.prog 88 #[ptr b, .int .i64 p, .bool d] w (StepR w base b room hits miss (markV p d V) (.int .i64 (pinCode p V))) := by
  unfold markV pinCode onV codeV
  have hl : Hid (V.length < 1000000) := hid (by have := hok.out.1.len; have := hok.out.2; omega)
  cases hs : splitV p V with
  | none => exact (rmarkMiss_calls w base b room hits miss V p d h (hid (splitV_none hs)) hl).mono fun en w' hh => StepR.same h.out hh
  | some t =>
    obtain ⟨e, hp, hno⟩ := splitV_some hs
    obtain ⟨x, v, y⟩ := t
    simp only at e hp hno
    subst e; subst hp
    exact rmarkHit_calls w base b room hits miss x y v d h (hid hno) hl
theorem rdropS_calls {N : Nat} (h : Hid (RefM w base b room hits miss V)) (hok : Hid (Ok5 V N ∧ N < 900000)) :
    Calls Try.prog 89 #[ptr b, .int .i64 p] w (StepR w base b room hits miss (dropV p V) (.int .i64 (dropCode p V))) := by
  unfold dropV dropCode codeV
  have hl : Hid (V.length < 1000000) := hid (by have := hok.out.1.len; have := hok.out.2; omega)
  cases hs : splitV p V with
  | none => exact (rdropMiss_calls w base b room hits miss V p h (hid (splitV_none hs)) hl).mono fun en w' hh => StepR.same h.out hh
  | some t =>
    obtain ⟨e, hp, hno⟩ := splitV_some hs
    obtain ⟨x, v, y⟩ := t
    simp only at e hp hno
    subst e; subst hp
    by_cases hz : 0 < v.2.2.1
    · simp only [hz, if_true]
      exact (rdropNo_calls w base b room hits miss x y v h (hid hno) hl (hid (decide_eq_true hz))).mono fun en w' hh => StepR.same h.out hh
    · simp only [hz, if_false]
      exact rdropHit_calls w base b room hits miss x y v h (hid hno) hl (hid (decide_eq_false hz))
theorem RefM.data {w : World} {base b : Nat} {room hits miss : Int} {V : List Vis} (h : RefM w base b room hits miss V) : ∀ v ∈ V, v.2.1.length = 512 := by
  obtain ⟨A, c, R, h1, rfl⟩ := h
  intro v hv
  obtain ⟨y, hy, rfl⟩ := List.mem_map.1 hv
  have := (h1.data y hy).1
  rw [List.length_map] at this
  exact this
theorem rgetS_calls {N : Nat} (h : Hid (RefM w base b room hits miss V)) (hok : Hid (Ok5 V N ∧ N < 900000)) (hb : Hid (hits < 1000000 ∧ 0 ≤ hits ∧ miss < 1000000 ∧ 0 ≤ miss)) :
    Calls Try.prog 84 #[ptr b, .int .i64 p] w (DataRet w p V fun w' => RefM w' base b room (hits + if foundV p V = true then 1 else 0) (miss + if foundV p V = true then 0 else 1) (getV p V) ∧ Below base w w' ∧ Fr (RefS w b) w w') := by
  have hb' := hb.out
  unfold DataRet getV foundV dataV
  have hl : Hid (V.length < 1000000) := hid (by have := hok.out.1.len; have := hok.out.2; omega)
  cases hs : splitV p V with
  | none =>
    refine (rgetMiss_calls w base b room hits miss V p h (hid (splitV_none hs)) hl (by rw [IntKind.wrap_i64]; omega)).mono ?_
    rintro en w' ⟨rfl, hh⟩
    exact ⟨none, 0, 0, rfl, hid ⟨rfl, by decide, Bytes.nil _ _⟩, hid (by simpa using hh.out)⟩
  | some t =>
    obtain ⟨e, hp, hno⟩ := splitV_some hs
    obtain ⟨x, v, y⟩ := t
    simp only at e hp hno
    subst e; subst hp
    have hd := h.out.data v (by simp)
    refine (rgetHit_calls w base b room hits miss x y v h (hid hno) hl (by rw [IntKind.wrap_i64]; omega)).mono ?_
    rintro en w' ⟨A, c, rfl, hh⟩
    exact ⟨A, 512, c, rfl, hid ⟨hd, by decide, hh.out.1⟩, hid (by simpa using hh.out.2)⟩
theorem rpeekS_calls {N : Nat} (h : Hid (RefM w base b room hits miss V)) (hok : Hid (Ok5 V N ∧ N < 900000)) :
    Calls Try.prog 85 #[ptr b, .int .i64 p] w (DataRet w p V fun w' => Up w w') := by
  unfold DataRet foundV dataV
  have hl : Hid (V.length < 1000000) := hid (by have := hok.out.1.len; have := hok.out.2; omega)
  cases hs : splitV p V with
  | none =>
    refine (rpeekMiss_calls w base b room hits miss V p h (hid (splitV_none hs)) hl).mono ?_
    rintro en w' ⟨rfl, hu⟩
    exact ⟨none, 0, 0, rfl, hid ⟨rfl, by decide, Bytes.nil _ _⟩, hid hu⟩
  | some t =>
    obtain ⟨e, hp, hno⟩ := splitV_some hs
    obtain ⟨x, v, y⟩ := t
    simp only at e hp hno
    subst e; subst hp
    have hd := h.out.data v (by simp)
    refine (rpeekHit_calls w base b room hits miss x y v h (hid hno) hl).mono ?_
    rintro en w' ⟨A, c, rfl, hh, hu⟩
    exact ⟨A, 512, c, rfl, hid ⟨hd, by decide, hh.out⟩, hid hu⟩
theorem rputErr_calls (A : Option Addr) (n c : Nat) (hc : p < 1 ∨ n ≠ 512) : Calls Try.prog 83 #[ptr b, .int .i64 p, .slice A n c] w fun en w' => en = .returned (.int .i64 2) ∧ Up w w' := by
  unfold ptr
  by_cases h1 : p < 1
  · clear hc
    go_enter Try.func83, Try.ntmps83
    go_wp2
    go_ret
    exact ⟨rfl, Up.refl _⟩
  · have h2 : (((n : Int) != 512) = true) := by rw [bne_iff_ne]; omega
    clear hc
    go_enter Try.func83, Try.ntmps83
    go_wp2
    go_ret
    exact ⟨rfl, Up.refl _⟩
theorem rputS_calls (A : Option Addr) (n c B : Nat) (D : List UInt8) {N : Nat} (h : Hid (RefM w base b room hits miss V)) (hok : Hid (Ok5 V N ∧ N < 900000)) (ho : Hid (w.ownsRow B 5 1 (.slice A n c) n (D.map byteCell))) :
    Calls Try.prog 83 #[ptr b, .int .i64 p, .slice A n c] w (StepR w base b room hits miss (if p < 1 ∨ n ≠ 512 then V else putV room p D V) (.int .i64 (if p < 1 ∨ n ≠ 512 then 2 else 0))) := by
  by_cases hc : p < 1 ∨ n ≠ 512
  · rw [if_pos hc, if_pos hc]
    exact (rputErr_calls w b p A n c hc).mono fun en w' hh => StepR.same h.out hh
  · rw [if_neg hc, if_neg hc]
    obtain ⟨h1, h2⟩ := not_or.1 hc
    have h2 : n = 512 := by simpa using h2
    subst h2
    obtain ⟨A0, c0, R, hr, rfl⟩ := h.out
    have hl : R.length < 1000000 := by have h8 := hok.out.1.len; have := hok.out.2; rw [List.length_map] at h8; omega
    have hl9 : R.length < 900000 := by have h8 := hok.out.1.len; have := hok.out.2; rw [List.length_map] at h8; omega
    have ho0 := hid (own_base ho.out (Nat.zero_le B))
    unfold putV
    cases hs : splitV p (R.map visR) with
    | none =>
      have hno := splitV_none hs
      rw [visR_page] at hno
      exact rput_calls w base b room hits miss A0 c0 R R p 0 false A c D (hid hr) (hid hl) (by omega) (hid (.inl ⟨hno, rfl, rfl, rfl⟩)) (hid (by omega)) (hid hno) ho0
    | some t =>
      obtain ⟨e, hp, hno⟩ := splitV_some hs
      obtain ⟨x, v, y⟩ := t
      simp only at e hp hno
      obtain ⟨R1, z, R2, rfl, rfl, rfl, rfl⟩ := map_split e
      rw [visR_page] at hno
      have hp' : z.page = p := hp
      have hnd := hok.out.1.nd
      rw [visR_page] at hnd
      have hno2 : p ∉ (R1 ++ R2).map RowR.page := by
        rw [List.map_append, List.map_cons, List.nodup_append, List.nodup_cons] at hnd
        rw [List.map_append, List.mem_append, not_or]
        refine ⟨hno, ?_⟩
        rw [← hp']; exact hnd.2.1.1
      have key := rput_calls w base b room hits miss A0 c0 (R1 ++ z :: R2) (R1 ++ R2) p z.pins z.dirty A c D (hid hr) (hid hl) (by omega) (hid (.inr ⟨R1, z, R2, rfl, hp', by rw [hp']; exact hno, rfl, rfl, rfl⟩)) (hid (by simp at hl9 ⊢; omega)) (hid hno2) ho0
      rw [List.map_append] at key
      exact key
theorem rpinsS_calls {N : Nat} (h : Hid (RefM w base b room hits miss V)) (hok : Hid (Ok5 V N ∧ N < 900000)) :
    Calls Try.prog 93 #[ptr b, .int .i64 p] w fun en w' => en = .returned (.int .i64 (pinsV p V)) ∧ Up w w' := by
  unfold pinsV
  have hl : Hid (V.length < 1000000) := hid (by have := hok.out.1.len; have := hok.out.2; omega)
  cases hs : splitV p V with
  | none => exact rpinsMiss_calls w base b room hits miss V p h (hid (splitV_none hs)) hl
  | some t =>
    obtain ⟨e, hp, hno⟩ := splitV_some hs
    obtain ⟨x, v, y⟩ := t
    simp only at e hp hno
    subst e; subst hp
    exact rpinsHit_calls w base b room hits miss x y v h (hid hno) hl
end
end Go.Proofs.Ytlikggeceeennaa
