/- THE WALK of a file's put. -/
import Derived.Test.YtbcghggkfnagoaaGreatDoorDsk3
set_option linter.unusedVariables false
set_option linter.unusedSimpArgs false
namespace Go.Proofs.YtbcghggkfnagoaaGreatDoor
open Go Go.RowKit Go.Maps Hach

/-- What put leaves: the header of the row may be another. -/
def PutRes (w : World) (base d : Nat) (cs : Array Value) (t : TypeId) (o : Nat) (A : Option Addr) (c m : Nat) (f f' : FileV) (w' : World) : Prop :=
  ∃ A' c', FileAt w' base d (cs.setIfInBounds o (.slice A' f'.now.length c')) t o A' c' m f' ∧ Below base w w' ∧ Fr (fun k => k = d ∨ k = m ∨ (Value.slice A f.now.length c).ownBlock = some k) w w' ∧
    ((Value.slice A' f'.now.length c').ownBlock = (Value.slice A f.now.length c).ownBlock ∨ ∃ k, w.heap.size ≤ k ∧ (Value.slice A' f'.now.length c').ownBlock = some k)
def DPutRet (w : World) (base d : Nat) (cs : Array Value) (t : TypeId) (o : Nat) (A : Option Addr) (c m : Nat) (f f' : FileV) (en : Ending) (w' : World) : Prop :=
  en = .returned (.tuple #[]) ∧ Hid (PutRes w base d cs t o A c m f f' w')
theorem wf_nat {n : Nat} (h : n < 1000000) : (Lit.int .i64 (n : Int)).wf = true := by unfold Lit.wf; rw [Bool.and_eq_true]; exact ⟨decide_eq_true (by show (-9223372036854775808 : Int) ≤ _; omega), decide_eq_true (by show _ ≤ (9223372036854775807 : Int); omega)⟩
/-- A sector's bytes, in a row of bytes. -/
def ByteRow (w : World) (b p : Nat) (s : Sec) : Prop := (∃ cs fr, w.heap[b]? = some (.cells cs 5 fr)) ∧ w.rangeAt b p (secC s)
theorem ByteRow.fr {w w' : World} {b p : Nat} {s : Sec} (h : ByteRow w b p s) {S : Nat → Prop} (hf : Fr S w w') (hS : ¬ S b) : ByteRow w' b p s := by
  obtain ⟨⟨cs, fr, hb⟩, hr⟩ := h
  have e := hf.block b (Array.getElem?_eq_some_iff.1 hb).1 hS
  refine ⟨⟨cs, fr, e.trans hb⟩, fun j v hj => ?_⟩
  have := hr j v hj
  unfold World.cell? at this ⊢
  rw [show (⟨b, p + j, none⟩ : Addr).block = b from rfl] at this ⊢
  rw [e]; exact this
theorem ByteRow.up {w w' : World} {b p : Nat} {s : Sec} (h : ByteRow w b p s) (hu : Up w w') : ByteRow w' b p s := h.fr (Fr.of_below hu) id
theorem ByteRow.ne {w : World} {b p : Nat} {s : Sec} (h : ByteRow w b p s) {base d : Nat} {cs : Array Value} {t : TypeId} {o : Nat} {A : Option Addr} {c m : Nat} {f : FileV} (hf : FileAt w base d cs t o A c m f) : b ≠ d ∧ b ≠ m ∧ (Value.slice A f.now.length c).ownBlock ≠ some b := by
  obtain ⟨⟨cs', fr, hb⟩, _⟩ := h
  refine ⟨?_, ?_, ?_⟩
  · rintro rfl
    have := hf.own; rw [hb] at this
    injection this with this; injection this with _ h2 _
    exact hf.ty.2 h2.symm
  · rintro rfl
    obtain ⟨es, clock, hm⟩ := hf.map.isMap
    rw [hm] at hb; cases hb
  · intro hk
    rcases hf.row.2 with ⟨hv, _⟩ | ⟨g, cap, cur, hv, _, hg, _⟩
    · rw [hv] at hk; cases hk
    · rw [hv] at hk
      obtain rfl : g = b := by simpa [Value.ownBlock] using hk
      rw [hg] at hb
      injection hb with hb; injection hb with _ h2 _
      revert h2; decide
theorem set_same {cs : Array Value} {o : Nat} {v : Value} (h : cs[o]? = some v) : cs.setIfInBounds o v = cs := by
  refine Array.ext_getElem? (fun i => ?_)
  rw [Array.getElem?_setIfInBounds]
  split
  · rename_i e; subst e; rw [h]; simp [(Array.getElem?_eq_some_iff.1 h).1]
  · rfl
theorem getL_len {f : FileV} (h : FileOk f) (i : Int) : ((getL f.old i).getD zeroS).length = 128 := by
  unfold getL
  cases hf : List.find? (fun p : Int × Sec => decide (p.1 = i)) f.old with
  | none => exact zeroS_len
  | some p => exact h.old p (List.mem_of_find?_eq_some hf)
theorem FileAt.bs {w : World} {base d o m c : Nat} {cs : Array Value} {t : TypeId} {A : Option Addr} {f : FileV} (h : FileAt w base d cs t o A c m f) : base ≤ w.heap.size := Nat.le_trans h.low.1 (Nat.le_of_lt (Array.getElem?_eq_some_iff.1 h.own).1)
/-- The last step: one sector's bytes. -/
theorem PutRes.last {w W : World} {base d : Nat} {cs : Array Value} {t : TypeId} {o : Nat} {A : Option Addr} {c m : Nat} {f g : FileV} {A' : Option Addr} {c' g7 i : Nat} {s : Sec}
    (hf : FileAt W base d (cs.setIfInBounds o (.slice A' g.now.length c')) t o A' c' m g) (hi : i < g.now.length) (hA : A' = some ⟨g7, 0, none⟩) (hs : s.length = 128) (hb : Below base w W) (hr : Fr (fun k => k = d ∨ k = m ∨ (Value.slice A f.now.length c).ownBlock = some k) w W)
    (ho : (Value.slice A' g.now.length c').ownBlock = (Value.slice A f.now.length c).ownBlock ∨ ∃ k, w.heap.size ≤ k ∧ (Value.slice A' g.now.length c').ownBlock = some k) :
    PutRes w base d cs t o A c m f { g with now := g.now.set i s } (W.setCells g7 (i * 128) (secC s)) := by
  obtain ⟨h1, h2, h3⟩ := hf.write hi hA hs
  have hown : (Value.slice A' g.now.length c').ownBlock = some g7 := by rw [hA]; rfl
  refine ⟨A', c', by rw [List.length_set]; exact h1, hb.trans h2, ?_, by rw [List.length_set]; exact ho⟩
  refine hr.trans h3 (fun k hk e => ?_)
  rcases ho with ho | ⟨k', hk', ho⟩
  · exact .inr (.inr (by rw [← ho, hown, e]))
  · rw [hown] at ho
    have := Option.some.inj ho
    omega
set_option maxRecDepth 100000 in
set_option maxHeartbeats 2000000 in
theorem putDirty_calls (w : World) (base d : Nat) (cs : Array Value) (t : TypeId) (o : Nat) (A : Option Addr) (c m : Nat) (f : FileV) (i : Nat) (s : Sec) (bb bp cB : Nat) (h : Hid (FileAt w base d cs t o A c m f)) (hok : Hid (FileOk f)) (hi : Hid (i < f.now.length ∧ f.now.length < 1000000)) (hd : Hid ((getL f.old i).isSome = true))
    (hs : Hid (s.length = 128)) (hb : Hid (ByteRow w bb bp s)) :
    Calls Tryz.prog 173 #[.pointer (some ⟨d, o, none⟩), .int .i64 i, .slice (some ⟨bb, bp, none⟩) 128 cB] w (DPutRet w base d cs t o A c m f { f with now := f.now.set i s }) := by
  have BR := hb
  obtain ⟨g7, hA, _, _, _, hown⟩ := h.out.sec hi.out.1
  obtain ⟨k0, k1, k2⟩ := h.out.cell0
  have hlook := h.out.map.look (wf_nat (n := i) (by have := hi.out; omega))
  rw [hd.out] at hlook
  have SO : Hid (((getL f.old i).getD zeroS).length = 128) := hid (getL_len hok.out i)
  generalize (getL f.old i).getD zeroS = so at hlook SO
  obtain ⟨n7, hn⟩ : ∃ z, f.now.length = z := ⟨_, rfl⟩
  rw [hn] at k0
  have N7 := hid hn
  have hne : ¬ (i : Int) = (n7 : Int) := by have := hi.out; omega
  have hlt : (i : Int) < (n7 : Int) := by have := hi.out; omega
  have hltn : i < n7 := by have := hi.out; omega
  subst hA
  clear hn hown
  go_enter Tryz.func173, Tryz.ntmps173
  go_wp2_with (refine hold_st 173 ?_; refine hold ?_)
  refine hid (wl_storeNew rfl _ _ rfl SO.out rfl rfl ?_)
  have uA : Up w (w.alloc (.cells (secC so).toArray 173)) := upAlD (Up.refl _) _
  go_wp2
  generalize hwA : w.alloc (.cells (secC so).toArray 173) = W7 at *
  have UA := hid uA
  clear hwA uA
  have F7 := hid (show FileAt W7 base d (cs.setIfInBounds o (.slice (some ⟨g7, 0, none⟩) f.now.length c)) t o (some ⟨g7, 0, none⟩) c m f from by rw [set_same h.out.c0]; exact h.out.up UA.out)
  have B7 := hid (UA.out.mono h.out.bs)
  have R7 := hid (show Fr (fun k => k = d ∨ k = m ∨ (Value.slice (some ⟨g7, 0, none⟩) f.now.length c).ownBlock = some k) w W7 from (Fr.of_below UA.out).mono (fun _ e => e.elim))
  have O7 := hid (show (Value.slice (some ⟨g7, 0, none⟩) f.now.length c).ownBlock = (Value.slice (some ⟨g7, 0, none⟩) f.now.length c).ownBlock ∨ ∃ k, w.heap.size ≤ k ∧ (Value.slice (some ⟨g7, 0, none⟩) f.now.length c).ownBlock = some k from .inl rfl)
  have I7 := hid hi.out.1
  have BR7 := hid (BR.out.up UA.out)
  have k7 : W7.cell? ⟨d, o, none⟩ = some (.slice (some ⟨g7, 0, none⟩) n7 c) := UA.out.c k0
  clear k0 k1 k2 hlook
  have US : W7.drew.cell? ⟨d, o, none⟩ = some (.slice (some ⟨g7, 0, none⟩) n7 c) ∧ W7.drew.rangeAt bb bp (secC s) := ⟨k7, (BR7.out.up (Up.drew W7)).2⟩
  have F7d := hid (F7.out.up (Up.drew W7))
  have TH : Hid (W7.drew.there g7 (i * 128) 128) := by
    obtain ⟨g8, e8, _, h8, _, _⟩ := F7d.out.sec I7.out
    injection e8 with e8
    injection e8 with e8 _ _
    subst e8
    exact hid h8
  have AT := fun W => arrayAtS W bb bp cB
  refine t_start (fun w9 => w9.cell? ⟨d, o, none⟩ = some (.slice (some ⟨g7, 0, none⟩) n7 c) ∧ w9.rangeAt bb bp (secC s)) 9 (by kernel_rfl) ?_
  refine t_take 0 (some 60) (v := ?_) US rfl rfl (by kernel_rfl) (by kernel_rfl) (by kernel_rfl) (by kernel_rfl) (fun _ _ _ h => h) (by rfl) (fun w9 hS => ?_) ?_
  rotate_left
  · go_simp <;> with_reducible rfl
  try simp only [Act.put, List.setIfInBounds_toArray, List.set_cons_zero, List.set_cons_succ]
  refine t_take 1 (some 61) (v := ?_) US rfl rfl (by kernel_rfl) (by kernel_rfl) (by kernel_rfl) (by kernel_rfl) (fun _ _ _ h => h) (by rfl) (fun w9 hS => ?_) ?_
  rotate_left
  · go_simp <;> with_reducible rfl
  try simp only [Act.put, List.setIfInBounds_toArray, List.set_cons_zero, List.set_cons_succ]
  refine t_take 2 (some 62) (v := ?_) US rfl rfl (by kernel_rfl) (by kernel_rfl) (by kernel_rfl) (by kernel_rfl) (fun _ _ _ h => h) (by rfl) (fun w9 hS => ?_) ?_
  rotate_left
  · go_simp <;> with_reducible rfl
  try simp only [Act.put, List.setIfInBounds_toArray, List.set_cons_zero, List.set_cons_succ]
  refine t_take 3 (some 63) (v := ?_) US rfl rfl (by kernel_rfl) (by kernel_rfl) (by kernel_rfl) (by kernel_rfl) (fun _ _ _ h => h) (by rfl) (fun w9 hS => ?_) ?_
  rotate_left
  · obtain ⟨s0, _⟩ := hS; go_simp <;> with_reducible rfl
  try simp only [Act.put, List.setIfInBounds_toArray, List.set_cons_zero, List.set_cons_succ]
  refine t_take 4 (some 64) (v := ?_) US rfl rfl (by kernel_rfl) (by kernel_rfl) (by kernel_rfl) (by kernel_rfl) (fun _ _ _ h => h) (by rfl) (fun w9 hS => ?_) ?_
  rotate_left
  · go_simp <;> with_reducible rfl
  try simp only [Act.put, List.setIfInBounds_toArray, List.set_cons_zero, List.set_cons_succ]
  refine t_take 5 (some 65) (v := ?_) US rfl rfl (by kernel_rfl) (by kernel_rfl) (by kernel_rfl) (by kernel_rfl) (fun _ _ _ h => h) (by rfl) (fun w9 hS => ?_) ?_
  rotate_left
  · go_simp <;> with_reducible rfl
  try simp only [Act.put, List.setIfInBounds_toArray, List.set_cons_zero, List.set_cons_succ]
  refine t_take 6 (some 66) (v := ?_) US rfl rfl (by kernel_rfl) (by kernel_rfl) (by kernel_rfl) (by kernel_rfl) (fun _ _ _ h => h) (by rfl) (fun w9 hS => ?_) ?_
  rotate_left
  · go_simp <;> with_reducible rfl
  try simp only [Act.put, List.setIfInBounds_toArray, List.set_cons_zero, List.set_cons_succ]
  refine t_take 7 (some 67) (v := ?_) US rfl rfl (by kernel_rfl) (by kernel_rfl) (by kernel_rfl) (by kernel_rfl) (fun _ _ _ h => h) (by rfl) (fun w9 hS => ?_) ?_
  rotate_left
  · (refine exec_loadS (x := .tmp 66) ?_ ?_ hS.2 hs.out <;> rfl)
  try simp only [Act.put, List.setIfInBounds_toArray, List.set_cons_zero, List.set_cons_succ]
  refine t_take 8 (some 68) (v := ?_) US rfl rfl (by kernel_rfl) (by kernel_rfl) (by kernel_rfl) (by kernel_rfl) (fun _ _ _ h => h) (by rfl) (fun w9 hS => ?_) ?_
  rotate_left
  · go_simp <;> with_reducible rfl
  try simp only [Act.put, List.setIfInBounds_toArray, List.set_cons_zero, List.set_cons_succ]
  refine t_last (by kernel_rfl) rfl (by rfl) (fun K9 hK9 => ?_)
  refine wp_storeS (.tmp 68) (.tmp 67) rfl hs.out rfl rfl TH.out ?_
  refine hK9.out _ _ ?_
  clear hK9 K9
  try simp only [Act.put, List.setIfInBounds_toArray, List.set_cons_zero, List.set_cons_succ]
  refine t_done (by kernel_rfl) ?_
  first | (rename_i K1 h1; refine h1 _ _ ?_; clear h1 K1) | skip
  have RES := hid (PutRes.last (i := i) (s := s) F7d.out I7.out rfl hs.out (B7.out.trans (Below.mono (Up.drew W7) (Nat.le_trans F7.out.bs (Nat.le_refl _)))) (R7.out.trans (Fr.of_below (Up.drew W7)) (fun _ _ e => e.elim)) O7.out)
  clear US TH F7 F7d
  go_wp2
  go_end0
  exact ⟨rfl, RES⟩
theorem keep_insL (k : Int) (a : Sec) (L : Olds) : (insL (k, a) L).filter (keep k) = L.filter (keep k) := by
  have hk : keep k (k, a) = false := by simp [keep]
  induction L with
  | nil => simp [insL, hk]
  | cons y r ih =>
    unfold insL
    split
    · rw [List.filter_cons, hk]; rfl
    · rw [List.filter_cons, List.filter_cons, ih]
theorem putL_twice (L : Olds) (k : Int) (a b : Sec) : putL (putL L k a) k b = putL L k b := by
  unfold putL
  rw [keep_insL, List.filter_filter]
  congr 2
  funext p
  rw [Bool.and_self]
theorem insL_length (x : Int × Sec) (L : Olds) : (insL x L).length = L.length + 1 := by
  induction L with
  | nil => rfl
  | cons y r ih =>
    unfold insL
    split
    · rfl
    · rw [List.length_cons, ih]; rfl
theorem putL_length (L : Olds) (k : Int) (a : Sec) : (putL L k a).length ≤ L.length + 1 := by
  unfold putL
  rw [insL_length]
  have := List.length_filter_le (keep k) L
  omega
theorem secV_zero : secV zeroS = .agg Tryz.zeroCells173 := by unfold secV; rw [zeroC]
set_option maxRecDepth 100000 in
set_option maxHeartbeats 2000000 in
theorem putFresh_calls (w : World) (base d : Nat) (cs : Array Value) (t : TypeId) (o : Nat) (A : Option Addr) (c m : Nat) (f : FileV) (i : Nat) (s : Sec) (bb bp cB : Nat) (h : Hid (FileAt w base d cs t o A c m f)) (hok : Hid (FileOk f)) (hi : Hid (i < f.now.length ∧ f.now.length < 1000000 ∧ f.old.length < 999999)) (hd : Hid (getL f.old i = none)) (hsu : Hid (¬ i < f.sure))
    (hs : Hid (s.length = 128)) (hb : Hid (ByteRow w bb bp s)) :
    Calls Tryz.prog 173 #[.pointer (some ⟨d, o, none⟩), .int .i64 i, .slice (some ⟨bb, bp, none⟩) 128 cB] w (DPutRet w base d cs t o A c m f { f with now := f.now.set i s, old := putL f.old i zeroS }) := by
  have BR := hb
  obtain ⟨g7, hA, gr, gt, _, hown⟩ := h.out.sec hi.out.1
  have GR := hid gr
  obtain ⟨k0, k1, k2⟩ := h.out.cell0
  have hlook := h.out.map.look (wf_nat (n := i) (by have := hi.out; omega))
  rw [hd.out] at hlook
  simp only [Option.getD_none, Option.isSome_none] at hlook
  obtain ⟨n7, hn⟩ : ∃ z, f.now.length = z := ⟨_, rfl⟩
  rw [hn] at k0
  have N7 := hid hn
  have hne : ¬ (i : Int) = (n7 : Int) := by have := hi.out; omega
  have hlt : (i : Int) < (n7 : Int) := by have := hi.out; omega
  have hltn : i < n7 := by have := hi.out; omega
  subst hA
  clear hown gr gt
  obtain ⟨su, hsu2⟩ : ∃ z, f.sure = z := ⟨_, rfl⟩
  rw [hsu2] at k2
  have HSU := hid hsu2
  have F1 := h
  have I1 := hid (show i < 1000000 from by have := hi.out; omega)
  have OL := hid (show f.old.length < 1000000 from by have := hi.out; omega)
  have B1 := hid (Below.refl base w)
  have R1 := hid (show Fr (fun k => k = d ∨ k = m ∨ (Value.slice (some ⟨g7, 0, none⟩) f.now.length c).ownBlock = some k) w w from Fr.refl _ w)
  have hsn : ¬ (i : Int) < (su : Int) := by have h1 := hsu.out; have h2 := HSU.out; omega
  go_enter Tryz.func173, Tryz.ntmps173
  go_wp2_with (refine hold_st 173 ?_; refine hold ?_)
  refine hid (wl_storeNew rfl _ _ rfl zeroS_len rfl rfl ?_)
  have uA : Up w (w.alloc (.cells (secC zeroS).toArray 173)) := upAlD (Up.refl _) _
  generalize hwA : w.alloc (.cells (secC zeroS).toArray 173) = Wa at *
  have UA := hid uA
  clear hwA uA hlook
  have Fa := hid (F1.out.up UA.out)
  obtain ⟨W2, hupd, m2, gr2⟩ := Fa.out.map.put zeroS (wf_nat (n := i) (by have := I1.out; omega)) OL.out
  rw [secV_zero] at hupd
  obtain ⟨f2, b2, r2⟩ := Fa.out.marked m2 gr2
  have F2 := hid f2
  have B2 := hid (B1.out.trans ((UA.out.mono F1.out.bs).trans b2))
  have RA := hid r2
  have R2 := hid (R1.out.trans (((Fr.of_below UA.out).mono (T := fun k => k = m) (fun _ e => e.elim)).trans' r2) (fun _ _ e => .inr (.inl e)))
  obtain ⟨k0a, k1a, k2a⟩ := Fa.out.cell0
  obtain ⟨k0b, k1b, k2b⟩ := f2.cell0
  rw [hn] at k0a k0b
  clear m2 gr2 f2 b2 r2
  rw [hsu2] at k2a k2b
  have hbn := (BR.out.up UA.out).ne Fa.out
  have BR2 := hid ((BR.out.up UA.out).fr RA.out hbn.2.1)
  clear hbn hsu2
  clear hn
  go_wp2
  clear hupd k0 k1 k2 k0a k1a k2a k1b k2b
  have FX := F2
  have BX := B2
  have RX := R2
  have BR7 := BR2
  clear Fa UA RA F1 B1 R1
  have k7 := k0b
  have I7 := hid (show i < ({ f with old := putL f.old i zeroS }).now.length from hi.out.1)
  have F7 := hid (show FileAt W2 base d (cs.setIfInBounds o (.slice (some ⟨g7, 0, none⟩) ({ f with old := putL f.old i zeroS }).now.length c)) t o (some ⟨g7, 0, none⟩) c m ({ f with old := putL f.old i zeroS }) from by have := FX.out; rw [← set_same h.out.c0] at this; exact this)
  have B7 := BX
  have R7 := RX
  have O7 := hid (show (Value.slice (some ⟨g7, 0, none⟩) f.now.length c).ownBlock = (Value.slice (some ⟨g7, 0, none⟩) f.now.length c).ownBlock ∨ ∃ k, w.heap.size ≤ k ∧ (Value.slice (some ⟨g7, 0, none⟩) f.now.length c).ownBlock = some k from .inl rfl)
  generalize W2 = W7 at *
  have US : W7.drew.cell? ⟨d, o, none⟩ = some (.slice (some ⟨g7, 0, none⟩) n7 c) ∧ W7.drew.rangeAt bb bp (secC s) := ⟨k7, (BR7.out.up (Up.drew W7)).2⟩
  have F7d := hid (F7.out.up (Up.drew W7))
  have TH : Hid (W7.drew.there g7 (i * 128) 128) := by
    obtain ⟨g8, e8, _, h8, _, _⟩ := F7d.out.sec I7.out
    injection e8 with e8
    injection e8 with e8 _ _
    subst e8
    exact hid h8
  have AT := fun W => arrayAtS W bb bp cB
  refine t_start (fun w9 => w9.cell? ⟨d, o, none⟩ = some (.slice (some ⟨g7, 0, none⟩) n7 c) ∧ w9.rangeAt bb bp (secC s)) 9 (by kernel_rfl) ?_
  refine t_take 0 (some 60) (v := ?_) US rfl rfl (by kernel_rfl) (by kernel_rfl) (by kernel_rfl) (by kernel_rfl) (fun _ _ _ h => h) (by rfl) (fun w9 hS => ?_) ?_
  rotate_left
  · go_simp <;> with_reducible rfl
  try simp only [Act.put, List.setIfInBounds_toArray, List.set_cons_zero, List.set_cons_succ]
  refine t_take 1 (some 61) (v := ?_) US rfl rfl (by kernel_rfl) (by kernel_rfl) (by kernel_rfl) (by kernel_rfl) (fun _ _ _ h => h) (by rfl) (fun w9 hS => ?_) ?_
  rotate_left
  · go_simp <;> with_reducible rfl
  try simp only [Act.put, List.setIfInBounds_toArray, List.set_cons_zero, List.set_cons_succ]
  refine t_take 2 (some 62) (v := ?_) US rfl rfl (by kernel_rfl) (by kernel_rfl) (by kernel_rfl) (by kernel_rfl) (fun _ _ _ h => h) (by rfl) (fun w9 hS => ?_) ?_
  rotate_left
  · go_simp <;> with_reducible rfl
  try simp only [Act.put, List.setIfInBounds_toArray, List.set_cons_zero, List.set_cons_succ]
  refine t_take 3 (some 63) (v := ?_) US rfl rfl (by kernel_rfl) (by kernel_rfl) (by kernel_rfl) (by kernel_rfl) (fun _ _ _ h => h) (by rfl) (fun w9 hS => ?_) ?_
  rotate_left
  · obtain ⟨s0, _⟩ := hS; go_simp <;> with_reducible rfl
  try simp only [Act.put, List.setIfInBounds_toArray, List.set_cons_zero, List.set_cons_succ]
  refine t_take 4 (some 64) (v := ?_) US rfl rfl (by kernel_rfl) (by kernel_rfl) (by kernel_rfl) (by kernel_rfl) (fun _ _ _ h => h) (by rfl) (fun w9 hS => ?_) ?_
  rotate_left
  · go_simp <;> with_reducible rfl
  try simp only [Act.put, List.setIfInBounds_toArray, List.set_cons_zero, List.set_cons_succ]
  refine t_take 5 (some 65) (v := ?_) US rfl rfl (by kernel_rfl) (by kernel_rfl) (by kernel_rfl) (by kernel_rfl) (fun _ _ _ h => h) (by rfl) (fun w9 hS => ?_) ?_
  rotate_left
  · go_simp <;> with_reducible rfl
  try simp only [Act.put, List.setIfInBounds_toArray, List.set_cons_zero, List.set_cons_succ]
  refine t_take 6 (some 66) (v := ?_) US rfl rfl (by kernel_rfl) (by kernel_rfl) (by kernel_rfl) (by kernel_rfl) (fun _ _ _ h => h) (by rfl) (fun w9 hS => ?_) ?_
  rotate_left
  · go_simp <;> with_reducible rfl
  try simp only [Act.put, List.setIfInBounds_toArray, List.set_cons_zero, List.set_cons_succ]
  refine t_take 7 (some 67) (v := ?_) US rfl rfl (by kernel_rfl) (by kernel_rfl) (by kernel_rfl) (by kernel_rfl) (fun _ _ _ h => h) (by rfl) (fun w9 hS => ?_) ?_
  rotate_left
  · (refine exec_loadS (x := .tmp 66) ?_ ?_ hS.2 hs.out <;> rfl)
  try simp only [Act.put, List.setIfInBounds_toArray, List.set_cons_zero, List.set_cons_succ]
  refine t_take 8 (some 68) (v := ?_) US rfl rfl (by kernel_rfl) (by kernel_rfl) (by kernel_rfl) (by kernel_rfl) (fun _ _ _ h => h) (by rfl) (fun w9 hS => ?_) ?_
  rotate_left
  · go_simp <;> with_reducible rfl
  try simp only [Act.put, List.setIfInBounds_toArray, List.set_cons_zero, List.set_cons_succ]
  refine t_last (by kernel_rfl) rfl (by rfl) (fun K9 hK9 => ?_)
  refine wp_storeS (.tmp 68) (.tmp 67) rfl hs.out rfl rfl TH.out ?_
  refine hK9.out _ _ ?_
  clear hK9 K9
  try simp only [Act.put, List.setIfInBounds_toArray, List.set_cons_zero, List.set_cons_succ]
  refine t_done (by kernel_rfl) ?_
  first | (rename_i K1 h1; refine h1 _ _ ?_; clear h1 K1) | skip
  have RES := hid (PutRes.last (i := i) (s := s) F7d.out I7.out rfl hs.out (B7.out.trans (Below.mono (Up.drew W7) (Nat.le_trans F7.out.bs (Nat.le_refl _)))) (R7.out.trans (Fr.of_below (Up.drew W7)) (fun _ _ e => e.elim)) O7.out)
  clear US TH F7 F7d
  go_wp2
  go_end0
  exact ⟨rfl, RES⟩
set_option maxRecDepth 100000 in
set_option maxHeartbeats 2000000 in
theorem dputOld_calls (w : World) (base d : Nat) (cs : Array Value) (t : TypeId) (o : Nat) (A : Option Addr) (c m : Nat) (f : FileV) (i : Nat) (s : Sec) (bb bp cB : Nat) (h : Hid (FileAt w base d cs t o A c m f)) (hok : Hid (FileOk f)) (hi : Hid (i < f.now.length ∧ f.now.length < 1000000 ∧ f.old.length < 999999)) (hd : Hid (getL f.old i = none)) (hsu : Hid (i < f.sure))
    (hs : Hid (s.length = 128)) (hb : Hid (ByteRow w bb bp s)) :
    Calls Tryz.prog 173 #[.pointer (some ⟨d, o, none⟩), .int .i64 i, .slice (some ⟨bb, bp, none⟩) 128 cB] w (DPutRet w base d cs t o A c m f { f with now := f.now.set i s, old := putL f.old i (f.now[i]'hi.out.1) }) := by
  have BR := hb
  obtain ⟨g7, hA, gr, gt, _, hown⟩ := h.out.sec hi.out.1
  have GR := hid gr
  obtain ⟨k0, k1, k2⟩ := h.out.cell0
  have hlook := h.out.map.look (wf_nat (n := i) (by have := hi.out; omega))
  rw [hd.out] at hlook
  simp only [Option.getD_none, Option.isSome_none] at hlook
  obtain ⟨n7, hn⟩ : ∃ z, f.now.length = z := ⟨_, rfl⟩
  rw [hn] at k0
  have N7 := hid hn
  have hne : ¬ (i : Int) = (n7 : Int) := by have := hi.out; omega
  have hlt : (i : Int) < (n7 : Int) := by have := hi.out; omega
  have hltn : i < n7 := by have := hi.out; omega
  subst hA
  clear hown gr gt
  obtain ⟨su, hsu2⟩ : ∃ z, f.sure = z := ⟨_, rfl⟩
  rw [hsu2] at k2
  have HSU := hid hsu2
  have F1 := h
  have I1 := hid (show i < 1000000 from by have := hi.out; omega)
  have OL := hid (show f.old.length < 1000000 from by have := hi.out; omega)
  have B1 := hid (Below.refl base w)
  have R1 := hid (show Fr (fun k => k = d ∨ k = m ∨ (Value.slice (some ⟨g7, 0, none⟩) f.now.length c).ownBlock = some k) w w from Fr.refl _ w)
  have hsn : (i : Int) < (su : Int) := by have h1 := hsu.out; have h2 := HSU.out; omega
  go_enter Tryz.func173, Tryz.ntmps173
  go_wp2_with (refine hold_st 173 ?_; refine hold ?_)
  refine hid (wl_storeNew rfl _ _ rfl zeroS_len rfl rfl ?_)
  have uA : Up w (w.alloc (.cells (secC zeroS).toArray 173)) := upAlD (Up.refl _) _
  generalize hwA : w.alloc (.cells (secC zeroS).toArray 173) = Wa at *
  have UA := hid uA
  clear hwA uA hlook
  have Fa := hid (F1.out.up UA.out)
  obtain ⟨W2, hupd, m2, gr2⟩ := Fa.out.map.put zeroS (wf_nat (n := i) (by have := I1.out; omega)) OL.out
  rw [secV_zero] at hupd
  obtain ⟨f2, b2, r2⟩ := Fa.out.marked m2 gr2
  have F2 := hid f2
  have B2 := hid (B1.out.trans ((UA.out.mono F1.out.bs).trans b2))
  have RA := hid r2
  have R2 := hid (R1.out.trans (((Fr.of_below UA.out).mono (T := fun k => k = m) (fun _ e => e.elim)).trans' r2) (fun _ _ e => .inr (.inl e)))
  obtain ⟨k0a, k1a, k2a⟩ := Fa.out.cell0
  obtain ⟨k0b, k1b, k2b⟩ := f2.cell0
  rw [hn] at k0a k0b
  clear m2 gr2 f2 b2 r2
  rw [hsu2] at k2a k2b
  have hbn := (BR.out.up UA.out).ne Fa.out
  have BR2 := hid ((BR.out.up UA.out).fr RA.out hbn.2.1)
  clear hbn hsu2
  clear hn
  go_wp2
  clear hupd k0 k1 k2 k0a k1a k2a
  have F2d := hid (F2.out.up (Up.drew W2))
  have SNL := hid (h.out.len _ (List.getElem_mem hi.out.1))
  obtain ⟨g8, e8, r8, _, _, _⟩ := F2d.out.sec (i := i) hi.out.1
  injection e8 with e8
  injection e8 with e8 _ _
  subst e8
  generalize hsnn : f.now[i]'hi.out.1 = sn at *
  have SN := hid (show sn.length = 128 from SNL.out)
  have HSN := hid hsnn
  obtain ⟨W3, hupd, m3, gr3⟩ := F2d.out.map.put sn (wf_nat (n := i) (by have := I1.out; omega)) (show (putL f.old i zeroS).length < 1000000 from by have := putL_length f.old i zeroS; have := hi.out; omega)
  obtain ⟨f3, b3, r3⟩ := F2d.out.marked m3 gr3
  rw [putL_twice] at f3
  have hbn := (BR2.out.up (Up.drew W2)).ne F2d.out
  have BR7 := hid ((BR2.out.up (Up.drew W2)).fr r3 hbn.2.1)
  have FX := hid f3
  have BX := hid (B2.out.trans ((Below.mono (Up.drew W2) F2.out.bs).trans b3))
  have RX := hid (R2.out.trans (((Fr.of_below (Up.drew W2)).mono (T := fun k => k = m) (fun _ e => e.elim)).trans' r3) (fun _ _ e => .inr (.inl e)))
  have k0c := f3.cell0.1
  rw [show ({ f with old := putL f.old i sn } : FileV).now.length = n7 from N7.out] at k0c
  clear hbn m3 gr3 f3 b3 r3 hsnn SNL
  have US : W2.drew.cell? ⟨d, o + 1, none⟩ = some (.map (some m)) ∧ W2.drew.cell? ⟨d, o, none⟩ = some (.slice (some ⟨g7, 0, none⟩) n7 c) ∧ W2.drew.rangeAt g7 (i * 128) (secC sn) := ⟨k1b, k0b, r8⟩
  refine t_start (fun w9 => w9.cell? ⟨d, o + 1, none⟩ = some (.map (some m)) ∧ w9.cell? ⟨d, o, none⟩ = some (.slice (some ⟨g7, 0, none⟩) n7 c) ∧ w9.rangeAt g7 (i * 128) (secC sn)) 12 (by kernel_rfl) ?_
  refine t_take 0 (some 48) (v := ?_) US rfl rfl (by kernel_rfl) (by kernel_rfl) (by kernel_rfl) (by kernel_rfl) (fun _ _ _ h => h) (by rfl) (fun w9 hS => ?_) ?_
  rotate_left
  · go_simp <;> with_reducible rfl
  try simp only [Act.put, List.setIfInBounds_toArray, List.set_cons_zero, List.set_cons_succ]
  refine t_take 1 (some 49) (v := ?_) US rfl rfl (by kernel_rfl) (by kernel_rfl) (by kernel_rfl) (by kernel_rfl) (fun _ _ _ h => h) (by rfl) (fun w9 hS => ?_) ?_
  rotate_left
  · go_simp <;> with_reducible rfl
  try simp only [Act.put, List.setIfInBounds_toArray, List.set_cons_zero, List.set_cons_succ]
  refine t_take 2 (some 50) (v := ?_) US rfl rfl (by kernel_rfl) (by kernel_rfl) (by kernel_rfl) (by kernel_rfl) (fun _ _ _ h => h) (by rfl) (fun w9 hS => ?_) ?_
  rotate_left
  · go_simp <;> with_reducible rfl
  try simp only [Act.put, List.setIfInBounds_toArray, List.set_cons_zero, List.set_cons_succ]
  refine t_take 3 (some 51) (v := ?_) US rfl rfl (by kernel_rfl) (by kernel_rfl) (by kernel_rfl) (by kernel_rfl) (fun _ _ _ h => h) (by rfl) (fun w9 hS => ?_) ?_
  rotate_left
  · obtain ⟨s1, _⟩ := hS; go_simp <;> with_reducible rfl
  try simp only [Act.put, List.setIfInBounds_toArray, List.set_cons_zero, List.set_cons_succ]
  refine t_take 4 (some 52) (v := ?_) US rfl rfl (by kernel_rfl) (by kernel_rfl) (by kernel_rfl) (by kernel_rfl) (fun _ _ _ h => h) (by rfl) (fun w9 hS => ?_) ?_
  rotate_left
  · go_simp <;> with_reducible rfl
  try simp only [Act.put, List.setIfInBounds_toArray, List.set_cons_zero, List.set_cons_succ]
  refine t_take 5 (some 53) (v := ?_) US rfl rfl (by kernel_rfl) (by kernel_rfl) (by kernel_rfl) (by kernel_rfl) (fun _ _ _ h => h) (by rfl) (fun w9 hS => ?_) ?_
  rotate_left
  · go_simp <;> with_reducible rfl
  try simp only [Act.put, List.setIfInBounds_toArray, List.set_cons_zero, List.set_cons_succ]
  refine t_take 6 (some 54) (v := ?_) US rfl rfl (by kernel_rfl) (by kernel_rfl) (by kernel_rfl) (by kernel_rfl) (fun _ _ _ h => h) (by rfl) (fun w9 hS => ?_) ?_
  rotate_left
  · go_simp <;> with_reducible rfl
  try simp only [Act.put, List.setIfInBounds_toArray, List.set_cons_zero, List.set_cons_succ]
  refine t_take 7 (some 55) (v := ?_) US rfl rfl (by kernel_rfl) (by kernel_rfl) (by kernel_rfl) (by kernel_rfl) (fun _ _ _ h => h) (by rfl) (fun w9 hS => ?_) ?_
  rotate_left
  · go_simp <;> with_reducible rfl
  try simp only [Act.put, List.setIfInBounds_toArray, List.set_cons_zero, List.set_cons_succ]
  refine t_take 8 (some 56) (v := ?_) US rfl rfl (by kernel_rfl) (by kernel_rfl) (by kernel_rfl) (by kernel_rfl) (fun _ _ _ h => h) (by rfl) (fun w9 hS => ?_) ?_
  rotate_left
  · obtain ⟨_, s1, _⟩ := hS; go_simp <;> with_reducible rfl
  try simp only [Act.put, List.setIfInBounds_toArray, List.set_cons_zero, List.set_cons_succ]
  refine t_take 9 (some 57) (v := ?_) US rfl rfl (by kernel_rfl) (by kernel_rfl) (by kernel_rfl) (by kernel_rfl) (fun _ _ _ h => h) (by rfl) (fun w9 hS => ?_) ?_
  rotate_left
  · go_simp <;> with_reducible rfl
  try simp only [Act.put, List.setIfInBounds_toArray, List.set_cons_zero, List.set_cons_succ]
  refine t_take 10 (some 58) (v := ?_) US rfl rfl (by kernel_rfl) (by kernel_rfl) (by kernel_rfl) (by kernel_rfl) (fun _ _ _ h => h) (by rfl) (fun w9 hS => ?_) ?_
  rotate_left
  · go_simp <;> with_reducible rfl
  try simp only [Act.put, List.setIfInBounds_toArray, List.set_cons_zero, List.set_cons_succ]
  refine t_take 11 (some 59) (v := ?_) US rfl rfl (by kernel_rfl) (by kernel_rfl) (by kernel_rfl) (by kernel_rfl) (fun _ _ _ h => h) (by rfl) (fun w9 hS => ?_) ?_
  rotate_left
  · (refine exec_loadS (x := .tmp 58) ?_ ?_ hS.2.2 SN.out <;> rfl)
  try simp only [Act.put, List.setIfInBounds_toArray, List.set_cons_zero, List.set_cons_succ]
  refine t_last (by kernel_rfl) rfl (by rfl) (fun K9 hK9 => ?_)
  go_simp
  refine hK9.out _ _ ?_
  clear hK9 K9
  try simp only [Act.put, List.setIfInBounds_toArray, List.set_cons_zero, List.set_cons_succ]
  refine t_done (by kernel_rfl) ?_
  rename_i K1 h1
  first | (refine h1 _ _ ?_; clear h1 K1) | skip
  clear US hupd k0b k1b k2b r8
  go_wp2
  clear Fa UA RA F1 B1 R1 F2 F2d R2 B2 BR2
  have k7 := k0c
  have I7 := hid (show i < ({ f with old := putL f.old i sn }).now.length from hi.out.1)
  have F7 := hid (show FileAt W3 base d (cs.setIfInBounds o (.slice (some ⟨g7, 0, none⟩) ({ f with old := putL f.old i sn }).now.length c)) t o (some ⟨g7, 0, none⟩) c m ({ f with old := putL f.old i sn }) from by have := FX.out; rw [← set_same h.out.c0] at this; exact this)
  have B7 := BX
  have R7 := RX
  have O7 := hid (show (Value.slice (some ⟨g7, 0, none⟩) f.now.length c).ownBlock = (Value.slice (some ⟨g7, 0, none⟩) f.now.length c).ownBlock ∨ ∃ k, w.heap.size ≤ k ∧ (Value.slice (some ⟨g7, 0, none⟩) f.now.length c).ownBlock = some k from .inl rfl)
  generalize W3 = W7 at *
  have US : W7.drew.cell? ⟨d, o, none⟩ = some (.slice (some ⟨g7, 0, none⟩) n7 c) ∧ W7.drew.rangeAt bb bp (secC s) := ⟨k7, (BR7.out.up (Up.drew W7)).2⟩
  have F7d := hid (F7.out.up (Up.drew W7))
  have TH : Hid (W7.drew.there g7 (i * 128) 128) := by
    obtain ⟨g8, e8, _, h8, _, _⟩ := F7d.out.sec I7.out
    injection e8 with e8
    injection e8 with e8 _ _
    subst e8
    exact hid h8
  have AT := fun W => arrayAtS W bb bp cB
  refine t_start (fun w9 => w9.cell? ⟨d, o, none⟩ = some (.slice (some ⟨g7, 0, none⟩) n7 c) ∧ w9.rangeAt bb bp (secC s)) 9 (by kernel_rfl) ?_
  refine t_take 0 (some 60) (v := ?_) US rfl rfl (by kernel_rfl) (by kernel_rfl) (by kernel_rfl) (by kernel_rfl) (fun _ _ _ h => h) (by rfl) (fun w9 hS => ?_) ?_
  rotate_left
  · go_simp <;> with_reducible rfl
  try simp only [Act.put, List.setIfInBounds_toArray, List.set_cons_zero, List.set_cons_succ]
  refine t_take 1 (some 61) (v := ?_) US rfl rfl (by kernel_rfl) (by kernel_rfl) (by kernel_rfl) (by kernel_rfl) (fun _ _ _ h => h) (by rfl) (fun w9 hS => ?_) ?_
  rotate_left
  · go_simp <;> with_reducible rfl
  try simp only [Act.put, List.setIfInBounds_toArray, List.set_cons_zero, List.set_cons_succ]
  refine t_take 2 (some 62) (v := ?_) US rfl rfl (by kernel_rfl) (by kernel_rfl) (by kernel_rfl) (by kernel_rfl) (fun _ _ _ h => h) (by rfl) (fun w9 hS => ?_) ?_
  rotate_left
  · go_simp <;> with_reducible rfl
  try simp only [Act.put, List.setIfInBounds_toArray, List.set_cons_zero, List.set_cons_succ]
  refine t_take 3 (some 63) (v := ?_) US rfl rfl (by kernel_rfl) (by kernel_rfl) (by kernel_rfl) (by kernel_rfl) (fun _ _ _ h => h) (by rfl) (fun w9 hS => ?_) ?_
  rotate_left
  · obtain ⟨s0, _⟩ := hS; go_simp <;> with_reducible rfl
  try simp only [Act.put, List.setIfInBounds_toArray, List.set_cons_zero, List.set_cons_succ]
  refine t_take 4 (some 64) (v := ?_) US rfl rfl (by kernel_rfl) (by kernel_rfl) (by kernel_rfl) (by kernel_rfl) (fun _ _ _ h => h) (by rfl) (fun w9 hS => ?_) ?_
  rotate_left
  · go_simp <;> with_reducible rfl
  try simp only [Act.put, List.setIfInBounds_toArray, List.set_cons_zero, List.set_cons_succ]
  refine t_take 5 (some 65) (v := ?_) US rfl rfl (by kernel_rfl) (by kernel_rfl) (by kernel_rfl) (by kernel_rfl) (fun _ _ _ h => h) (by rfl) (fun w9 hS => ?_) ?_
  rotate_left
  · go_simp <;> with_reducible rfl
  try simp only [Act.put, List.setIfInBounds_toArray, List.set_cons_zero, List.set_cons_succ]
  refine t_take 6 (some 66) (v := ?_) US rfl rfl (by kernel_rfl) (by kernel_rfl) (by kernel_rfl) (by kernel_rfl) (fun _ _ _ h => h) (by rfl) (fun w9 hS => ?_) ?_
  rotate_left
  · go_simp <;> with_reducible rfl
  try simp only [Act.put, List.setIfInBounds_toArray, List.set_cons_zero, List.set_cons_succ]
  refine t_take 7 (some 67) (v := ?_) US rfl rfl (by kernel_rfl) (by kernel_rfl) (by kernel_rfl) (by kernel_rfl) (fun _ _ _ h => h) (by rfl) (fun w9 hS => ?_) ?_
  rotate_left
  · (refine exec_loadS (x := .tmp 66) ?_ ?_ hS.2 hs.out <;> rfl)
  try simp only [Act.put, List.setIfInBounds_toArray, List.set_cons_zero, List.set_cons_succ]
  refine t_take 8 (some 68) (v := ?_) US rfl rfl (by kernel_rfl) (by kernel_rfl) (by kernel_rfl) (by kernel_rfl) (fun _ _ _ h => h) (by rfl) (fun w9 hS => ?_) ?_
  rotate_left
  · go_simp <;> with_reducible rfl
  try simp only [Act.put, List.setIfInBounds_toArray, List.set_cons_zero, List.set_cons_succ]
  refine t_last (by kernel_rfl) rfl (by rfl) (fun K9 hK9 => ?_)
  refine wp_storeS (.tmp 68) (.tmp 67) rfl hs.out rfl rfl TH.out ?_
  refine hK9.out _ _ ?_
  clear hK9 K9
  try simp only [Act.put, List.setIfInBounds_toArray, List.set_cons_zero, List.set_cons_succ]
  refine t_done (by kernel_rfl) ?_
  first | (rename_i K1 h1; refine h1 _ _ ?_; clear h1 K1) | skip
  have RES := hid (PutRes.last (i := i) (s := s) F7d.out I7.out rfl hs.out (B7.out.trans (Below.mono (Up.drew W7) (Nat.le_trans F7.out.bs (Nat.le_refl _)))) (R7.out.trans (Fr.of_below (Up.drew W7)) (fun _ _ e => e.elim)) O7.out)
  clear US TH F7 F7d
  go_wp2
  go_end0
  have e : ({ f with now := f.now.set i s, old := putL f.old i (f.now[i]'hi.out.1) } : FileV) = { f with now := f.now.set i s, old := putL f.old i sn } := by rw [HSN.out]
  rw [e]
  exact ⟨rfl, RES⟩
theorem bslC (w : World) : (Instr.buildSlice 81 1 #[(0, .agg Tryz.zeroCells173)]).run Tryz.prog w = .ok (.slice (some ⟨w.heap.size, 0, none⟩) 1 1) (w.alloc (.cells Tryz.zeroCells173 173)) := by
  have := bslZ w
  rw [secV_zero, ← zeroC] at this
  exact this
theorem FileAt.grown {w w1 : World} {base d o m c : Nat} {cs : Array Value} {t : TypeId} {A : Option Addr} {f : FileV} (h : FileAt w base d cs t o A c m f) {A1 : Option Addr} {c1 n : Nat} (hn : f.now.length = n)
    (ho : w1.ownsRow base 173 128 (.slice A1 (n + 1) c1) (n + 1) (f.now.flatMap secC ++ secC zeroS)) (hg : w.grownBy w1 (Value.slice A n c).ownBlock) (hd : (Value.slice A1 (n + 1) c1).ownBlock = (Value.slice A n c).ownBlock ∨ (Value.slice A1 (n + 1) c1).ownBlock = some w.heap.size) :
    FileAt (w1.setCell ⟨d, o, none⟩ (.slice A1 (n + 1) c1)) base d (cs.setIfInBounds o (.slice A1 (n + 1) c1)) t o A1 c1 m { f with now := f.now ++ [zeroS] } ∧ Below base w (w1.setCell ⟨d, o, none⟩ (.slice A1 (n + 1) c1)) ∧
      Fr (fun k => k = d ∨ (Value.slice A n c).ownBlock = some k) w (w1.setCell ⟨d, o, none⟩ (.slice A1 (n + 1) c1)) := by
  subst hn
  have hne := h.ne
  have hdlt := (Array.getElem?_eq_some_iff.1 h.own).1
  have f1 : Fr (fun k => (Value.slice A f.now.length c).ownBlock = some k) w w1 := (Fr.of_grown hg).mono (fun k hk => hk.symm)
  have d1 : w1.heap[d]? = some (.cells cs t (0, 0)) := (f1.block d hdlt (fun e => (hne.2 d e).1 rfl)).trans h.own
  have f2 : Fr (fun k => k = d) w1 (w1.setCell ⟨d, o, none⟩ (.slice A1 (f.now.length + 1) c1)) := (Fr.refl (fun k => k = d) w1).setCell (p := ⟨d, o, none⟩) (fun _ => rfl) _
  have hnd : ∀ k, (Value.slice A1 (f.now.length + 1) c1).ownBlock = some k → k ≠ d := fun k hk e => by
    rcases hd with hd | hd
    · exact (hne.2 k (by rw [← hd]; exact hk)).1 e
    · rw [hd] at hk; have := Option.some.inj hk; omega
  have hlen : (f.now ++ [zeroS]).length = f.now.length + 1 := by rw [List.length_append]; rfl
  refine ⟨⟨heap_setCell_same _ d o cs t _ d1, ?_, ?_, ?_, ?_, (h.map.kept f1 (fun e => (hne.2 m e).2 rfl)).kept f2 (fun e => hne.1 e.symm), ?_, h.low, h.ty⟩, ?_, f1.mono (fun k hk => .inr hk) |>.trans f2 (fun _ _ e => .inl e)⟩
  · rw [hlen]; have := (Array.getElem?_eq_some_iff.1 h.c0).1; simp [this]
  · rw [Array.getElem?_setIfInBounds_ne (by omega)]; exact h.c1
  · rw [Array.getElem?_setIfInBounds_ne (by omega)]; exact h.c2
  · show World.ownsRow _ base _ 128 (.slice A1 (f.now ++ [zeroS]).length c1) (f.now ++ [zeroS]).length ((f.now ++ [zeroS]).flatMap secC)
    rw [hlen, List.flatMap_append, show [zeroS].flatMap secC = secC zeroS from by simp]
    exact f2.own ho (fun k hk e => hnd k hk e)
  · intro s hs
    rcases List.mem_append.1 hs with hs | hs
    · exact h.len s hs
    · rw [List.mem_singleton.1 hs]; exact zeroS_len
  · exact ((Below.refl base w).grown hg h.bs (fun k hk => (own_block h.row k hk).1)).setCell (p := ⟨d, o, none⟩) h.low.1 _
set_option maxRecDepth 100000 in
set_option maxHeartbeats 2000000 in
theorem putGrow_calls (w : World) (base d : Nat) (cs : Array Value) (t : TypeId) (o : Nat) (A : Option Addr) (c m : Nat) (f : FileV) (i : Nat) (s : Sec) (bb bp cB : Nat) (h : Hid (FileAt w base d cs t o A c m f)) (hok : Hid (FileOk f)) (hi : Hid (f.now.length = i ∧ f.now.length < 999999 ∧ f.old.length < 999999)) (hd : Hid (getL f.old i = none))
    (hs : Hid (s.length = 128)) (hb : Hid (ByteRow w bb bp s)) :
    Calls Tryz.prog 173 #[.pointer (some ⟨d, o, none⟩), .int .i64 i, .slice (some ⟨bb, bp, none⟩) 128 cB] w (DPutRet w base d cs t o A c m f { f with now := (f.now ++ [zeroS]).set i s, old := putL f.old i zeroS }) := by
  have BR := hb
  obtain ⟨k0, k1, k2⟩ := h.out.cell0
  have hn := hi.out.1
  rw [hn] at k0
  have NI := hid hn
  clear hn
  obtain ⟨su, hsu2⟩ : ∃ z, f.sure = z := ⟨_, rfl⟩
  have HSU := hid hsu2
  clear hsu2
  have I1 := hid (show i < 1000000 from by have := hi.out; omega)
  have OL := hid (show f.old.length < 1000000 from by have := hi.out; omega)
  have BS := bslC
  have HO := hid h.out.row
  go_enter Tryz.func173, Tryz.ntmps173
  go_wp2_with (refine hold_at 22 ?_; refine hold ?_)
  have uB : Up w (w.alloc (.cells Tryz.zeroCells173 173)) := upAlD (Up.refl _) _
  have UB := hid uB
  have Fb := hid (h.out.up uB)
  have oB := Fb.out.row
  rw [NI.out] at oB
  have RB : Rd (w.alloc (.cells Tryz.zeroCells173 173)) (some ⟨w.heap.size, 0, none⟩) (secC zeroS) := by rw [zeroC]; exact Rd.new w _ (0, 0) (secC zeroS)
  have bB := Fb.out.bs
  clear uB
  refine hid (wl_append elemS rfl (.tmp 19) (.tmp 21) rfl rfl oB rfl RB (by rw [secC_length, zeroS_len]) (secC_one _) (by have := I1.out; simp only [maxLen]; omega) (by have := I1.out; omega) bB ?_)
  intro A1 c1 w1 o1 g1 d1
  obtain ⟨f1, b1, r1⟩ := Fb.out.grown NI.out o1 g1 d1
  have kd : w1.cell? ⟨d, o, none⟩ = some (.slice A i c) ∧ w1.frozen? ⟨d, o, none⟩ = false := by
    have hd1 : w1.heap[d]? = some (.cells cs t (0, 0)) := ((Fr.of_grown g1).block d (Array.getElem?_eq_some_iff.1 Fb.out.own).1 (fun e => (Fb.out.ne.2 d (by rw [NI.out]; exact e.symm)).1 rfl)).trans Fb.out.own
    constructor
    · unfold World.cell?; rw [show (⟨d, o, none⟩ : Addr).block = d from rfl, hd1]; have := h.out.c0; rw [NI.out] at this; exact this
    · unfold World.frozen?; rw [show (⟨d, o, none⟩ : Addr).block = d from rfl, hd1]; simp
  obtain ⟨kd0, kd1⟩ := kd
  have hbn := (BR.out.up UB.out).ne Fb.out
  have FG1 := hid f1
  have BG1 := hid ((UB.out.mono h.out.bs).trans b1)
  have RG1 := hid (show Fr (fun k => k = d ∨ k = m ∨ (Value.slice A f.now.length c).ownBlock = some k) w (w1.setCell ⟨d, o, none⟩ (.slice A1 (i + 1) c1)) from ((Fr.of_below UB.out).mono (fun _ e => e.elim)).trans r1 (fun k hk e => by rcases e with e | e; exact .inl e; exact .inr (.inr (by rw [NI.out]; exact e))))
  have BRG := hid ((BR.out.up UB.out).fr r1 (fun e => by rcases e with e | e; exact hbn.1 e; exact hbn.2.2 (by rw [NI.out]; exact e)))
  have OG := hid (show (Value.slice A1 (i + 1) c1).ownBlock = (Value.slice A f.now.length c).ownBlock ∨ ∃ k, w.heap.size ≤ k ∧ (Value.slice A1 (i + 1) c1).ownBlock = some k from by
    rcases d1 with e | e
    · exact .inl (by rw [NI.out]; exact e)
    · exact .inr ⟨_, UB.out.size, e⟩)
  clear f1 b1 r1 o1 g1 d1 oB RB bB hbn k0 k1 k2 Fb
  go_wp2_with (refine hold_at 29 ?_; refine hold ?_)
  clear kd0 kd1
  generalize w1.setCell ⟨d, o, none⟩ (.slice A1 (i + 1) c1) = W1 at *
  obtain ⟨f1, hf1⟩ : ∃ z : FileV, { f with now := f.now ++ [zeroS] } = z := ⟨_, rfl⟩
  rw [hf1] at FG1
  have HF1 := hid hf1
  have N8 := hid (show f1.now.length = i + 1 from by rw [← hf1]; show (f.now ++ [zeroS]).length = i + 1; rw [List.length_append, NI.out]; rfl)
  have OL1 := hid (show f1.old.length < 1000000 from by rw [← hf1]; exact OL.out)
  have hd1 : getL f1.old i = none := by rw [← hf1]; exact hd.out
  have hsu2 : f1.sure = su := by rw [← hf1]; exact HSU.out
  clear hf1
  have hi1 : i < f1.now.length := by rw [N8.out]; omega
  obtain ⟨g7, hA⟩ : ∃ g, A1 = some ⟨g, 0, none⟩ := by obtain ⟨g, h, _⟩ := FG1.out.sec hi1; exact ⟨g, h⟩
  subst hA
  obtain ⟨k0, k1, k2⟩ := FG1.out.cell0
  have hlook := FG1.out.map.look (wf_nat (n := i) I1.out)
  rw [hd1] at hlook
  simp only [Option.getD_none, Option.isSome_none] at hlook
  obtain ⟨n7, hn⟩ : ∃ z, f1.now.length = z := ⟨_, rfl⟩
  rw [hn] at k0
  have N7 := hid hn
  have hlt : (i : Int) < (n7 : Int) := by have := N8.out; omega
  have hltn : i < n7 := by have := N8.out; omega
  rw [hsu2] at k2
  have hsn : ¬ (i : Int) < (su : Int) := by have h1 := hok.out.sure; have h2 := HSU.out; have := NI.out; omega
  have HI1 := hid hi1
  clear hd1 hi1
  have F1 := FG1
  have B1 := BG1
  have R1 := RG1
  have BRw := BRG
  refine hid (hid ?_)
  go_wp2_with (refine hold_st 173 ?_; refine hold ?_)
  refine hid (wl_storeNew rfl _ _ rfl zeroS_len rfl rfl ?_)
  have uA : Up W1 (W1.alloc (.cells (secC zeroS).toArray 173)) := upAlD (Up.refl _) _
  generalize hwA : W1.alloc (.cells (secC zeroS).toArray 173) = Wa at *
  have UA := hid uA
  clear hwA uA hlook
  have Fa := hid (F1.out.up UA.out)
  obtain ⟨W2, hupd, m2, gr2⟩ := Fa.out.map.put zeroS (wf_nat (n := i) (by have := I1.out; omega)) OL1.out
  rw [secV_zero] at hupd
  obtain ⟨f2, b2, r2⟩ := Fa.out.marked m2 gr2
  have F2 := hid f2
  have B2 := hid (B1.out.trans ((UA.out.mono F1.out.bs).trans b2))
  have RA := hid r2
  have R2 := hid (R1.out.trans (((Fr.of_below UA.out).mono (T := fun k => k = m) (fun _ e => e.elim)).trans' r2) (fun _ _ e => .inr (.inl e)))
  obtain ⟨k0a, k1a, k2a⟩ := Fa.out.cell0
  obtain ⟨k0b, k1b, k2b⟩ := f2.cell0
  rw [hn] at k0a k0b
  clear m2 gr2 f2 b2 r2
  rw [hsu2] at k2a k2b
  have hbn := (BRw.out.up UA.out).ne Fa.out
  have BR7 := hid ((BRw.out.up UA.out).fr RA.out hbn.2.1)
  clear hbn hsu2 hn
  go_wp2
  clear hupd k0 k1 k2 k0a k1a k2a k1b k2b
  have k7 := k0b
  have I7 := hid (show i < ({ f1 with old := putL f1.old i zeroS } : FileV).now.length from HI1.out)
  have F7 := hid (show FileAt W2 base d (cs.setIfInBounds o (.slice (some ⟨g7, 0, none⟩) ({ f1 with old := putL f1.old i zeroS } : FileV).now.length c1)) t o (some ⟨g7, 0, none⟩) c1 m { f1 with old := putL f1.old i zeroS } from by have := F2.out; rw [← N8.out] at this; exact this)
  have B7 := B2
  have R7 := R2
  have O7 := hid (show (Value.slice (some ⟨g7, 0, none⟩) f1.now.length c1).ownBlock = (Value.slice A f.now.length c).ownBlock ∨ ∃ k, w.heap.size ≤ k ∧ (Value.slice (some ⟨g7, 0, none⟩) f1.now.length c1).ownBlock = some k from by have := OG.out; rw [← N8.out] at this; exact this)
  clear Fa UA RA F1 B1 R1 F2 R2 B2 BRw FG1 BG1 RG1 BRG OG UB HO
  generalize W2 = W7 at *
  have US : W7.drew.cell? ⟨d, o, none⟩ = some (.slice (some ⟨g7, 0, none⟩) n7 c1) ∧ W7.drew.rangeAt bb bp (secC s) := ⟨k7, (BR7.out.up (Up.drew W7)).2⟩
  have F7d := hid (F7.out.up (Up.drew W7))
  have TH : Hid (W7.drew.there g7 (i * 128) 128) := by
    obtain ⟨g8, e8, _, h8, _, _⟩ := F7d.out.sec I7.out
    injection e8 with e8
    injection e8 with e8 _ _
    subst e8
    exact hid h8
  have AT := fun W => arrayAtS W bb bp cB
  refine t_start (fun w9 => w9.cell? ⟨d, o, none⟩ = some (.slice (some ⟨g7, 0, none⟩) n7 c1) ∧ w9.rangeAt bb bp (secC s)) 9 (by kernel_rfl) ?_
  refine t_take 0 (some 60) (v := ?_) US rfl rfl (by kernel_rfl) (by kernel_rfl) (by kernel_rfl) (by kernel_rfl) (fun _ _ _ h => h) (by rfl) (fun w9 hS => ?_) ?_
  rotate_left
  · go_simp <;> with_reducible rfl
  try simp only [Act.put, List.setIfInBounds_toArray, List.set_cons_zero, List.set_cons_succ]
  refine t_take 1 (some 61) (v := ?_) US rfl rfl (by kernel_rfl) (by kernel_rfl) (by kernel_rfl) (by kernel_rfl) (fun _ _ _ h => h) (by rfl) (fun w9 hS => ?_) ?_
  rotate_left
  · go_simp <;> with_reducible rfl
  try simp only [Act.put, List.setIfInBounds_toArray, List.set_cons_zero, List.set_cons_succ]
  refine t_take 2 (some 62) (v := ?_) US rfl rfl (by kernel_rfl) (by kernel_rfl) (by kernel_rfl) (by kernel_rfl) (fun _ _ _ h => h) (by rfl) (fun w9 hS => ?_) ?_
  rotate_left
  · go_simp <;> with_reducible rfl
  try simp only [Act.put, List.setIfInBounds_toArray, List.set_cons_zero, List.set_cons_succ]
  refine t_take 3 (some 63) (v := ?_) US rfl rfl (by kernel_rfl) (by kernel_rfl) (by kernel_rfl) (by kernel_rfl) (fun _ _ _ h => h) (by rfl) (fun w9 hS => ?_) ?_
  rotate_left
  · obtain ⟨s0, _⟩ := hS; go_simp <;> with_reducible rfl
  try simp only [Act.put, List.setIfInBounds_toArray, List.set_cons_zero, List.set_cons_succ]
  refine t_take 4 (some 64) (v := ?_) US rfl rfl (by kernel_rfl) (by kernel_rfl) (by kernel_rfl) (by kernel_rfl) (fun _ _ _ h => h) (by rfl) (fun w9 hS => ?_) ?_
  rotate_left
  · go_simp <;> with_reducible rfl
  try simp only [Act.put, List.setIfInBounds_toArray, List.set_cons_zero, List.set_cons_succ]
  refine t_take 5 (some 65) (v := ?_) US rfl rfl (by kernel_rfl) (by kernel_rfl) (by kernel_rfl) (by kernel_rfl) (fun _ _ _ h => h) (by rfl) (fun w9 hS => ?_) ?_
  rotate_left
  · go_simp <;> with_reducible rfl
  try simp only [Act.put, List.setIfInBounds_toArray, List.set_cons_zero, List.set_cons_succ]
  refine t_take 6 (some 66) (v := ?_) US rfl rfl (by kernel_rfl) (by kernel_rfl) (by kernel_rfl) (by kernel_rfl) (fun _ _ _ h => h) (by rfl) (fun w9 hS => ?_) ?_
  rotate_left
  · go_simp <;> with_reducible rfl
  try simp only [Act.put, List.setIfInBounds_toArray, List.set_cons_zero, List.set_cons_succ]
  refine t_take 7 (some 67) (v := ?_) US rfl rfl (by kernel_rfl) (by kernel_rfl) (by kernel_rfl) (by kernel_rfl) (fun _ _ _ h => h) (by rfl) (fun w9 hS => ?_) ?_
  rotate_left
  · (refine exec_loadS (x := .tmp 66) ?_ ?_ hS.2 hs.out <;> rfl)
  try simp only [Act.put, List.setIfInBounds_toArray, List.set_cons_zero, List.set_cons_succ]
  refine t_take 8 (some 68) (v := ?_) US rfl rfl (by kernel_rfl) (by kernel_rfl) (by kernel_rfl) (by kernel_rfl) (fun _ _ _ h => h) (by rfl) (fun w9 hS => ?_) ?_
  rotate_left
  · go_simp <;> with_reducible rfl
  try simp only [Act.put, List.setIfInBounds_toArray, List.set_cons_zero, List.set_cons_succ]
  refine t_last (by kernel_rfl) rfl (by rfl) (fun K9 hK9 => ?_)
  refine wp_storeS (.tmp 68) (.tmp 67) rfl hs.out rfl rfl TH.out ?_
  refine hK9.out _ _ ?_
  clear hK9 K9
  try simp only [Act.put, List.setIfInBounds_toArray, List.set_cons_zero, List.set_cons_succ]
  refine t_done (by kernel_rfl) ?_
  first | (rename_i K1 h1; refine h1 _ _ ?_; clear h1 K1) | skip
  have RES := hid (PutRes.last (i := i) (s := s) F7d.out I7.out rfl hs.out (B7.out.trans (Below.mono (Up.drew W7) (Nat.le_trans F7.out.bs (Nat.le_refl _)))) (R7.out.trans (Fr.of_below (Up.drew W7)) (fun _ _ e => e.elim)) O7.out)
  clear US TH F7 F7d
  go_wp2
  go_end0
  have e : ({ f with now := (f.now ++ [zeroS]).set i s, old := putL f.old i zeroS } : FileV) = { f1 with now := f1.now.set i s, old := putL f1.old i zeroS } := by rw [← HF1.out]
  rw [e]
  exact ⟨rfl, RES⟩
end Go.Proofs.YtbcghggkfnagoaaGreatDoor
