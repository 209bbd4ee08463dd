/- PLAIN LAWS OF THE DISK: what was synced stays; a crash that keeps all changes no byte. -/
import Derived.Test.YtlikggeceeennaaDLw3
set_option linter.unusedVariables false
set_option linter.unusedSimpArgs false
namespace Go.Proofs.Ytlikggeceeennaa
open Go Go.RowKit Go.Maps Hach

/-- Each sector behind the sure ones is marked. -/
def Cov (f : FileV) : Prop := ∀ i : Nat, f.sure ≤ i → i < f.now.length → ∃ q ∈ f.old, q.1 = (i : Int)
theorem mem_putL_of {L : Olds} {k : Int} {s : Sec} {y : Int × Sec} (hy : y ∈ L) (hk : y.1 ≠ k) : y ∈ putL L k s :=
  mem_insL.2 (.inr (List.mem_filter.2 ⟨hy, by unfold keep; rw [decide_eq_false hk]; rfl⟩))
theorem getL_some {L : Olds} {k : Int} (h : (getL L k).isSome = true) : ∃ q ∈ L, q.1 = k := by
  unfold getL at h
  cases hf : L.find? (fun p => decide (p.1 = k)) with
  | none => rw [hf] at h; cases h
  | some q => exact ⟨q, List.mem_of_find?_eq_some hf, of_decide_eq_true (p := q.1 = k) (List.find?_some (p := fun q : Int × Sec => decide (q.1 = k)) hf)⟩
theorem growF_old (f : FileV) (i : Nat) : (growF f i).old = f.old ∧ (growF f i).sure = f.sure := by unfold growF; split <;> exact ⟨rfl, rfl⟩
theorem Cov.put {f : FileV} {i : Nat} (h : Cov f) (hi : i ≤ f.now.length) (s : Sec) : Cov (putF f i s) := by
  intro j hj hjl
  rw [putF_sure] at hj
  rw [putF_len hi] at hjl
  show ∃ q ∈ (markF (growF f i) i).old, q.1 = (j : Int)
  by_cases hji : j = i
  · subst hji
    unfold markF
    split
    · rename_i hs
      exact getL_some hs
    · exact ⟨_, mem_insL.2 (.inl rfl), rfl⟩
  · obtain ⟨q, hq, e⟩ := h j hj (by omega)
    refine ⟨q, ?_, e⟩
    unfold markF
    split
    · rw [(growF_old f i).1]; exact hq
    · exact mem_putL_of (by rw [(growF_old f i).1]; exact hq) (by omega)
theorem Cov.puts {f : FileV} {i : Nat} (h : Cov f) (hi : i ≤ f.now.length) (l : List Sec) : Cov (putsF f i l) := by
  induction l generalizing f i with
  | nil => exact h
  | cons s l ih => exact ih (h.put hi s) (by rw [putF_len hi]; omega)
/-- The first three stay, and are marked by nobody. -/
structure Three (S : List Sec) (f : FileV) : Prop where
  sure : f.sure = 3
  now : f.now.take 3 = S
  old : ∀ q ∈ f.old, 3 ≤ q.1
theorem growF_take {f : FileV} {i : Nat} (h3 : 3 ≤ f.now.length) : (growF f i).now.take 3 = f.now.take 3 := by
  unfold growF
  split
  · show (f.now ++ [zeroS]).take 3 = _
    rw [List.take_append_of_le_length h3]
  · rfl
theorem Three.put {S : List Sec} {f : FileV} (h : Three S f) (hl : S.length = 3) {i : Nat} (h3 : 3 ≤ i) (s : Sec) : Three S (putF f i s) := by
  have hn : 3 ≤ f.now.length := by have := h.now; have e : (f.now.take 3).length = 3 := by rw [this, hl]
                                   rw [List.length_take] at e; omega
  refine ⟨by rw [putF_sure, h.sure], ?_, fun q hq => ?_⟩
  · show ((markF (growF f i) i).now.set i s).take 3 = S
    rw [List.take_set_of_le h3, markF_len, growF_take hn, h.now]
  · have hq' : q ∈ (markF (growF f i) i).old := hq
    unfold markF at hq'
    split at hq'
    · rw [(growF_old f i).1] at hq'; exact h.old q hq'
    · rcases mem_putL hq' with rfl | hq'
      · show (3 : Int) ≤ (i : Int); omega
      · rw [(growF_old f i).1] at hq'; exact h.old q hq'
theorem Three.puts {S : List Sec} {f : FileV} (h : Three S f) (hl : S.length = 3) {i : Nat} (h3 : 3 ≤ i) (l : List Sec) : Three S (putsF f i l) := by
  induction l generalizing f i with
  | nil => exact h
  | cons s l ih => exact ih (h.put hl h3 s) (by omega)
/-! ### crashes -/
theorem crashV_f0 (keep : List Bool) (torn : Int) (D : DiskV) : (crashV keep torn D).f0 = fileOf (crashFile keep torn D.f0 0 true) := rfl
theorem crashV_f1 (keep : List Bool) (torn : Int) (D : DiskV) : (crashV keep torn D).f1 = fileOf (crashFile keep torn D.f1 (crashFile keep torn D.f0 0 true).n (crashFile keep torn D.f0 0 true).wh) := rfl
theorem crashV_nums (keep : List Bool) (torn : Int) (D : DiskV) : (crashV keep torn D).on = false ∧ (crashV keep torn D).armed = 0 ∧ (crashV keep torn D).ops = D.ops ∧ (crashV keep torn D).room = D.room ∧ (crashV keep torn D).keep = D.keep := ⟨rfl, rfl, rfl, rfl, rfl⟩
theorem stays_all (torn : Int) (n : Nat) (t : Bool) : staysV [true] torn n t = (128, false) := by
  unfold staysV
  have : n % [true].length = 0 := by simp [Nat.mod_one]
  rw [this]; rfl
theorem crashSec_all {now : List Sec} (h : Whole now) (i : Nat) {o : Sec} (ho : o.length = 128) : crashSec now i 128 o = now := by
  unfold crashSec
  rw [List.drop_eq_nil_of_le (by omega), List.append_nil]
  by_cases hi : i < now.length
  · rw [List.getElem?_eq_getElem hi, Option.getD_some, List.take_of_length_le (by rw [h _ (List.getElem_mem hi)]; omega), List.set_getElem_self]
  · rw [List.set_eq_of_length_le (by omega)]
theorem row_all {torn : Int} {L : Olds} (hL : ∀ q ∈ L, q.2.length = 128) : ∀ s : CSt, Whole s.now → (crashRow [true] torn s L).now = s.now ∧ s.last ≤ (crashRow [true] torn s L).last ∧ ∀ q ∈ L, q.1.toNat + 1 ≤ (crashRow [true] torn s L).last := by
  induction L with
  | nil => exact fun s hs => ⟨rfl, Nat.le_refl _, by simp⟩
  | cons q L ih =>
    intro s hs
    have e : (crashStep [true] torn s q).now = s.now := by
      show crashSec s.now q.1.toNat (staysV [true] torn s.n s.wh).1 q.2 = _
      rw [stays_all]; exact crashSec_all hs _ (hL q List.mem_cons_self)
    have e2 : (crashStep [true] torn s q).last = max s.last (q.1.toNat + 1) := by
      show (if 0 < (staysV [true] torn s.n s.wh).1 then max s.last (q.1.toNat + 1) else s.last) = _
      rw [stays_all]; rfl
    obtain ⟨h1, h2, h3⟩ := ih (fun x hx => hL x (List.mem_cons_of_mem _ hx)) (crashStep [true] torn s q) (by rw [e]; exact hs)
    refine ⟨h1.trans e, by rw [e2] at h2; show _ ≤ (crashRow [true] torn (crashStep [true] torn s q) L).last; omega, fun x hx => ?_⟩
    rcases List.mem_cons.1 hx with rfl | hx
    · rw [e2] at h2; show _ ≤ (crashRow [true] torn (crashStep [true] torn s x) L).last; omega
    · exact h3 x hx
theorem crash_all {f : FileV} (hf : FileOk f) (hc : Cov f) (torn : Int) (n : Nat) (wh : Bool) : (fileOf (crashFile [true] torn f n wh)).now = f.now := by
  obtain ⟨h1, h2, h3⟩ := row_all (torn := torn) hf.old ⟨f.now, f.sure, n, wh⟩ hf.now
  show ((crashRow [true] torn ⟨f.now, f.sure, n, wh⟩ f.old).now).take (crashRow [true] torn ⟨f.now, f.sure, n, wh⟩ f.old).last = f.now
  rw [h1]
  refine List.take_of_length_le ?_
  show f.now.length ≤ _
  by_cases hz : f.now.length ≤ f.sure
  · exact Nat.le_trans hz h2
  · obtain ⟨q, hq, e⟩ := hc (f.now.length - 1) (by omega) (by omega)
    have := h3 q hq
    omega
theorem row_three {keep : List Bool} {torn : Int} {L : Olds} (hL : ∀ q ∈ L, 3 ≤ q.1) : ∀ s : CSt, (crashRow keep torn s L).now.take 3 = s.now.take 3 ∧ s.last ≤ (crashRow keep torn s L).last := by
  induction L with
  | nil => exact fun s => ⟨rfl, Nat.le_refl _⟩
  | cons q L ih =>
    intro s
    obtain ⟨h1, h2⟩ := ih (fun x hx => hL x (List.mem_cons_of_mem _ hx)) (crashStep keep torn s q)
    refine ⟨h1.trans ?_, Nat.le_trans ?_ h2⟩
    · show (crashSec s.now q.1.toNat _ q.2).take 3 = _
      unfold crashSec
      rw [List.take_set_of_le (by have := hL q List.mem_cons_self; omega)]
    · show s.last ≤ if _ then _ else _
      have := Nat.le_max_left s.last (q.1.toNat + 1)
      split
      · exact this
      · exact Nat.le_refl _
theorem Three.crash {S : List Sec} {f : FileV} (h : Three S f) (keep : List Bool) (torn : Int) (n : Nat) (wh : Bool) : (fileOf (crashFile keep torn f n wh)).now.take 3 = S := by
  obtain ⟨h1, h2⟩ := row_three (keep := keep) (torn := torn) h.old ⟨f.now, f.sure, n, wh⟩
  show ((crashRow keep torn ⟨f.now, f.sure, n, wh⟩ f.old).now.take (crashRow keep torn ⟨f.now, f.sure, n, wh⟩ f.old).last).take 3 = S
  have h2' : f.sure ≤ (crashRow keep torn ⟨f.now, f.sure, n, wh⟩ f.old).last := h2
  have h3 : 3 ≤ (crashRow keep torn ⟨f.now, f.sure, n, wh⟩ f.old).last := h.sure ▸ h2'
  rw [List.take_take, Nat.min_eq_left h3, h1]
  exact h.now
/-! ### the law's invariant -/
structure SureI (S : List Sec) (D : DiskV) (k : Nat) : Prop where
  on : D.on = true
  armed : D.armed = 0
  room : D.room = 200
  ops : 0 ≤ D.ops ∧ D.ops ≤ k
  keep : D.keep = []
  size : (D.f0.now.length + D.f1.now.length : Int) ≤ 200
  three : Three S D.f0
  cov : Cov D.f0
section
variable {S : List Sec} {D : DiskV} {k : Nat}
theorem SureI.ok (h : SureI S D k) (hk : k < 999999990) : DiskOk D :=
  ⟨⟨⟨h.ops.1, by have := h.ops; omega⟩, by rw [h.armed]; exact ⟨Int.le_refl _, by decide⟩, by rw [h.room]; exact h.size⟩, by have := h.ops; omega, by rw [h.keep]; decide⟩
theorem SureI.tick (h : SureI S D k) : SureI S (tick D) (k + 1) :=
  ⟨h.on, by show (if 0 < D.armed then D.armed - 1 else D.armed) = 0; rw [h.armed]; rfl, h.room, ⟨by show 0 ≤ D.ops + 1; have := h.ops; omega, by show D.ops + 1 ≤ _; have := h.ops; omega⟩, h.keep, h.size, h.three, h.cov⟩
theorem SureI.mono (h : SureI S D k) {n : Nat} (hn : k ≤ n) : SureI S D n := ⟨h.on, h.armed, h.room, ⟨h.ops.1, by have := h.ops; omega⟩, h.keep, h.size, h.three, h.cov⟩
theorem opV_not {D D2 : DiskV} (h : D.armed = 0) : opV D D2 = D2 := by unfold opV; rw [h]; rfl
theorem opR_not {D : DiskV} (h : D.armed = 0) (r : Int) : opR D r = r := by unfold opR; rw [h]; rfl
theorem SureI.write0 (h : SureI S D k) (hl : S.length = 3) {a : Int} (ha : 3 ≤ a) (ss : List Sec) : SureI S (writeR D 0 a ss).1 (k + 1) := by
  unfold writeR
  rw [h.on, if_neg (by decide)]
  show SureI S (if a < 0 ∨ ((D.fl false).now.length : Int) < a then (D, 11) else if ss = [] then (D, 2) else _).1 (k + 1)
  split
  · exact h.mono (Nat.le_succ k)
  rename_i hin
  split
  · exact h.mono (Nat.le_succ k)
  show SureI S (opV D _) (k + 1)
  rw [opV_not h.armed]
  unfold writeV
  split
  · exact h.tick
  rename_i hfull
  have ht := h.tick
  have hle : a.toNat ≤ D.f0.now.length := by have : ((D.fl false).now.length : Int) = D.f0.now.length := rfl; omega
  have h9 : ¬ ((200 : Int) - (D.f1.now.length : Int) < (max (a.toNat + ss.length) D.f0.now.length : Nat)) := by
    intro e; apply hfull
    unfold isFull
    refine decide_eq_true ?_
    show D.room - (D.f1.now.length : Int) < (max (a.toNat + ss.length) D.f0.now.length : Nat)
    rw [h.room]; exact e
  refine ⟨ht.on, ht.armed, ht.room, ht.ops, ht.keep, ?_, h.three.puts hl (by omega) ss, h.cov.puts hle ss⟩
  show ((putsF D.f0 a.toNat ss).now.length + D.f1.now.length : Int) ≤ 200
  rw [putsF_len hle]; omega
theorem SureI.write1 (h : SureI S D k) (a : Int) (ss : List Sec) : SureI S (writeR D 1 a ss).1 (k + 1) := by
  unfold writeR
  rw [h.on, if_neg (by decide)]
  show SureI S (if a < 0 ∨ ((D.fl true).now.length : Int) < a then (D, 11) else if ss = [] then (D, 2) else _).1 (k + 1)
  split
  · exact h.mono (Nat.le_succ k)
  rename_i hin
  split
  · exact h.mono (Nat.le_succ k)
  show SureI S (opV D _) (k + 1)
  rw [opV_not h.armed]
  unfold writeV
  split
  · exact h.tick
  rename_i hfull
  have ht := h.tick
  have hle : a.toNat ≤ D.f1.now.length := by have : ((D.fl true).now.length : Int) = D.f1.now.length := rfl; omega
  have h9 : ¬ ((200 : Int) - (D.f0.now.length : Int) < (max (a.toNat + ss.length) D.f1.now.length : Nat)) := by
    intro e; apply hfull
    unfold isFull
    refine decide_eq_true ?_
    show D.room - (D.f0.now.length : Int) < (max (a.toNat + ss.length) D.f1.now.length : Nat)
    rw [h.room]; exact e
  refine ⟨ht.on, ht.armed, ht.room, ht.ops, ht.keep, ?_, h.three, h.cov⟩
  show (D.f0.now.length + (putsF D.f1 a.toNat ss).now.length : Int) ≤ 200
  rw [putsF_len hle]; omega
end
/-- The disk at the law's start. -/
theorem three_start (S : List Sec) (hl : S.length = 3) : (writeR (newD 200) 0 0 S).2 = 0 ∧ (syncR (writeR (newD 200) 0 0 S).1 0).2 = 0 ∧ SureI S (syncR (writeR (newD 200) 0 0 S).1 0).1 2 ∧ DiskOk (writeR (newD 200) 0 0 S).1 := by
  match S, hl with
  | [s0, s1, s2], _ =>
    refine ⟨rfl, rfl, ⟨rfl, rfl, rfl, ⟨by show (0 : Int) ≤ 0 + 1 + 1; decide, by show (0 : Int) + 1 + 1 ≤ 2; decide⟩, rfl, by show ((3 : Nat) + (0 : Nat) : Int) ≤ 200; decide, ⟨rfl, rfl, fun q hq => by cases hq⟩, fun i h1 h2 => ?_⟩, ?_⟩
    · have e1 : 3 ≤ i := h1
      have e2 : i < 3 := h2
      omega
    · exact ⟨⟨⟨by show (0 : Int) ≤ 0 + 1; decide, by show (0 : Int) + 1 < _; decide⟩, ⟨Int.le_refl _, by show (0 : Int) < _; decide⟩, by show ((3 : Nat) + (0 : Nat) : Int) ≤ 200; decide⟩, by show (0 : Int) + 1 + 1 < _; decide, by show (0 : Nat) < _; decide⟩
/-- A file's bytes. -/
def flatB (l : List Sec) : List UInt8 := l.flatMap id
theorem flatB_cells (l : List Sec) : l.flatMap secC = (flatB l).map byteCell := by
  induction l with
  | nil => rfl
  | cons s r ih => show secC s ++ r.flatMap secC = (id s ++ flatB r).map byteCell; rw [ih, List.map_append]; rfl
theorem part_all (l : List Sec) : part l 0 l.length = (flatB l).map byteCell := by
  unfold part
  rw [List.drop_zero, List.take_of_length_le (Nat.le_refl _), flatB_cells]
theorem flatB_length {l : List Sec} (h : Whole l) : (flatB l).length = l.length * 128 := by
  have := congrArg List.length (flatB_cells l)
  rw [List.length_map, flatS_length h] at this
  exact this.symm
theorem part_take {l S : List Sec} (h : l.take 3 = S) : part l 0 3 = (flatB S).map byteCell := by
  unfold part
  rw [List.drop_zero, h, flatB_cells]
end Go.Proofs.Ytlikggeceeennaa
