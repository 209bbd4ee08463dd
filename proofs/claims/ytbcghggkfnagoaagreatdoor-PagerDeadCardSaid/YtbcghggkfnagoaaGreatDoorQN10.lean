/- PARTS OF A PROOF, one behind the other: THE WALKS of slices.Clone at bools and at sectors; of the disk's Arm. THE WALK of Crash.stays. CONDITIONS: none of this text's own. -/
import Derived.Test.YtbcghggkfnagoaaGreatDoorQN9
import Derived.Lib.SliceRun
set_option linter.unusedVariables false
set_option linter.unusedSimpArgs false
namespace Go.Proofs.YtbcghggkfnagoaaGreatDoor
open Go Go.RowKit Go.Maps Hach

theorem elemBo : Elem Tryz.prog 46 4 (.bool false) 1 1 := ⟨Tryz.underlying46, by kernel_rfl, rfl, by decide⟩
theorem flatS_one (l : List Sec) : ∀ u ∈ l.flatMap secC, u.oneCell' = true := by
  intro u hu
  obtain ⟨s, _, hs⟩ := List.mem_flatMap.1 hu
  exact secC_one s u hs
/-- A new row is handed back; nothing old has turned. -/
def CloneRet (w : World) (e : TypeId) (size n : Nat) (xs : List Value) (en : Ending) (w' : World) : Prop := ∃ A c, en = .returned (.slice A n c) ∧ Hid (w'.ownsRow w.heap.size e size (.slice A n c) n xs ∧ Up w w')
set_option maxHeartbeats 400000 in
theorem cloneBo_calls (w : World) (A : Option Addr) (xs : List Value) (n c : Nat) (hl : xs.length = n * 1) (hn : n < 1000000) (h1 : ∀ u ∈ xs, u.oneCell' = true) (hc : Hid (Rd w A xs)) :
    Calls Tryz.prog 112 #[.slice A n c] w (CloneRet w 4 1 n xs) := by
  have heq := fun (w : World) (a : Option Addr) (n c n' c' : Nat) => Lib.run_eql_slice_nil (P := Tryz.prog) w 46 4 a n c n' c' Tryz.underlying46
  cases A with
  | none =>
    have h0 : xs = [] := by
      cases xs with
      | nil => rfl
      | cons x xs => obtain ⟨b, off, h, _⟩ := hc.out 0 x rfl; cases h
    subst h0
    obtain rfl : n = 0 := by rw [List.length_nil] at hl; omega
    clear hl
    go_enter Tryz.func112, Tryz.ntmps112
    go_wp2
    go_ret
    exact ⟨none, 0, rfl, hid ⟨own_nil _ _ _ _, Up.refl _⟩⟩
  | some a =>
    have HL := hid hl
    have HN := hid hn
    have H1 := hid h1
    clear hl hn h1
    go_enter Tryz.func112, Tryz.ntmps112
    go_wp2_with (at_builtin; refine hold ?_)
    have b1 : Below w.heap.size w (w.alloc (.cells #[] 4)) := (Below.refl _ _).alloc (Nat.le_refl _) _
    have oL := World.ownsRow_lit (base := w.heap.size) (e := 4) (size := 1) w #[] 0 (Nat.le_refl _) (by decide) rfl
    refine hid (wl_append elemBo rfl (.tmp 5) (.tmp 6) rfl rfl oL rfl (hc.out.grown b1) HL.out H1.out (by have := HN.out; simp only [maxLen]; omega) (by have := HN.out; omega) (by simp) ?_)
    intro A1 k1 w1 o1 g1 _
    have b2 := below_append b1 (Nat.le_refl _) (by simp) oL g1
    clear b1 g1 oL
    simp only [Nat.zero_add, List.nil_append] at o1
    rw [Nat.zero_add]
    have O1 := hid o1
    have B2 := hid b2
    clear o1 b2 heq
    go_wp2
    go_ret
    exact ⟨A1, k1, rfl, hid ⟨by have := O1.out; simpa using this, B2.out⟩⟩
set_option maxHeartbeats 400000 in
theorem cloneSec_calls (w : World) (A : Option Addr) (xs : List Value) (n c : Nat) (hl : xs.length = n * 128) (hn : n < 1000000) (h1 : ∀ u ∈ xs, u.oneCell' = true) (hc : Hid (Rd w A xs)) :
    Calls Tryz.prog 168 #[.slice A n c] w (CloneRet w 173 128 n xs) := by
  have heq := fun (w : World) (a : Option Addr) (n c n' c' : Nat) => Lib.run_eql_slice_nil (P := Tryz.prog) w 81 173 a n c n' c' Tryz.underlying81
  cases A with
  | none =>
    have h0 : xs = [] := by
      cases xs with
      | nil => rfl
      | cons x xs => obtain ⟨b, off, h, _⟩ := hc.out 0 x rfl; cases h
    subst h0
    obtain rfl : n = 0 := by rw [List.length_nil] at hl; omega
    clear hl
    go_enter Tryz.func168, Tryz.ntmps168
    go_wp2
    go_ret
    exact ⟨none, 0, rfl, hid ⟨own_nil _ _ _ _, Up.refl _⟩⟩
  | some a =>
    have HL := hid hl
    have HN := hid hn
    have H1 := hid h1
    clear hl hn h1
    go_enter Tryz.func168, Tryz.ntmps168
    go_wp2_with (at_builtin; refine hold ?_)
    have b1 : Below w.heap.size w (w.alloc (.cells #[] 173)) := (Below.refl _ _).alloc (Nat.le_refl _) _
    have oL := World.ownsRow_lit (base := w.heap.size) (e := 173) (size := 128) w #[] 0 (Nat.le_refl _) (by decide) rfl
    refine hid (wl_append elemS rfl (.tmp 5) (.tmp 6) rfl rfl oL rfl (hc.out.grown b1) HL.out H1.out (by have := HN.out; simp only [maxLen]; omega) (by have := HN.out; omega) (by simp) ?_)
    intro A1 k1 w1 o1 g1 _
    have b2 := below_append b1 (Nat.le_refl _) (by simp) oL g1
    clear b1 g1 oL
    simp only [Nat.zero_add, List.nil_append] at o1
    rw [Nat.zero_add]
    have O1 := hid o1
    have B2 := hid b2
    clear o1 b2 heq
    go_wp2
    go_ret
    exact ⟨A1, k1, rfl, hid ⟨by have := O1.out; simpa using this, B2.out⟩⟩

theorem setD_far {w : World} {b i c j : Nat} {u v : Value} (h : w.cell? ⟨b, i, none⟩ = some v) (hne : ¬ (c = b ∧ j = i)) : (w.setCell ⟨c, j, none⟩ u).cell? ⟨b, i, none⟩ = some v := by
  rw [World.cell?_setCell_other _ _ _ _ (fun e => hne (by injection e with e1 e2; exact ⟨e1, e2⟩))]; exact h
/-- Other numbers in the disk's own block, and another row to keep. -/
theorem DiskAt.numsK {w w' : World} {base d : Nat} {p : DiskP} {D D' : DiskV} {KA : Option Addr} {kc : Nat} (h : DiskAt w base d p D) (hf : Fr (fun k => k = d) w w') (ho : w'.heap[d]? = some (.cells (diskCs { p with KA := KA, kc := kc } D') 87 (0, 0))) (e0 : D'.f0 = D.f0) (e1 : D'.f1 = D.f1) (er : D'.room = D.room)
    (hk : w'.ownsRow 0 4 1 (.slice KA D'.keep.length kc) D'.keep.length (D'.keep.map .bool)) : DiskAt w' base d { p with KA := KA, kc := kc } D' ∧ ∀ k, foot d { p with KA := KA, kc := kc } D' k → foot d p D k := by
  obtain ⟨room, f0, f1, on, ops, armed, keep, torn⟩ := D'
  simp only at e0 e1 er
  subst e0; subst e1; subst er
  have n0 := h.file0.ne
  have n1 := h.file1.ne
  exact ⟨⟨ho, hf.own h.row0 (fun k hk e => (n0.2 k hk).1 e), hf.own h.row1 (fun k hk e => (n1.2 k hk).1 e), h.map0.kept hf (fun e => n0.1 e.symm), h.map1.kept hf (fun e => n1.1 e.symm), h.maps, h.rows,
    hk, h.ok0, h.ok1, h.low, h.room⟩, fun k hk => hk⟩
set_option maxRecDepth 100000 in
set_option maxHeartbeats 2000000 in
theorem arm_calls (w : World) (F : Nat → Prop) (base d : Nat) (D : DiskV) (h : Hid (DiskF w F base d D)) (n : Nat) (hn : Hid (n < 1000000)) (KA : Option Addr) (keep : List Bool) (kc : Nat) (torn : Int) (hk : Hid (Rd w KA (keep.map .bool))) (hkl : Hid (keep.length < 1000000)) :
    Calls Tryz.prog 39 #[.pointer (some ⟨d, 0, none⟩), .int .i64 n, .agg #[.slice KA keep.length kc, .int .i64 torn]] w (StepF w F base d { D with armed := n, keep := keep, torn := torn } (.int .i64 0)) := by
  obtain ⟨p, h, hf⟩ := h.out
  have E0 := fun (w' : World) (hu : Up w w') => hu.c h.reads.1
  have HR := hid h.room.1
  have H := hid h
  have HF := hid hf
  have DF := hid (show DiskF w F base d D from ⟨p, h, hf⟩)
  have h0 : ¬ (n : Int) < 0 := by omega
  obtain ⟨kl, hkl2⟩ : ∃ z, keep.length = z := ⟨_, rfl⟩
  have HKL := hid hkl2
  rw [hkl2]
  have B0 : (w.alloc (.cells #[.slice KA kl kc, .int .i64 torn] 72)).cell? ⟨w.heap.size, 0, none⟩ = some (.slice KA kl kc) ∧ (w.alloc (.cells #[.slice KA kl kc, .int .i64 torn] 72)).cell? ⟨w.heap.size, 1, none⟩ = some (.int .i64 torn) := by
    constructor
    · rw [cell_of_row _ _ _ _ _ _ (heap_alloc_new w _)]; rfl
    · rw [cell_of_row _ _ _ _ _ _ (heap_alloc_new w _)]; rfl
  have BX : Hid (d < w.heap.size ∧ w.heap.size ≤ w.heap.size) := hid ⟨(Array.getElem?_eq_some_iff.1 h.own).1, Nat.le_refl _⟩
  clear h hf hkl2
  go_enter Tryz.func39, Tryz.ntmps39
  go_wp2_with (go_at_call 111; refine (dmade_calls _ d _ (E0 _ (upAlD (Up.refl w) _)) HR).mono ?_; rintro e w' ⟨rfl, rfl⟩)
  have UA : Hid (Up w (w.alloc (.cells #[.slice KA kl kc, .int .i64 torn] 72)).drew) := hid ((upAlD (Up.refl w) _).t (Up.drew _))
  clear E0
  have US : (w.alloc (.cells #[.slice KA kl kc, .int .i64 torn] 72)).drew.cell? ⟨w.heap.size, 0, none⟩ = some (.slice KA kl kc) ∧ (w.alloc (.cells #[.slice KA kl kc, .int .i64 torn] 72)).drew.cell? ⟨w.heap.size, 1, none⟩ = some (.int .i64 torn) := B0
  have HD := hid (show (w.alloc (.cells #[.slice KA kl kc, .int .i64 torn] 72)).drew = (w.alloc (.cells #[.slice KA kl kc, .int .i64 torn] 72)).drew from rfl)
  have RD := hid (hk.out.grown UA.out)
  have H := hid (H.out.up UA.out)
  clear B0
  generalize w.alloc (.cells #[.slice KA kl kc, .int .i64 torn] 72) = wA at *
  generalize hbx : w.heap.size = bx at *
  have HBX := hid hbx
  clear hbx
  refine s_start (fun w9 => w9.cell? ⟨bx, 0, none⟩ = some (.slice KA kl kc) ∧ w9.cell? ⟨bx, 1, none⟩ = some (.int .i64 torn)) (by kernel_rfl) ?_
  refine s_take 0 (some 14) (v := ?_) US rfl rfl (by kernel_rfl) (by kernel_rfl) (by kernel_rfl) (fun _ _ _ h => h) (by rfl) (fun w9 hS => ?_) ?_
  rotate_left
  · go_simp <;> with_reducible rfl
  try simp only [Act.put, List.setIfInBounds_toArray, List.set_cons_zero, List.set_cons_succ]
  refine s_take 1 (some 15) (v := ?_) US rfl rfl (by kernel_rfl) (by kernel_rfl) (by kernel_rfl) (fun _ _ _ h => h) (by rfl) (fun w9 hS => ?_) ?_
  rotate_left
  · go_simp <;> with_reducible rfl
  try simp only [Act.put, List.setIfInBounds_toArray, List.set_cons_zero, List.set_cons_succ]
  refine s_take 2 (some 16) (v := ?_) US rfl rfl (by kernel_rfl) (by kernel_rfl) (by kernel_rfl) (fun _ _ _ h => h) (by rfl) (fun w9 hS => ?_) ?_
  rotate_left
  · go_simp <;> with_reducible rfl
  try simp only [Act.put, List.setIfInBounds_toArray, List.set_cons_zero, List.set_cons_succ]
  refine s_take 3 (some 17) (v := ?_) US rfl rfl (by kernel_rfl) (by kernel_rfl) (by kernel_rfl) (fun _ _ _ h => h) (by rfl) (fun w9 hS => ?_) ?_
  rotate_left
  · go_simp <;> with_reducible rfl
  try simp only [Act.put, List.setIfInBounds_toArray, List.set_cons_zero, List.set_cons_succ]
  refine s_take 4 (some 18) (v := ?_) US rfl rfl (by kernel_rfl) (by kernel_rfl) (by kernel_rfl) (fun _ _ _ h => h) (by rfl) (fun w9 hS => ?_) ?_
  rotate_left
  · obtain ⟨s0, _⟩ := hS; go_simp <;> with_reducible rfl
  try simp only [Act.put, List.setIfInBounds_toArray, List.set_cons_zero, List.set_cons_succ]
  refine s_take 6 (some 20) (v := ?_) US rfl rfl (by kernel_rfl) (by kernel_rfl) (by kernel_rfl) (fun _ _ _ h => h) (by rfl) (fun w9 hS => ?_) ?_
  rotate_left
  · go_simp <;> with_reducible rfl
  try simp only [Act.put, List.setIfInBounds_toArray, List.set_cons_zero, List.set_cons_succ]
  refine s_take 7 (some 21) (v := ?_) US rfl rfl (by kernel_rfl) (by kernel_rfl) (by kernel_rfl) (fun _ _ _ h => h) (by rfl) (fun w9 hS => ?_) ?_
  rotate_left
  · obtain ⟨_, s1⟩ := hS; go_simp <;> with_reducible rfl
  try simp only [Act.put, List.setIfInBounds_toArray, List.set_cons_zero, List.set_cons_succ]
  refine s_op 5 (by kernel_rfl) rfl (by rfl) (fun K9 hK9 => ?_)
  go_simp
  go_at_call 112
  refine (cloneBo_calls _ KA (keep.map .bool) kl kc (by rw [List.length_map, Nat.mul_one]; exact HKL.out) (by have := hkl.out; have := HKL.out; omega) (fun u hu => by obtain ⟨x, _, rfl⟩ := List.mem_map.1 hu; rfl) (hid RD.out)).mono ?_
  rintro e w3 ⟨A3, c3, rfl, hh⟩
  have O3 := hid hh.out.1
  have U3 := hid hh.out.2
  clear hh
  replace US := (show w3.cell? ⟨bx, 0, none⟩ = some (.slice KA kl kc) ∧ w3.cell? ⟨bx, 1, none⟩ = some (.int .i64 torn) from ⟨U3.out.c US.1, U3.out.c US.2⟩)
  replace H := hid (H.out.up U3.out)
  have d9 := H.out.reads.2.2.2.2.2.2.2.2.2.1
  have d10 := H.out.reads.2.2.2.2.2.2.2.2.2.2.1
  have d11 := H.out.reads.2.2.2.2.2.2.2.2.2.2.2
  have f9 := H.out.free 9
  have f10 := H.out.free 10
  have f11 := H.out.free 11
  have nb : ¬ d = bx := by have := BX.out.1; omega
  refine hK9.out _ _ US ?_
  clear hK9 K9
  try simp only [Act.put, List.setIfInBounds_toArray, List.set_cons_zero, List.set_cons_succ]
  refine s_take 8 (some 22) (v := ?_) US rfl rfl (by kernel_rfl) (by kernel_rfl) (by kernel_rfl) (fun _ _ _ h => h) (by rfl) (fun w9 hS => ?_) ?_
  rotate_left
  · go_simp <;> with_reducible rfl
  try simp only [Act.put, List.setIfInBounds_toArray, List.set_cons_zero, List.set_cons_succ]
  refine s_take 9 (some 23) (v := ?_) US rfl rfl (by kernel_rfl) (by kernel_rfl) (by kernel_rfl) (fun _ _ _ h => h) (by rfl) (fun w9 hS => ?_) ?_
  rotate_left
  · go_simp <;> with_reducible rfl
  try simp only [Act.put, List.setIfInBounds_toArray, List.set_cons_zero, List.set_cons_succ]
  refine s_take 10 (some 24) (v := ?_) US rfl rfl (by kernel_rfl) (by kernel_rfl) (by kernel_rfl) (fun _ _ _ h => h) (by rfl) (fun w9 hS => ?_) ?_
  rotate_left
  · go_simp <;> with_reducible rfl
  try simp only [Act.put, List.setIfInBounds_toArray, List.set_cons_zero, List.set_cons_succ]
  refine s_op 11 (by kernel_rfl) rfl (by rfl) (fun K9 hK9 => ?_)
  go_simp
  replace US := (show (w3.setCell ⟨d, 9, none⟩ (.int .i64 n)).cell? ⟨bx, 0, none⟩ = some (.slice KA kl kc) ∧ (w3.setCell ⟨d, 9, none⟩ (.int .i64 n)).cell? ⟨bx, 1, none⟩ = some (.int .i64 torn) from ⟨setD_far US.1 (fun e9 => nb e9.1), setD_far US.2 (fun e9 => nb e9.1)⟩)
  refine hK9.out _ _ US ?_
  clear hK9 K9
  try simp only [Act.put, List.setIfInBounds_toArray, List.set_cons_zero, List.set_cons_succ]
  refine s_take 12 (some 25) (v := ?_) US rfl rfl (by kernel_rfl) (by kernel_rfl) (by kernel_rfl) (fun _ _ _ h => h) (by rfl) (fun w9 hS => ?_) ?_
  rotate_left
  · go_simp <;> with_reducible rfl
  try simp only [Act.put, List.setIfInBounds_toArray, List.set_cons_zero, List.set_cons_succ]
  refine s_take 13 (some 26) (v := ?_) US rfl rfl (by kernel_rfl) (by kernel_rfl) (by kernel_rfl) (fun _ _ _ h => h) (by rfl) (fun w9 hS => ?_) ?_
  rotate_left
  · go_simp <;> with_reducible rfl
  try simp only [Act.put, List.setIfInBounds_toArray, List.set_cons_zero, List.set_cons_succ]
  refine s_op 14 (by kernel_rfl) rfl (by rfl) (fun K9 hK9 => ?_)
  go_simp
  have RES : Hid (Goes w F base d { D with armed := n, keep := keep, torn := torn } (((w3.setCell ⟨d, 9, none⟩ (.int .i64 n)).setCell ⟨d, 10, none⟩ (.slice A3 kl c3)).setCell ⟨d, 11, none⟩ (.int .i64 torn))) := by
    obtain rfl := HKL.out
    have k1 := heap_setCell_same w3 d 9 _ _ (.int .i64 n) H.out.own
    have k2 := heap_setCell_same _ d 10 _ _ (.slice A3 keep.length c3) k1
    have k3 := heap_setCell_same _ d 11 _ _ (.int .i64 torn) k2
    have hf : Fr (fun k => k = d) w3 (((w3.setCell ⟨d, 9, none⟩ (.int .i64 n)).setCell ⟨d, 10, none⟩ (.slice A3 keep.length c3)).setCell ⟨d, 11, none⟩ (.int .i64 torn)) := (((Fr.refl (fun k => k = d) w3).setCell (p := ⟨d, 9, none⟩) (fun _ => rfl) _).setCell (p := ⟨d, 10, none⟩) (fun _ => rfl) _).setCell (p := ⟨d, 11, none⟩) (fun _ => rfl) _
    obtain ⟨h9, ft⟩ := H.out.numsK (D' := { D with armed := n, keep := keep, torn := torn }) (KA := A3) (kc := c3) hf k3 rfl rfl rfl (hf.own (own_base O3.out (Nat.zero_le _)) (fun k hk e => by
      have h1 := (own_block O3.out k hk).1
      have h2 := BX.out.1
      have h3 := UA.out.size
      have h4 := HBX.out
      omega))
    refine hid ⟨⟨_, h9, fun k hk => .inl (HF.out k (ft k hk))⟩, ?_⟩
    exact (((Fr.of_below (UA.out.t U3.out)).mono (fun _ e => e.elim)).trans' (hf.mono (fun k e => HF.out k (.inl e))))
  have US9 := (setD_far (c := d) (j := 10) (u := .slice A3 kl c3) US.1 (fun e9 => nb e9.1))
  have US8 := (setD_far (c := d) (j := 10) (u := .slice A3 kl c3) US.2 (fun e9 => nb e9.1))
  refine hK9.out _ _ ⟨setD_far US9 (fun e9 => nb e9.1), setD_far US8 (fun e9 => nb e9.1)⟩ ?_
  clear hK9 K9
  try simp only [Act.put, List.setIfInBounds_toArray, List.set_cons_zero, List.set_cons_succ]
  refine s_done (by kernel_rfl) ?_
  rename_i K1 h1
  first | (refine h1 _ _ ?_; clear h1 K1) | skip
  clear US US9 US8
  go_wp2
  go_ret
  exact ⟨rfl, RES⟩

end Go.Proofs.YtbcghggkfnagoaaGreatDoor

namespace Go.Proofs.YtbcghggkfnagoaaGreatDoor
open Go Go.RowKit Go.Maps Hach

def clampT (t : Int) : Nat := if t < 0 then 0 else if 128 < t then 128 else t.toNat
/-- How many bytes of the n-th dirty sector stay; whether it is torn. -/
def staysV (keep : List Bool) (torn : Int) (n : Nat) (t : Bool) : Nat × Bool :=
  if keep[n % keep.length]?.getD false = true then (128, false) else if t = true then (clampT torn, true) else (0, false)
def StaysRet (w : World) (keep : List Bool) (torn : Int) (n : Nat) (t : Bool) (en : Ending) (w' : World) : Prop :=
  en = .returned (.tuple #[.int .i64 (staysV keep torn n t).1, .bool (staysV keep torn n t).2]) ∧ Hid (Up w w')
set_option maxRecDepth 100000 in
set_option maxHeartbeats 2000000 in
theorem stays_calls (w : World) (KA : Option Addr) (keep : List Bool) (kc : Nat) (torn : Int) (n : Nat) (t : Bool) (hk : Hid (Rd w KA (keep.map .bool))) (hkl : Hid (keep.length < 1000000)) (hn : Hid (n < 1000000)) :
    Calls Tryz.prog 114 #[.agg #[.slice KA keep.length kc, .int .i64 torn], .int .i64 n, .bool t] w (StaysRet w keep torn n t) := by
  obtain ⟨kl, hkl2⟩ : ∃ z, keep.length = z := ⟨_, rfl⟩
  have HKL := hid hkl2
  rw [hkl2]
  have B0 : (w.alloc (.cells #[.slice KA kl kc, .int .i64 torn] 72)).cell? ⟨w.heap.size, 0, none⟩ = some (.slice KA kl kc) ∧ (w.alloc (.cells #[.slice KA kl kc, .int .i64 torn] 72)).cell? ⟨w.heap.size, 1, none⟩ = some (.int .i64 torn) := by
    constructor
    · rw [cell_of_row _ _ _ _ _ _ (heap_alloc_new w _)]; rfl
    · rw [cell_of_row _ _ _ _ _ _ (heap_alloc_new w _)]; rfl
  have U0 := hid (upAlD (Up.refl w) (.cells #[.slice KA kl kc, .int .i64 torn] 72))
  clear hkl2
  by_cases h0 : kl = 0
  · subst h0
    have HK9 : Hid (keep[n % keep.length]?.getD false = false) := hid (by rw [List.eq_nil_of_length_eq_zero HKL.out]; rfl)
    go_enter Tryz.func114, Tryz.ntmps114
    go_wp2
    go_region
    have UF := hid (U0.out.t (Up.drew _))
    cases t
    · go_wp2
      go_ret2
      refine ⟨?_, UF⟩
      unfold staysV; rw [HK9.out]; rfl
    · have hz : staysV keep torn n true = (clampT torn, true) := by unfold staysV; rw [HK9.out]; rfl
      have HZ := hid hz
      clear hz
      by_cases t0 : torn < 0
      · have HC : Hid (clampT torn = 0) := hid (by unfold clampT; rw [if_pos t0])
        go_wp2
        all_goals
          go_ret2
          refine ⟨?_, UF⟩
          rw [HZ.out, HC.out]
          first | rfl | (exfalso; omega)
      · by_cases t1 : 128 < torn
        · have HC : Hid (clampT torn = 128) := hid (by unfold clampT; rw [if_neg t0, if_pos t1])
          go_wp2
          all_goals
            go_ret2
            refine ⟨?_, UF⟩
            rw [HZ.out, HC.out]
            first | rfl | (exfalso; omega)
        · have HC : Hid ((clampT torn : Int) = torn) := hid (by unfold clampT; rw [if_neg t0, if_neg t1]; omega)
          go_wp2
          all_goals
            go_ret2
            refine ⟨?_, UF⟩
            rw [HZ.out]
            show Ending.returned (.tuple #[.int .i64 _, .bool true]) = .returned (.tuple #[.int .i64 ((clampT torn : Nat) : Int), .bool true])
            rw [HC.out] <;> first | rfl | (rw [show torn = 0 by omega]) | (rw [show torn = 128 by omega]) | (exfalso; omega)
  · have hp : 0 < kl := by omega
    obtain ⟨b, o, hA, hc⟩ := hk.out (n % kl) (.bool (keep[n % kl]?.getD false)) (by
      have := HKL.out
      rw [List.getElem?_map, List.getElem?_eq_getElem (by rw [this]; exact Nat.mod_lt _ (by omega))]; rfl)
    have C0 := U0.out.c hc
    subst hA
    obtain ⟨k, hk2⟩ : ∃ k, keep[n % kl]?.getD false = k := ⟨_, rfl⟩
    rw [hk2] at C0
    have HK := hid hk2
    clear hc hk2
    obtain ⟨m, hm⟩ : ∃ m, n % kl = m := ⟨_, rfl⟩
    have hr : (n : Int).tmod kl = (m : Int) := by rw [← hm]; rfl
    rw [hm] at C0
    have hml : (m : Int) < kl := by rw [← hm]; have := Nat.mod_lt n (show kl > 0 by omega); omega
    have HM := hid hm
    clear hm
    go_enter Tryz.func114, Tryz.ntmps114
    go_wp2
    go_region
    have UF := hid (U0.out.t (Up.drew _))
    have hk9 : keep[n % keep.length]?.getD false = k := by rw [HKL.out]; exact HK.out
    have HK9 := hid hk9
    clear C0 hr hml hk9
    cases k
    · cases t
      · go_wp2
        go_ret2
        refine ⟨?_, UF⟩
        unfold staysV; rw [HK9.out]; rfl
      · have hz : staysV keep torn n true = (clampT torn, true) := by unfold staysV; rw [HK9.out]; rfl
        have HZ := hid hz
        clear hz
        by_cases t0 : torn < 0
        · have HC : Hid (clampT torn = 0) := hid (by unfold clampT; rw [if_pos t0])
          go_wp2
          all_goals
            go_ret2
            refine ⟨?_, UF⟩
            rw [HZ.out, HC.out]
            first | rfl | (exfalso; omega)
        · by_cases t1 : 128 < torn
          · have HC : Hid (clampT torn = 128) := hid (by unfold clampT; rw [if_neg t0, if_pos t1])
            go_wp2
            all_goals
              go_ret2
              refine ⟨?_, UF⟩
              rw [HZ.out, HC.out]
              first | rfl | (exfalso; omega)
          · have HC : Hid ((clampT torn : Int) = torn) := hid (by unfold clampT; rw [if_neg t0, if_neg t1]; omega)
            go_wp2
            all_goals
              go_ret2
              refine ⟨?_, UF⟩
              rw [HZ.out]
              show Ending.returned (.tuple #[.int .i64 _, .bool true]) = .returned (.tuple #[.int .i64 ((clampT torn : Nat) : Int), .bool true])
              rw [HC.out] <;> first | rfl | (rw [show torn = 0 by omega]) | (rw [show torn = 128 by omega]) | (exfalso; omega)
    · go_wp2
      go_ret2
      refine ⟨?_, UF⟩
      unfold staysV; rw [HK9.out]; rfl
end Go.Proofs.YtbcghggkfnagoaaGreatDoor
