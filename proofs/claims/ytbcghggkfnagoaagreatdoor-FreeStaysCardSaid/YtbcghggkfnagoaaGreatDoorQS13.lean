/- PARTS OF A PROOF, one behind the other: THE WALKS of slices.Clone at bools and at sectors; of the disk's Arm. THE WALK of Crash.stays. CONDITIONS: none of this text's own. -/
import Derived.Test.YtbcghggkfnagoaaGreatDoorQS9
import Derived.Lib.SliceRun
set_option linter.unusedVariables false
set_option linter.unusedSimpArgs false
namespace Go.Proofs.YtbcghggkfnagoaaGreatDoor
open Go Go.RowKit Go.Maps Hach
theorem flatS_one (l : List Sec) : ∀ u ∈ l.flatMap secC, u.oneCell' = true := by
  intro u hu
  obtain ⟨s, _, hs⟩ := List.mem_flatMap.1 hu
  exact secC_one s u hs
def CloneRet (w : World) (e : TypeId) (size n : Nat) (xs : List Value) (en : Ending) (w' : World) : Prop := ∃ A c, en = .returned (.slice A n c) ∧ Hid (w'.ownsRow w.heap.size e size (.slice A n c) n xs ∧ Up w w')
set_option maxHeartbeats 400000 in
theorem cloneSec_calls (w : World) (A : Option Addr) (xs : List Value) (n c : Nat) (hl : xs.length = n * 128) (hn : n < 1000000) (h1 : ∀ u ∈ xs, u.oneCell' = true) (hc : Hid (Rd w A xs)) :
    Calls Tryz.prog 168 #[.slice A n c] w (CloneRet w 173 128 n xs) := by
  have heq := fun (w : World) (a : Option Addr) (n c n' c' : Nat) => Lib.run_eql_slice_nil (P := Tryz.prog) w 81 173 a n c n' c' Tryz.underlying81
  cases A with
  | none =>
    have h0 : xs = [] := by
      cases xs with
      | nil => rfl
      | cons x xs => obtain ⟨b, off, h, _⟩ := hc.out 0 x rfl; cases h
    subst h0
    obtain rfl : n = 0 := by rw [List.length_nil] at hl; omega
    clear hl
    go_enter Tryz.func168, Tryz.ntmps168
    go_wp2
    go_ret
    exact ⟨none, 0, rfl, hid ⟨own_nil _ _ _ _, Up.refl _⟩⟩
  | some a =>
    have HL := hid hl
    have HN := hid hn
    have H1 := hid h1
    clear hl hn h1
    go_enter Tryz.func168, Tryz.ntmps168
    go_wp2_with (at_builtin; refine hold ?_)
    have b1 : Below w.heap.size w (w.alloc (.cells #[] 173)) := (Below.refl _ _).alloc (Nat.le_refl _) _
    have oL := World.ownsRow_lit (base := w.heap.size) (e := 173) (size := 128) w #[] 0 (Nat.le_refl _) (by decide) rfl
    refine hid (wl_append elemS rfl (.tmp 5) (.tmp 6) rfl rfl oL rfl (hc.out.grown b1) HL.out H1.out (by have := HN.out; simp only [maxLen]; omega) (by have := HN.out; omega) (by simp) ?_)
    intro A1 k1 w1 o1 g1 _
    have b2 := below_append b1 (Nat.le_refl _) (by simp) oL g1
    clear b1 g1 oL
    simp only [Nat.zero_add, List.nil_append] at o1
    rw [Nat.zero_add]
    have O1 := hid o1
    have B2 := hid b2
    clear o1 b2 heq
    go_wp2
    go_ret
    exact ⟨A1, k1, rfl, hid ⟨by have := O1.out; simpa using this, B2.out⟩⟩

end Go.Proofs.YtbcghggkfnagoaaGreatDoor

namespace Go.Proofs.YtbcghggkfnagoaaGreatDoor
open Go Go.RowKit Go.Maps Hach

def clampT (t : Int) : Nat := if t < 0 then 0 else if 128 < t then 128 else t.toNat
def staysV (keep : List Bool) (torn : Int) (n : Nat) (t : Bool) : Nat × Bool :=
  if keep[n % keep.length]?.getD false = true then (128, false) else if t = true then (clampT torn, true) else (0, false)
def StaysRet (w : World) (keep : List Bool) (torn : Int) (n : Nat) (t : Bool) (en : Ending) (w' : World) : Prop :=
  en = .returned (.tuple #[.int .i64 (staysV keep torn n t).1, .bool (staysV keep torn n t).2]) ∧ Hid (Up w w')
set_option maxRecDepth 100000 in
set_option maxHeartbeats 2000000 in
theorem stays_calls (w : World) (KA : Option Addr) (keep : List Bool) (kc : Nat) (torn : Int) (n : Nat) (t : Bool) (hk : Hid (Rd w KA (keep.map .bool))) (hkl : Hid (keep.length < 1000000)) (hn : Hid (n < 1000000)) :
    Calls Tryz.prog 114 #[.agg #[.slice KA keep.length kc, .int .i64 torn], .int .i64 n, .bool t] w (StaysRet w keep torn n t) := by
  obtain ⟨kl, hkl2⟩ : ∃ z, keep.length = z := ⟨_, rfl⟩
  have HKL := hid hkl2
  rw [hkl2]
  have B0 : (w.alloc (.cells #[.slice KA kl kc, .int .i64 torn] 72)).cell? ⟨w.heap.size, 0, none⟩ = some (.slice KA kl kc) ∧ (w.alloc (.cells #[.slice KA kl kc, .int .i64 torn] 72)).cell? ⟨w.heap.size, 1, none⟩ = some (.int .i64 torn) := by
    constructor
    · rw [cell_of_row _ _ _ _ _ _ (heap_alloc_new w _)]; rfl
    · rw [cell_of_row _ _ _ _ _ _ (heap_alloc_new w _)]; rfl
  have U0 := hid (upAlD (Up.refl w) (.cells #[.slice KA kl kc, .int .i64 torn] 72))
  clear hkl2
  by_cases h0 : kl = 0
  · subst h0
    have HK9 : Hid (keep[n % keep.length]?.getD false = false) := hid (by rw [List.eq_nil_of_length_eq_zero HKL.out]; rfl)
    go_enter Tryz.func114, Tryz.ntmps114
    go_wp2
    go_region
    have UF := hid (U0.out.t (Up.drew _))
    cases t
    · go_wp2
      go_ret2
      refine ⟨?_, UF⟩
      unfold staysV; rw [HK9.out]; rfl
    · have hz : staysV keep torn n true = (clampT torn, true) := by unfold staysV; rw [HK9.out]; rfl
      have HZ := hid hz
      clear hz
      by_cases t0 : torn < 0
      · have HC : Hid (clampT torn = 0) := hid (by unfold clampT; rw [if_pos t0])
        go_wp2
        all_goals
          go_ret2
          refine ⟨?_, UF⟩
          rw [HZ.out, HC.out]
          first | rfl | (exfalso; omega)
      · by_cases t1 : 128 < torn
        · have HC : Hid (clampT torn = 128) := hid (by unfold clampT; rw [if_neg t0, if_pos t1])
          go_wp2
          all_goals
            go_ret2
            refine ⟨?_, UF⟩
            rw [HZ.out, HC.out]
            first | rfl | (exfalso; omega)
        · have HC : Hid ((clampT torn : Int) = torn) := hid (by unfold clampT; rw [if_neg t0, if_neg t1]; omega)
          go_wp2
          all_goals
            go_ret2
            refine ⟨?_, UF⟩
            rw [HZ.out]
            show Ending.returned (.tuple #[.int .i64 _, .bool true]) = .returned (.tuple #[.int .i64 ((clampT torn : Nat) : Int), .bool true])
            rw [HC.out] <;> first | rfl | (rw [show torn = 0 by omega]) | (rw [show torn = 128 by omega]) | (exfalso; omega)
  · have hp : 0 < kl := by omega
    obtain ⟨b, o, hA, hc⟩ := hk.out (n % kl) (.bool (keep[n % kl]?.getD false)) (by
      have := HKL.out
      rw [List.getElem?_map, List.getElem?_eq_getElem (by rw [this]; exact Nat.mod_lt _ (by omega))]; rfl)
    have C0 := U0.out.c hc
    subst hA
    obtain ⟨k, hk2⟩ : ∃ k, keep[n % kl]?.getD false = k := ⟨_, rfl⟩
    rw [hk2] at C0
    have HK := hid hk2
    clear hc hk2
    obtain ⟨m, hm⟩ : ∃ m, n % kl = m := ⟨_, rfl⟩
    have hr : (n : Int).tmod kl = (m : Int) := by rw [← hm]; rfl
    rw [hm] at C0
    have hml : (m : Int) < kl := by rw [← hm]; have := Nat.mod_lt n (show kl > 0 by omega); omega
    have HM := hid hm
    clear hm
    go_enter Tryz.func114, Tryz.ntmps114
    go_wp2
    go_region
    have UF := hid (U0.out.t (Up.drew _))
    have hk9 : keep[n % keep.length]?.getD false = k := by rw [HKL.out]; exact HK.out
    have HK9 := hid hk9
    clear C0 hr hml hk9
    cases k
    · cases t
      · go_wp2
        go_ret2
        refine ⟨?_, UF⟩
        unfold staysV; rw [HK9.out]; rfl
      · have hz : staysV keep torn n true = (clampT torn, true) := by unfold staysV; rw [HK9.out]; rfl
        have HZ := hid hz
        clear hz
        by_cases t0 : torn < 0
        · have HC : Hid (clampT torn = 0) := hid (by unfold clampT; rw [if_pos t0])
          go_wp2
          all_goals
            go_ret2
            refine ⟨?_, UF⟩
            rw [HZ.out, HC.out]
            first | rfl | (exfalso; omega)
        · by_cases t1 : 128 < torn
          · have HC : Hid (clampT torn = 128) := hid (by unfold clampT; rw [if_neg t0, if_pos t1])
            go_wp2
            all_goals
              go_ret2
              refine ⟨?_, UF⟩
              rw [HZ.out, HC.out]
              first | rfl | (exfalso; omega)
          · have HC : Hid ((clampT torn : Int) = torn) := hid (by unfold clampT; rw [if_neg t0, if_neg t1]; omega)
            go_wp2
            all_goals
              go_ret2
              refine ⟨?_, UF⟩
              rw [HZ.out]
              show Ending.returned (.tuple #[.int .i64 _, .bool true]) = .returned (.tuple #[.int .i64 ((clampT torn : Nat) : Int), .bool true])
              rw [HC.out] <;> first | rfl | (rw [show torn = 0 by omega]) | (rw [show torn = 128 by omega]) | (exfalso; omega)
    · go_wp2
      go_ret2
      refine ⟨?_, UF⟩
      unfold staysV; rw [HK9.out]; rfl
end Go.Proofs.YtbcghggkfnagoaaGreatDoor
