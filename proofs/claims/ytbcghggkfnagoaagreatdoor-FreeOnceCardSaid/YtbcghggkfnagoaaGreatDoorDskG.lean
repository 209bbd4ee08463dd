/- THE WALK of Crash.stays. -/
import Derived.Test.YtbcghggkfnagoaaGreatDoorDskF
set_option linter.unusedVariables false
set_option linter.unusedSimpArgs false
namespace Go.Proofs.YtbcghggkfnagoaaGreatDoor
open Go Go.RowKit Go.Maps Hach

def clampT (t : Int) : Nat := if t < 0 then 0 else if 128 < t then 128 else t.toNat
/-- How many bytes of the n-th dirty sector stay; whether it is torn. -/
def staysV (keep : List Bool) (torn : Int) (n : Nat) (t : Bool) : Nat × Bool :=
  if keep[n % keep.length]?.getD false = true then (128, false) else if t = true then (clampT torn, true) else (0, false)
def StaysRet (w : World) (keep : List Bool) (torn : Int) (n : Nat) (t : Bool) (en : Ending) (w' : World) : Prop :=
  en = .returned (.tuple #[.int .i64 (staysV keep torn n t).1, .bool (staysV keep torn n t).2]) ∧ Hid (Up w w')
set_option maxRecDepth 100000 in
set_option maxHeartbeats 2000000 in
theorem stays_calls (w : World) (KA : Option Addr) (keep : List Bool) (kc : Nat) (torn : Int) (n : Nat) (t : Bool) (hk : Hid (Rd w KA (keep.map .bool))) (hkl : Hid (keep.length < 1000000)) (hn : Hid (n < 1000000)) :
    Calls Tryz.prog 114 #[.agg #[.slice KA keep.length kc, .int .i64 torn], .int .i64 n, .bool t] w (StaysRet w keep torn n t) := by
  obtain ⟨kl, hkl2⟩ : ∃ z, keep.length = z := ⟨_, rfl⟩
  have HKL := hid hkl2
  rw [hkl2]
  have B0 : (w.alloc (.cells #[.slice KA kl kc, .int .i64 torn] 72)).cell? ⟨w.heap.size, 0, none⟩ = some (.slice KA kl kc) ∧ (w.alloc (.cells #[.slice KA kl kc, .int .i64 torn] 72)).cell? ⟨w.heap.size, 1, none⟩ = some (.int .i64 torn) := by
    constructor
    · rw [cell_of_row _ _ _ _ _ _ (heap_alloc_new w _)]; rfl
    · rw [cell_of_row _ _ _ _ _ _ (heap_alloc_new w _)]; rfl
  have U0 := hid (upAlD (Up.refl w) (.cells #[.slice KA kl kc, .int .i64 torn] 72))
  clear hkl2
  by_cases h0 : kl = 0
  · subst h0
    have HK9 : Hid (keep[n % keep.length]?.getD false = false) := hid (by rw [List.eq_nil_of_length_eq_zero HKL.out]; rfl)
    go_enter Tryz.func114, Tryz.ntmps114
    go_wp2
    go_region
    have UF := hid (U0.out.t (Up.drew _))
    cases t
    · go_wp2
      go_ret2
      refine ⟨?_, UF⟩
      unfold staysV; rw [HK9.out]; rfl
    · have hz : staysV keep torn n true = (clampT torn, true) := by unfold staysV; rw [HK9.out]; rfl
      have HZ := hid hz
      clear hz
      by_cases t0 : torn < 0
      · have HC : Hid (clampT torn = 0) := hid (by unfold clampT; rw [if_pos t0])
        go_wp2
        all_goals
          go_ret2
          refine ⟨?_, UF⟩
          rw [HZ.out, HC.out]
          first | rfl | (exfalso; omega)
      · by_cases t1 : 128 < torn
        · have HC : Hid (clampT torn = 128) := hid (by unfold clampT; rw [if_neg t0, if_pos t1])
          go_wp2
          all_goals
            go_ret2
            refine ⟨?_, UF⟩
            rw [HZ.out, HC.out]
            first | rfl | (exfalso; omega)
        · have HC : Hid ((clampT torn : Int) = torn) := hid (by unfold clampT; rw [if_neg t0, if_neg t1]; omega)
          go_wp2
          all_goals
            go_ret2
            refine ⟨?_, UF⟩
            rw [HZ.out]
            show Ending.returned (.tuple #[.int .i64 _, .bool true]) = .returned (.tuple #[.int .i64 ((clampT torn : Nat) : Int), .bool true])
            rw [HC.out] <;> first | rfl | (rw [show torn = 0 by omega]) | (rw [show torn = 128 by omega]) | (exfalso; omega)
  · have hp : 0 < kl := by omega
    obtain ⟨b, o, hA, hc⟩ := hk.out (n % kl) (.bool (keep[n % kl]?.getD false)) (by
      have := HKL.out
      rw [List.getElem?_map, List.getElem?_eq_getElem (by rw [this]; exact Nat.mod_lt _ (by omega))]; rfl)
    have C0 := U0.out.c hc
    subst hA
    obtain ⟨k, hk2⟩ : ∃ k, keep[n % kl]?.getD false = k := ⟨_, rfl⟩
    rw [hk2] at C0
    have HK := hid hk2
    clear hc hk2
    obtain ⟨m, hm⟩ : ∃ m, n % kl = m := ⟨_, rfl⟩
    have hr : (n : Int).tmod kl = (m : Int) := by rw [← hm]; rfl
    rw [hm] at C0
    have hml : (m : Int) < kl := by rw [← hm]; have := Nat.mod_lt n (show kl > 0 by omega); omega
    have HM := hid hm
    clear hm
    go_enter Tryz.func114, Tryz.ntmps114
    go_wp2
    go_region
    have UF := hid (U0.out.t (Up.drew _))
    have hk9 : keep[n % keep.length]?.getD false = k := by rw [HKL.out]; exact HK.out
    have HK9 := hid hk9
    clear C0 hr hml hk9
    cases k
    · cases t
      · go_wp2
        go_ret2
        refine ⟨?_, UF⟩
        unfold staysV; rw [HK9.out]; rfl
      · have hz : staysV keep torn n true = (clampT torn, true) := by unfold staysV; rw [HK9.out]; rfl
        have HZ := hid hz
        clear hz
        by_cases t0 : torn < 0
        · have HC : Hid (clampT torn = 0) := hid (by unfold clampT; rw [if_pos t0])
          go_wp2
          all_goals
            go_ret2
            refine ⟨?_, UF⟩
            rw [HZ.out, HC.out]
            first | rfl | (exfalso; omega)
        · by_cases t1 : 128 < torn
          · have HC : Hid (clampT torn = 128) := hid (by unfold clampT; rw [if_neg t0, if_pos t1])
            go_wp2
            all_goals
              go_ret2
              refine ⟨?_, UF⟩
              rw [HZ.out, HC.out]
              first | rfl | (exfalso; omega)
          · have HC : Hid ((clampT torn : Int) = torn) := hid (by unfold clampT; rw [if_neg t0, if_neg t1]; omega)
            go_wp2
            all_goals
              go_ret2
              refine ⟨?_, UF⟩
              rw [HZ.out]
              show Ending.returned (.tuple #[.int .i64 _, .bool true]) = .returned (.tuple #[.int .i64 ((clampT torn : Nat) : Int), .bool true])
              rw [HC.out] <;> first | rfl | (rw [show torn = 0 by omega]) | (rw [show torn = 128 by omega]) | (exfalso; omega)
    · go_wp2
      go_ret2
      refine ⟨?_, UF⟩
      unfold staysV; rw [HK9.out]; rfl
end Go.Proofs.YtbcghggkfnagoaaGreatDoor
