/- THE WALKS of package sum: times, power, Join. -/
import Derived.Test.YtlmlplpbgkbhdaaDoorSum1
set_option linter.unusedVariables false
set_option linter.unusedSimpArgs false
namespace Go.Proofs.YtlmlplpbgkbhdaaDoor
open Go.RowKit Hach Hach.Crc
attribute [local go_sem] xor32 and32 and32_1 shr32_1

theorem xor32_poly (a : W) : bits .xor .u32 (n32 a) 2197175160 = n32 (a ^^^ poly) := xor32 a poly
attribute [local go_sem] xor32_poly
theorem n32_zero {a : W} (h : a = 0#32) : (n32 a != 0) = false := by rw [h]; rfl
theorem n32_pos {a : W} (h : ¬ a = 0#32) : (n32 a != 0) = true := by
  have h2 : n32 a ≠ 0 := fun e => h (n32_inj (e.trans rfl))
  rw [bne_iff_ne]; exact h2

set_option maxHeartbeats 1000000 in
theorem times_calls (a b : W) (w : World) :
    Calls Tryd.prog 40 #[.int .u32 (n32 a), .int .u32 (n32 b)] w fun e w' => e = .returned (.int .u32 (n32 (tm a b))) ∧ w = w' := by
  go_enter Tryd.func40, Tryd.ntmps40
  go_wp2
  go_loop [1, 5, 6] (fun y p z => ∃ k : Nat, k < 32 ∧ z = .int .u32 (n32 (it k one)) ∧ y = .int .u32 (n32 (it k b)) ∧ p = .int .u32 (n32 (tmS a b k))) (fun _ _ z => (intOf z).toNat)
  case atStart => exact ⟨0, by omega, rfl, rfl, rfl⟩
  case round =>
    obtain ⟨k, hk, rfl, rfl, rfl⟩ := hrel
    have fin : k = 31 → (n32 (it k one) == 1) = true := fun e => by rw [e, it_one_31]; rfl
    have nlt : ¬ k = 31 → 1 < n32 (it k one) := fun e => by have := it_one_gt k (by omega); unfold n32; omega
    have nfin : ¬ k = 31 → (n32 (it k one) == 1) = false := fun e => by have := nlt e; rw [beq_eq_false_iff_ne]; omega
    have hs : ¬ k = 31 → n32 (it k one >>> 1) = n32 (it (k + 1) one) := fun e => by rw [it_one_shr k (by omega)]
    have hm : ¬ k = 31 → n32 (it (k + 1) one) < n32 (it k one) := fun e => by
      have := nlt e
      rw [← hs e, ← shr32_1]; omega
    clear nlt
    have ta := and_bit a k hk
    have tb := and_one (it k b)
    have e1 : tmS a b (k + 1) = if a.getLsbD (31 - k) = true then tmS a b k ^^^ it k b else tmS a b k := rfl
    have e2 : it (k + 1) b = stp (it k b) := it_succ k b
    generalize it k one = z at *
    generalize it k b = y at *
    generalize tmS a b k = p at *
    have q0 : a &&& z = 0#32 → tmS a b (k + 1) = p := fun h => by rw [e1, if_neg (by rw [ta.1 h]; decide)]
    have q1 : ¬ a &&& z = 0#32 → tmS a b (k + 1) = p ^^^ y := fun h => by rw [e1, if_pos (by cases g : a.getLsbD (31 - k) with | true => rfl | false => exact absurd (ta.2 g) h)]
    have r0 : y &&& 1#32 = 0#32 → it (k + 1) b = y >>> 1 := fun h => by rw [e2, stp_even _ (tb.1 h)]
    have r1 : ¬ y &&& 1#32 = 0#32 → it (k + 1) b = (y >>> 1) ^^^ poly := fun h => by rw [e2, stp_odd _ (by cases g : y.getLsbD 0 with | true => rfl | false => exact absurd (tb.2 g) h)]
    clear ta tb e1 e2
    have Q0 := hid q0; have Q1 := hid q1; have R0 := hid r0; have R1 := hid r1; have FIN := hid fin; have NFIN := hid nfin; have HS := hid hs; have HM := hid hm
    clear q0 q1 r0 r1 fin nfin hs hm
    by_cases c1 : a &&& z = 0#32
    all_goals by_cases c2 : y &&& 1#32 = 0#32
    all_goals first | (have f1 := n32_zero c1; have g1 := Q0.out c1; (have G1 := hid g1); clear g1) | (have f1 := n32_pos c1; have g1 := Q1.out c1; (have G1 := hid g1); clear g1)
    all_goals first | (have f2 := n32_zero c2; have g2 := R0.out c2; (have G2 := hid g2); clear g2) | (have f2 := n32_pos c2; have g2 := R1.out c2; (have G2 := hid g2); clear g2)
    all_goals clear c1 c2 Q0 Q1 R0 R1
    all_goals by_cases c3 : k = 31
    all_goals first | (have f3 := FIN.out c3; subst c3) | (have f3 := NFIN.out c3; have g3 := HS.out c3; (have G3 := hid g3); clear g3; (have C3 := hid c3); clear c3)
    all_goals go_wp2
    all_goals try (go_ret; exact ⟨ret_int (congrArg n32 G1.out.symm), rfl⟩)
    all_goals
      have C := C3.out
      have M := HM.out C
      have Z := n32_lo z
      have Z' := n32_lo (it (k + 1) one)
      refine ⟨⟨k + 1, by omega, by rw [G3.out], by rw [G2.out], by rw [G1.out]⟩, ?_⟩
      simp only [intOf]
      rw [G3.out]
      omega

theorem and64_1 (n : Nat) (h : (n : Int) ≤ 9223372036854775807) : bits .and .i64 (n : Int) 1 = ((n % 2 : Nat) : Int) := by
  show IntKind.i64.wrap ((BitVec.ofInt 64 (n : Int) &&& BitVec.ofInt 64 1).toNat : Int) = _
  rw [BitVec.toNat_and, BitVec.ofInt_natCast, BitVec.toNat_ofNat, show (BitVec.ofInt 64 1).toNat = 1 by decide, Nat.and_one_is_mod]
  rw [IntWalk.i64_in]
  · omega
  · omega

set_option maxHeartbeats 1000000 in
theorem power_calls (n : Nat) (hn : n < 4611686018427387904) (w : World) :
    Calls Tryd.prog 41 #[.int .i64 (n : Int)] w fun e w' => e = .returned (.int .u32 (n32 (power n))) ∧ w = w' := by
  go_enter Tryd.func41, Tryd.ntmps41
  go_wp2
  go_step3
  go_wp2
  go_step3
  go_wp2
  go_loop [0, 3, 4] (fun v p x => ∃ (m : Nat) (P X : W), m ≤ n ∧ v = .int .i64 m ∧ p = .int .u32 (n32 P) ∧ x = .int .u32 (n32 X) ∧ Hid (pwF m P X = power n)) (fun v _ _ => (intOf v).toNat)
  case atStart => exact ⟨n, one, x8, Nat.le_refl _, rfl, rfl, rfl, rfl⟩
  case round =>
    obtain ⟨m, P, X, hm, rfl, rfl, rfl, H⟩ := hrel
    have ha := and64_1 m (by omega)
    by_cases h0 : m = 0
    · subst h0
      have e : P = power n := by rw [← H.out]; unfold pwF; rw [if_pos rfl]
      have E := hid e
      clear e
      go_wp2
      go_ret
      exact ⟨ret_int (congrArg n32 E.out), rfl⟩
    · have f0 : ((m : Int) == 0) = false := by rw [beq_eq_false_iff_ne]; omega
      have e : pwF (m / 2) (if m % 2 = 1 then tm P X else P) (tm X X) = power n := by rw [← H.out]; conv => { rhs; unfold pwF }; rw [if_neg h0]
      have E := hid e
      clear e H
      by_cases h1 : m % 2 = 1
      · have f1 : (((m % 2 : Nat) : Int) == 1) = true := by rw [beq_iff_eq]; omega
        have E2 := hid (show pwF (m / 2) (tm P X) (tm X X) = power n by have := E.out; rw [if_pos h1] at this; exact this)
        have H0 := hid h0
        clear E h0 h1
        go_wp2_with (go_at_call 40; refine (times_calls _ _ _).mono ?_; rintro e w' ⟨rfl, rfl⟩)
        go_round
        case rel => exact ⟨m / 2, _, _, by omega, by go_num, rfl, rfl, E2⟩
        case measure => (have := H0.out; simp [intOf]; omega)
      · have f1 : (((m % 2 : Nat) : Int) == 1) = false := by rw [beq_eq_false_iff_ne]; omega
        have E2 := hid (show pwF (m / 2) P (tm X X) = power n by have := E.out; rw [if_neg h1] at this; exact this)
        have H0 := hid h0
        clear E h0 h1
        go_wp2_with (go_at_call 40; refine (times_calls _ _ _).mono ?_; rintro e w' ⟨rfl, rfl⟩)
        go_round
        case rel => exact ⟨m / 2, _, _, by omega, by go_num, rfl, rfl, E2⟩
        case measure => (have := H0.out; simp [intOf]; omega)

set_option maxHeartbeats 400000 in
theorem join_calls (a b : W) (n : Nat) (hn : n < 4611686018427387904) (w : World) :
    Calls Tryd.prog 16 #[.int .u32 (n32 a), .int .u32 (n32 b), .int .i64 (n : Int)] w fun e w' => e = .returned (.int .u32 (n32 (join a b n))) ∧ w = w' := by
  go_enter Tryd.func16, Tryd.ntmps16
  go_wp2_with (first | (go_at_call 40; refine (times_calls _ _ _).mono ?_; rintro e w' ⟨rfl, rfl⟩) | (go_at_call 41; refine (power_calls n hn _).mono ?_; rintro e w' ⟨rfl, rfl⟩))
  go_ret
  exact ⟨rfl, rfl⟩
set_option maxHeartbeats 400000 in
theorem join_calls_neg (a b : W) (n : Int) (hn : n < 0) (w : World) :
    Calls Tryd.prog 16 #[.int .u32 (n32 a), .int .u32 (n32 b), .int .i64 n] w fun e w' => e = .returned (.int .u32 (n32 (join a b 0))) ∧ w = w' := by
  go_enter Tryd.func16, Tryd.ntmps16
  go_wp2_with (first | (go_at_call 40; refine (times_calls _ _ _).mono ?_; rintro e w' ⟨rfl, rfl⟩) | (go_at_call 41; refine (power_calls 0 (by omega) _).mono ?_; rintro e w' ⟨rfl, rfl⟩))
  go_ret
  exact ⟨rfl, rfl⟩
end Go.Proofs.YtlmlplpbgkbhdaaDoor
