/- THE WALK of the document's Get. -/
import Derived.Test.YtlmlplpbgkbhdaaDoorOct2
set_option linter.unusedVariables false
set_option linter.unusedSimpArgs false
namespace Go.Proofs.YtlmlplpbgkbhdaaDoor
open Go.RowKit Hach
attribute [local go_sem] n8_u64

set_option maxHeartbeats 1000000 in
theorem refGet_len (w : World) (A : Option Addr) (xs : List UInt8) (c s : Nat) (hs : 0 < s) (h8 : s ≤ 8) (hl : s ≤ xs.length) (hx : xs.length ≤ 1099511627776) (hc : Hid (Bytes w A xs)) :
    Calls Tryd.prog 54 #[.slice A xs.length c, .int .i64 (s : Int), .bool false] w fun e w' => e = .returned (.tuple #[.int .u64 (Oct.val (xs.take s) : Int), .bool true]) ∧ w = w' := by
  have d1 : ¬ (xs.length : Int) < s := by omega
  go_enter Tryd.func54, Tryd.ntmps54
  go_wp2
  go_loop [8, 9] (fun v i => ∃ j : Nat, j ≤ s ∧ i = .int .i64 j ∧ v = .int .u64 (Oct.val (xs.take j) : Int)) (fun _ i => s - (intOf i).toNat)
  case atStart => exact ⟨0, by omega, rfl, rfl⟩
  case round =>
    obtain ⟨j, hj, rfl, rfl⟩ := hrel
    by_cases hlt : j < s
    · obtain ⟨b, off, rfl, hcell⟩ := hc.out j (by omega)
      have e := Oct.val_snoc (xs.take j) (xs[j]?.getD 0)
      rw [← take_succ' 0 xs j (by omega)] at e
      have hv := Oct.val_lt (xs.take j)
      have hN : Oct.val (xs.take j) < 72057594037927936 := by
        refine Nat.lt_of_lt_of_le hv ?_
        rw [List.length_take, Nat.min_eq_left (by omega)]
        exact Nat.le_trans (Nat.pow_le_pow_right (by decide) (show j ≤ 7 by omega)) (by decide)
      generalize Oct.val (xs.take j) = N at *
      generalize xs[j]?.getD 0 = x at *
      have hor := or_byte N x hN
      have E := hid e
      clear e hv
      go_wp2
      go_round
      case rel => exact ⟨j + 1, by omega, by go_num, by rw [E.out]; exact congrArg _ (by omega)⟩
      case measure => simp [intOf]; omega
    · obtain rfl : j = s := by omega
      go_wp2
      go_ret2
      exact ⟨rfl, rfl⟩

theorem refGet_calls (w : World) (A : Option Addr) (xs : List UInt8) (c k v n : Nat) (S : Int) (hS : S = k) (hn : Hid (xs.length = n)) (hp : Hid (Oct.val (xs.take k) = v)) (kn : Hid ((0 < k ∧ k ≤ 8) ∧ (k ≤ n ∧ n ≤ 1099511627776))) (hc : Hid (Bytes w A xs)) :
    Calls Tryd.prog 54 #[.slice A n c, .int .i64 S, .bool false] w fun e w' => e = .returned (.tuple #[.int .u64 (v : Int), .bool true]) ∧ w = w' := by
  have e := hn.out
  subst e
  subst hS
  have := refGet_len w A xs c k kn.out.1.1 kn.out.1.2 kn.out.2.1 kn.out.2.2 hc
  rwa [hp.out] at this
end Go.Proofs.YtlmlplpbgkbhdaaDoor
