/- THE WALK of octet.Get. -/
import Derived.Test.YtbcghggkfnagoaaGreatDoorOct1
set_option linter.unusedVariables false
set_option linter.unusedSimpArgs false
namespace Go.Proofs.YtbcghggkfnagoaaGreatDoor
open Go.RowKit Hach

theorem or_byte (N : Nat) (x : UInt8) (h : N < 72057594037927936) : bits .or .u64 ((N : Int) * 256) (n8 x) = ((N * 256 + x.toNat : Nat) : Int) := by
  have hx := x.toNat_lt
  show IntKind.u64.wrap ((BitVec.ofInt 64 ((N : Int) * 256) ||| BitVec.ofInt 64 (n8 x)).toNat : Int) = _
  have e1 : (N : Int) * 256 = ((N * 256 : Nat) : Int) := by omega
  have e2 : n8 x = ((x.toNat : Nat) : Int) := rfl
  rw [e1, e2, BitVec.ofInt_natCast, BitVec.ofInt_natCast, BitVec.toNat_or, BitVec.toNat_ofNat, BitVec.toNat_ofNat, Nat.mod_eq_of_lt (by omega), Nat.mod_eq_of_lt (by omega)]
  have : N * 256 ||| x.toNat = N * 256 + x.toNat := by
    have := Nat.two_pow_add_eq_or_of_lt (i := 8) (b := x.toNat) (by omega) N
    rw [Nat.mul_comm]
    exact this.symm
  rw [this]
  have h64 : IntKind.u64.wrap ((N * 256 + x.toNat : Nat) : Int) = ((N * 256 + x.toNat : Nat) : Int) := IntWalk.u64_in _ (by omega)
  exact h64

set_option maxHeartbeats 1000000 in
theorem get_short (w : World) (A : Option Addr) (n c s : Nat) (hs : 0 < s) (h8 : s ≤ 8) (hn : n < s) :
    Calls Tryz.prog 129 #[.slice A n c, .int .i64 (s : Int), .bool false] w fun e w' => e = .returned (.tuple #[.int .u64 0, .bool false]) ∧ w = w' := by
  have d1 : (n : Int) < s := by omega
  go_enter Tryz.func129, Tryz.ntmps129
  go_wp2
  go_ret2
  exact ⟨rfl, rfl⟩

theorem n8_u64 (x : UInt8) : IntKind.u64.wrap (n8 x) = n8 x := IntWalk.u64_in _ (by have := n8_lo x; have := n8_hi x; omega)
attribute [local go_sem] n8_u64

set_option maxHeartbeats 1000000 in
theorem get_calls (w : World) (A : Option Addr) (xs : List UInt8) (c s : Nat) (hs : 0 < s) (h8 : s ≤ 8) (hl : s ≤ xs.length) (hx : xs.length ≤ 1099511627776) (hc : Hid (Bytes w A xs)) :
    Calls Tryz.prog 129 #[.slice A xs.length c, .int .i64 (s : Int), .bool false] w fun e w' => e = .returned (.tuple #[.int .u64 (Oct.val (xs.take s) : Int), .bool true]) ∧ w = w' := by
  have d1 : ¬ (xs.length : Int) < s := by omega
  go_enter Tryz.func129, Tryz.ntmps129
  go_wp2
  go_loop [8, 24] (fun v i => ∃ j : Nat, j ≤ s ∧ i = .int .i64 j ∧ v = .int .u64 (Oct.val (xs.take j) : Int)) (fun _ i => s - (intOf i).toNat)
  case atStart => exact ⟨0, by omega, rfl, rfl⟩
  case round =>
    obtain ⟨j, hj, rfl, rfl⟩ := hrel
    by_cases hlt : j < s
    · obtain ⟨b, off, rfl, hcell⟩ := hc.out j (by omega)
      have e := Oct.val_snoc (xs.take j) (xs[j]?.getD 0)
      rw [← take_succ' 0 xs j (by omega)] at e
      have hv := Oct.val_lt (xs.take j)
      have hN : Oct.val (xs.take j) < 72057594037927936 := by
        refine Nat.lt_of_lt_of_le hv ?_
        rw [List.length_take, Nat.min_eq_left (by omega)]
        exact Nat.le_trans (Nat.pow_le_pow_right (by decide) (show j ≤ 7 by omega)) (by decide)
      generalize Oct.val (xs.take j) = N at *
      generalize xs[j]?.getD 0 = x at *
      have hor := or_byte N x hN
      have E := hid e
      clear e hv
      go_wp2
      go_round
      case rel => exact ⟨j + 1, by omega, by go_num, by rw [E.out]; exact congrArg _ (by omega)⟩
      case measure => simp [intOf]; omega
    · obtain rfl : j = s := by omega
      go_wp2
      go_ret2
      exact ⟨rfl, rfl⟩

theorem get_callsX (w : World) (A : Option Addr) (xs : List UInt8) (c s p : Nat) (S : Int) (hS : S = s) (hp : Hid (Oct.val (xs.take s) = p)) (hs : 0 < s) (h8 : s ≤ 8) (hl : s ≤ xs.length) (hx : xs.length ≤ 1099511627776) (hc : Hid (Bytes w A xs)) :
    Calls Tryz.prog 129 #[.slice A xs.length c, .int .i64 S, .bool false] w fun e w' => e = .returned (.tuple #[.int .u64 (p : Int), .bool true]) ∧ w = w' := by
  subst hS
  rw [← hp.out]
  exact get_calls w A xs c s hs h8 hl hx hc
end Go.Proofs.YtbcghggkfnagoaaGreatDoor
