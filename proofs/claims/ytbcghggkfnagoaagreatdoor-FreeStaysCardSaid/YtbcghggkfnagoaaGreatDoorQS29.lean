/- PARTS OF A PROOF, one behind the other: THE WALKS of package sum: Add, Of, times, power, Join. CONDITIONS: none of this text's own. -/
import Derived.Test.YtbcghggkfnagoaaGreatDoorQS2
import Derived.Test.YtbcghggkfnagoaaGreatDoorQS1
import Derived.Test.YtbcghggkfnagoaaGreatDoorRows
set_option linter.unusedVariables false
set_option linter.unusedSimpArgs false
namespace Go.Proofs.YtbcghggkfnagoaaGreatDoor
open Go.RowKit Hach Hach.Crc

theorem xor32_8 (a : W) (x : UInt8) : bits .xor .u32 (n32 a) (n8 x) = n32 (a ^^^ b8 x) := by
  have e : n8 x = n32 (b8 x) := by
    unfold n32 b8 n8; rw [BitVec.toNat_ofNat]; have := x.toNat_lt; omega
  rw [e, xor32]
theorem half_eq (r : W) : (r >>> 4) ^^^ tab (r &&& 15#32) = half r := rfl

def TabOk (w : World) : Prop := ∀ i : W, n32 i < 16 → w.cell? ⟨0, (n32 i).toNat, none⟩ = some (.int .u32 (n32 (tab i)))

attribute [local go_sem] xor32 xor32_8 not32 and32_15 n8_mod shr32_4 half_eq and32 and32_1 shr32_1

set_option maxHeartbeats 400000 in
theorem add_calls (s : W) (w : World) (ht : Hid (TabOk w)) (A : Option Addr) (xs : List UInt8) (cap : Nat) (hl : xs.length ≤ 9223372036854775807) (hc : Hid (Bytes w A xs)) :
    Calls Tryz.prog 175 #[.int .u32 (n32 s), .slice A xs.length cap] w fun e w' => e = .returned (.int .u32 (n32 (addF s xs))) ∧ w = w' := by
  go_enter Tryz.func175, Tryz.ntmps175
  go_wp2
  go_loop [5, 12] (fun r i => ∃ k : Nat, k ≤ xs.length ∧ i = .int .i64 k ∧ r = .int .u32 (n32 ((xs.take k).foldl byteStep (~~~ s)))) (fun _ i => xs.length - (intOf i).toNat)
  case atStart => exact ⟨0, by omega, rfl, rfl⟩
  case round =>
    obtain ⟨k, hk, rfl, rfl⟩ := hrel
    generalize hr : (xs.take k).foldl byteStep (~~~ s) = r
    have Hr := hid hr
    clear hr
    by_cases hlt : k < xs.length
    · obtain ⟨b, off, rfl, hcell⟩ := hc.out k hlt
      generalize hx : xs[k]?.getD 0 = x at hcell
      have Hx := hid hx
      clear hx
      have i1 := n32_lo ((r ^^^ b8 x) &&& 15#32)
      have i2 := and15_lt (r ^^^ b8 x)
      have i3 := ht.out _ i2
      have j1 := n32_lo (half (r ^^^ b8 x) &&& 15#32)
      have j2 := and15_lt (half (r ^^^ b8 x))
      have j3 := ht.out _ j2
      go_wp2
      go_round
      case rel => exact ⟨k + 1, by omega, by go_num, by rw [take_succ' 0 xs k hlt, Hx.out, List.foldl_append, Hr.out]; rfl⟩
      case measure => simp [intOf]; omega
    · have e : n32 (~~~ r) = n32 (addF s xs) := by
        rw [← Hr.out, List.take_of_length_le (by omega)]; rfl
      have E := hid e
      clear e
      go_wp2
      go_ret
      exact ⟨by rw [← E.out]; rfl, rfl⟩

set_option maxHeartbeats 400000 in
theorem of_calls (w : World) (ht : Hid (TabOk w)) (A : Option Addr) (xs : List UInt8) (cap : Nat) (hl : xs.length ≤ 9223372036854775807) (hc : Hid (Bytes w A xs)) :
    Calls Tryz.prog 144 #[.slice A xs.length cap] w fun e w' => e = .returned (.int .u32 (n32 (ofF xs))) ∧ w = w' := by
  go_enter Tryz.func144, Tryz.ntmps144
  go_wp2_with fail
  refine (add_calls 0#32 _ ht _ _ _ hl hc).mono ?_
  rintro e w' ⟨rfl, rfl⟩
  go_wp2
  go_ret
  exact ⟨rfl, rfl⟩

end Go.Proofs.YtbcghggkfnagoaaGreatDoor
