/- THE WALKS of the reference's sums, and of the law's 'lives'. -/
import Derived.Test.YtlmlplpbgkbhdaaDoorSumJ
import Derived.Test.YtlmlplpbgkbhdaaDoorK1
import Derived.Lib.SlBytesConst
set_option linter.unusedVariables false
set_option linter.unusedSimpArgs false
namespace Go.Proofs.YtlmlplpbgkbhdaaDoor
open Go.RowKit Hach Hach.Crc

attribute [local go_sem] xor32 xor32_8 not32 n8_mod and32 and32_1 shr32_1 xor32_poly

theorem n8_shr (x : UInt8) (i : Nat) : n8 x / (2 ^ i : Int) = n32 (b8 x >>> i) := by
  unfold n8 n32 b8
  rw [BitVec.toNat_ushiftRight, Nat.shiftRight_eq_div_pow, BitVec.toNat_ofNat, Nat.mod_eq_of_lt (by have := x.toNat_lt; omega)]
  rw [Int.natCast_ediv, Int.natCast_pow]; rfl
theorem bit_true {a : W} (h : a.getLsbD 0 = true) : (n32 (a &&& 1#32) == 1) = true := by
  have : a &&& 1#32 = 1#32 := by
    apply BitVec.eq_of_getLsbD_eq
    intro i hi
    rw [BitVec.getLsbD_and, BitVec.getLsbD_one]
    by_cases e : i = 0
    · subst e; rw [h]; simp
    · simp [e]
  rw [this]; rfl
theorem bit_false {a : W} (h : a.getLsbD 0 = false) : (n32 (a &&& 1#32) == 1) = false := by rw [(and_one a).2 h]; rfl

set_option maxHeartbeats 1000000 in
theorem refAdd_calls (s : W) (w : World) (A : Option Addr) (xs : List UInt8) (cap : Nat) (hl : xs.length ≤ 9223372036854775807) (hc : Hid (Bytes w A xs)) :
    Calls Tryd.prog 15 #[.int .u32 (n32 s), .slice A xs.length cap] w fun e w' => e = .returned (.int .u32 (n32 (addF s xs))) ∧ w = w' := by
  go_enter Tryd.func15, Tryd.ntmps15
  go_wp2
  go_loop [5, 14] (fun r i => ∃ k : Nat, k ≤ xs.length ∧ i = .int .i64 k ∧ r = .int .u32 (n32 ((xs.take k).foldl byteStep (~~~ s)))) (fun _ i => xs.length - (intOf i).toNat)
  case atStart => exact ⟨0, by omega, rfl, rfl⟩
  case round =>
    obtain ⟨k, hk, rfl, rfl⟩ := hrel
    generalize hr : (xs.take k).foldl byteStep (~~~ s) = r
    have Hr := hid hr
    clear hr
    by_cases hlt : k < xs.length
    · obtain ⟨b, off, rfl, hcell⟩ := hc.out k hlt
      generalize hx : xs[k]?.getD 0 = x at hcell
      have Hx := hid hx
      clear hx
      go_wp2
      go_loop [5, 8] (fun r' i => ∃ j : Nat, j ≤ 8 ∧ i = .int .i64 j ∧ r' = .int .u32 (n32 (refB x r j))) (fun _ i => 8 - (intOf i).toNat)
      case atStart => exact ⟨0, by omega, rfl, rfl⟩
      case round =>
        obtain ⟨j, hj, rfl, rfl⟩ := hrel
        by_cases h8 : j < 8
        · have hsh := n8_shr x j
          have e0 : refB x r (j + 1) = refBit x (refB x r j) j := rfl
          generalize refB x r j = q at *
          cases hb : (q ^^^ (b8 x >>> j)).getLsbD 0 with
          | true =>
            have f := bit_true hb
            have E := hid (show refB x r (j + 1) = (q >>> 1) ^^^ poly by rw [e0, refBit, if_pos hb])
            clear e0 hb
            go_wp2
            go_round
            case rel => exact ⟨j + 1, by omega, by go_num, by rw [E.out]⟩
            case measure => simp [intOf]; omega
          | false =>
            have f := bit_false hb
            have E := hid (show refB x r (j + 1) = q >>> 1 by rw [e0, refBit, if_neg (by rw [hb]; decide)]; simp)
            clear e0 hb
            go_wp2
            go_round
            case rel => exact ⟨j + 1, by omega, by go_num, by rw [E.out]⟩
            case measure => simp [intOf]; omega
        · have e8 : j = 8 := by omega
          subst e8
          go_wp2
          go_round
          case rel => exact ⟨k + 1, by omega, by go_num, by rw [take_succ' 0 xs k hlt, Hx.out, List.foldl_append, Hr.out, refB_8]; rfl⟩
          case measure => simp [intOf]; omega
    · have e : n32 (~~~ r) = n32 (addF s xs) := by
        rw [← Hr.out, List.take_of_length_le (by omega)]; rfl
      have E := hid e
      clear e
      go_wp2
      go_ret
      exact ⟨ret_int E.out, rfl⟩

set_option maxHeartbeats 400000 in
theorem refOf_calls (w : World) (A : Option Addr) (xs : List UInt8) (cap : Nat) (hl : xs.length ≤ 9223372036854775807) (hc : Hid (Bytes w A xs)) :
    Calls Tryd.prog 13 #[.slice A xs.length cap] w fun e w' => e = .returned (.int .u32 (n32 (ofF xs))) ∧ w = w' := by
  go_enter Tryd.func13, Tryd.ntmps13
  go_wp2_with fail
  refine (refAdd_calls 0#32 _ _ _ _ hl hc).mono ?_
  rintro e w' ⟨rfl, rfl⟩
  go_wp2
  go_ret
  exact ⟨rfl, rfl⟩
set_option maxHeartbeats 400000 in
theorem refJoin_calls (s : W) (w : World) (A : Option Addr) (xs : List UInt8) (cap : Nat) (hl : xs.length ≤ 9223372036854775807) (hc : Hid (Bytes w A xs)) :
    Calls Tryd.prog 17 #[.int .u32 (n32 s), .slice A xs.length cap] w fun e w' => e = .returned (.int .u32 (n32 (addF s xs))) ∧ w = w' := by
  go_enter Tryd.func17, Tryd.ntmps17
  go_wp2_with fail
  refine (refAdd_calls s _ _ _ _ hl hc).mono ?_
  rintro e w' ⟨rfl, rfl⟩
  go_wp2
  go_ret
  exact ⟨rfl, rfl⟩

theorem TabOk.below {B : Nat} {w w' : World} (h : TabOk w) (hb : Below B w w') (hB : 0 < B) : TabOk w' := by
  intro i hi
  rw [hb.cell (p := ⟨0, (n32 i).toNat, none⟩) hB]
  exact h i hi
theorem TabOk.lt {w : World} (h : TabOk w) : 0 < w.heap.size := World.block_lt_of_cell? _ _ (h 0#32 (by decide))

def liveL : List UInt8 := [49, 50, 51, 52, 53, 54, 55, 56, 57]
theorem live_ok : (n32 (ofF liveL) == 3808858755) = true := by decide
theorem live_nil : (n32 (ofF []) == 0) = true := by decide

set_option maxRecDepth 100000 in
set_option maxHeartbeats 400000 in
theorem lives03_calls (w : World) (ht : Hid (TabOk w)) :
    Calls Tryd.prog 11 #[] w fun e w' => e = .returned (.bool true) ∧ Below w.heap.size w w' := by
  have kc := fun (w : World) (C : Array Value) (n c : Nat) => Lib.run_convert_bytes_const (P := Tryd.prog) w 22 5 C n c Tryd.underlying22 Tryd.underlying5
  have hb : ∀ o, Below w.heap.size w (w.alloc o) := fun o => (Below.refl _ _).alloc (Nat.le_refl _) o
  have ht1 : ∀ o, Hid (TabOk (w.alloc o)) := fun o => ht.out.below (hb o) ht.out.lt
  have hb1 := Rd.new w 5 (9, 10) (liveL.map byteCell)
  have Hb1 := hid hb1.bytes
  clear hb1
  have l1 := live_ok
  have l2 := live_nil
  go_enter Tryd.func11, Tryd.ntmps11
  go_wp2_with fail
  refine (of_calls _ (ht1 _) (some ⟨w.heap.size, 0, none⟩) liveL 9 (by decide) Hb1).mono ?_
  rintro e w' ⟨rfl, rfl⟩
  go_wp2_with fail
  refine (of_calls _ (ht1 _) none [] 0 (by simp) (Bytes.nil _ _)).mono ?_
  rintro e w' ⟨rfl, rfl⟩
  go_wp2
  go_ret
  exact ⟨rfl, hb _⟩
end Go.Proofs.YtlmlplpbgkbhdaaDoor
