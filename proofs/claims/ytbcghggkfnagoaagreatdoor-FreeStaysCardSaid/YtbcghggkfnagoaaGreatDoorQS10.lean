/- PARTS OF A PROOF, one behind the other: THE WALK of slices.Clone at bytes. THE WALKS of package octet's Put and Get, and of slices.Clone, slices.Reverse at bytes. THE WALK of octet.Get. CONDITIONS: none of this text's own. -/
import Derived.Test.YtbcghggkfnagoaaGreatDoorQS3
import Derived.Test.YtbcghggkfnagoaaGreatDoorQS1
import Derived.Test.YtbcghggkfnagoaaGreatDoorRows
import Derived.WalkKit
import Derived.Test.YtbcghggkfnagoaaGreatDoorProg
import Derived.Test.YtbcghggkfnagoaaGreatDoorChecked
import Derived.Lib.SliceRun
set_option linter.unusedVariables false
set_option linter.unusedSimpArgs false
namespace Go.Proofs.YtbcghggkfnagoaaGreatDoor
open Go.RowKit Hach

theorem elemB : Elem Tryz.prog 64 5 (.int .u8 0) 1 1 := ⟨Tryz.underlying64, by kernel_rfl, rfl, by decide⟩

def OwnB (w : World) (base : Nat) (A : Option Addr) (c : Nat) (xs : List UInt8) : Prop := w.ownsRow base 5 1 (.slice A xs.length c) xs.length (xs.map byteCell)
theorem OwnB.bytes {w : World} {base : Nat} {A : Option Addr} {c : Nat} {xs : List UInt8} (h : OwnB w base A c xs) : Bytes w A xs := Rd.bytes (Rd.own h)
def RetB (w : World) (xs : List UInt8) (e : Ending) (w' : World) : Prop := ∃ A c, e = .returned (.slice A xs.length c) ∧ OwnB w' w.heap.size A c xs ∧ Below w.heap.size w w'

set_option maxHeartbeats 400000 in
theorem clone_calls (w : World) (A : Option Addr) (xs : List UInt8) (c : Nat) (hl : xs.length ≤ 1099511627776) (hc : Hid (Bytes w A xs)) :
    Calls Tryz.prog 117 #[.slice A xs.length c] w (RetB w xs) := by
  have heq := fun (w : World) (a : Option Addr) (n c n' c' : Nat) => Lib.run_eql_slice_nil (P := Tryz.prog) w 64 5 a n c n' c' Tryz.underlying64
  cases A with
  | none =>
    have h0 : xs = [] := by
      cases xs with
      | nil => rfl
      | cons x xs => obtain ⟨b, off, h, _⟩ := hc.out 0 (by simp); cases h
    subst h0
    go_enter Tryz.func117, Tryz.ntmps117
    go_wp2
    go_ret
    exact ⟨none, 0, rfl, own_nil _ _ _ _, Below.refl _ _⟩
  | some a =>
    go_enter Tryz.func117, Tryz.ntmps117
    go_wp2_with (at_builtin; refine hold ?_)
    have b1 : Below w.heap.size w (w.alloc (.cells #[] 5)) := (Below.refl _ _).alloc (Nat.le_refl _) _
    have oL := own_lit w w.heap.size 5 0 [] (Nat.le_refl _) (by decide) rfl
    refine hid (wl_append elemB rfl (.tmp 5) (.tmp 6) rfl rfl oL rfl ((hc.out.grown b1).rd) (by simp) (byteCells_one _) (by simp only [maxLen]; omega) (by omega) (by simp) ?_)
    intro A1 k1 w1 o1 g1 _
    have b2 := below_append b1 (Nat.le_refl _) (by simp) oL g1
    clear b1 g1 oL
    simp only [Nat.zero_add, List.nil_append] at o1
    rw [Nat.zero_add]
    have O1 := hid o1
    have B2 := hid b2
    clear o1 b2 heq
    go_wp2
    go_ret
    exact ⟨A1, k1, rfl, O1.out, B2.out⟩
end Go.Proofs.YtbcghggkfnagoaaGreatDoor

namespace Go.Proofs.YtbcghggkfnagoaaGreatDoor
open Go.RowKit Hach


set_option maxHeartbeats 1000000 in
theorem reverse_calls (w : World) (base g cap c : Nat) (xs ys : List UInt8) (hm : 0 < ys.length) (hN : xs.length + ys.length ≤ 1099511627776)
    (own : Hid (w.ownsRow base 5 1 (.slice (some ⟨g, 0, none⟩) (xs.length + ys.length) cap) (xs.length + ys.length) ((xs ++ ys).map byteCell))) :
    Calls Tryz.prog 152 #[.slice (some ⟨g, xs.length, none⟩) ys.length c] w fun e w' => e = .returned (.tuple #[]) ∧
      Hid (w'.ownsRow base 5 1 (.slice (some ⟨g, 0, none⟩) (xs.length + ys.length) cap) (xs.length + ys.length) ((xs ++ ys.reverse).map byteCell)) ∧ Hid (Fr (fun k => k = g) w w') := by
  go_enter Tryz.func152, Tryz.ntmps152
  go_wp2
  go_loopw [2, 3] (fun a b wr => ∃ i j : Nat, i + j + 1 = ys.length ∧ i ≤ j + 1 ∧ a = .int .i64 i ∧ b = .int .i64 j ∧ Hid (wr.ownsRow base 5 1 (.slice (some ⟨g, 0, none⟩) (xs.length + ys.length) cap) (xs.length + ys.length) ((xs ++ Oct.rev ys i).map byteCell)) ∧ Hid (Fr (fun k => k = g) w wr)) (fun _ b _ => (intOf b).toNat)
  case atStart => exact ⟨0, ys.length - 1, by omega, by omega, rfl, by rw [show ((ys.length - 1 : Nat) : Int) = (ys.length : Int) - 1 by omega], own, hid (Fr.refl _ _)⟩
  case round =>
    obtain ⟨i, j, hij, hle, rfl, rfl, ow, fr⟩ := hrel
    by_cases hlt : i < j
    · have L := Oct.rev_length ys i
      have k1 : wr.cell? ⟨g, xs.length + i, none⟩ = some (.int .u8 (n8 ((Oct.rev ys i)[i]?.getD 0))) := by
        rw [ow.out.cellAt _ (by omega), List.getElem?_map, List.getElem?_append_right (by omega), Nat.add_sub_cancel_left, List.getElem?_eq_getElem (by omega)]; rfl
      have k2 : wr.cell? ⟨g, xs.length + j, none⟩ = some (.int .u8 (n8 ((Oct.rev ys i)[j]?.getD 0))) := by
        rw [ow.out.cellAt _ (by omega), List.getElem?_map, List.getElem?_append_right (by omega), Nat.add_sub_cancel_left, List.getElem?_eq_getElem (by omega)]; rfl
      generalize hx : (Oct.rev ys i)[i]?.getD 0 = x at k1
      generalize hy : (Oct.rev ys i)[j]?.getD 0 = y at k2
      have HX := hid hx
      have HY := hid hy
      have f1 := ow.out.frozenAt (xs.length + i)
      have f2 := ow.out.frozenAt (xs.length + j)
      have n1 : ¬ xs.length + i = xs.length + j := by omega
      have n2 : ¬ xs.length + j = xs.length + i := by omega
      have LL := hid L
      clear hx hy L
      go_wp2
      go_region
      go_wp2
      go_roundw
      case rel =>
        obtain ⟨o1, _⟩ := ow.out.stored (xs.length + i) (.int .u8 (n8 y))
        obtain ⟨o2, _⟩ := o1.stored (xs.length + j) (.int .u8 (n8 x))
        have e : (((xs ++ Oct.rev ys i).map byteCell).set (xs.length + i) (.int .u8 (n8 y))).set (xs.length + j) (.int .u8 (n8 x)) = (xs ++ Oct.rev ys (i + 1)).map byteCell := by
          show (List.set _ _ (byteCell y)).set _ (byteCell x) = _
          rw [← List.map_set, ← List.map_set, List.set_append_right _ _ (by omega), List.set_append_right _ _ (by omega), Nat.add_sub_cancel_left, Nat.add_sub_cancel_left, ← HX.out, ← HY.out, show j = ys.length - 1 - i by omega]
          rfl
        rw [e] at o2
        exact ⟨i + 1, j - 1, by omega, by omega, by go_num, by rw [show ((j - 1 : Nat) : Int) = (j : Int) - 1 by omega], hid o2, hid (((fr.out.setCell (fun _ => rfl) _).setCell (fun _ => rfl) _).drew)⟩
      case measure => simp [intOf]; omega
    · go_wp2
      go_end0
      refine ⟨rfl, ?_, fr⟩
      rw [← Oct.rev_done ys i (by omega) (by omega)]
      exact ow

theorem reverse_calls' (w : World) (base g N m cap c : Nat) (xs ys : List UInt8) (hm : 0 < ys.length) (hN : xs.length + ys.length ≤ 1099511627776) (e1 : m = ys.length) (e2 : N = xs.length + ys.length)
    (own : Hid (w.ownsRow base 5 1 (.slice (some ⟨g, 0, none⟩) N cap) N ((xs ++ ys).map byteCell))) :
    Calls Tryz.prog 152 #[.slice (some ⟨g, xs.length, none⟩) m c] w fun e w' => e = .returned (.tuple #[]) ∧
      Hid (w'.ownsRow base 5 1 (.slice (some ⟨g, 0, none⟩) N cap) N ((xs ++ ys.reverse).map byteCell)) ∧ Hid (Fr (fun k => k = g) w w') := by
  subst e1; subst e2; exact reverse_calls w base g cap c xs ys hm hN own

theorem byte_at (n j : Nat) : ((n : Int) / (2 ^ (8 * j) : Int)) % 256 = n8 (UInt8.ofNat (n / 2 ^ (8 * j))) := by
  unfold n8
  rw [UInt8.toNat_ofNat']
  have e : (2 ^ (8 * j) : Int) = ((2 ^ (8 * j) : Nat) : Int) := by rw [Int.natCast_pow]; rfl
  rw [e, ← Int.natCast_ediv]
  have h8 : (2 : Nat) ^ 8 = 256 := by decide
  rw [h8]; omega

set_option maxHeartbeats 1000000 in
theorem put_calls (w : World) (A : Option Addr) (bs : List UInt8) (c n s : Nat) (hn : (n : Int) < 18446744073709551616) (hs : 0 < s) (h8 : s ≤ 8) (hl : bs.length ≤ 1073741824) (hc : Hid (Bytes w A bs)) :
    Calls Tryz.prog 106 #[.slice A bs.length c, .int .u64 (n : Int), .int .i64 (s : Int), .bool false] w (RetB w (bs ++ Oct.be n s)) := by
  go_enter Tryz.func106, Tryz.ntmps106
  go_wp2_with fail
  refine (clone_calls _ _ _ _ (by omega) hc).mono ?_
  rintro e w1 ⟨A1, c1, rfl, o1, b1⟩
  have O1 := hid o1
  have B1 := hid b1
  clear o1 b1
  go_wp2
  go_loopw [9, 19] (fun v i wr => ∃ (j : Nat) (A2 : Option Addr) (c2 : Nat), j ≤ s ∧ i = .int .i64 j ∧ v = .slice A2 (bs.length + j) c2 ∧ Hid (wr.ownsRow w.heap.size 5 1 (.slice A2 (bs.length + j) c2) (bs.length + j) ((bs ++ Oct.le n j).map byteCell)) ∧ Hid (Below w.heap.size w wr)) (fun _ i _ => s - (intOf i).toNat)
  case atStart => exact ⟨0, A1, c1, by omega, rfl, rfl, hid (by have := O1.out; unfold OwnB at this; simpa [Oct.le] using this), B1⟩
  case round =>
    obtain ⟨j, A2, c2, hj, rfl, rfl, ow, bw⟩ := hrel
    by_cases hlt : j < s
    · have hb := byte_at n j
      have sz := bw.out.size
      go_wp2_with (at_builtin; refine hold ?_)
      refine hid (wl_append elemB rfl (.tmp 22) (.tmp 28) rfl rfl (ow.out.alloc _) rfl (Rd.new wr 5 (0, 0) [byteCell (UInt8.ofNat (n / 2 ^ (8 * j)))]) rfl (by simp [byteCell, Value.oneCell']) (by simp only [maxLen]; omega) (by omega) (by simp; omega) ?_)
      intro A3 c3 w3 o3 g3 _
      have b3 : Below w.heap.size w w3 := (bw.out.alloc sz _).grown g3 (by simp; omega) (fun k hk => by have := (ow.out.lt k hk).1; omega)
      have e : (bs ++ Oct.le n j).map byteCell ++ [byteCell (UInt8.ofNat (n / 2 ^ (8 * j)))] = (bs ++ Oct.le n (j + 1)).map byteCell := by
        simp [Oct.le]
      rw [e] at o3
      have O3 := hid o3
      have B3 := hid b3
      clear o3 b3 g3 e
      go_wp2
      go_roundw
      case rel => exact ⟨j + 1, A3, c3, by omega, by go_num, rfl, O3, B3⟩
      case measure => simp [intOf]; omega
    · obtain rfl : j = s := by omega
      obtain ⟨g, cap, hv, gb, _⟩ := ow.out.form (by omega)
      injection hv with hv _ hc2
      subst hv
      have hcap : bs.length + j ≤ c2 := by
        obtain ⟨_, hh | ⟨g', cap', cur, hv', _, _, hnc, _⟩⟩ := ow.out
        · cases hh.1
        · injection hv' with _ _ e3; omega
      have hne : ¬ c2 = bs.length := by omega
      have L := Oct.le_length n j
      have H0 := hid hc2
      clear hc2
      have LL := hid L
      clear L
      go_wp2_with fail
      refine (reverse_calls' wr w.heap.size g (bs.length + j) j c2 _ bs (Oct.le n j) (by rw [LL.out]; exact hs) (by rw [LL.out]; omega) LL.out.symm (by rw [LL.out]) ow).mono ?_
      rintro e w2 ⟨rfl, o2, f2⟩
      go_wp2
      go_ret
      refine ⟨some ⟨g, 0, none⟩, c2, ?_, ?_, bw.out.trans (f2.out.below bw.out.size (fun k hk e => by omega))⟩
      · show Ending.returned (.slice (some ⟨g, 0, none⟩) (bs.length + j) c2) = _
        rw [List.length_append, Oct.be_length]
      · unfold OwnB
        rw [List.length_append, Oct.be_length]
        exact o2.out
end Go.Proofs.YtbcghggkfnagoaaGreatDoor

namespace Go.Proofs.YtbcghggkfnagoaaGreatDoor
open Go.RowKit Hach

theorem or_byte (N : Nat) (x : UInt8) (h : N < 72057594037927936) : bits .or .u64 ((N : Int) * 256) (n8 x) = ((N * 256 + x.toNat : Nat) : Int) := by
  have hx := x.toNat_lt
  show IntKind.u64.wrap ((BitVec.ofInt 64 ((N : Int) * 256) ||| BitVec.ofInt 64 (n8 x)).toNat : Int) = _
  have e1 : (N : Int) * 256 = ((N * 256 : Nat) : Int) := by omega
  have e2 : n8 x = ((x.toNat : Nat) : Int) := rfl
  rw [e1, e2, BitVec.ofInt_natCast, BitVec.ofInt_natCast, BitVec.toNat_or, BitVec.toNat_ofNat, BitVec.toNat_ofNat, Nat.mod_eq_of_lt (by omega), Nat.mod_eq_of_lt (by omega)]
  have : N * 256 ||| x.toNat = N * 256 + x.toNat := by
    have := Nat.two_pow_add_eq_or_of_lt (i := 8) (b := x.toNat) (by omega) N
    rw [Nat.mul_comm]
    exact this.symm
  rw [this]
  have h64 : IntKind.u64.wrap ((N * 256 + x.toNat : Nat) : Int) = ((N * 256 + x.toNat : Nat) : Int) := IntWalk.u64_in _ (by omega)
  exact h64

theorem n8_u64 (x : UInt8) : IntKind.u64.wrap (n8 x) = n8 x := IntWalk.u64_in _ (by have := n8_lo x; have := n8_hi x; omega)
attribute [local go_sem] n8_u64

set_option maxHeartbeats 1000000 in
theorem get_calls (w : World) (A : Option Addr) (xs : List UInt8) (c s : Nat) (hs : 0 < s) (h8 : s ≤ 8) (hl : s ≤ xs.length) (hx : xs.length ≤ 1099511627776) (hc : Hid (Bytes w A xs)) :
    Calls Tryz.prog 129 #[.slice A xs.length c, .int .i64 (s : Int), .bool false] w fun e w' => e = .returned (.tuple #[.int .u64 (Oct.val (xs.take s) : Int), .bool true]) ∧ w = w' := by
  have d1 : ¬ (xs.length : Int) < s := by omega
  go_enter Tryz.func129, Tryz.ntmps129
  go_wp2
  go_loop [8, 24] (fun v i => ∃ j : Nat, j ≤ s ∧ i = .int .i64 j ∧ v = .int .u64 (Oct.val (xs.take j) : Int)) (fun _ i => s - (intOf i).toNat)
  case atStart => exact ⟨0, by omega, rfl, rfl⟩
  case round =>
    obtain ⟨j, hj, rfl, rfl⟩ := hrel
    by_cases hlt : j < s
    · obtain ⟨b, off, rfl, hcell⟩ := hc.out j (by omega)
      have e := Oct.val_snoc (xs.take j) (xs[j]?.getD 0)
      rw [← take_succ' 0 xs j (by omega)] at e
      have hv := Oct.val_lt (xs.take j)
      have hN : Oct.val (xs.take j) < 72057594037927936 := by
        refine Nat.lt_of_lt_of_le hv ?_
        rw [List.length_take, Nat.min_eq_left (by omega)]
        exact Nat.le_trans (Nat.pow_le_pow_right (by decide) (show j ≤ 7 by omega)) (by decide)
      generalize Oct.val (xs.take j) = N at *
      generalize xs[j]?.getD 0 = x at *
      have hor := or_byte N x hN
      have E := hid e
      clear e hv
      go_wp2
      go_round
      case rel => exact ⟨j + 1, by omega, by go_num, by rw [E.out]; exact congrArg _ (by omega)⟩
      case measure => simp [intOf]; omega
    · obtain rfl : j = s := by omega
      go_wp2
      go_ret2
      exact ⟨rfl, rfl⟩

theorem get_callsX (w : World) (A : Option Addr) (xs : List UInt8) (c s p : Nat) (S : Int) (hS : S = s) (hp : Hid (Oct.val (xs.take s) = p)) (hs : 0 < s) (h8 : s ≤ 8) (hl : s ≤ xs.length) (hx : xs.length ≤ 1099511627776) (hc : Hid (Bytes w A xs)) :
    Calls Tryz.prog 129 #[.slice A xs.length c, .int .i64 S, .bool false] w fun e w' => e = .returned (.tuple #[.int .u64 (p : Int), .bool true]) ∧ w = w' := by
  subst hS
  rw [← hp.out]
  exact get_calls w A xs c s hs h8 hl hx hc
end Go.Proofs.YtbcghggkfnagoaaGreatDoor
