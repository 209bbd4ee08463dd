/- THE WALKS of bytes.Clone, bytes.Equal. -/
import Derived.Test.YtlmlplpbgkbhdaaDoorJrn3
set_option linter.unusedVariables false
set_option linter.unusedSimpArgs false
namespace Go.Proofs.YtlmlplpbgkbhdaaDoor
open Go.RowKit Hach

theorem clone2_calls (w : World) (A : Option Addr) (xs : List UInt8) (c : Nat) (hl : xs.length ≤ 1099511627776) (hc : Hid (Bytes w A xs)) :
    Calls Tryd.prog 46 #[.slice A xs.length c] w (RetB w xs) := by
  have heq := fun (w : World) (a : Option Addr) (n c n' c' : Nat) => Lib.run_eql_slice_nil (P := Tryd.prog) w 22 5 a n c n' c' Tryd.underlying22
  cases A with
  | none =>
    have h0 : xs = [] := by
      cases xs with
      | nil => rfl
      | cons x xs => obtain ⟨b, off, h, _⟩ := hc.out 0 (by simp); cases h
    subst h0
    go_enter Tryd.func46, Tryd.ntmps46
    go_wp2
    go_ret
    exact ⟨none, 0, rfl, own_nil _ _ _ _, Below.refl _ _⟩
  | some a =>
    go_enter Tryd.func46, Tryd.ntmps46
    go_wp2_with (at_builtin; refine hold ?_)
    have b1 : Below w.heap.size w (w.alloc (.cells #[] 5)) := (Below.refl _ _).alloc (Nat.le_refl _) _
    have oL := own_lit w w.heap.size 5 0 [] (Nat.le_refl _) (by decide) rfl
    refine hid (wl_append elemB rfl (.tmp 5) (.tmp 6) rfl rfl oL rfl ((hc.out.grown b1).rd) (by simp) (byteCells_one _) (by simp only [maxLen]; omega) (by omega) (by simp) ?_)
    intro A1 k1 w1 o1 g1 _
    have b2 := below_append b1 (Nat.le_refl _) (by simp) oL g1
    clear b1 g1 oL
    simp only [Nat.zero_add, List.nil_append] at o1
    rw [Nat.zero_add]
    have O1 := hid o1
    have B2 := hid b2
    clear o1 b2 heq
    go_wp2
    go_ret
    exact ⟨A1, k1, rfl, O1.out, B2.out⟩

theorem clone2_callsX (w : World) (A : Option Addr) (xs : List UInt8) (c n : Nat) (hn : Hid (xs.length = n)) (hl : n ≤ 1099511627776) (hc : Hid (Bytes w A xs)) :
    Calls Tryd.prog 46 #[.slice A n c] w fun e w' => ∃ A c, e = .returned (.slice A n c) ∧ w'.ownsRow w.heap.size 5 1 (.slice A n c) n (xs.map byteCell) ∧ Below w.heap.size w w' := by
  have := clone2_calls w A xs c (by rw [hn.out]; exact hl) hc
  rw [hn.out] at this
  refine this.mono ?_
  rintro e w' ⟨A, c, he, ho, hb⟩
  unfold OwnB at ho
  rw [hn.out] at he ho
  exact ⟨A, c, he, ho, hb⟩
def str (xs : List UInt8) : ByteArray := ⟨xs.toArray⟩
theorem str_toList (xs : List UInt8) : (str xs).toList = xs := by rw [ByteArray.toList_eq]; rfl
theorem run_conv (w : World) (A : Option Addr) (xs : List UInt8) (c : Nat) (hl : xs.length ≤ 1099511627776) (h : Bytes w A xs) : (convert 22 9 (.slice A xs.length c)).run Tryd.prog w = .ok (.string (str xs)) w := by
  cases xs with
  | nil =>
    cases A with
    | none => exact run_convert_bytes_nil (P := Tryd.prog) w 22 5 Tryd.underlying22 Tryd.underlying5 0 c 9 Tryd.underlying9
    | some a =>
      rw [run_convert_bytes_string w 22 9 5 _ _ c Tryd.underlying22 Tryd.underlying5 Tryd.underlying9]
      simp [Conv.bytesToString, loadCells, loadCellsFrom, str]
      rfl
  | cons x xs =>
    obtain ⟨b, off, rfl, _⟩ := h 0 (by simp)
    have := run_convert_bytes_arg (P := Tryd.prog) w 22 5 Tryd.underlying22 Tryd.underlying5 b off (x :: xs).length c ((x :: xs).map n8) (by simp) (by
      intro i hi
      obtain ⟨b', off', e, hc⟩ := h i hi
      injection e with e
      injection e with e1 e2 _
      subst e1; subst e2
      rw [hc, List.getD_eq_getElem?_getD, List.getElem?_map, List.getElem?_eq_getElem hi]; rfl) 9 Tryd.underlying9
    rw [this]
    congr 2
    unfold strOfNums str
    congr 1
    rw [List.map_map]
    congr 1
    conv => rhs; rw [← List.map_id (x :: xs)]
    apply List.map_congr_left
    intro y _
    unfold n8
    simp

set_option maxHeartbeats 400000 in
theorem equal_calls (w : World) (A B : Option Addr) (xs ys : List UInt8) (c d : Nat) (hl : xs.length ≤ 1099511627776) (hm : ys.length ≤ 1099511627776) (ha : Hid (Bytes w A xs)) (hb : Hid (Bytes w B ys)) :
    Calls Tryd.prog 47 #[.slice A xs.length c, .slice B ys.length d] w fun e w' => e = .returned (.bool (decide (xs = ys))) ∧ w = w' := by
  have h1 := run_conv w A xs c hl ha.out
  have h2 := run_conv w B ys d hm hb.out
  have h3 : ((str xs).toList == (str ys).toList) = decide (xs = ys) := by
    rw [str_toList, str_toList]
    by_cases h : xs = ys
    · rw [decide_eq_true h, beq_iff_eq]; exact h
    · rw [decide_eq_false h, beq_eq_false_iff_ne]; exact h
  generalize decide (xs = ys) = r at *
  go_enter Tryd.func47, Tryd.ntmps47
  go_wp2
  go_ret
  exact ⟨rfl, rfl⟩

theorem recordBytes_calls (w : World) (ht : Hid (TabOk w)) (page : Int) (n : Nat) (A : Option Addr) (xs : List UInt8) (c : Nat) (hn : Hid ((n : Int) < 18446744073709551616)) (hc : Hid (Bytes w A xs)) :
    Calls Tryd.prog 19 #[.agg #[.int .i64 page, .slice A xs.length c], .int .u64 (n : Int)] w (RetB w (Jrn.recB page n xs)) := by
  unfold Jrn.recB
  cases h : Jrn.recGood page xs with
  | false =>
    exact recordBytes_bad w page n A xs c h
  | true =>
    have hg := h
    unfold Jrn.recGood at hg
    have hg := of_decide_eq_true hg
    obtain ⟨p, rfl⟩ := Int.eq_ofNat_of_zero_le (show 0 ≤ page by omega)
    exact recordBytes_good w ht p n A xs c (by omega) (by omega) hg.2 hn hc

theorem recordBytes_callsX (w : World) (ht : Hid (TabOk w)) (page : Int) (n k : Nat) (A : Option Addr) (xs R : List UInt8) (c : Nat) (hk : Hid (xs.length = k)) (hR : Hid (Jrn.recB page n xs = R)) (hn : Hid ((n : Int) < 18446744073709551616)) (hc : Hid (Bytes w A xs)) :
    Calls Tryd.prog 19 #[.agg #[.int .i64 page, .slice A k c], .int .u64 (n : Int)] w (RetB w R) := by
  have := recordBytes_calls w ht page n A xs c hn hc
  rwa [hk.out, hR.out] at this
theorem equal_callsX (w : World) (A B : Option Addr) (xs ys : List UInt8) (c d k m : Nat) (hk : Hid (xs.length = k)) (hm : Hid (ys.length = m)) (h1 : k ≤ 1099511627776) (h2 : m ≤ 1099511627776) (ha : Hid (Bytes w A xs)) (hb : Hid (Bytes w B ys)) (r : Bool) (hr : Hid (decide (xs = ys) = r)) :
    Calls Tryd.prog 47 #[.slice A k c, .slice B m d] w fun e w' => e = .returned (.bool r) ∧ w = w' := by
  have := equal_calls w A B xs ys c d (by rw [hk.out]; exact h1) (by rw [hm.out]; exact h2) ha hb
  rwa [hk.out, hm.out, hr.out] at this
end Go.Proofs.YtlmlplpbgkbhdaaDoor
