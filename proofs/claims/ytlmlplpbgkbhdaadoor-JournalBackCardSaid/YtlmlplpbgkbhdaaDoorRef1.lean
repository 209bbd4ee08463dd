/- THE WALKS of the document's forms of layer 2 and 6: Put, sum, fill, HeadBytes, RecordBytes. -/
import Derived.Test.YtlmlplpbgkbhdaaDoorJrn7
import Derived.Test.YtlmlplpbgkbhdaaDoorSum2
import Derived.Test.YtlmlplpbgkbhdaaDoorJrnR
import Derived.Test.YtlmlplpbgkbhdaaDoorK3
set_option linter.unusedVariables false
set_option linter.unusedSimpArgs false
namespace Go.Proofs.YtlmlplpbgkbhdaaDoor
open Go.RowKit Hach Hach.Crc

theorem be_at (n s j : Nat) (h : j < s) : (Oct.be n s).take (j + 1) = (Oct.be n s).take j ++ [UInt8.ofNat (n / 2 ^ (8 * (s - 1 - j)))] := by
  rw [take_succ' 0 _ _ (by rw [Oct.be_length]; exact h), Oct.be_get _ _ _ h]; rfl

set_option maxHeartbeats 1000000 in
theorem refPut_calls (w : World) (A : Option Addr) (bs : List UInt8) (c n s : Nat) (hn : (n : Int) < 18446744073709551616) (hs : 0 < s) (h8 : s ≤ 8) (hl : bs.length ≤ 1073741824) (hc : Hid (Bytes w A bs)) :
    Calls Tryd.prog 48 #[.slice A bs.length c, .int .u64 (n : Int), .int .i64 (s : Int), .bool false] w (RetB w (bs ++ Oct.be n s)) := by
  have HL := hid hl
  have H8 := hid h8
  have d8 : ¬ (8 : Int) < s := by omega
  clear hl h8
  go_enter Tryd.func48, Tryd.ntmps48
  go_wp2_with (at_builtin; refine hold ?_)
  have b1 : Below w.heap.size w (w.alloc (.cells #[] 5)) := (Below.refl _ _).alloc (Nat.le_refl _) _
  have oL := own_lit w w.heap.size 5 0 [] (Nat.le_refl _) (by decide) rfl
  refine hid (wl_append elemB rfl (.tmp 14) (.tmp 15) rfl rfl oL rfl ((hc.out.grown b1).rd) (by simp) (byteCells_one _) (by have := HL.out; simp only [maxLen]; omega) (by have := HL.out; omega) (by simp) ?_)
  intro A1 k1 w1 o1 g1 _
  have b2 := below_append b1 (Nat.le_refl _) (by simp) oL g1
  clear b1 g1 oL
  rw [Nat.zero_add, List.nil_append] at o1
  rw [Nat.zero_add]
  have O1 := hid o1
  have B1 := hid b2
  clear o1 b2
  go_wp2
  go_loopw [9, 10] (fun v i wr => ∃ (j : Nat) (A2 : Option Addr) (c2 : Nat), j ≤ s ∧ i = .int .i64 j ∧ v = .slice A2 (bs.length + j) c2 ∧ Hid (wr.ownsRow w.heap.size 5 1 (.slice A2 (bs.length + j) c2) (bs.length + j) ((bs ++ (Oct.be n s).take j).map byteCell)) ∧ Hid (Below w.heap.size w wr)) (fun _ i _ => s - (intOf i).toNat)
  case atStart => exact ⟨0, A1, k1, by omega, rfl, rfl, hid (by simpa using O1.out), B1⟩
  case round =>
    obtain ⟨j, A2, c2, hj, rfl, rfl, ow, bw⟩ := hrel
    by_cases hlt : j < s
    · have hb := byte_at n (s - 1 - j)
      have sz := bw.out.size
      have e1 : ((s : Int) - 1 - j) = ((s - 1 - j : Nat) : Int) := by omega
      go_wp2_with (at_builtin; refine hold ?_)
      refine hid (wl_append elemB rfl (.tmp 28) (.tmp 35) rfl rfl (ow.out.alloc _) rfl (Rd.new wr 5 (0, 0) [byteCell (UInt8.ofNat (n / 2 ^ (8 * (s - 1 - j))))]) rfl (by simp [byteCell, Value.oneCell']) (by have := HL.out; have := H8.out; simp only [maxLen]; omega) (by have := HL.out; have := H8.out; omega) (by simp; omega) ?_)
      intro A3 c3 w3 o3 g3 _
      have b3 : Below w.heap.size w w3 := (bw.out.alloc sz _).grown g3 (by simp; omega) (fun k hk => by have := (ow.out.lt k hk).1; omega)
      have e : (bs ++ (Oct.be n s).take j).map byteCell ++ [byteCell (UInt8.ofNat (n / 2 ^ (8 * (s - 1 - j))))] = (bs ++ (Oct.be n s).take (j + 1)).map byteCell := by
        rw [be_at n s j hlt]; simp
      rw [e] at o3
      have O3 := hid o3
      have B3 := hid b3
      clear o3 b3 g3 e
      go_wp2
      go_roundw
      case rel => exact ⟨j + 1, A3, c3, by omega, by go_num, rfl, O3, B3⟩
      case measure => have := H8.out; simp [intOf]; omega
    · obtain rfl : j = s := by omega
      go_wp2
      go_ret
      refine ⟨A2, c2, (by rw [List.length_append, Oct.be_length]; rfl), ?_, bw.out⟩
      unfold OwnB
      have := ow.out
      rw [List.take_of_length_le (by rw [Oct.be_length]; omega)] at this
      rw [List.length_append, Oct.be_length]
      exact this

theorem refPut_callsX (w : World) (A : Option Addr) (bs R : List UInt8) (c n s k : Nat) (N S : Int) (hR : Hid (bs ++ Oct.be n s = R)) (hk : bs.length = k) (hN : N = (n : Int)) (hS : S = (s : Int)) (hn : (n : Int) < 18446744073709551616) (hs : 0 < s) (h8 : s ≤ 8) (hl : bs.length ≤ 1073741824) (hc : Hid (Bytes w A bs)) :
    Calls Tryd.prog 48 #[.slice A k c, .int .u64 N, .int .i64 S, .bool false] w (RetB w R) := by
  subst hk; subst hS; subst hN
  have := refPut_calls w A bs c n s hn hs h8 hl hc
  rwa [hR.out] at this

/-- fill: noughts behind, up to a length; onto a row of the caller's own. -/
theorem zc_bytes (m : Nat) : (Builtin.zeroCells (Value.int IntKind.u8 0).cells m).toList = (List.replicate m (0 : UInt8)).map byteCell := by
  rw [List.map_replicate]
  show (Builtin.zeroCells #[Value.int IntKind.u8 0] m).toList = List.replicate m (Value.int .u8 0)
  unfold Builtin.zeroCells
  apply List.ext_getElem?
  intro i
  by_cases hi : i < m
  · simp [hi, Nat.mod_one]
  · simp [hi]

theorem refFill_calls (w : World) (base : Nat) (A : Option Addr) (xs : List UInt8) (c n : Nat) (hn : Hid (xs.length < n)) (h2 : Hid (n ≤ 1000000)) (hb : base ≤ w.heap.size) (ho : Hid (OwnB w base A c xs)) :
    Calls Tryd.prog 49 #[.slice A xs.length c, .int .i64 (n : Int)] w fun en w' => ∃ A' c', en = .returned (.slice A' n c') ∧ OwnB w' base A' c' (xs ++ List.replicate (n - xs.length) 0) ∧ w.grownBy w' (Value.slice A xs.length c).ownBlock := by
  go_enter Tryd.func49, Tryd.ntmps49
  go_wp2_with (at_builtin; refine hold ?_)
  refine hid (wl_append_zeros elemB Tryd.underlying3 rfl (.tmp 5) (.tmp 9) rfl (n - xs.length) rfl ho.out rfl (by have := hn.out; have := h2.out; first | omega | (unfold wrap64; omega)) (by rw [zc_bytes]; exact byteCells_one _) (by have := hn.out; omega) (by have := hn.out; have := h2.out; simp only [maxLen]; omega) (by have := hn.out; have := h2.out; omega) hb ?_)
  intro A' c' w' o' g' _
  have hlen : xs.length + (n - xs.length) = n := by have := hn.out; omega
  rw [hlen] at o' ⊢
  rw [zc_bytes, ← List.map_append] at o'
  have O' := hid o'
  have G' := hid g'
  clear o' g'
  go_wp2
  go_ret
  refine ⟨A', c', rfl, ?_, G'.out⟩
  unfold OwnB
  rw [List.length_append, List.length_replicate, hlen]
  exact O'.out

/-- sum: with four bytes of it behind. -/
theorem refSum_calls (w : World) (A B : Option Addr) (xs ys : List UInt8) (c d : Nat) (hl : Hid (xs.length ≤ 1073741824)) (hm : Hid (ys.length ≤ 9223372036854775807)) (ha : Hid (Bytes w A xs)) (hb : Hid (Bytes w B ys)) :
    Calls Tryd.prog 50 #[.slice A xs.length c, .slice B ys.length d] w (RetB w (xs ++ Oct.be (ofF ys).toNat 4)) := by
  have h3 := (ofF ys).isLt
  have h4 : n32 (ofF ys) = ((ofF ys).toNat : Int) := rfl
  obtain ⟨S, hS⟩ : ∃ S, (ofF ys).toNat = S := ⟨_, rfl⟩
  rw [hS] at h3 h4 ⊢
  obtain ⟨R, hR⟩ : ∃ R, xs ++ Oct.be S 4 = R := ⟨_, rfl⟩
  rw [hR]
  have H3 := hid h3
  have H4 := hid h4
  have HR := hid hR
  clear h3 h4 hS hR
  go_enter Tryd.func50, Tryd.ntmps50
  go_wp2_with fail
  refine (refOf_calls _ _ _ _ hm.out hb).mono ?_
  rintro e w' ⟨rfl, rfl⟩
  rw [H4.out]
  have p3 : (S : Int) < 4294967296 := by have := H3.out; omega
  go_wp2_with fail
  refine (refPut_callsX _ A xs R c S 4 _ _ _ HR rfl rfl rfl (by omega) (by decide) (by decide) hl.out ha).mono ?_
  rintro e w' ⟨A', c', rfl, o, b⟩
  have O := hid o
  have B' := hid b
  clear o b
  go_wp2
  go_ret
  exact ⟨A', c', rfl, O.out, B'.out⟩

theorem refSum_callsX (w : World) (A B : Option Addr) (xs ys R : List UInt8) (c d k m : Nat) (hk : Hid (xs.length = k)) (hm : Hid (ys.length = m)) (hl : Hid (k ≤ 1073741824)) (hm2 : Hid (m ≤ 1073741824)) (hR : Hid (xs ++ Oct.be (ofF ys).toNat 4 = R)) (ha : Hid (Bytes w A xs)) (hb : Hid (Bytes w B ys)) :
    Calls Tryd.prog 50 #[.slice A k c, .slice B m d] w (RetB w R) := by
  have h1 := hk.out
  have h2 := hm.out
  subst h1; subst h2
  have := refSum_calls w A B xs ys c d hl (hid (by have := hm2.out; omega)) ha hb
  rwa [hR.out] at this

theorem refFill_callsX (w : World) (base : Nat) (A : Option Addr) (xs R : List UInt8) (c k n : Nat) (N : Int) (hk : Hid (xs.length = k)) (hN : Hid (N = (n : Int))) (hR : Hid (xs ++ List.replicate (n - xs.length) 0 = R)) (hn : Hid (k < n)) (h2 : Hid (n ≤ 1000000)) (hb : base ≤ w.heap.size) (ho : Hid (OwnB w base A c xs)) :
    Calls Tryd.prog 49 #[.slice A k c, .int .i64 N] w fun en w' => ∃ A' c', en = .returned (.slice A' n c') ∧ OwnB w' base A' c' R ∧ w.grownBy w' (Value.slice A k c).ownBlock := by
  have h1 := hk.out
  have h3 := hN.out
  subst h1; subst h3
  have := refFill_calls w base A xs c n hn h2 hb ho
  rwa [hR.out] at this
end Go.Proofs.YtlmlplpbgkbhdaaDoor
