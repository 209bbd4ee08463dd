/- PARTS OF A PROOF, one behind the other: THE WALKS of journal's Record.good and RecordBytes. THE WALKS of bytes.Clone, bytes.Equal. THE WALK of journal.ReadRecord. THE WALK of hachurelaw06.records: of seeds. Records, read; THE WALK of journal.Good. THE WALK of journal.Bytes. PLAIN LAWS: what bytes are, as a head; a head's bytes are it; bytes without the mark are none. No program in sight. PLAIN LAWS: what bytes are, as a journal. No program in sight. THE WALKS of journal.ReadHead, journal.Hot. THE WALKS of journal.Hot, JournalTorn. PLAIN LAWS: a whole journal's bytes, whatever is behind, are that journal. No program in sight. CONDITIONS: none of this text's own. -/
import Derived.Test.YtbcghggkfnagoaaGreatDoorQS30
import Derived.Test.YtbcghggkfnagoaaGreatDoorQS11
import Derived.Test.YtbcghggkfnagoaaGreatDoorQS6
import Derived.Test.YtbcghggkfnagoaaGreatDoorQS2
import Derived.Test.YtbcghggkfnagoaaGreatDoorQS1
import Derived.Deep.RegionHeld3
set_option linter.unusedVariables false
set_option linter.unusedSimpArgs false
namespace Go.Proofs.YtbcghggkfnagoaaGreatDoor
open Go.RowKit Hach Hach.Crc

def RetS (w : World) (xs : List UInt8) (en : Ending) (w' : World) : Prop :=
  ∃ g, en = .returned (.slice (some ⟨g, 0, none⟩) 128 128) ∧ w'.ownsRow w.heap.size 172 1 (.slice (some ⟨g, 0, none⟩) 128 128) 128 (xs.map byteCell) ∧ Below w.heap.size w w'
theorem sector_callsX (w : World) (A : Option Addr) (xs X : List UInt8) (c : Nat) (hX : Hid (Jrn.sect xs = X)) (hl : xs.length ≤ 128) (hc : Hid (Bytes w A xs)) :
    Calls Tryz.prog 143 #[.slice A xs.length c] w (RetS w X) := by
  rw [← hX.out]
  exact sector_callsS w A xs c hl hc

set_option maxHeartbeats 1000000 in
theorem good_calls (w : World) (page : Int) (A : Option Addr) (n c : Nat) :
    Calls Tryz.prog 174 #[.agg #[.int .i64 page, .slice A n c]] w fun e w' => e = .returned (.bool (decide ((1 ≤ page ∧ page ≤ 4000) ∧ n = 512))) ∧ Below w.heap.size w w' := by
  have hb : ∀ o, Below w.heap.size w (w.alloc o) := fun o => (Below.refl _ _).alloc (Nat.le_refl _) o
  have d2 : ((n : Int) == 512) = decide (n = 512) := by
    by_cases h : n = 512
    · rw [decide_eq_true h, beq_iff_eq]; omega
    · rw [decide_eq_false h, beq_eq_false_iff_ne]; omega
  by_cases h0 : 1 ≤ page ∧ page ≤ 4000
  · obtain ⟨h0, h1⟩ := h0
    go_enter Tryz.func174, Tryz.ntmps174
    go_wp2
    go_ret
    exact ⟨by simp [h0, h1], hb _⟩
  · by_cases h1 : 1 ≤ page
    · have h2 : ¬ page ≤ 4000 := fun h => h0 ⟨h1, h⟩
      clear h0 d2
      go_enter Tryz.func174, Tryz.ntmps174
      go_wp2
      go_ret
      exact ⟨by rw [decide_eq_false (by omega)]; rfl, hb _⟩
    · clear h0 d2
      go_enter Tryz.func174, Tryz.ntmps174
      go_wp2
      go_ret
      exact ⟨by rw [decide_eq_false (by omega)]; rfl, hb _⟩

set_option maxHeartbeats 1000000 in
theorem recordBytes_bad (w : World) (page n : Int) (A : Option Addr) (xs : List UInt8) (c : Nat) (h : Jrn.recGood page xs = false) :
    Calls Tryz.prog 141 #[.agg #[.int .i64 page, .slice A xs.length c], .int .u64 n] w (RetB w []) := by
  have hb : ∀ o, Below w.heap.size w (w.alloc o) := fun o => (Below.refl _ _).alloc (Nat.le_refl _) o
  have H := hid h
  clear h
  go_enter Tryz.func141, Tryz.ntmps141
  go_wp2_with fail
  refine (good_calls _ page A xs.length c).mono ?_
  have e : decide ((1 ≤ page ∧ page ≤ 4000) ∧ xs.length = 512) = false := H.out
  rw [e]
  rintro e w1 ⟨rfl, b1⟩
  have B1 := hid ((hb (.cells #[.int .i64 page, .slice A xs.length c] 205)).trans (b1.mono (by simp)))
  clear b1 e hb
  go_wp2
  go_ret
  exact ⟨none, 0, rfl, own_nil _ _ _ _, B1.out⟩

attribute [local go_sem] n32_u64

set_option maxRecDepth 100000 in
set_option maxHeartbeats 1000000 in
theorem recordBytes_good (w : World) (ht : Hid (TabOk w)) (page n : Nat) (A : Option Addr) (xs : List UInt8) (c : Nat) (h1 : 1 ≤ page) (h2 : page ≤ 4000) (hl : xs.length = 512) (hn : Hid ((n : Int) < 18446744073709551616)) (hc : Hid (Bytes w A xs)) :
    Calls Tryz.prog 141 #[.agg #[.int .i64 (page : Int), .slice A xs.length c], .int .u64 (n : Int)] w (RetB w (Jrn.recN page n xs)) := by
  generalize hX : Jrn.recN page n xs = X
  have HX := hid hX
  clear hX
  have HL := hid hl
  clear hl
  have hb : ∀ o, Below w.heap.size w (w.alloc o) := fun o => (Below.refl _ _).alloc (Nat.le_refl _) o
  go_enter Tryz.func141, Tryz.ntmps141
  go_wp2_with fail
  refine (good_calls _ page A xs.length c).mono ?_
  have e : decide (((1 : Int) ≤ page ∧ (page : Int) ≤ 4000) ∧ xs.length = 512) = true := decide_eq_true (by have := HL.out; omega)
  rw [e]
  rintro e w1 ⟨rfl, b1⟩
  have z1 : w.heap.size < w1.heap.size := by have := b1.size; simp at this; omega
  have k0 : w1.cell? ⟨w.heap.size, 0, none⟩ = some (.int .i64 (page : Int)) := by rw [b1.cell (p := ⟨w.heap.size, 0, none⟩) (by simp)]; go_simp
  have k1 : w1.cell? ⟨w.heap.size, 1, none⟩ = some (.slice A xs.length c) := by rw [b1.cell (p := ⟨w.heap.size, 1, none⟩) (by simp)]; go_simp
  have B1 := hid ((hb (.cells #[.int .i64 (page : Int), .slice A xs.length c] 205)).trans (b1.mono (by simp)))
  clear b1 e hb
  go_wp2_with fail
  refine (put_calls' _ none [] 0 page 4 _ _ rfl rfl (by omega) (by omega) (by omega) (by decide) (Bytes.nil _ _)).mono ?_
  rintro e w2 ⟨A2, c2, rfl, o2, b2⟩
  have B2 := hid (B1.out.trans (b2.mono B1.out.size))
  have z2 : w.heap.size < w2.heap.size := by have := b2.size; omega
  have k2 : w2.cell? ⟨w.heap.size, 1, none⟩ = some (.slice A xs.length c) := by rw [b2.cell (p := ⟨w.heap.size, 1, none⟩) z1]; exact k1
  rw [List.nil_append] at o2 ⊢
  have Y2 := hid o2.bytes
  clear o2 b2 k0 k1 B1
  generalize hX2 : Oct.be page 4 = X2 at Y2
  have l2 : X2.length = 4 := by rw [← hX2, Oct.be_length]
  have HX2 := hid hX2
  have L2 := hid l2
  clear hX2 l2
  have T2 := hid (ht.out.below' B2.out)
  have D2 := hid (hc.out.grown B2.out)
  obtain ⟨X3, hX3⟩ : ∃ X, X2 ++ Oct.be n 8 = X := ⟨_, rfl⟩
  have l3 : X3.length = 12 := by rw [← hX3, List.length_append, Oct.be_length, L2.out]
  have HX3 := hid hX3
  have L3 := hid l3
  clear hX3 l3
  go_wp2
  go_region_held3 (fun w' => w'.cell? ⟨w.heap.size, 1, none⟩ = some (.slice A xs.length c))
    (first | go_keep | (rw [b3.cell (p := ⟨w.heap.size, 1, none⟩) (by simp; omega)]; go_simp))
    (first
      | (go_at_call 106; refine (put_callsX _ A2 X2 X3 c2 n 8 _ _ HX3 rfl rfl hn.out (by omega) (by omega) (by rw [L2.out]; decide) ?_).mono ?_; exact (Bytes.grown Y2.out (Below.drew (Below.refl _ _))); rintro e w3 ⟨A3, c3, rfl, o3, b3⟩)
      | (go_at_call 144; refine (of_calls _ ?_ A3 X3 c3 ?_ ?_).mono ?_; exact (show TabOk w2.drew from T2.out).below' b3; (rw [L3.out]; decide); exact o3.bytes; rintro e w' ⟨rfl, rfl⟩)
      | (go_at_call 175; refine (add_calls _ _ ?_ A xs c ?_ ?_).mono ?_; exact (show TabOk w2.drew from T2.out).below' b3; (rw [HL.out]; decide); exact Bytes.grown (w := w2.drew) D2.out b3; rintro e w' ⟨rfl, rfl⟩))
  have B3 := hid (B2.out.trans (Below.mono (show Below w2.heap.size w2 w3 from (Below.refl _ _).drew.trans b3) B2.out.size))
  have z3 : w.heap.size < w3.heap.size := by have := b3.size; simp at this; omega
  have k3 : w3.cell? ⟨w.heap.size, 1, none⟩ = some (.slice A xs.length c) := by rw [b3.cell (p := ⟨w.heap.size, 1, none⟩) (by simp; omega)]; exact k2
  have D3 := hid (hc.out.grown B3.out)
  have Y3 := hid (Bytes.grown (w := w2.drew) Y2.out b3)
  clear o3 b3 k2 Y2 B2 D2 T2
  have hsum : addF (ofF X3) xs = Jrn.recSum page n xs := by unfold Jrn.recSum; rw [HX2.out, HX3.out]
  rw [hsum]
  generalize hS : Jrn.recSum page n xs = S
  have HS := hid hS
  obtain ⟨X4, hX4⟩ : ∃ X, X2 ++ Oct.be S.toNat 4 = X := ⟨_, rfl⟩
  have l4 : X4.length = 8 := by rw [← hX4, List.length_append, Oct.be_length, L2.out]
  have HX4 := hid hX4
  have L4 := hid l4
  clear hX4 l4 hS hsum
  obtain ⟨X5, hX5⟩ : ∃ X, Jrn.sect X4 = X := ⟨_, rfl⟩
  have l5 : X5.length = 128 := by rw [← hX5]; unfold Jrn.sect; rw [List.length_append, List.length_replicate, L4.out]
  have HX5 := hid hX5
  have L5 := hid l5
  clear hX5 l5
  go_wp2
  go_region_held3 (fun w' => w'.cell? ⟨w.heap.size, 1, none⟩ = some (.slice A xs.length c))
    (first | exact q6 | exact q5 | exact q4 | go_keep)
    (first
      | (go_at_call 106; refine (put_callsX _ A2 X2 X4 c2 S.toNat 4 _ _ HX4 rfl rfl (by have := S.isLt; omega) (by omega) (by omega) (by rw [L2.out]; decide) ?_).mono ?_; exact (Bytes.grown Y3.out (Below.drew (Below.refl _ _))); rintro e w4 ⟨A4, c4, rfl, o4, b4⟩; have q4 : w4.cell? ⟨w.heap.size, 1, none⟩ = some (.slice A xs.length c) := (b4.cell (p := ⟨w.heap.size, 1, none⟩) z3).trans k3)
      | (go_at_call 143; refine (sector_callsX _ A4 X4 X5 c4 HX5 ?_ ?_).mono ?_; (rw [L4.out]; decide); exact o4.bytes; rintro e w5 ⟨g5, rfl, o5, b5⟩; have q5 : w5.cell? ⟨w.heap.size, 1, none⟩ = some (.slice A xs.length c) := (b5.cell (p := ⟨w.heap.size, 1, none⟩) (World.block_lt_of_cell? _ _ q4)).trans q4)
      | (refine step_append_full elemB (by rfl) (.tmp 25) (.tmp 27) (by rfl) (by rfl) (Rd.own o5) ?_ ?_ (by rfl) (Bytes.rd (Bytes.grown (Bytes.grown (w := w3.drew) D3.out b4) b5)) ?_ ?_ ?_ ?_ ?_ ?_; (simp [L5.out]); decide; (simp); (rw [HL.out]; decide); (rw [HL.out]; decide); (rw [HL.out]; decide); (rw [HL.out]; decide); intro A6 c6 w6 o6 b6; have q6 : w6.cell? ⟨w.heap.size, 1, none⟩ = some (.slice A xs.length c) := (b6.cell (p := ⟨w.heap.size, 1, none⟩) (World.block_lt_of_cell? _ _ q5)).trans q5))
  go_wp2
  go_ret
  have hx : X = X5 ++ xs := by
    rw [← HX.out]; unfold Jrn.recN
    rw [HS.out, HX2.out, HX4.out, HX5.out]
  have s4 : w3.heap.size ≤ w4.heap.size := b4.size
  have e34 : Below w.heap.size w w4 := B3.out.trans ((show Below w3.heap.size w3 w4 from (Below.refl _ _).drew.trans b4).mono B3.out.size)
  have e35 : Below w.heap.size w w5 := e34.trans (b5.mono e34.size)
  have e36 : Below w.heap.size w w6 := e35.trans (b6.mono e35.size)
  have hlen : (X5 ++ xs).length = 128 + xs.length := by rw [List.length_append, L5.out]
  rw [hx]
  refine ⟨A6, c6, by rw [hlen]; rfl, ?_, e36⟩
  unfold OwnB
  rw [hlen, List.map_append]
  exact own_base o6 e35.size
end Go.Proofs.YtbcghggkfnagoaaGreatDoor

namespace Go.Proofs.YtbcghggkfnagoaaGreatDoor
open Go.RowKit Hach

theorem clone2_calls (w : World) (A : Option Addr) (xs : List UInt8) (c : Nat) (hl : xs.length ≤ 1099511627776) (hc : Hid (Bytes w A xs)) :
    Calls Tryz.prog 199 #[.slice A xs.length c] w (RetB w xs) := by
  have heq := fun (w : World) (a : Option Addr) (n c n' c' : Nat) => Lib.run_eql_slice_nil (P := Tryz.prog) w 64 5 a n c n' c' Tryz.underlying64
  cases A with
  | none =>
    have h0 : xs = [] := by
      cases xs with
      | nil => rfl
      | cons x xs => obtain ⟨b, off, h, _⟩ := hc.out 0 (by simp); cases h
    subst h0
    go_enter Tryz.func199, Tryz.ntmps199
    go_wp2
    go_ret
    exact ⟨none, 0, rfl, own_nil _ _ _ _, Below.refl _ _⟩
  | some a =>
    go_enter Tryz.func199, Tryz.ntmps199
    go_wp2_with (at_builtin; refine hold ?_)
    have b1 : Below w.heap.size w (w.alloc (.cells #[] 5)) := (Below.refl _ _).alloc (Nat.le_refl _) _
    have oL := own_lit w w.heap.size 5 0 [] (Nat.le_refl _) (by decide) rfl
    refine hid (wl_append elemB rfl (.tmp 5) (.tmp 6) rfl rfl oL rfl ((hc.out.grown b1).rd) (by simp) (byteCells_one _) (by simp only [maxLen]; omega) (by omega) (by simp) ?_)
    intro A1 k1 w1 o1 g1 _
    have b2 := below_append b1 (Nat.le_refl _) (by simp) oL g1
    clear b1 g1 oL
    simp only [Nat.zero_add, List.nil_append] at o1
    rw [Nat.zero_add]
    have O1 := hid o1
    have B2 := hid b2
    clear o1 b2 heq
    go_wp2
    go_ret
    exact ⟨A1, k1, rfl, O1.out, B2.out⟩

theorem clone2_callsX (w : World) (A : Option Addr) (xs : List UInt8) (c n : Nat) (hn : Hid (xs.length = n)) (hl : n ≤ 1099511627776) (hc : Hid (Bytes w A xs)) :
    Calls Tryz.prog 199 #[.slice A n c] w fun e w' => ∃ A c, e = .returned (.slice A n c) ∧ w'.ownsRow w.heap.size 5 1 (.slice A n c) n (xs.map byteCell) ∧ Below w.heap.size w w' := by
  have := clone2_calls w A xs c (by rw [hn.out]; exact hl) hc
  rw [hn.out] at this
  refine this.mono ?_
  rintro e w' ⟨A, c, he, ho, hb⟩
  unfold OwnB at ho
  rw [hn.out] at he ho
  exact ⟨A, c, he, ho, hb⟩
def str (xs : List UInt8) : ByteArray := ⟨xs.toArray⟩
theorem str_toList (xs : List UInt8) : (str xs).toList = xs := by rw [ByteArray.toList_eq]; rfl
set_option maxRecDepth 100000 in
theorem run_conv (w : World) (A : Option Addr) (xs : List UInt8) (c : Nat) (hl : xs.length ≤ 1099511627776) (h : Bytes w A xs) : (convert 64 9 (.slice A xs.length c)).run Tryz.prog w = .ok (.string (str xs)) w := by
  cases xs with
  | nil =>
    cases A with
    | none => exact run_convert_bytes_nil (P := Tryz.prog) w 64 5 Tryz.underlying64 Tryz.underlying5 0 c 9 Tryz.underlying9
    | some a =>
      rw [run_convert_bytes_string w 64 9 5 _ _ c Tryz.underlying64 Tryz.underlying5 Tryz.underlying9]
      simp [Conv.bytesToString, loadCells, loadCellsFrom, str]
      rfl
  | cons x xs =>
    obtain ⟨b, off, rfl, _⟩ := h 0 (by simp)
    have := run_convert_bytes_arg (P := Tryz.prog) w 64 5 Tryz.underlying64 Tryz.underlying5 b off (x :: xs).length c ((x :: xs).map n8) (by simp) (by
      intro i hi
      obtain ⟨b', off', e, hc⟩ := h i hi
      injection e with e
      injection e with e1 e2 _
      subst e1; subst e2
      rw [hc, List.getD_eq_getElem?_getD, List.getElem?_map, List.getElem?_eq_getElem hi]; rfl) 9 Tryz.underlying9
    rw [this]
    congr 2
    unfold strOfNums str
    congr 1
    rw [List.map_map]
    congr 1
    conv => rhs; rw [← List.map_id (x :: xs)]
    apply List.map_congr_left
    intro y _
    unfold n8
    simp

set_option maxHeartbeats 400000 in
theorem equal_calls (w : World) (A B : Option Addr) (xs ys : List UInt8) (c d : Nat) (hl : xs.length ≤ 1099511627776) (hm : ys.length ≤ 1099511627776) (ha : Hid (Bytes w A xs)) (hb : Hid (Bytes w B ys)) :
    Calls Tryz.prog 198 #[.slice A xs.length c, .slice B ys.length d] w fun e w' => e = .returned (.bool (decide (xs = ys))) ∧ w = w' := by
  have h1 := run_conv w A xs c hl ha.out
  have h2 := run_conv w B ys d hm hb.out
  have h3 : ((str xs).toList == (str ys).toList) = decide (xs = ys) := by
    rw [str_toList, str_toList]
    by_cases h : xs = ys
    · rw [decide_eq_true h, beq_iff_eq]; exact h
    · rw [decide_eq_false h, beq_eq_false_iff_ne]; exact h
  generalize decide (xs = ys) = r at *
  go_enter Tryz.func198, Tryz.ntmps198
  go_wp2
  go_ret
  exact ⟨rfl, rfl⟩

theorem recordBytes_calls (w : World) (ht : Hid (TabOk w)) (page : Int) (n : Nat) (A : Option Addr) (xs : List UInt8) (c : Nat) (hn : Hid ((n : Int) < 18446744073709551616)) (hc : Hid (Bytes w A xs)) :
    Calls Tryz.prog 141 #[.agg #[.int .i64 page, .slice A xs.length c], .int .u64 (n : Int)] w (RetB w (Jrn.recB page n xs)) := by
  unfold Jrn.recB
  cases h : Jrn.recGood page xs with
  | false =>
    exact recordBytes_bad w page n A xs c h
  | true =>
    have hg := h
    unfold Jrn.recGood at hg
    have hg := of_decide_eq_true hg
    obtain ⟨p, rfl⟩ := Int.eq_ofNat_of_zero_le (show 0 ≤ page by omega)
    exact recordBytes_good w ht p n A xs c (by omega) (by omega) hg.2 hn hc

theorem recordBytes_callsX (w : World) (ht : Hid (TabOk w)) (page : Int) (n k : Nat) (A : Option Addr) (xs R : List UInt8) (c : Nat) (hk : Hid (xs.length = k)) (hR : Hid (Jrn.recB page n xs = R)) (hn : Hid ((n : Int) < 18446744073709551616)) (hc : Hid (Bytes w A xs)) :
    Calls Tryz.prog 141 #[.agg #[.int .i64 page, .slice A k c], .int .u64 (n : Int)] w (RetB w R) := by
  have := recordBytes_calls w ht page n A xs c hn hc
  rwa [hk.out, hR.out] at this
theorem equal_callsX (w : World) (A B : Option Addr) (xs ys : List UInt8) (c d k m : Nat) (hk : Hid (xs.length = k)) (hm : Hid (ys.length = m)) (h1 : k ≤ 1099511627776) (h2 : m ≤ 1099511627776) (ha : Hid (Bytes w A xs)) (hb : Hid (Bytes w B ys)) (r : Bool) (hr : Hid (decide (xs = ys) = r)) :
    Calls Tryz.prog 198 #[.slice A k c, .slice B m d] w fun e w' => e = .returned (.bool r) ∧ w = w' := by
  have := equal_calls w A B xs ys c d (by rw [hk.out]; exact h1) (by rw [hm.out]; exact h2) ha hb
  rwa [hk.out, hm.out, hr.out] at this
end Go.Proofs.YtbcghggkfnagoaaGreatDoor

namespace Go.Proofs.YtbcghggkfnagoaaGreatDoor
open Go.RowKit Hach

def RetRec (w : World) (b : List UInt8) (n : Nat) (en : Ending) (w' : World) : Prop :=
  Below w.heap.size w w' ∧
  ((b.length < 640 ∧ en = .returned (.tuple #[.agg #[.int .i64 0, .slice none 0 0], .int .i64 8])) ∨
   (640 ≤ b.length ∧ Jrn.recIs b n = false ∧ en = .returned (.tuple #[.agg #[.int .i64 0, .slice none 0 0], .int .i64 9])) ∨
   (640 ≤ b.length ∧ Jrn.recIs b n = true ∧ ∃ A c, en = .returned (.tuple #[.agg #[.int .i64 (Oct.val (b.take 4) : Int), .slice A 512 c], .int .i64 0]) ∧
      w'.ownsRow w.heap.size 5 1 (.slice A 512 c) 512 (((b.drop 128).take 512).map byteCell)))

set_option maxRecDepth 100000 in
set_option maxHeartbeats 1000000 in
theorem readRecord_short (w : World) (A : Option Addr) (xs : List UInt8) (c n : Nat) (hl : xs.length < 640) :
    Calls Tryz.prog 165 #[.slice A xs.length c, .int .u64 (n : Int)] w (RetRec w xs n) := by
  go_enter Tryz.func165, Tryz.ntmps165
  go_wp2
  refine bodyPost_ret (v := .tuple #[.agg #[.int .i64 0, .slice none 0 0], .int .i64 8]) (by simp [results, Tryz.results165, go_sem]) rfl ⟨(Below.refl _ _).alloc (Nat.le_refl _) _, .inl ⟨hl, rfl⟩⟩

set_option maxRecDepth 100000 in
set_option maxHeartbeats 1000000 in
theorem readRecord_long (w : World) (ht : Hid (TabOk w)) (A : Option Addr) (xs : List UInt8) (c n : Nat) (hl : 640 ≤ xs.length) (hm : xs.length ≤ 1073741824) (hcap : xs.length ≤ c) (hn : Hid ((n : Int) < 18446744073709551616)) (hc : Hid (Bytes w A xs)) :
    Calls Tryz.prog 165 #[.slice A xs.length c, .int .u64 (n : Int)] w (RetRec w xs n) := by
  obtain ⟨b, off, rfl, _⟩ := hc.out 0 (by omega)
  obtain ⟨p, hp⟩ : ∃ p, Oct.val (xs.take 4) = p := ⟨_, rfl⟩
  have hp4 : p < 4294967296 := by
    rw [← hp]; refine Nat.lt_of_lt_of_le (Oct.val_lt _) ?_
    rw [List.length_take, Nat.min_eq_left (by omega)]; decide
  obtain ⟨D, hD⟩ : ∃ D, (xs.drop 128).take 512 = D := ⟨_, rfl⟩
  have lD : D.length = 512 := by rw [← hD, List.length_take, List.length_drop]; omega
  obtain ⟨R, hR⟩ : ∃ R, Jrn.recB p n D = R := ⟨_, rfl⟩
  have lR : R.length ≤ 640 := by rw [← hR]; exact Jrn.recB_length _ _ _
  have hb := hid (show Bytes w (some ⟨b, off + 128, none⟩) D by rw [← hD]; exact hc.out.sub 128 512)
  have HP := hid hp
  have HD := hid hD
  have LD := hid lD
  have HR := hid hR
  have LR := hid lR
  clear hp hD lD hR lR
  have b0 : ∀ o, Below w.heap.size w (w.alloc o) := fun o => (Below.refl _ _).alloc (Nat.le_refl _) o
  have d1 : ¬ (xs.length : Int) < 640 := by omega
  have d2 : (640 : Int) ≤ c := by omega
  have HL := hid hl
  have HM := hid hm
  have P4 := hid hp4
  have p0 : (0 : Int) ≤ p := by omega
  have p1 : (p : Int) < 4294967296 := by omega
  clear hl hm hcap hp4
  go_enter Tryz.func165, Tryz.ntmps165
  go_wp2_with fail
  refine (get_callsX _ (some ⟨b, off, none⟩) xs c 4 p _ rfl HP (by decide) (by decide) (by have := HL.out; omega) (by have := HM.out; omega) (hc.out.grown (b0 _))).mono ?_
  rintro e w' ⟨rfl, rfl⟩
  go_wp2_with fail
  refine (clone2_callsX _ (some ⟨b, off + 128, none⟩) D _ 512 LD (by decide) (hb.out.grown (b0 _))).mono ?_
  rintro e w1 ⟨A1, c1, rfl, o1, b1⟩
  have B1 := hid ((b0 (.cells #[.int .i64 0, .slice none 0 0] 205)).trans (b1.mono (by simp)))
  have z1 : w.heap.size < w1.heap.size := by have := b1.size; simp at this; omega
  have r0 : w1.cell? ⟨w.heap.size, 0, none⟩ = some (.int .i64 0) := by rw [b1.cell (p := ⟨w.heap.size, 0, none⟩) (by simp)]; go_simp
  have r1 : w1.cell? ⟨w.heap.size, 1, none⟩ = some (.slice none 0 0) := by rw [b1.cell (p := ⟨w.heap.size, 1, none⟩) (by simp)]; go_simp
  have rf : ∀ i, w1.frozen? ⟨w.heap.size, i, none⟩ = false := by intro i; rw [b1.frozen (p := ⟨w.heap.size, i, none⟩) (by simp)]; go_simp
  have O1 := hid o1
  clear o1 b1
  go_wp2
  have r0' : (w1.alloc (.cells #[.int .i64 (p : Int), .slice A1 512 c1] 205)).cell? ⟨w.heap.size, 0, none⟩ = some (.int .i64 0) := by rw [World.cell?_alloc_lt _ _ _ z1]; exact r0
  have r1' : (w1.alloc (.cells #[.int .i64 (p : Int), .slice A1 512 c1] 205)).cell? ⟨w.heap.size, 1, none⟩ = some (.slice none 0 0) := by rw [World.cell?_alloc_lt _ _ _ z1]; exact r1
  have rf' : ∀ i, (w1.alloc (.cells #[.int .i64 (p : Int), .slice A1 512 c1] 205)).frozen? ⟨w.heap.size, i, none⟩ = false := by intro i; rw [World.frozen?_alloc_old _ _ _ (by show w.heap.size ≠ w1.heap.size; omega)]; exact rf i
  have q0 : (w1.alloc (.cells #[.int .i64 (p : Int), .slice A1 512 c1] 205)).cell? ⟨w1.heap.size, 0, none⟩ = some (.int .i64 (p : Int)) := by go_simp
  have q1 : (w1.alloc (.cells #[.int .i64 (p : Int), .slice A1 512 c1] 205)).cell? ⟨w1.heap.size, 1, none⟩ = some (.slice A1 512 c1) := by go_simp
  have o2 := O1.out.alloc (.cells #[.int .i64 (p : Int), .slice A1 512 c1] 205)
  have b2 := B1.out.alloc B1.out.size (.cells #[.int .i64 (p : Int), .slice A1 512 c1] 205)
  have zW : w1.heap.size < (w1.alloc (.cells #[.int .i64 (p : Int), .slice A1 512 c1] 205)).heap.size := by simp
  clear r0 r1 rf O1 B1
  generalize w1.alloc (.cells #[.int .i64 (p : Int), .slice A1 512 c1] 205) = W at *
  generalize hg : w1.heap.size = g at *
  have O2 := hid o2
  have B2 := hid b2
  have T2 := hid (ht.out.below' b2)
  have X2 := hid ((hc.out.grown b2).take 640)
  have Y2 := hid (Rd.bytes (Rd.own o2))
  have L6 := hid (show (xs.take 640).length = 640 by have := HL.out; rw [List.length_take]; omega)
  obtain ⟨r, hr⟩ : ∃ r, decide (R = xs.take 640) = r := ⟨_, rfl⟩
  have HR2 := hid hr
  have q0d : W.drew.cell? ⟨g, 0, none⟩ = some (.int .i64 (p : Int)) := q0
  have q1d : W.drew.cell? ⟨g, 1, none⟩ = some (.slice A1 512 c1) := q1
  clear o2 b2 hr hg
  generalize hlr : R.length = lr
  have HLR := hid hlr
  clear hlr
  go_region_held3 (fun w' => w'.cell? ⟨g, 0, none⟩ = some (.int .i64 (p : Int)) ∧ w'.cell? ⟨g, 1, none⟩ = some (.slice A1 512 c1))
    (first | exact ⟨u0, u1⟩ | exact ⟨q0d, q1d⟩ | go_keep)
    (first
      | (go_at_call 141; refine (recordBytes_callsX _ ?_ p n 512 A1 D R c1 LD HR hn ?_).mono ?_; exact (show Hid (TabOk W.drew) from T2); exact (show Hid (Bytes W.drew A1 D) from Y2); rintro e w3 ⟨A3, c3, rfl, o3, b3⟩; have u0 := (b3.cell (p := ⟨g, 0, none⟩) zW).trans q0d; have u1 := (b3.cell (p := ⟨g, 1, none⟩) zW).trans q1d)
      | (go_at_call 198; refine (equal_callsX _ A3 (some ⟨b, off, none⟩) R (xs.take 640) c3 _ R.length 640 rfl L6 ?_ (by decide) ?_ ?_ r HR2).mono ?_; (have := LR.out; omega); exact o3.bytes; exact Bytes.grown (w := W.drew) X2.out b3; rintro e w' ⟨rfl, rfl⟩))
  rename_i K1 h1 K2 h2 hHeld
  have z3 : w.heap.size < W.heap.size := by omega
  have v0 : w3.cell? ⟨w.heap.size, 0, none⟩ = some (.int .i64 0) := (b3.cell (p := ⟨w.heap.size, 0, none⟩) z3).trans r0'
  have v1 : w3.cell? ⟨w.heap.size, 1, none⟩ = some (.slice none 0 0) := (b3.cell (p := ⟨w.heap.size, 1, none⟩) z3).trans r1'
  have vf : ∀ i, w3.frozen? ⟨w.heap.size, i, none⟩ = false := fun i => (b3.frozen (p := ⟨w.heap.size, i, none⟩) z3).trans (rf' i)
  have BB : Below W.heap.size W w3 := (Below.refl _ _).drew.trans b3
  have B3 := hid (B2.out.trans (BB.mono B2.out.size))
  have Z3 := hid z3
  have O3 := hid BB
  have D2 := hid (show ¬ xs.length < 640 by have := HL.out; omega)
  clear o3 b3 BB z3 hHeld r0' r1' rf' q0d q1d q0 q1 z1 zW b0 d1 d2
  clear p0 p1
  cases r
  · show K2 _ _
    refine h2 _ _ ?_
    clear h2 K2
    simp only [Bool.not_false, Bool.not_true]
    go_wp2
    refine bodyPost_ret (v := .tuple #[.agg #[.int .i64 0, .slice none 0 0], .int .i64 9]) (by simp [results, Tryz.results165, go_sem, u0, u1, v0, v1, vf]) rfl ⟨(B3.out.setCell (Nat.le_refl _) _).setCell (Nat.le_refl _) _, .inr (.inl ⟨HL.out, ?_, rfl⟩)⟩
    unfold Jrn.recIs; rw [HP.out, HD.out, HR.out]; exact HR2.out
  · show K2 _ _
    refine h2 _ _ ?_
    clear h2 K2
    simp only [Bool.not_false, Bool.not_true]
    go_wp2
    refine bodyPost_ret (v := .tuple #[.agg #[.int .i64 (p : Int), .slice A1 512 c1], .int .i64 0]) (by simp [results, Tryz.results165, go_sem, u0, u1, v0, v1, vf]) rfl ⟨(B3.out.setCell (Nat.le_refl _) _).setCell (Nat.le_refl _) _, .inr (.inr ⟨HL.out, ?_, A1, c1, by rw [HP.out], ?_⟩)⟩
    · unfold Jrn.recIs; rw [HP.out, HD.out, HR.out]; exact HR2.out
    · rw [HD.out]
      have hs : (w.alloc (Obj.cells #[Value.int IntKind.i64 0, Value.slice none 0 0] 205)).heap.size = w.heap.size + 1 := by simp
      have o := (Fr.of_below O3.out).own O2.out (fun _ _ => id)
      rw [hs] at o
      exact own_base (ownsRow_setCell_below (ownsRow_setCell_below o (Nat.lt_succ_self _) _) (Nat.lt_succ_self _) _) (Nat.le_succ _)

theorem readRecord_calls (w : World) (ht : Hid (TabOk w)) (A : Option Addr) (xs : List UInt8) (c n : Nat) (hm : xs.length ≤ 1073741824) (hcap : xs.length ≤ c) (hn : Hid ((n : Int) < 18446744073709551616)) (hc : Hid (Bytes w A xs)) :
    Calls Tryz.prog 165 #[.slice A xs.length c, .int .u64 (n : Int)] w (RetRec w xs n) := by
  by_cases h : xs.length < 640
  · exact readRecord_short w A xs c n h
  · exact readRecord_long w ht A xs c n (by omega) hm hcap hn hc
theorem readRecord_callsX (w : World) (ht : Hid (TabOk w)) (A : Option Addr) (xs : List UInt8) (c n m : Nat) (hmm : Hid (xs.length = m)) (hm : m ≤ 1073741824) (hcap : m ≤ c) (hn : Hid ((n : Int) < 18446744073709551616)) (hc : Hid (Bytes w A xs)) :
    Calls Tryz.prog 165 #[.slice A m c, .int .u64 (n : Int)] w (RetRec w xs n) := by
  have e := hmm.out
  subst e
  exact readRecord_calls w ht A xs c n hm hcap hn hc
end Go.Proofs.YtbcghggkfnagoaaGreatDoor

namespace Go.Proofs.YtbcghggkfnagoaaGreatDoor
open Go.RowKit Hach

theorem elemR : Elem Tryz.prog 139 205 (.agg #[.int .i64 0, .slice none 0 0]) 2 32 := ⟨Tryz.underlying139, by kernel_rfl, rfl, by decide⟩

def RecsRow (w : World) (base : Nat) : List (Int × List UInt8) → List Value → Prop
  | [], [] => True
  | (p, D) :: l, u :: v :: xs => u = .int .i64 p ∧ (∃ A c, v = .slice A D.length c ∧ OwnB w base A c D) ∧ RecsRow w base l xs
  | _, _ => False

theorem RecsRow.length {w : World} {base : Nat} {l : List (Int × List UInt8)} {xs : List Value} (h : RecsRow w base l xs) : xs.length = l.length * 2 := by
  induction l generalizing xs with
  | nil => cases xs with
    | nil => rfl
    | cons _ _ => exact h.elim
  | cons r l ih => match xs, h with
    | u :: v :: xs, h => simp only [List.length_cons, ih h.2.2]; omega

theorem RecsRow.snoc {w : World} {base : Nat} {l : List (Int × List UInt8)} {xs : List Value} (h : RecsRow w base l xs) (p : Int) (D : List UInt8) (A : Option Addr) (c : Nat) (o : OwnB w base A c D) :
    RecsRow w base (l ++ [(p, D)]) (xs ++ [.int .i64 p, .slice A D.length c]) := by
  induction l generalizing xs with
  | nil => cases xs with
    | nil => exact ⟨rfl, ⟨A, c, rfl, o⟩, trivial⟩
    | cons _ _ => exact h.elim
  | cons r l ih => match xs, h with
    | u :: v :: xs, h => exact ⟨h.1, h.2.1, ih h.2.2⟩

theorem RecsRow.keep {w w' : World} {base : Nat} {l : List (Int × List UInt8)} {xs : List Value} (h : RecsRow w base l xs) (hk : ∀ A c D, OwnB w base A c D → OwnB w' base A c D) : RecsRow w' base l xs := by
  induction l generalizing xs with
  | nil => cases xs with
    | nil => trivial
    | cons _ _ => exact h.elim
  | cons r l ih => match xs, h with
    | u :: v :: xs, h => obtain ⟨A, c, hv, o⟩ := h.2.1; exact ⟨h.1, ⟨A, c, hv, hk _ _ _ o⟩, ih h.2.2⟩

theorem OwnB.keep {w w' : World} {base : Nat} {A : Option Addr} {c : Nat} {D : List UInt8} (o : OwnB w base A c D) {S : Nat → Prop} (hf : Fr S w w') (hS : ∀ k cur fr, w.heap[k]? = some (.cells cur 5 fr) → ¬ S k) : OwnB w' base A c D := by
  refine hf.own o ?_
  intro k hk
  rcases o.2 with ⟨hv, _⟩ | ⟨g, cap, cur, hv, hb, hg, _⟩
  · injection hv with hv _ _; subst hv; cases hk
  · injection hv with hv _ _; subst hv; obtain rfl : g = k := by simpa [Value.ownBlock] using hk
    exact hS _ _ _ hg

theorem row_other {w : World} {base : Nat} {e : TypeId} {size n : Nat} {v : Value} {xs : List Value} (h : w.ownsRow base e size v n xs) (he : e ≠ 5) : ∀ k cur fr, w.heap[k]? = some (.cells cur 5 fr) → ¬ some k = v.ownBlock := by
  intro k cur fr hk e'
  rcases h.2 with ⟨rfl, _⟩ | ⟨g, cap, cur', rfl, _, hg, _⟩
  · cases e'
  · obtain rfl : k = g := by simpa [Value.ownBlock] using e'
    rw [hk] at hg
    injection hg with hg
    injection hg with _ h2 _
    exact he h2.symm

theorem RecsRow.get {w : World} {base : Nat} {l : List (Int × List UInt8)} {xs : List Value} (h : RecsRow w base l xs) (i : Nat) (hi : i < l.length) :
    xs[i * 2]? = some (.int .i64 l[i].1) ∧ ∃ A c, xs[i * 2 + 1]? = some (.slice A l[i].2.length c) ∧ OwnB w base A c l[i].2 := by
  induction l generalizing xs i with
  | nil => simp at hi
  | cons r l ih => match xs, h with
    | u :: v :: xs, h =>
      cases i with
      | zero => obtain ⟨h1, ⟨A, c, h2, o⟩, _⟩ := h; subst h1; subst h2; exact ⟨rfl, A, c, rfl, o⟩
      | succ i =>
        have := ih h.2.2 i (by simpa using hi)
        rw [Nat.succ_mul]
        simpa using this

def seedData (s : Int × UInt8 × Bool) : List UInt8 := List.replicate (if s.2.2 = true then 3 else 512) s.2.1
def seedRec (s : Int × UInt8 × Bool) : Int × List UInt8 := (s.1, seedData s)
def seedCells (l : List (Int × UInt8 × Bool)) : List Value := l.flatMap fun s => [.int .i64 s.1, .int .u8 (n8 s.2.1), .bool s.2.2]
end Go.Proofs.YtbcghggkfnagoaaGreatDoor

namespace Hach.Jrn
def goodL (pages : Int) : Int → List (Int × List UInt8) → Bool
  | _, [] => true
  | last, (p, D) :: l => (recGood p D && decide (last < p) && decide (p ≤ pages)) && goodL pages p l
def goodJ (c p : Int) (l : List (Int × List UInt8)) : Bool := (decide (c = l.length) && decide (0 ≤ c ∧ c ≤ 4000) && decide (0 ≤ p ∧ p ≤ 4000)) && goodL p 0 l
end Hach.Jrn
namespace Go.Proofs.YtbcghggkfnagoaaGreatDoor
open Go.RowKit Hach

def RecsRd (w : World) (A : Option Addr) (l : List (Int × List UInt8)) : Prop :=
  ∀ i (h : i < l.length), ∃ b off Ai ci, A = some ⟨b, off, none⟩ ∧ w.cell? ⟨b, off + i * 2, none⟩ = some (.int .i64 l[i].1) ∧ w.cell? ⟨b, off + i * 2 + 1, none⟩ = some (.slice Ai l[i].2.length ci) ∧ Bytes w Ai l[i].2

theorem RecsRd.grown {w w' : World} {A : Option Addr} {l : List (Int × List UInt8)} (h : RecsRd w A l) (hb : Below w.heap.size w w') : RecsRd w' A l := by
  intro i hi
  obtain ⟨b, off, Ai, ci, e, h1, h2, h3⟩ := h i hi
  have hlt := World.block_lt_of_cell? _ _ h1
  exact ⟨b, off, Ai, ci, e, (hb.cell (p := ⟨b, off + i * 2, none⟩) hlt).trans h1, (hb.cell (p := ⟨b, off + i * 2 + 1, none⟩) hlt).trans h2, h3.grown hb⟩

theorem RecsRow.rd {w : World} {base : Nat} {e : TypeId} {A : Option Addr} {n c : Nat} {l : List (Int × List UInt8)} {xs : List Value} (ho : w.ownsRow base e 2 (.slice A n c) n xs) (hr : RecsRow w base l xs) : RecsRd w A l := by
  intro i hi
  obtain ⟨h1, Ai, ci, h2, o⟩ := hr.get i hi
  have rd := Rd.own ho
  obtain ⟨b, off, e1, q1⟩ := rd _ _ h1
  obtain ⟨b', off', e2, q2⟩ := rd _ _ h2
  rw [e1] at e2
  injection e2 with e2; injection e2 with e2 e3; subst e2; subst e3
  exact ⟨b, off, Ai, ci, e1, q1, q2, o.bytes⟩

set_option maxRecDepth 100000 in
set_option maxHeartbeats 1000000 in
theorem good_callsJ (w : World) (c p n : Int) (A : Option Addr) (l : List (Int × List UInt8)) (cap : Nat) (hl : Hid (l.length ≤ 1000000)) (hr : Hid (RecsRd w A l)) :
    Calls Tryz.prog 140 #[.agg #[.int .i64 c, .int .i64 p, .int .u64 n], .slice A l.length cap] w fun e w' => e = .returned (.bool (Jrn.goodJ c p l)) ∧ Below w.heap.size w w' := by
  obtain ⟨G, hG⟩ : ∃ G, Jrn.goodJ c p l = G := ⟨_, rfl⟩
  rw [hG]
  have HG := hid hG
  clear hG
  have hb : ∀ o, Below w.heap.size w (w.alloc o) := fun o => (Below.refl _ _).alloc (Nat.le_refl _) o
  by_cases h1 : c = l.length
  · subst h1
    by_cases h2 : 0 ≤ (l.length : Int) ∧ (l.length : Int) ≤ 4000
    · have d2 : decide (0 ≤ (l.length : Int) ∧ (l.length : Int) ≤ 4000) = true := decide_eq_true h2
      have H2 := hid h2
      clear h2
      by_cases h3 : 0 ≤ p ∧ p ≤ 4000
      · have d3 : decide (0 ≤ p ∧ p ≤ 4000) = true := decide_eq_true h3
        have hG : Jrn.goodL p 0 l = G := by rw [← HG.out]; unfold Jrn.goodJ; rw [decide_eq_true rfl, decide_eq_true H2.out, decide_eq_true h3]; rfl
        have HG2 := hid hG
        clear h3 HG H2 hG
        go_enter Tryz.func140, Tryz.ntmps140
        go_wp2_with fail
        refine (within_calls (l.length : Int) _).mono ?_
        rw [d2]
        rintro e w' ⟨rfl, rfl⟩
        go_wp2_with fail
        refine (within_calls p _).mono ?_
        rw [d3]
        rintro e w' ⟨rfl, rfl⟩
        clear d2 d3
        go_wp2
        have q1 : (w.alloc (Obj.cells #[Value.int IntKind.i64 (l.length : Int), Value.int IntKind.i64 p, Value.int IntKind.u64 n] 144)).cell? ⟨w.heap.size, 1, none⟩ = some (.int .i64 p) := by go_simp
        have b0 := hb (Obj.cells #[Value.int IntKind.i64 (l.length : Int), Value.int IntKind.i64 p, Value.int IntKind.u64 n] 144)
        have zW : w.heap.size < (w.alloc (Obj.cells #[Value.int IntKind.i64 (l.length : Int), Value.int IntKind.i64 p, Value.int IntKind.u64 n] 144)).heap.size := by simp
        have rW := hid (hr.out.grown b0)
        generalize w.alloc (Obj.cells #[Value.int IntKind.i64 (l.length : Int), Value.int IntKind.i64 p, Value.int IntKind.u64 n] 144) = W at *
        have B0 := hid b0
        clear b0 hb hr
        go_loopw [5, 27] (fun v i wr => ∃ (k : Nat) (x : Int), k ≤ l.length ∧ v = .int .i64 x ∧ i = .int .i64 k ∧ Hid (Jrn.goodL p x (l.drop k) = G) ∧ Hid (Below W.heap.size W wr)) (fun _ i _ => l.length - (intOf i).toNat)
        case atStart => exact ⟨0, 0, Nat.zero_le _, rfl, rfl, HG2, hid (Below.refl _ _)⟩
        case round =>
          obtain ⟨k, x, hk, rfl, rfl, hg, bw⟩ := hrel
          by_cases hlt : (k : Int) < l.length
          · have hkl : k < l.length := by omega
            obtain ⟨b, off, Ai, ci, rfl, r1, r2, _⟩ := (rW.out.grown bw.out) k hkl
            have r3 : wr.cell? ⟨w.heap.size, 1, none⟩ = some (.int .i64 p) := (bw.out.cell (p := ⟨w.heap.size, 1, none⟩) zW).trans q1
            have hd : l.drop k = l[k] :: l.drop (k + 1) := List.drop_eq_getElem_cons hkl
            have hg1 := hg.out
            rw [hd] at hg1
            generalize l[k] = r at *
            obtain ⟨pg, D⟩ := r
            simp only at r1 r2
            have hgs : ((Jrn.recGood pg D && decide (x < pg) && decide (pg ≤ p)) && Jrn.goodL p pg (l.drop (k + 1))) = G := hg1
            obtain ⟨v, hv⟩ : ∃ v, Jrn.recGood pg D = v := ⟨_, rfl⟩
            rw [hv] at hgs
            have HGS := hid hgs
            have HK := hid hkl
            clear hg hg1 hd hgs HG2 hkl
            have sz := bw.out.size
            go_wp2_with fail
            refine (good_calls _ pg Ai D.length ci).mono ?_
            rw [show decide ((1 ≤ pg ∧ pg ≤ 4000) ∧ D.length = 512) = v from hv]
            rintro e w2 ⟨rfl, b2⟩
            have b3 : Below wr.heap.size wr w2 := ((Below.refl _ _).alloc (Nat.le_refl _) _).trans (b2.mono (by simp))
            have r4 : w2.cell? ⟨w.heap.size, 1, none⟩ = some (.int .i64 p) := (b3.cell (p := ⟨w.heap.size, 1, none⟩) (by show w.heap.size < wr.heap.size; omega)).trans r3
            have r5 : w2.cell? ⟨wr.heap.size, 0, none⟩ = some (.int .i64 pg) := by rw [b2.cell (p := ⟨wr.heap.size, 0, none⟩) (by simp)]; go_simp
            have BW := hid (bw.out.trans (b3.mono bw.out.size))
            clear b2 b3 bw hv r1 r2 r3
            cases v with
            | false =>
              have hG : false = G := by rw [← HGS.out]; rfl
              subst hG
              simp only [Bool.not_false, Bool.not_true]
              go_wp2
              go_ret
              exact ⟨rfl, B0.out.trans (BW.out.mono B0.out.size)⟩
            | true =>
              simp only [Bool.not_false, Bool.not_true]
              by_cases hx : pg ≤ x
              · have hG : false = G := by rw [← HGS.out, decide_eq_false (show ¬ x < pg by omega)]; rfl
                subst hG
                go_wp2
                go_ret
                exact ⟨rfl, B0.out.trans (BW.out.mono B0.out.size)⟩
              · by_cases hp : p < pg
                · have hG : false = G := by rw [← HGS.out, decide_eq_false (show ¬ pg ≤ p by omega), Bool.and_false]; rfl
                  subst hG
                  go_wp2
                  go_ret
                  exact ⟨rfl, B0.out.trans (BW.out.mono B0.out.size)⟩
                · have hG : Jrn.goodL p pg (l.drop (k + 1)) = G := by rw [← HGS.out, decide_eq_true (show x < pg by omega), decide_eq_true (show pg ≤ p by omega)]; rfl
                  have HG3 := hid hG
                  clear hG HGS
                  go_wp2
                  go_roundw
                  case rel => exact ⟨k + 1, pg, HK.out, rfl, (by have := hl.out; have := HK.out; rw [show wrap64 ((k : Int) + 1) = ((k + 1 : Nat) : Int) by unfold wrap64; omega]), HG3, BW⟩
                  case measure => have := hl.out; have := HK.out; rw [show wrap64 ((k : Int) + 1) = ((k + 1 : Nat) : Int) by unfold wrap64; omega]; simp only [intOf]; omega
          · obtain rfl : k = l.length := by omega
            have hG : true = G := by rw [← hg.out, List.drop_length]; rfl
            subst hG
            go_wp2
            go_ret
            exact ⟨rfl, B0.out.trans (bw.out.mono B0.out.size)⟩
      · have d3 : decide (0 ≤ p ∧ p ≤ 4000) = false := decide_eq_false h3
        have hG : G = false := by rw [← HG.out]; unfold Jrn.goodJ; rw [decide_eq_false h3]; simp
        subst hG
        clear h3 HG H2
        go_enter Tryz.func140, Tryz.ntmps140
        go_wp2_with fail
        refine (within_calls (l.length : Int) _).mono ?_
        rw [d2]
        rintro e w' ⟨rfl, rfl⟩
        go_wp2_with fail
        refine (within_calls p _).mono ?_
        rw [d3]
        rintro e w' ⟨rfl, rfl⟩
        clear d2 d3
        go_wp2
        go_ret
        exact ⟨rfl, hb _⟩
    · have d2 : decide (0 ≤ (l.length : Int) ∧ (l.length : Int) ≤ 4000) = false := decide_eq_false h2
      have hG : G = false := by rw [← HG.out]; unfold Jrn.goodJ; rw [decide_eq_false h2]; simp
      subst hG
      clear h2 HG
      go_enter Tryz.func140, Tryz.ntmps140
      go_wp2_with fail
      refine (within_calls (l.length : Int) _).mono ?_
      rw [d2]
      rintro e w' ⟨rfl, rfl⟩
      clear d2
      go_wp2
      go_ret
      exact ⟨rfl, hb _⟩
  · have hG : G = false := by rw [← HG.out]; unfold Jrn.goodJ; rw [decide_eq_false h1]; rfl
    subst hG
    go_enter Tryz.func140, Tryz.ntmps140
    go_wp2
    go_ret
    exact ⟨rfl, hb _⟩
end Go.Proofs.YtbcghggkfnagoaaGreatDoor

namespace Hach.Jrn
def recsB (n : Nat) (l : List (Int × List UInt8)) : List UInt8 := l.flatMap fun r => recB r.1 n r.2
def bytesJ (c p : Int) (n : Nat) (l : List (Int × List UInt8)) (b : Bool) : List UInt8 := if goodJ c p l then headB c p n b ++ recsB n l else []
theorem goodL_all {p x : Int} {l : List (Int × List UInt8)} (h : goodL p x l = true) : ∀ r ∈ l, recGood r.1 r.2 = true := by
  induction l generalizing x with
  | nil => intro r hr; simp at hr
  | cons a l ih =>
    obtain ⟨q, D⟩ := a
    simp only [goodL, Bool.and_eq_true] at h
    intro r hr
    rcases List.mem_cons.1 hr with rfl | hr
    · exact h.1.1.1
    · exact ih h.2 r hr
theorem recB_length_good {p : Int} {n : Nat} {D : List UInt8} (h : recGood p D = true) : (recB p n D).length = 640 := by
  unfold recB
  rw [h, if_pos rfl]
  exact (recN_isR p.toNat n D (of_decide_eq_true h).2).1
theorem headB_length {c p : Int} {n : Nat} {b : Bool} (hc : 0 ≤ c ∧ c ≤ 4000) (hp : 0 ≤ p ∧ p ≤ 4000) : (headB c p n b).length = 128 := by
  have h : (headN c.toNat p.toNat n).length = 128 := by
    unfold headN sect
    rw [List.length_append, List.length_replicate]
    have : (headW c.toNat p.toNat n ++ Oct.be (Crc.ofF (headW c.toNat p.toNat n)).toNat 4).length = 26 := by
      unfold headW; simp only [List.length_append, Oct.be_length]; rfl
    omega
  unfold headB
  rw [if_pos ⟨hc, hp⟩]
  split
  · rw [List.length_set]; exact h
  · exact h
end Hach.Jrn
namespace Go.Proofs.YtbcghggkfnagoaaGreatDoor
open Go.RowKit Hach

def RetRd (w : World) (X : List UInt8) (en : Ending) (w' : World) : Prop := ∃ A c, en = .returned (.slice A X.length c) ∧ X.length ≤ c ∧ Bytes w' A X ∧ Below w.heap.size w w'

theorem headBytes_calls (w : World) (ht : Hid (TabOk w)) (c p : Int) (n : Nat) (b : Bool) (hn : Hid ((n : Int) < 18446744073709551616)) :
    Calls Tryz.prog 92 #[.agg #[.int .i64 c, .int .i64 p, .int .u64 (n : Int)], .bool b] w (RetE 172 w (Jrn.headB c p n b)) := by
  unfold Jrn.headB
  by_cases h : (0 ≤ c ∧ c ≤ 4000) ∧ (0 ≤ p ∧ p ≤ 4000)
  · rw [if_pos h]
    have := headBytes_good w ht c.toNat p.toNat n b (by omega) (by omega) hn
    rwa [Int.toNat_of_nonneg h.1.1, Int.toNat_of_nonneg h.2.1] at this
  · rw [if_neg h]
    exact headBytes_bad w c p n b h

def RetTy (w : World) (X : List UInt8) (en : Ending) (w' : World) : Prop := ∃ A c e, en = .returned (.slice A X.length c) ∧ (e = 5 ∨ e = 172) ∧ w'.ownsRow w.heap.size e 1 (.slice A X.length c) X.length (X.map byteCell) ∧ Below w.heap.size w w'
theorem RetTy.rd {w w' : World} {X : List UInt8} {en : Ending} (h : RetTy w X en w') : RetRd w X en w' := by
  obtain ⟨A, c, e, h1, h2, h3, h4⟩ := h
  obtain ⟨_, _, he, hle⟩ := own_form h3
  injection he with _ _ he
  exact ⟨A, c, h1, by omega, Rd.bytes (Rd.own h3), h4⟩

def BytesInv (z0 : Nat) (w2 wr : World) (X : List UInt8) (n : Nat) (l : List (Int × List UInt8)) (k m : Nat) (A' : Option Addr) (c' : Nat) : Prop :=
  ∃ Y, Y = X ++ Jrn.recsB n (l.take k) ∧ (Y.length = m ∧ m = 128 + 640 * k) ∧ m ≤ c' ∧ Bytes wr A' Y ∧ ((m = 128 ∧ c' = 128 ∧ wr.ownsRow z0 172 1 (.slice A' 128 128) 128 (Y.map byteCell)) ∨ wr.ownsRow w2.heap.size 5 1 (.slice A' m c') m (Y.map byteCell))

set_option maxRecDepth 100000 in
set_option maxHeartbeats 1000000 in
theorem bytesT_calls (w : World) (ht : Hid (TabOk w)) (c p : Int) (n : Nat) (b : Bool) (A : Option Addr) (l : List (Int × List UInt8)) (cap : Nat) (hl : Hid (l.length ≤ 1000000)) (hn : Hid ((n : Int) < 18446744073709551616)) (hr : Hid (RecsRd w A l)) :
    Calls Tryz.prog 91 #[.agg #[.int .i64 c, .int .i64 p, .int .u64 (n : Int)], .slice A l.length cap, .bool b] w (RetTy w (Jrn.bytesJ c p n l b)) := by
  obtain ⟨G, hG⟩ : ∃ G, Jrn.goodJ c p l = G := ⟨_, rfl⟩
  obtain ⟨Z, hZ⟩ : ∃ Z, Jrn.bytesJ c p n l b = Z := ⟨_, rfl⟩
  rw [hZ]
  unfold Jrn.bytesJ at hZ
  rw [hG] at hZ
  have HG := hid hG
  have HZ := hid hZ
  clear hG hZ
  have hb : ∀ o, Below w.heap.size w (w.alloc o) := fun o => (Below.refl _ _).alloc (Nat.le_refl _) o
  go_enter Tryz.func91, Tryz.ntmps91
  go_wp2_with fail
  refine (good_callsJ _ c p n A l cap hl (hid (hr.out.grown (hb _)))).mono ?_
  rw [HG.out]
  rintro e w1 ⟨rfl, b1⟩
  have k0 : w1.cell? ⟨w.heap.size, 0, none⟩ = some (.int .i64 c) := by rw [b1.cell (p := ⟨w.heap.size, 0, none⟩) (by simp)]; go_simp
  have k1 : w1.cell? ⟨w.heap.size, 1, none⟩ = some (.int .i64 p) := by rw [b1.cell (p := ⟨w.heap.size, 1, none⟩) (by simp)]; go_simp
  have k2 : w1.cell? ⟨w.heap.size, 2, none⟩ = some (.int .u64 (n : Int)) := by rw [b1.cell (p := ⟨w.heap.size, 2, none⟩) (by simp)]; go_simp
  have B1 := hid ((hb (.cells #[.int .i64 c, .int .i64 p, .int .u64 (n : Int)] 144)).trans (b1.mono (by simp)))
  have z1 : w.heap.size < w1.heap.size := by have := b1.size; simp at this; omega
  clear b1 hb
  cases G with
  | false =>
    simp only [Bool.not_false, Bool.not_true]
    go_wp2
    go_ret
    have hz : Z = [] := HZ.out.symm
    rw [hz]
    exact ⟨none, 0, 5, rfl, .inl rfl, own_nil _ _ _ _, B1.out⟩
  | true =>
    simp only [Bool.not_false, Bool.not_true]
    have hz : Jrn.headB c p n b ++ Jrn.recsB n l = Z := HZ.out
    have hgj := HG.out
    unfold Jrn.goodJ at hgj
    simp only [Bool.and_eq_true, decide_eq_true_eq] at hgj
    obtain ⟨⟨⟨hcl, hc⟩, hp⟩, hgl⟩ := hgj
    clear hcl
    have hall := Jrn.goodL_all hgl
    have HALL := hid hall
    have lH := Jrn.headB_length (c := c) (p := p) (n := n) (b := b) hc hp
    obtain ⟨X, hX⟩ : ∃ X, Jrn.headB c p n b = X := ⟨_, rfl⟩
    rw [hX] at lH hz
    have HZ2 := hid hz
    have HX := hid hX
    have LH := hid lH
    clear hX lH hall hgl hc hp HG HZ hz
    go_wp2_with fail
    refine (headBytes_calls w1 (hid (ht.out.below' B1.out)) c p n b hn).mono ?_
    rw [HX.out]
    rintro e w2 ⟨A2, c2, ⟨rfl, hc2⟩, o2, b2⟩
    have k2' : w2.cell? ⟨w.heap.size, 2, none⟩ = some (.int .u64 (n : Int)) := (b2.cell (p := ⟨w.heap.size, 2, none⟩) z1).trans k2
    have B2 := hid (B1.out.trans (b2.mono B1.out.size))
    have R2 := hid (hr.out.grown B2.out)
    have z2 : w.heap.size < w2.heap.size := by have := b2.size; omega
    have Y2 := hid (Rd.bytes (Rd.own o2))
    have hz0 := B1.out.size
    have O2 := hid (own_base o2 (base' := w.heap.size) (by omega))
    obtain ⟨z0, hz0'⟩ : ∃ z, w.heap.size = z := ⟨_, rfl⟩
    have HZ0 := hid hz0'
    have OO2 : Hid (w2.ownsRow z0 172 1 (.slice A2 X.length c2) X.length (X.map byteCell)) := hid (by rw [← hz0']; exact O2.out)
    clear hz0 hz0' O2
    have T2 := hid (ht.out.below' B2.out)
    rw [LH.out] at hc2 ⊢
    rw [LH.out] at OO2
    subst hc2
    clear o2 b2 k0 k1 k2 B1 z1
    go_wp2
    go_loopw [7, 19] (fun v i wr => ∃ (k m : Nat) (A' : Option Addr) (c' : Nat), k ≤ l.length ∧ v = .slice A' m c' ∧ i = .int .i64 k ∧ Hid (BytesInv z0 w2 wr X n l k m A' c') ∧ Hid (Below w2.heap.size w2 wr)) (fun _ i _ => l.length - (intOf i).toNat)
    case atStart => exact ⟨0, 128, A2, 128, Nat.zero_le _, rfl, rfl, hid ⟨X, by simp [Jrn.recsB], ⟨LH.out, rfl⟩, Nat.le_refl _, Y2.out, .inl ⟨rfl, rfl, OO2.out⟩⟩, hid (Below.refl _ _)⟩
    case round =>
      obtain ⟨k, m, A', c', hk, rfl, rfl, iv, bw⟩ := hrel
      by_cases hlt : (k : Int) < l.length
      · have hkl : k < l.length := by omega
        obtain ⟨b0, off, Ai, ci, rfl, r1, r2, hB⟩ := (R2.out.grown bw.out) k hkl
        have r3 : wr.cell? ⟨w.heap.size, 2, none⟩ = some (.int .u64 (n : Int)) := (bw.out.cell (p := ⟨w.heap.size, 2, none⟩) z2).trans k2'
        have hgk := HALL.out l[k] (List.getElem_mem hkl)
        have hts : l.take (k + 1) = l.take k ++ [l[k]] := List.take_succ_eq_append_getElem hkl
        generalize l[k] = r at *
        obtain ⟨pg, D⟩ := r
        simp only at r1 r2 hB hgk
        have HT := hid hts
        have lR := Jrn.recB_length_good (n := n) hgk
        obtain ⟨R, hR⟩ : ∃ R, Jrn.recB pg n D = R := ⟨_, rfl⟩
        rw [hR] at lR
        have HR := hid hR
        have LR := hid lR
        have HK := hid hkl
        have sz := bw.out.size
        have hb0 : Below wr.heap.size wr (wr.alloc (.cells #[.int .i64 pg, .slice Ai D.length ci] 205)) := (Below.refl _ _).alloc (Nat.le_refl _) _
        have HB := hid (hB.grown hb0)
        have HW := hid hb0
        have TW := hid ((T2.out.below' bw.out).below' hb0)
        clear hts hgk lR hR hB hkl hb0
        go_wp2_with (with_reducible refine hold_at 24 ?_)
        have f0 : (wr.alloc (.cells #[.int .i64 pg, .slice Ai D.length ci] 205)).cell? ⟨wr.heap.size, 0, none⟩ = some (.int .i64 pg) := by go_simp
        have f1 : (wr.alloc (.cells #[.int .i64 pg, .slice Ai D.length ci] 205)).cell? ⟨wr.heap.size, 1, none⟩ = some (.slice Ai D.length ci) := by go_simp
        have f2 : (wr.alloc (.cells #[.int .i64 pg, .slice Ai D.length ci] 205)).cell? ⟨w.heap.size, 2, none⟩ = some (.int .u64 (n : Int)) := (HW.out.cell (p := ⟨w.heap.size, 2, none⟩) (by show w.heap.size < wr.heap.size; omega)).trans r3
        have fz := HW.out.size
        generalize wr.alloc (.cells #[.int .i64 pg, .slice Ai D.length ci] 205) = W1 at *
        generalize hdl : D.length = dl at *
        have HDL := hid hdl
        clear r1 r2 r3 hlt hk hdl
        refine hid ?_
        go_wp2_with fail
        refine (recordBytes_callsX _ TW pg n dl Ai D R ci HDL HR hn HB).mono ?_
        rintro e w3 ⟨A3, c3, rfl, o3, b3⟩
        unfold OwnB at o3
        rw [LR.out] at o3 ⊢
        have O3 := hid o3
        have B3 := hid (HW.out.trans (b3.mono HW.out.size))
        have z3 := B3.out.size
        obtain ⟨Y, e1, e2, e3, e4, hor⟩ := iv.out
        have E1 := hid e1
        have E2 := hid e2
        have E3 := hid e3
        have E4 := hid (e4.grown B3.out)
        have HOR := hid hor
        have BW := hid bw.out
        have EX : Hid (Y ++ R = X ++ Jrn.recsB n (l.take (k + 1))) := hid (by
          rw [e1, HT.out, Jrn.recsB, Jrn.recsB, List.flatMap_append, List.append_assoc]
          congr 2
          rw [List.flatMap_cons, List.flatMap_nil, List.append_nil]; exact HR.out.symm)
        clear e1 e2 e3 e4 hor iv bw o3 b3 f0 f1 f2 HB HW TW
        go_wp2_with (at_builtin; refine hold ?_)
        rcases HOR.out with ⟨rfl, rfl, _⟩ | oY
        · refine hid (wl_append_full elemB rfl (.tmp 23) (.tmp 27) rfl rfl E4.out.rd (by rw [List.length_map]; exact E2.out.1) (by omega) rfl (Rd.own O3.out) (by rw [List.length_map]; exact LR.out) (by omega) (by omega) (by simp only [maxLen]; omega) (by omega) ?_)
          intro A4 c4 w4 o4 b4
          have NI : Hid (BytesInv z0 w2 w4 X n l (k + 1) 768 A4 c4) := by
            have hm : (Y ++ R).map byteCell = Y.map byteCell ++ R.map byteCell := List.map_append
            have o4' : w4.ownsRow w2.heap.size 5 1 (.slice A4 768 c4) 768 ((Y ++ R).map byteCell) := by rw [hm]; exact own_base o4 (by omega)
            obtain ⟨_, _, he, hle⟩ := own_form o4'
            injection he with _ _ he
            refine hid ⟨Y ++ R, EX.out, ⟨by rw [List.length_append, E2.out.1, LR.out], by have := E2.out.2; omega⟩, by omega, Rd.bytes (Rd.own o4'), .inr o4'⟩
          have BN := hid (BW.out.trans (B3.out.mono sz |>.trans (b4.mono (by omega))))
          clear o4 b4 B3 O3 E4 BW
          go_wp2
          go_roundw
          case rel => exact ⟨k + 1, 768, A4, c4, HK.out, rfl, (by have := hl.out; have := HK.out; rw [show wrap64 ((k : Int) + 1) = ((k + 1 : Nat) : Int) by unfold wrap64; omega]), NI, BN⟩
          case measure => have := hl.out; have := HK.out; rw [show wrap64 ((k : Int) + 1) = ((k + 1 : Nat) : Int) by unfold wrap64; omega]; simp only [intOf]; omega
        · have oY3 := Fr.own (Fr.of_below B3.out) oY (fun _ _ => id)
          refine hid (wl_append elemB rfl (.tmp 23) (.tmp 27) rfl rfl oY3 rfl (Rd.own O3.out) (by rw [List.length_map]; exact LR.out) (byteCells_one _) (by have := hl.out; have := HK.out; have := E2.out.2; simp only [maxLen]; omega) (by have := hl.out; have := HK.out; have := E2.out.2; omega) (by omega) ?_)
          intro A4 c4 w4 o4 g4 _
          have NI : Hid (BytesInv z0 w2 w4 X n l (k + 1) (m + 640) A4 c4) := by
            have hm : (Y ++ R).map byteCell = Y.map byteCell ++ R.map byteCell := List.map_append
            have o4' : w4.ownsRow w2.heap.size 5 1 (.slice A4 (m + 640) c4) (m + 640) ((Y ++ R).map byteCell) := by rw [hm]; exact o4
            obtain ⟨_, _, he, hle⟩ := own_form o4'
            injection he with _ _ he
            refine hid ⟨Y ++ R, EX.out, ⟨by rw [List.length_append, E2.out.1, LR.out], by have := E2.out.2; omega⟩, by omega, Rd.bytes (Rd.own o4'), .inr o4'⟩
          have BN := hid (below_append (BW.out.trans (B3.out.mono sz)) (Nat.le_refl _) (by omega) oY3 g4)
          clear o4 g4 oY oY3 B3 O3 E4 BW HOR
          go_wp2
          go_roundw
          case rel => exact ⟨k + 1, m + 640, A4, c4, HK.out, rfl, (by have := hl.out; have := HK.out; rw [show wrap64 ((k : Int) + 1) = ((k + 1 : Nat) : Int) by unfold wrap64; omega]), NI, BN⟩
          case measure => have := hl.out; have := HK.out; rw [show wrap64 ((k : Int) + 1) = ((k + 1 : Nat) : Int) by unfold wrap64; omega]; simp only [intOf]; omega
      · obtain rfl : k = l.length := by omega
        obtain ⟨Y, e1, e2, e3, e4, hor⟩ := iv.out
        have hz : Z = Y := by rw [← HZ2.out, e1, List.take_length]
        subst hz
        have E2 := hid e2.1
        have E3 := hid e3
        have OW : Hid (∃ e, (e = 5 ∨ e = 172) ∧ wr.ownsRow w.heap.size e 1 (.slice A' m c') m (Z.map byteCell)) := hid (by
          rcases hor with ⟨rfl, rfl, o⟩ | o
          · exact ⟨_, .inr rfl, by rw [HZ0.out]; exact o⟩
          · exact ⟨_, .inl rfl, own_base o B2.out.size⟩)
        clear e1 e2 e3 e4 iv hor
        go_wp2
        go_ret
        obtain ⟨ee, o1, o2⟩ := OW.out
        exact ⟨A', c', ee, by rw [E2.out]; rfl, o1, by rw [E2.out]; exact o2, B2.out.trans (bw.out.mono B2.out.size)⟩
end Go.Proofs.YtbcghggkfnagoaaGreatDoor

namespace Hach.Jrn
open Hach.Oct Hach.Crc
def hdC (b : List UInt8) : Nat := val ((b.drop 6).take 4)
def hdP (b : List UInt8) : Nat := val ((b.drop 10).take 4)
def hdN (b : List UInt8) : Nat := val ((b.drop 14).take 8)
def headIs (b : List UInt8) : Bool := decide (headB (hdC b) (hdP b) (hdN b) true = b.take 128)
def hotB (b : List UInt8) : Bool := if b.length < 128 then false else headIs b
theorem hdC_lt (b : List UInt8) : hdC b < 4294967296 := by
  refine Nat.lt_of_lt_of_le (val_lt _) ?_
  rw [List.length_take]
  exact Nat.le_trans (Nat.pow_le_pow_right (by decide) (show min 4 _ ≤ 4 by omega)) (by decide)
theorem hdP_lt (b : List UInt8) : hdP b < 4294967296 := by
  refine Nat.lt_of_lt_of_le (val_lt _) ?_
  rw [List.length_take]
  exact Nat.le_trans (Nat.pow_le_pow_right (by decide) (show min 4 _ ≤ 4 by omega)) (by decide)
theorem hdN_lt (b : List UInt8) : hdN b < 18446744073709551616 := by
  refine Nat.lt_of_lt_of_le (val_lt _) ?_
  rw [List.length_take]
  exact Nat.le_trans (Nat.pow_le_pow_right (by decide) (show min 8 _ ≤ 8 by omega)) (by decide)

theorem headN_form (c p n : Nat) : headN c p n = magic ++ (be c 4 ++ (be p 4 ++ (be n 8 ++ (be (ofF (headW c p n)).toNat 4 ++ List.replicate 102 0)))) := by
  have hl : (headW c p n ++ be (ofF (headW c p n)).toNat 4).length = 26 := by
    unfold headW; simp only [List.length_append, be_length]; rfl
  unfold headN sect
  rw [hl]
  unfold headW
  simp only [List.append_assoc]
theorem headN_length (c p n : Nat) : (headN c p n).length = 128 := by
  rw [headN_form]; simp only [List.length_append, be_length, List.length_replicate]; rfl
theorem headT_form (c p n : Nat) : (headN c p n).set 127 165 = magic ++ (be c 4 ++ (be p 4 ++ (be n 8 ++ (be (ofF (headW c p n)).toNat 4 ++ (List.replicate 102 (0 : UInt8)).set 101 165)))) := by
  rw [headN_form]
  have hm : magic.length = 6 := rfl
  rw [List.set_append_right _ _ (by rw [hm]; decide), List.set_append_right _ _ (by rw [be_length, hm]; decide), List.set_append_right _ _ (by rw [be_length, be_length, hm]; decide),
    List.set_append_right _ _ (by rw [be_length, be_length, be_length, hm]; decide), List.set_append_right _ _ (by rw [be_length, be_length, be_length, be_length, hm]; decide)]
  simp only [be_length, hm]
theorem parts6 {A B C D E : List UInt8} (ha : A.length = 6) (hb : B.length = 4) (hc : C.length = 4) (hd : D.length = 8) :
    ((A ++ (B ++ (C ++ (D ++ E)))).drop 6).take 4 = B ∧ ((A ++ (B ++ (C ++ (D ++ E)))).drop 10).take 4 = C ∧ ((A ++ (B ++ (C ++ (D ++ E)))).drop 14).take 8 = D := by
  refine ⟨?_, ?_, ?_⟩
  · rw [List.drop_append_of_le_length (by omega), List.drop_of_length_le (by omega), List.nil_append, List.take_append_of_le_length (by omega), List.take_of_length_le (by omega)]
  · rw [← List.append_assoc, List.drop_append_of_le_length (by rw [List.length_append]; omega), List.drop_of_length_le (by rw [List.length_append]; omega), List.nil_append, List.take_append_of_le_length (by omega), List.take_of_length_le (by omega)]
  · rw [← List.append_assoc, ← List.append_assoc, List.drop_append_of_le_length (by simp only [List.length_append]; omega), List.drop_of_length_le (by simp only [List.length_append]; omega), List.nil_append, List.take_append_of_le_length (by omega), List.take_of_length_le (by omega)]
theorem hd_of_head (c p n : Nat) (X : List UInt8) (hc : c < 4294967296) (hp : p < 4294967296) (hn : n < 18446744073709551616) :
    hdC ((headN c p n).set 127 165 ++ X) = c ∧ hdP ((headN c p n).set 127 165 ++ X) = p ∧ hdN ((headN c p n).set 127 165 ++ X) = n := by
  unfold hdC hdP hdN
  rw [headT_form]
  simp only [List.append_assoc]
  obtain ⟨h1, h2, h3⟩ := parts6 (A := magic) (B := be c 4) (C := be p 4) (D := be n 8) (E := be (ofF (headW c p n)).toNat 4 ++ ((List.replicate 102 (0 : UInt8)).set 101 165 ++ X)) rfl (be_length _ _) (be_length _ _) (be_length _ _)
  rw [h1, h2, h3, val_be, val_be, val_be]
  exact ⟨Nat.mod_eq_of_lt hc, Nat.mod_eq_of_lt hp, Nat.mod_eq_of_lt hn⟩
theorem headIs_head (c p : Int) (n : Nat) (X : List UInt8) (hc : 0 ≤ c ∧ c ≤ 4000) (hp : 0 ≤ p ∧ p ≤ 4000) (hn : n < 18446744073709551616) :
    headIs (headB c p n true ++ X) = true ∧ (hdC (headB c p n true ++ X) : Int) = c ∧ (hdP (headB c p n true ++ X) : Int) = p ∧ hdN (headB c p n true ++ X) = n := by
  have e : headB c p n true = (headN c.toNat p.toNat n).set 127 165 := by unfold headB; rw [if_pos ⟨hc, hp⟩]; rfl
  obtain ⟨h1, h2, h3⟩ := hd_of_head c.toNat p.toNat n X (by omega) (by omega) hn
  rw [← e] at h1 h2 h3
  refine ⟨?_, by omega, by omega, h3⟩
  unfold headIs
  rw [h1, h2, h3, Int.toNat_of_nonneg hc.1, Int.toNat_of_nonneg hp.1]
  have hl : (headB c p n true).length = 128 := by rw [e, List.length_set]; exact headN_length _ _ _
  rw [List.take_append_of_le_length (by omega), List.take_of_length_le (by omega)]
  exact decide_eq_true rfl
theorem headIs_unmarked (b : List UInt8) (h : b[127]? ≠ some 165) (hl : 128 ≤ b.length) : headIs b = false := by
  unfold headIs
  refine decide_eq_false fun e => ?_
  have h1 := congrArg List.length e
  unfold headB at h1 e
  split at h1
  · rename_i hg
    rw [if_pos hg, if_pos rfl] at e
    apply h
    have h2 := congrArg (fun x => x[127]?) e
    simp only [List.getElem?_take] at h2
    rw [if_pos (by decide)] at h2
    rw [← h2, List.getElem?_set_self (by rw [headN_length]; decide)]
  · rw [List.length_take] at h1
    simp only [List.length_nil] at h1
    omega
end Hach.Jrn

namespace Hach.Jrn
open Hach.Oct Hach.Crc
def recAt (b : List UInt8) (i : Nat) : List UInt8 := b.drop (128 + 640 * i)
def recOf (b : List UInt8) (i : Nat) : Int × List UInt8 := ((val ((recAt b i).take 4) : Int), ((recAt b i).drop 128).take 512)
def recsOf (b : List UInt8) (k : Nat) : List (Int × List UInt8) := (List.range k).map (recOf b)
def recsOk (b : List UInt8) (n k : Nat) : Bool := (List.range k).all fun i => recIs (recAt b i) n
def parseOk (b : List UInt8) : Bool := hotB b && (decide (128 * (1 + 5 * hdC b) ≤ b.length) && (recsOk b (hdN b) (hdC b) && goodJ (hdC b) (hdP b) (recsOf b (hdC b))))
theorem recsOf_length (b : List UInt8) (k : Nat) : (recsOf b k).length = k := by unfold recsOf; rw [List.length_map, List.length_range]
theorem recsOf_succ (b : List UInt8) (k : Nat) : recsOf b (k + 1) = recsOf b k ++ [recOf b k] := by unfold recsOf; rw [List.range_succ, List.map_append]; rfl
theorem recsOk_succ (b : List UInt8) (n k : Nat) : recsOk b n (k + 1) = (recsOk b n k && recIs (recAt b k) n) := by unfold recsOk; rw [List.range_succ, List.all_append]; simp
theorem recsOk_not {b : List UInt8} {n k m : Nat} (h : recIs (recAt b k) n = false) (hk : k < m) : recsOk b n m = false := by
  unfold recsOk
  rw [List.all_eq_false]
  exact ⟨k, List.mem_range.2 hk, by rw [h]; decide⟩
theorem headIs_true {b : List UInt8} (hl : 128 ≤ b.length) (h : headIs b = true) : b[0]? = some 104 ∧ hdC b ≤ 4000 ∧ hdP b ≤ 4000 := by
  have e := of_decide_eq_true h
  by_cases hg : (0 ≤ (hdC b : Int) ∧ (hdC b : Int) ≤ 4000) ∧ (0 ≤ (hdP b : Int) ∧ (hdP b : Int) ≤ 4000)
  · refine ⟨?_, by omega, by omega⟩
    unfold headB at e
    rw [if_pos hg, if_pos rfl] at e
    have h2 := congrArg (fun x => x[0]?) e
    simp only [List.getElem?_take] at h2
    rw [if_pos (by decide), headT_form] at h2
    rw [← h2]; rfl
  · unfold headB at e
    rw [if_neg hg] at e
    have := congrArg List.length e
    rw [List.length_take] at this
    simp only [List.length_nil] at this
    omega
theorem parseOk_cold {b : List UInt8} (h : hotB b = false) : parseOk b = false := by unfold parseOk; rw [h]; rfl
theorem parseOk_short {b : List UInt8} (h : ¬ 128 * (1 + 5 * hdC b) ≤ b.length) : parseOk b = false := by unfold parseOk; rw [decide_eq_false h]; simp
theorem parseOk_bad {b : List UInt8} (h : recsOk b (hdN b) (hdC b) = false) : parseOk b = false := by unfold parseOk; rw [h]; simp
theorem parseOk_good {b : List UInt8} {g : Bool} (h1 : hotB b = true) (h2 : 128 * (1 + 5 * hdC b) ≤ b.length) (h3 : recsOk b (hdN b) (hdC b) = true) (h4 : goodJ (hdC b) (hdP b) (recsOf b (hdC b)) = g) : parseOk b = g := by
  unfold parseOk
  simp only [h1, h3, h4, Bool.true_and, decide_eq_true h2]
theorem recAt_length (b : List UInt8) (i : Nat) : (recAt b i).length = b.length - (128 + 640 * i) := by unfold recAt; rw [List.length_drop]
theorem recAt_succ (b : List UInt8) (i : Nat) : recAt b (i + 1) = (recAt b i).drop 640 := by unfold recAt; rw [List.drop_drop, show 128 + 640 * (i + 1) = 128 + 640 * i + 640 by omega]
end Hach.Jrn

namespace Go.Proofs.YtbcghggkfnagoaaGreatDoor
open Go.RowKit Hach
attribute [local go_sem] hmf

theorem srcRead_callsX (w : World) (A : Option Addr) (xs : List UInt8) (c n : Nat) (hn : Hid (xs.length = n)) (hl : Hid (n ≤ 1099511627776)) (hc : Hid (Bytes w A xs)) :
    Calls Tryz.prog 196 #[.slice A n c] w fun e w' => ∃ g, e = .returned (.pointer (some ⟨g, 0, none⟩)) ∧ Hid (w.heap.size ≤ g ∧ SrcAt w' g xs ∧ Below w.heap.size w w') := by
  have e := hn.out
  subst e
  exact srcRead_calls w A xs c hl hc

theorem headJ_M (w : World) (ht : Hid (TabOk w)) (c p : Int) (n : Nat) (b : Bool) (hn : Hid ((n : Int) < 18446744073709551616)) (X : List UInt8) (lx : Nat) (HX : Hid (Jrn.headB c p n b = X)) (LX : Hid (X.length = lx)) :
    Calls Tryz.prog 92 #[.agg #[.int .i64 c, .int .i64 p, .int .u64 (n : Int)], .bool b] w fun e w' => ∃ A c, e = .returned (.slice A lx c) ∧ Bytes w' A X ∧ Below w.heap.size w w' := by
  have := headBytes_calls w ht c p n b hn
  rw [HX.out] at this
  refine this.mono ?_
  rintro e w' ⟨A, c, ⟨rfl, _⟩, o, b⟩
  exact ⟨A, c, by rw [LX.out], Rd.bytes (Rd.own o), b⟩

def headV (c p : Int) (n : Int) : Value := .agg #[.int .i64 c, .int .i64 p, .int .u64 n]
def RetHead (w : World) (b : List UInt8) (en : Ending) (w' : World) : Prop :=
  Below w.heap.size w w' ∧
  ((b.length < 128 ∧ en = .returned (.tuple #[headV 0 0 0, .int .i64 8])) ∨
   (128 ≤ b.length ∧ Jrn.headIs b = false ∧ en = .returned (.tuple #[headV 0 0 0, .int .i64 9])) ∨
   (128 ≤ b.length ∧ Jrn.headIs b = true ∧ en = .returned (.tuple #[headV (Jrn.hdC b) (Jrn.hdP b) (Jrn.hdN b), .int .i64 0])))

set_option maxRecDepth 100000 in
set_option maxHeartbeats 1000000 in
theorem readHead_short (w : World) (A : Option Addr) (xs : List UInt8) (c : Nat) (hl : xs.length < 128) :
    Calls Tryz.prog 162 #[.slice A xs.length c] w (RetHead w xs) := by
  go_enter Tryz.func162, Tryz.ntmps162
  go_wp2
  refine bodyPost_ret (v := .tuple #[.agg #[.int .i64 0, .int .i64 0, .int .u64 0], .int .i64 8]) (by simp [results, Tryz.results162, go_sem]) rfl ⟨(Below.refl _ _).alloc (Nat.le_refl _) _, .inl ⟨hl, rfl⟩⟩

set_option maxRecDepth 100000 in
set_option maxHeartbeats 1000000 in
theorem readHead_long (w : World) (ht : Hid (TabOk w)) (A : Option Addr) (xs : List UInt8) (c : Nat) (hl : 128 ≤ xs.length) (hm : xs.length ≤ 1073741824) (hcap : xs.length ≤ c) (hc : Hid (Bytes w A xs)) :
    Calls Tryz.prog 162 #[.slice A xs.length c] w (RetHead w xs) := by
  obtain ⟨b, off, rfl, _⟩ := hc.out 0 (by omega)
  obtain ⟨hc1, e1⟩ : ∃ v, Jrn.hdC xs = v := ⟨_, rfl⟩
  obtain ⟨hp1, e2⟩ : ∃ v, Jrn.hdP xs = v := ⟨_, rfl⟩
  obtain ⟨hn1, e3⟩ : ∃ v, Jrn.hdN xs = v := ⟨_, rfl⟩
  have c4 : (hc1 : Int) < 4294967296 := by have := Jrn.hdC_lt xs; omega
  have p4 : (hp1 : Int) < 4294967296 := by have := Jrn.hdP_lt xs; omega
  have n8' : Hid ((hn1 : Int) < 18446744073709551616) := hid (by have := Jrn.hdN_lt xs; omega)
  obtain ⟨X, hX⟩ : ∃ X, (xs.drop 6).take 122 = X := ⟨_, rfl⟩
  have lX : X.length = 122 := by rw [← hX, List.length_take, List.length_drop]; omega
  have s1 : Oct.val (X.take 4) = hc1 := by rw [← e1, ← hX, List.take_take]; rfl
  have s2 : Oct.val ((X.drop 4).take 4) = hp1 := by rw [← e2, ← hX, List.drop_take, List.take_take, List.drop_drop]; rfl
  have s3 : Oct.val ((X.drop 8).take 8) = hn1 := by rw [← e3, ← hX, List.drop_take, List.take_take, List.drop_drop]; rfl
  obtain ⟨R, hR⟩ : ∃ R, Jrn.headB hc1 hp1 hn1 true = R := ⟨_, rfl⟩
  have lR : R.length ≤ 128 := by
    rw [← hR]
    by_cases h : (0 ≤ (hc1 : Int) ∧ (hc1 : Int) ≤ 4000) ∧ (0 ≤ (hp1 : Int) ∧ (hp1 : Int) ≤ 4000)
    · exact Nat.le_of_eq (Jrn.headB_length h.1 h.2)
    · unfold Jrn.headB; rw [if_neg h]; exact Nat.zero_le _
  have hb := hid (show Bytes w (some ⟨b, off + 6, none⟩) X by rw [← hX]; exact hc.out.sub 6 122)
  have E1 := hid e1
  have E2 := hid e2
  have E3 := hid e3
  have S1 := hid s1
  have S2 := hid s2
  have S3 := hid s3
  have LX := hid lX
  have HR := hid hR
  have LR := hid lR
  clear e1 e2 e3 s1 s2 s3 hX hR lR
  have b0 : ∀ o, Below w.heap.size w (w.alloc o) := fun o => (Below.refl _ _).alloc (Nat.le_refl _) o
  have d1 : ¬ (xs.length : Int) < 128 := by omega
  have d2 : (128 : Int) ≤ c := by omega
  have d3 : ¬ c = 6 := by omega
  have HL := hid hl
  have HM := hid hm
  have K4 := hid (show 4 ≤ X.length ∧ X.length ≤ 1099511627776 by omega)
  have K4b := hid (show 4 ≤ (X.drop 4).length ∧ (X.drop 4).length ≤ 1099511627776 by rw [List.length_drop]; omega)
  have K8 := hid (show 8 ≤ ((X.drop 4).drop 4).length ∧ ((X.drop 4).drop 4).length ≤ 1099511627776 by rw [List.length_drop, List.length_drop]; omega)
  have S3' : Hid (Oct.val (((X.drop 4).drop 4).take 8) = hn1) := hid (by rw [List.drop_drop]; exact S3.out)
  clear hl hm hcap lX S3
  go_enter Tryz.func162, Tryz.ntmps162
  go_wp2_with fail
  refine (srcRead_callsX _ (some ⟨b, off + 6, none⟩) X _ 122 LX (hid (by decide)) (hid (hb.out.grown (b0 _)))).mono ?_
  rintro e w1 ⟨g, rfl, hg1⟩
  obtain ⟨gz, ga, b1⟩ := hg1.out
  have B1 := hid ((b0 (.cells #[.int .i64 0, .int .i64 0, .int .u64 0] 144)).trans (b1.mono (by simp)))
  have z1 : w.heap.size < w1.heap.size := by have := b1.size; simp at this; omega
  have r0 : w1.cell? ⟨w.heap.size, 0, none⟩ = some (.int .i64 0) := by rw [b1.cell (p := ⟨w.heap.size, 0, none⟩) (by simp)]; go_simp
  have r1 : w1.cell? ⟨w.heap.size, 1, none⟩ = some (.int .i64 0) := by rw [b1.cell (p := ⟨w.heap.size, 1, none⟩) (by simp)]; go_simp
  have r2 : w1.cell? ⟨w.heap.size, 2, none⟩ = some (.int .u64 0) := by rw [b1.cell (p := ⟨w.heap.size, 2, none⟩) (by simp)]; go_simp
  have rf : ∀ i, w1.frozen? ⟨w.heap.size, i, none⟩ = false := by intro i; rw [b1.frozen (p := ⟨w.heap.size, i, none⟩) (by simp)]; go_simp
  have gz' : w.heap.size ≠ g := by simp at gz; omega
  have gz2 : w.heap.size ≤ g := by simp at gz; omega
  have GA := hid ga
  clear hg1 gz ga b1 b0
  go_wp2_with fail
  refine (srcNum_calls w1 g 4 hc1 _ X rfl (by decide) (by decide) K4 S1 GA).mono ?_
  rintro e w2 ⟨rfl, G2, F2⟩
  go_wp2_with fail
  refine (srcNum_calls w2 g 4 hp1 _ (X.drop 4) rfl (by decide) (by decide) K4b S2 G2).mono ?_
  rintro e w3 ⟨rfl, G3, F3⟩
  go_wp2_with fail
  refine (srcNum_calls w3 g 8 hn1 _ ((X.drop 4).drop 4) rfl (by decide) (by decide) K8 S3' G3).mono ?_
  rintro e w4 ⟨rfl, G4, F4⟩
  have F := (F2.out.trans' F3.out).trans' F4.out
  have B4 := hid (B1.out.trans (F.below B1.out.size (fun k hk e => by subst e; omega)))
  replace r0 := F.cell r0 gz'
  replace r1 := F.cell r1 gz'
  replace r2 := F.cell r2 gz'
  replace rf : ∀ i, w4.frozen? ⟨w.heap.size, i, none⟩ = false := fun i => by rw [World.frozen?_of_block (F.block w.heap.size z1 gz')]; exact rf i
  have z4 : w.heap.size < w4.heap.size := Nat.lt_of_lt_of_le z1 F.size
  clear F F2 F3 F4 G2 G3 G4 B1 z1 GA
  go_wp2
  have hb4 : Below w4.heap.size w4 (w4.alloc (.cells #[.int .i64 (hc1 : Int), .int .i64 (hp1 : Int), .int .u64 (hn1 : Int)] 144)) := (Below.refl _ _).alloc (Nat.le_refl _) _
  have r0' := (hb4.cell (p := ⟨w.heap.size, 0, none⟩) z4).trans r0
  have r1' := (hb4.cell (p := ⟨w.heap.size, 1, none⟩) z4).trans r1
  have r2' := (hb4.cell (p := ⟨w.heap.size, 2, none⟩) z4).trans r2
  have rf' : ∀ i, (w4.alloc (.cells #[.int .i64 (hc1 : Int), .int .i64 (hp1 : Int), .int .u64 (hn1 : Int)] 144)).frozen? ⟨w.heap.size, i, none⟩ = false := fun i => (hb4.frozen (p := ⟨w.heap.size, i, none⟩) z4).trans (rf i)
  have q0 : (w4.alloc (.cells #[.int .i64 (hc1 : Int), .int .i64 (hp1 : Int), .int .u64 (hn1 : Int)] 144)).cell? ⟨w4.heap.size, 0, none⟩ = some (.int .i64 (hc1 : Int)) := by go_simp
  have q1 : (w4.alloc (.cells #[.int .i64 (hc1 : Int), .int .i64 (hp1 : Int), .int .u64 (hn1 : Int)] 144)).cell? ⟨w4.heap.size, 1, none⟩ = some (.int .i64 (hp1 : Int)) := by go_simp
  have q2 : (w4.alloc (.cells #[.int .i64 (hc1 : Int), .int .i64 (hp1 : Int), .int .u64 (hn1 : Int)] 144)).cell? ⟨w4.heap.size, 2, none⟩ = some (.int .u64 (hn1 : Int)) := by go_simp
  have b2 := B4.out.trans (hb4.mono B4.out.size)
  have zW : w4.heap.size < (w4.alloc (.cells #[.int .i64 (hc1 : Int), .int .i64 (hp1 : Int), .int .u64 (hn1 : Int)] 144)).heap.size := by simp
  clear r0 r1 r2 rf B4 hb4
  generalize w4.alloc (.cells #[.int .i64 (hc1 : Int), .int .i64 (hp1 : Int), .int .u64 (hn1 : Int)] 144) = W at *
  generalize hgg : w4.heap.size = gg at *
  have B2 := hid b2
  have T2 := hid (ht.out.below' b2)
  have X2 := hid ((hc.out.grown b2).take 128)
  have L6 := hid (show (xs.take 128).length = 128 by have := HL.out; rw [List.length_take]; omega)
  obtain ⟨r, hr⟩ : ∃ r, decide (R = xs.take 128) = r := ⟨_, rfl⟩
  have HR2 := hid hr
  have q0d : W.drew.cell? ⟨gg, 0, none⟩ = some (.int .i64 (hc1 : Int)) := q0
  have q1d : W.drew.cell? ⟨gg, 1, none⟩ = some (.int .i64 (hp1 : Int)) := q1
  have q2d : W.drew.cell? ⟨gg, 2, none⟩ = some (.int .u64 (hn1 : Int)) := q2
  clear b2 hr hgg
  obtain ⟨lr, hlr⟩ : ∃ lr, R.length = lr := ⟨_, rfl⟩
  have HLR := hid hlr
  clear hlr
  go_region_held3 (fun w' => w'.cell? ⟨gg, 0, none⟩ = some (.int .i64 (hc1 : Int)) ∧ w'.cell? ⟨gg, 1, none⟩ = some (.int .i64 (hp1 : Int)) ∧ w'.cell? ⟨gg, 2, none⟩ = some (.int .u64 (hn1 : Int)))
    (first | exact ⟨u0, u1, u2⟩ | exact ⟨q0d, q1d, q2d⟩ | go_keep)
    (first
      | (go_at_call 92; refine (headJ_M _ ?_ hc1 hp1 hn1 true n8' R lr HR HLR).mono ?_; exact (show Hid (TabOk W.drew) from T2); rintro e w3 ⟨A3, c3, rfl, o3, b3⟩; have u0 := (b3.cell (p := ⟨gg, 0, none⟩) zW).trans q0d; have u1 := (b3.cell (p := ⟨gg, 1, none⟩) zW).trans q1d; have u2 := (b3.cell (p := ⟨gg, 2, none⟩) zW).trans q2d)
      | (go_at_call 198; refine (equal_callsX _ A3 (some ⟨b, off, none⟩) R (xs.take 128) c3 _ lr 128 HLR L6 ?_ (by decide) ?_ ?_ r HR2).mono ?_; (have := LR.out; have := HLR.out; omega); exact o3; exact Bytes.grown (w := W.drew) X2.out b3; rintro e w' ⟨rfl, rfl⟩))
  rename_i K1 h1 K2 h2 hHeld
  have z3 : w.heap.size < W.heap.size := by omega
  have v0 : w3.cell? ⟨w.heap.size, 0, none⟩ = some (.int .i64 0) := (b3.cell (p := ⟨w.heap.size, 0, none⟩) z3).trans r0'
  have v1 : w3.cell? ⟨w.heap.size, 1, none⟩ = some (.int .i64 0) := (b3.cell (p := ⟨w.heap.size, 1, none⟩) z3).trans r1'
  have v2 : w3.cell? ⟨w.heap.size, 2, none⟩ = some (.int .u64 0) := (b3.cell (p := ⟨w.heap.size, 2, none⟩) z3).trans r2'
  have vf : ∀ i, w3.frozen? ⟨w.heap.size, i, none⟩ = false := fun i => (b3.frozen (p := ⟨w.heap.size, i, none⟩) z3).trans (rf' i)
  have BB : Below W.heap.size W w3 := (Below.refl _ _).drew.trans b3
  have B3 := hid (B2.out.trans (BB.mono B2.out.size))
  clear o3 b3 BB z3 hHeld r0' r1' r2' rf' q0d q1d q2d q0 q1 q2 zW d1 d2 d3 c4 p4
  have hz : ∀ r0, Jrn.headIs xs = r0 ↔ decide (R = xs.take 128) = r0 := fun r0 => by unfold Jrn.headIs; rw [E1.out, E2.out, E3.out, HR.out]
  cases r
  · show K2 _ _
    refine h2 _ _ ?_
    clear h2 K2
    simp only [Bool.not_false, Bool.not_true]
    go_wp2
    refine bodyPost_ret (v := .tuple #[.agg #[.int .i64 0, .int .i64 0, .int .u64 0], .int .i64 9]) (by simp [results, Tryz.results162, go_sem, u0, u1, u2, v0, v1, v2, vf]) rfl ⟨((B3.out.setCell (Nat.le_refl _) _).setCell (Nat.le_refl _) _).setCell (Nat.le_refl _) _, .inr (.inl ⟨HL.out, (hz _).2 HR2.out, rfl⟩)⟩
  · show K2 _ _
    refine h2 _ _ ?_
    clear h2 K2
    simp only [Bool.not_false, Bool.not_true]
    go_wp2
    refine bodyPost_ret (v := .tuple #[.agg #[.int .i64 (hc1 : Int), .int .i64 (hp1 : Int), .int .u64 (hn1 : Int)], .int .i64 0]) (by simp [results, Tryz.results162, go_sem, u0, u1, u2, v0, v1, v2, vf]) rfl ⟨((B3.out.setCell (Nat.le_refl _) _).setCell (Nat.le_refl _) _).setCell (Nat.le_refl _) _, .inr (.inr ⟨HL.out, (hz _).2 HR2.out, by rw [E1.out, E2.out, E3.out]; rfl⟩)⟩

theorem readHead_calls (w : World) (ht : Hid (TabOk w)) (A : Option Addr) (xs : List UInt8) (c n : Nat) (hn : Hid (xs.length = n)) (hm : Hid (n ≤ 1073741824)) (hcap : Hid (n ≤ c)) (hc : Hid (Bytes w A xs)) :
    Calls Tryz.prog 162 #[.slice A n c] w (RetHead w xs) := by
  have e := hn.out
  subst e
  by_cases h : xs.length < 128
  · exact readHead_short w A xs c h
  · exact readHead_long w ht A xs c (by omega) hm.out hcap.out hc
end Go.Proofs.YtbcghggkfnagoaaGreatDoor

namespace Hach.Jrn
open Hach.Oct Hach.Crc
theorem headN_last (c p n : Nat) : (headN c p n)[127]? = some 0 := by
  rw [headN_form]
  have hm : magic.length = 6 := rfl
  rw [List.getElem?_append_right (by rw [hm]; decide), List.getElem?_append_right (by rw [be_length, hm]; decide), List.getElem?_append_right (by rw [be_length, be_length, hm]; decide),
    List.getElem?_append_right (by rw [be_length, be_length, be_length, hm]; decide), List.getElem?_append_right (by rw [be_length, be_length, be_length, be_length, hm]; decide)]
  simp only [be_length, hm]
  rfl
end Hach.Jrn
namespace Go.Proofs.YtbcghggkfnagoaaGreatDoor
open Go.RowKit Hach

theorem hot_calls (w : World) (ht : Hid (TabOk w)) (A : Option Addr) (xs : List UInt8) (c n : Nat) (hn : Hid (xs.length = n)) (hm : Hid (n ≤ 1073741824)) (hcap : Hid (n ≤ c)) (hc : Hid (Bytes w A xs)) (r : Bool) (hr : Hid (Jrn.hotB xs = r)) :
    Calls Tryz.prog 132 #[.slice A n c] w fun e w' => e = .returned (.bool r) ∧ Hid (Below w.heap.size w w') := by
  go_enter Tryz.func132, Tryz.ntmps132
  go_wp2_with fail
  refine (readHead_calls w ht A xs c n hn hm hcap hc).mono ?_
  rintro e w1 ⟨b1, h⟩
  have B1 := hid b1
  have HN := hn.out
  have hh := hr.out
  unfold Jrn.hotB at hh
  rcases h with ⟨h1, rfl⟩ | ⟨h1, h2, rfl⟩ | ⟨h1, h2, rfl⟩
  · rw [if_pos h1] at hh
    subst hh
    clear h1 HN b1
    unfold headV
    go_wp2
    go_ret
    exact ⟨rfl, hid (B1.out.alloc B1.out.size _)⟩
  · rw [if_neg (by omega), h2] at hh
    subst hh
    clear h1 h2 HN b1
    unfold headV
    go_wp2
    go_ret
    exact ⟨rfl, hid (B1.out.alloc B1.out.size _)⟩
  · rw [if_neg (by omega), h2] at hh
    subst hh
    clear h1 h2 HN b1
    unfold headV
    go_wp2
    go_ret
    exact ⟨rfl, hid (B1.out.alloc B1.out.size _)⟩


end Go.Proofs.YtbcghggkfnagoaaGreatDoor

namespace Hach.Jrn
open Hach.Oct Hach.Crc
theorem recB_good {p : Int} {n : Nat} {D : List UInt8} (h : recGood p D = true) : recB p n D = recN p.toNat n D := by unfold recB; rw [h]; rfl
theorem recsB_length {n : Nat} {l : List (Int × List UInt8)} (h : ∀ r ∈ l, recGood r.1 r.2 = true) : (recsB n l).length = 640 * l.length := by
  induction l with
  | nil => rfl
  | cons r l ih =>
    have h1 := recB_length_good (n := n) (h r List.mem_cons_self)
    have h2 := ih fun q hq => h q (List.mem_cons_of_mem _ hq)
    unfold recsB at h2 ⊢
    rw [List.flatMap_cons, List.length_append, h1, h2, List.length_cons]
    omega
theorem recsB_drop {n : Nat} {l : List (Int × List UInt8)} (h : ∀ r ∈ l, recGood r.1 r.2 = true) (i : Nat) (hi : i ≤ l.length) : (recsB n l).drop (640 * i) = recsB n (l.drop i) := by
  induction i generalizing l with
  | zero => rfl
  | succ i ih =>
    cases l with
    | nil => simp at hi
    | cons r l =>
      have h1 := recB_length_good (n := n) (h r List.mem_cons_self)
      have h2 := ih (l := l) (fun q hq => h q (List.mem_cons_of_mem _ hq)) (by simpa using hi)
      rw [List.drop_succ_cons, ← h2]
      show (recB r.1 n r.2 ++ recsB n l).drop (640 * (i + 1)) = _
      have d0 : (recB r.1 n r.2).drop 640 = [] := List.drop_of_length_le (by omega)
      rw [show 640 * (i + 1) = 640 + 640 * i by omega, ← List.drop_drop, List.drop_append_of_le_length (by omega), d0, List.nil_append]
theorem rec_back (p : Int) (n : Nat) (D R : List UInt8) (h : recGood p D = true) :
    recIs (recB p n D ++ R) n = true ∧ (val ((recB p n D ++ R).take 4) : Int) = p ∧ ((recB p n D ++ R).drop 128).take 512 = D := by
  have hl := recB_length_good (n := n) h
  have hg := of_decide_eq_true h
  have hD := hg.2
  have e := recB_good (n := n) h
  have h4 : (be p.toNat 4).length = 4 := be_length _ _
  have hs : (be (recSum p.toNat n D).toNat 4).length = 4 := be_length _ _
  have t4 : (recB p n D ++ R).take 4 = be p.toNat 4 := by
    rw [e, recN_parts, List.append_assoc, List.take_append_of_le_length (by omega), List.take_of_length_le (by omega)]
  have v4 : (val ((recB p n D ++ R).take 4) : Int) = p := by
    rw [t4, val_be, Nat.mod_eq_of_lt (by have := hg.1; omega)]
    exact Int.toNat_of_nonneg (by omega)
  have d5 : ((recB p n D ++ R).drop 128).take 512 = D := by
    have : recB p n D = (be p.toNat 4 ++ (be (recSum p.toNat n D).toNat 4 ++ List.replicate 120 0)) ++ D := by
      rw [e, recN_parts]; simp only [List.append_assoc]
    have hl2 : (be p.toNat 4 ++ (be (recSum p.toNat n D).toNat 4 ++ List.replicate 120 (0 : UInt8))).length = 128 := by simp only [List.length_append, h4, hs, List.length_replicate]
    rw [this, List.append_assoc, List.drop_append_of_le_length (by omega), List.drop_of_length_le (by omega), List.nil_append, List.take_append_of_le_length (by omega), List.take_of_length_le (by omega)]
  refine ⟨?_, v4, d5⟩
  unfold recIs
  rw [v4, d5, List.take_append_of_le_length (by omega), List.take_of_length_le (by omega)]
  exact decide_eq_true rfl

section
variable {c p : Int} {n : Nat} {l : List (Int × List UInt8)}
theorem journal_parts (hg : goodJ c p l = true) : c = l.length ∧ (0 ≤ c ∧ c ≤ 4000) ∧ (0 ≤ p ∧ p ≤ 4000) ∧ (∀ r ∈ l, recGood r.1 r.2 = true) := by
  unfold goodJ at hg
  simp only [Bool.and_eq_true, decide_eq_true_eq] at hg
  exact ⟨hg.1.1.1, hg.1.1.2, hg.1.2, goodL_all hg.2⟩
theorem recAt_whole (hg : goodJ c p l = true) (M : List UInt8) (i : Nat) (hi : i ≤ l.length) : recAt (bytesJ c p n l true ++ M) i = recsB n (l.drop i) ++ M := by
  obtain ⟨h1, h2, h3, h4⟩ := journal_parts hg
  have hl := headB_length (c := c) (p := p) (n := n) (b := true) h2 h3
  have hr := recsB_length (n := n) h4
  unfold recAt bytesJ
  have d0 : (headB c p n true).drop 128 = [] := List.drop_of_length_le (by omega)
  rw [if_pos hg, ← List.drop_drop, List.append_assoc, List.drop_append_of_le_length (by omega), d0, List.nil_append, List.drop_append_of_le_length (by rw [hr]; omega), recsB_drop h4 i hi]
theorem whole_back (hg : goodJ c p l = true) (hn : n < 18446744073709551616) (M : List UInt8) :
    parseOk (bytesJ c p n l true ++ M) = true ∧ (hdC (bytesJ c p n l true ++ M) : Int) = c ∧ (hdP (bytesJ c p n l true ++ M) : Int) = p ∧ hdN (bytesJ c p n l true ++ M) = n ∧ recsOf (bytesJ c p n l true ++ M) l.length = l := by
  obtain ⟨h1, h2, h3, h4⟩ := journal_parts hg
  have hl := headB_length (c := c) (p := p) (n := n) (b := true) h2 h3
  have hr := recsB_length (n := n) h4
  have eB : bytesJ c p n l true ++ M = headB c p n true ++ (recsB n l ++ M) := by unfold bytesJ; rw [if_pos hg, List.append_assoc]
  obtain ⟨k1, k2, k3, k4⟩ := headIs_head c p n (recsB n l ++ M) h2 h3 hn
  rw [← eB] at k1 k2 k3 k4
  have len : (bytesJ c p n l true ++ M).length = 128 + 640 * l.length + M.length := by rw [eB, List.length_append, List.length_append, hl, hr]; omega
  have hcN : hdC (bytesJ c p n l true ++ M) = l.length := by omega
  have hrecs : ∀ i (hi : i < l.length), recIs (recAt (bytesJ c p n l true ++ M) i) n = true ∧ recOf (bytesJ c p n l true ++ M) i = l[i] := by
    intro i hi
    have hd : l.drop i = l[i] :: l.drop (i + 1) := List.drop_eq_getElem_cons hi
    have ha := recAt_whole (n := n) hg M i (by omega)
    have hb : recsB n (l.drop i) ++ M = recB l[i].1 n l[i].2 ++ (recsB n (l.drop (i + 1)) ++ M) := by rw [hd]; unfold recsB; rw [List.flatMap_cons, List.append_assoc]
    obtain ⟨q1, q2, q3⟩ := rec_back l[i].1 n l[i].2 (recsB n (l.drop (i + 1)) ++ M) (h4 _ (List.getElem_mem hi))
    rw [← hb, ← ha] at q1 q2 q3
    refine ⟨q1, ?_⟩
    unfold recOf
    rw [q2, q3]
  have hrec : recsOf (bytesJ c p n l true ++ M) l.length = l := by
    apply List.ext_getElem?
    intro i
    unfold recsOf
    rw [List.getElem?_map]
    by_cases hi : i < l.length
    · rw [List.getElem?_range hi, List.getElem?_eq_getElem hi, Option.map_some, (hrecs i hi).2]
    · rw [List.getElem?_eq_none (by rw [List.length_range]; omega), List.getElem?_eq_none (by omega)]; rfl
  refine ⟨?_, k2, k3, k4, hrec⟩
  refine parseOk_good ?_ (by rw [hcN, len]; omega) ?_ ?_
  · unfold hotB; rw [if_neg (by omega)]; exact k1
  · rw [k4, hcN]
    unfold recsOk
    rw [List.all_eq_true]
    intro i hi
    exact (hrecs i (List.mem_range.1 hi)).1
  · rw [k2, k3, hcN, hrec]; exact hg
end
end Hach.Jrn
