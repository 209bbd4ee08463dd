/- PARTS OF A PROOF, one behind the other: THE WALKS of package journal's forms: sector, within, good, HeadBytes, RecordBytes. THE WALK of journal.HeadBytes. CONDITIONS: none of this text's own. -/
import Derived.Test.YtbcghggkfnagoaaGreatDoorQS29
import Derived.Test.YtbcghggkfnagoaaGreatDoorQS10
import Derived.Test.YtbcghggkfnagoaaGreatDoorQS1
import Derived.Lib.SlBytesConst
set_option linter.unusedVariables false
set_option linter.unusedSimpArgs false
namespace Go.Proofs.YtbcghggkfnagoaaGreatDoor
open Go.RowKit Hach Hach.Crc

set_option maxHeartbeats 400000 in
theorem within_calls (n : Int) (w : World) :
    Calls Tryz.prog 142 #[.int .i64 n] w fun e w' => e = .returned (.bool (decide (0 ≤ n ∧ n ≤ 4000))) ∧ w = w' := by
  by_cases h0 : 0 ≤ n
  all_goals by_cases h1 : n ≤ 4000
  all_goals
    go_enter Tryz.func142, Tryz.ntmps142
    go_wp2
    go_ret
    exact ⟨by first | (rw [decide_eq_true (by omega)]; rfl) | (rw [decide_eq_false (by omega)]; rfl), rfl⟩

def RetE (e : TypeId) (w : World) (xs : List UInt8) (en : Ending) (w' : World) : Prop :=
  ∃ A c, (en = .returned (.slice A xs.length c) ∧ c = xs.length) ∧ w'.ownsRow w.heap.size e 1 (.slice A xs.length c) xs.length (xs.map byteCell) ∧ Below w.heap.size w w'

theorem zc128 : Tryz.zeroCells172 = (List.replicate 128 (Value.int .u8 0)).toArray := by kernel_rfl
theorem size1 : (Tryz.prog.info? 5).map (·.size) = some 1 := by kernel_rfl

set_option maxRecDepth 100000 in
set_option maxHeartbeats 1000000 in
theorem sector_callsS (w : World) (A : Option Addr) (xs : List UInt8) (c : Nat) (hl : xs.length ≤ 128) (hc : Hid (Bytes w A xs)) :
    Calls Tryz.prog 143 #[.slice A xs.length c] w fun en w' => ∃ g, en = .returned (.slice (some ⟨g, 0, none⟩) 128 128) ∧ w'.ownsRow w.heap.size 172 1 (.slice (some ⟨g, 0, none⟩) 128 128) 128 ((Jrn.sect xs).map byteCell) ∧ Below w.heap.size w w' := by
  have b1 : Below w.heap.size w (w.alloc (.cells Tryz.zeroCells172 172)) := (Below.refl _ _).alloc (Nat.le_refl _) _
  have o1 : (w.alloc (.cells Tryz.zeroCells172 172)).ownsRow w.heap.size 172 1 (.slice (some ⟨w.heap.size, 0, none⟩) 128 128) 128 (List.replicate 128 (Value.int .u8 0)) := by
    rw [zc128]; exact own_lit w w.heap.size _ 128 _ (Nat.le_refl _) (by decide) (by simp)
  have hc1 := hid ((hc.out.grown b1).rd)
  have B1 := hid b1
  have O1 := hid o1
  clear b1 o1
  go_enter Tryz.func143, Tryz.ntmps143
  go_wp2_with (with_reducible refine hold_at 6 ?_)
  refine hid (wl_copy Tryz.underlying64 size1 rfl (.tmp 4) (.tmp 5) 64 rfl O1.out rfl rfl hc1.out (by show xs.length = min xs.length 128; omega) (by simp) (byteCells_one _) (by omega) ?_)
  intro w2 o2 f2
  have b2 := B1.out.trans (f2.below B1.out.size (fun k hk e => by omega))
  have e : splice (List.replicate 128 (Value.int .u8 0)) 0 (xs.map byteCell) = (Jrn.sect xs).map byteCell := by
    unfold splice Jrn.sect
    rw [List.take_zero, List.nil_append, List.drop_replicate, List.map_append, List.map_replicate, List.length_map, Nat.zero_add]; rfl
  rw [e] at o2
  have ls : (Jrn.sect xs).length = 128 := by unfold Jrn.sect; rw [List.length_append, List.length_replicate]; omega
  have O2 := hid o2
  have B2 := hid b2
  have LS := hid ls
  clear o2 b2 ls e f2
  go_wp2
  go_ret
  exact ⟨w.heap.size, rfl, O2.out, B2.out⟩
theorem sector_calls (w : World) (A : Option Addr) (xs : List UInt8) (c : Nat) (hl : xs.length ≤ 128) (hc : Hid (Bytes w A xs)) :
    Calls Tryz.prog 143 #[.slice A xs.length c] w (RetE 172 w (Jrn.sect xs)) := by
  have ls : (Jrn.sect xs).length = 128 := by unfold Jrn.sect; rw [List.length_append, List.length_replicate]; omega
  refine (sector_callsS w A xs c hl hc).mono ?_
  rintro e w' ⟨g, rfl, o, b⟩
  exact ⟨some ⟨g, 0, none⟩, 128, ⟨by rw [ls], ls.symm⟩, by rw [ls]; exact o, b⟩
set_option maxHeartbeats 400000 in
theorem sectors_calls (n : Int) (w : World) :
    Calls Tryz.prog 164 #[.int .i64 n] w fun e w' => e = .returned (.int .i64 (1 + 5 * (min (max n 0) 4000))) ∧ w = w' := by
  go_enter Tryz.func164, Tryz.ntmps164
  go_wp2
  all_goals (go_ret; refine ⟨ret_int ?_, rfl⟩)
  all_goals (first | omega | (split at * <;> omega))
end Go.Proofs.YtbcghggkfnagoaaGreatDoor

namespace Go.Proofs.YtbcghggkfnagoaaGreatDoor
open Go.RowKit Hach Hach.Crc

theorem n32_u64 (x : W) : IntKind.u64.wrap (n32 x) = n32 x := IntWalk.u64_in _ (by have := n32_lo x; have := n32_hi x; omega)
theorem TabOk.below' {w w' : World} (h : TabOk w) (hb : Below w.heap.size w w') : TabOk w' := by
  intro i hi
  have := World.block_lt_of_cell? _ _ (h i hi)
  rw [hb.cell (p := ⟨0, (n32 i).toNat, none⟩) this]
  exact h i hi
theorem RetE.nil (e : TypeId) (w : World) {w' : World} (hb : Below w.heap.size w w') : RetE e w [] (.returned (.slice none 0 0)) w' := ⟨none, 0, ⟨rfl, rfl⟩, own_nil _ _ _ _, hb⟩
theorem put_calls' (w : World) (A : Option Addr) (bs : List UInt8) (c n s : Nat) (N S : Int) (hN : N = n) (hS : S = s) (hn : (n : Int) < 18446744073709551616) (hs : 0 < s) (h8 : s ≤ 8) (hl : bs.length ≤ 1073741824) (hc : Hid (Bytes w A bs)) :
    Calls Tryz.prog 106 #[.slice A bs.length c, .int .u64 N, .int .i64 S, .bool false] w (RetB w (bs ++ Oct.be n s)) := by
  subst hN; subst hS; exact put_calls w A bs c n s hn hs h8 hl hc

theorem put_callsX (w : World) (A : Option Addr) (bs X : List UInt8) (c n s : Nat) (N S : Int) (hX : Hid (bs ++ Oct.be n s = X)) (hN : N = n) (hS : S = s) (hn : (n : Int) < 18446744073709551616) (hs : 0 < s) (h8 : s ≤ 8) (hl : bs.length ≤ 1073741824) (hc : Hid (Bytes w A bs)) :
    Calls Tryz.prog 106 #[.slice A bs.length c, .int .u64 N, .int .i64 S, .bool false] w (RetB w X) := by
  have := put_calls' w A bs c n s N S hN hS hn hs h8 hl hc
  rwa [hX.out] at this

attribute [local go_sem] n32_u64

set_option maxRecDepth 100000 in
set_option maxHeartbeats 1000000 in
theorem headBytes_bad (w : World) (c p n : Int) (b : Bool) (h : ¬ ((0 ≤ c ∧ c ≤ 4000) ∧ (0 ≤ p ∧ p ≤ 4000))) :
    Calls Tryz.prog 92 #[.agg #[.int .i64 c, .int .i64 p, .int .u64 n], .bool b] w (RetE 172 w []) := by
  have hb : ∀ o, Below w.heap.size w (w.alloc o) := fun o => (Below.refl _ _).alloc (Nat.le_refl _) o
  have H := hid h
  clear h
  by_cases h1 : 0 ≤ c ∧ c ≤ 4000
  · have h2 : ¬ (0 ≤ p ∧ p ≤ 4000) := fun h => H.out ⟨h1, h⟩
    have d1 : decide (0 ≤ c ∧ c ≤ 4000) = true := decide_eq_true h1
    have d2 : decide (0 ≤ p ∧ p ≤ 4000) = false := decide_eq_false h2
    clear h1 h2
    go_enter Tryz.func92, Tryz.ntmps92
    go_wp2_with fail
    refine (within_calls c _).mono ?_
    rw [d1]
    rintro e w' ⟨rfl, rfl⟩
    go_wp2_with fail
    refine (within_calls p _).mono ?_
    rw [d2]
    rintro e w' ⟨rfl, rfl⟩
    go_wp2
    go_ret
    exact RetE.nil _ _ (hb _)
  · have d1 : decide (0 ≤ c ∧ c ≤ 4000) = false := decide_eq_false h1
    clear h1
    go_enter Tryz.func92, Tryz.ntmps92
    go_wp2_with fail
    refine (within_calls c _).mono ?_
    rw [d1]
    rintro e w' ⟨rfl, rfl⟩
    go_wp2
    go_ret
    exact RetE.nil _ _ (hb _)

set_option maxRecDepth 100000 in
set_option maxHeartbeats 1000000 in
theorem headBytes_good (w : World) (ht : Hid (TabOk w)) (c p n : Nat) (b : Bool) (hc : c ≤ 4000) (hp : p ≤ 4000) (hn : Hid ((n : Int) < 18446744073709551616)) :
    Calls Tryz.prog 92 #[.agg #[.int .i64 (c : Int), .int .i64 (p : Int), .int .u64 (n : Int)], .bool b] w (RetE 172 w (if b then (Jrn.headN c p n).set 127 165 else Jrn.headN c p n)) := by
  generalize hX : (if b then (Jrn.headN c p n).set 127 165 else Jrn.headN c p n) = X
  have HX := hid hX
  clear hX
  have kc : ∀ (w : World) (o : Obj) (C : Array Value) (n c : Nat), (convert 64 64 (.slice (some ⟨w.heap.size + 1, 0, none⟩) n c)).run Tryz.prog ((w.alloc o).alloc (.cells C 5)) = .ok (.slice (some ⟨w.heap.size + 1, 0, none⟩) n c) ((w.alloc o).alloc (.cells C 5 (C.size, C.size + 1))) := by
    intro w o C n c
    have := Lib.run_convert_bytes_const (P := Tryz.prog) (w.alloc o) 64 5 C n c Tryz.underlying64 Tryz.underlying5
    rwa [World.size_alloc] at this
  have d1 : decide ((0 : Int) ≤ c ∧ (c : Int) ≤ 4000) = true := decide_eq_true (by omega)
  have d2 : decide ((0 : Int) ≤ p ∧ (p : Int) ≤ 4000) = true := decide_eq_true (by omega)
  go_enter Tryz.func92, Tryz.ntmps92
  go_wp2_with fail
  refine (within_calls c _).mono ?_
  rw [d1]
  rintro e w' ⟨rfl, rfl⟩
  go_wp2_with fail
  refine (within_calls p _).mono ?_
  rw [d2]
  rintro e w' ⟨rfl, rfl⟩
  clear d1 d2
  go_wp2_with fail
  have hm := Rd.new (w.alloc (.cells #[.int .i64 (c : Int), .int .i64 (p : Int), .int .u64 (n : Int)] 144)) 5 (6, 7) (Jrn.magic.map byteCell)
  have hM := hid (hm.bytes)
  have b0 : Below w.heap.size w ((w.alloc (.cells #[.int .i64 (c : Int), .int .i64 (p : Int), .int .u64 (n : Int)] 144)).alloc (.cells (Jrn.magic.map byteCell).toArray 5 (6, 7))) := ((Below.refl _ _).alloc (Nat.le_refl _) _).alloc (by simp) _
  refine (put_calls' _ (some ⟨w.heap.size + 1, 0, none⟩) Jrn.magic 6 c 4 _ _ rfl rfl (by omega) (by omega) (by omega) (by decide) (by rw [World.size_alloc] at hM; exact hM)).mono ?_
  rintro e w1 ⟨A1, c1, rfl, o1, b1⟩
  have B1 := hid (b0.trans (b1.mono b0.size))
  have z1 : w.heap.size < w1.heap.size := by have := b1.size; simp at this; omega
  have k1 : w1.cell? ⟨w.heap.size, 1, none⟩ = some (.int .i64 (p : Int)) := by rw [b1.cell (p := ⟨w.heap.size, 1, none⟩) (by simp; omega)]; go_simp
  have k2 : w1.cell? ⟨w.heap.size, 2, none⟩ = some (.int .u64 (n : Int)) := by rw [b1.cell (p := ⟨w.heap.size, 2, none⟩) (by simp; omega)]; go_simp
  have Y1 := hid o1.bytes
  clear o1 b1 b0 hm hM kc
  generalize hX1 : Jrn.magic ++ Oct.be c 4 = X1 at Y1
  have l1 : X1.length = 10 := by rw [← hX1, List.length_append, Oct.be_length]; rfl
  have HX1 := hid hX1
  have L1 := hid l1
  clear hX1 l1
  go_wp2_with fail
  refine (put_calls' _ A1 X1 c1 p 4 _ _ rfl rfl (by omega) (by omega) (by omega) (by rw [L1.out]; decide) Y1).mono ?_
  rintro e w2 ⟨A2, c2, rfl, o2, b2⟩
  have B2 := hid (B1.out.trans (b2.mono B1.out.size))
  have z2 : w.heap.size < w2.heap.size := by have := b2.size; omega
  have k3 : w2.cell? ⟨w.heap.size, 2, none⟩ = some (.int .u64 (n : Int)) := by rw [b2.cell (p := ⟨w.heap.size, 2, none⟩) z1]; exact k2
  have Y2 := hid o2.bytes
  clear o2 b2 k1 k2 Y1 B1
  generalize hX2 : X1 ++ Oct.be p 4 = X2 at Y2
  have l2 : X2.length = 14 := by rw [← hX2, List.length_append, Oct.be_length, L1.out]
  have HX2 := hid hX2
  have L2 := hid l2
  clear hX2 l2
  go_wp2_with fail
  refine (put_calls' _ A2 X2 c2 n 8 _ _ rfl rfl hn.out (by omega) (by omega) (by rw [L2.out]; decide) Y2).mono ?_
  rintro e w3 ⟨A3, c3, rfl, o3, b3⟩
  have B3 := hid (B2.out.trans (b3.mono B2.out.size))
  have Y3 := hid o3.bytes
  have T3 := hid (ht.out.below' B3.out)
  clear o3 b3 k3 Y2 B2
  generalize hX3 : X2 ++ Oct.be n 8 = X3 at Y3
  have l3 : X3.length = 22 := by rw [← hX3, List.length_append, Oct.be_length, L2.out]
  have HX3 := hid hX3
  have L3 := hid l3
  clear hX3 l3
  go_wp2_with fail
  refine (of_calls _ T3 A3 X3 c3 (by rw [L3.out]; decide) Y3).mono ?_
  rintro e w' ⟨rfl, rfl⟩
  go_wp2_with fail
  refine (put_calls' _ A3 X3 c3 (ofF X3).toNat 4 _ _ rfl rfl (by have := (ofF X3).isLt; omega) (by omega) (by omega) (by rw [L3.out]; decide) Y3).mono ?_
  rintro e w4 ⟨A4, c4, rfl, o4, b4⟩
  have B4 := hid (B3.out.trans (b4.mono B3.out.size))
  have Y4 := hid o4.bytes
  clear o4 b4 Y3 B3
  generalize hX4 : X3 ++ Oct.be (ofF X3).toNat 4 = X4 at Y4
  have l4 : X4.length = 26 := by rw [← hX4, List.length_append, Oct.be_length, L3.out]
  have HX4 := hid hX4
  have L4 := hid l4
  clear hX4 l4
  go_wp2_with fail
  refine (sector_calls _ A4 X4 c4 (by rw [L4.out]; decide) Y4).mono ?_
  rintro e w5 ⟨A5, c5, ⟨rfl, h5⟩, o5, b5⟩
  have B5 := hid (B4.out.trans (b5.mono B4.out.size))
  have hN : Jrn.headN c p n = Jrn.sect X4 := by
    unfold Jrn.headN Jrn.headW
    rw [HX1.out, HX2.out, HX3.out, HX4.out]
  generalize hX5 : Jrn.sect X4 = X5 at o5 hN h5
  have l5 : X5.length = 128 := by rw [← hX5]; unfold Jrn.sect; rw [List.length_append, List.length_replicate, L4.out]
  rw [l5] at o5 h5 ⊢
  obtain ⟨g, cap, hv, gb, _⟩ := o5.form (by omega)
  injection hv with hv _ hcap
  subst hv
  subst hcap
  have O5 := hid o5
  have G5 := hid gb
  have HN := hid hN
  have Z4 := hid B4.out.size
  clear o5 b5 Y4 B4 hX5 hN gb
  have L5 := hid l5
  have H5 := hid h5
  clear l5 h5
  cases b with
  | false =>
    go_wp2
    go_ret
    have hx : X = X5 := by rw [← HX.out, HN.out]; rfl
    rw [hx]
    exact ⟨some ⟨g, 0, none⟩, _, ⟨by rw [L5.out]; rfl, by rw [L5.out]; exact H5.out⟩, by rw [L5.out]; exact own_base O5.out Z4.out, B5.out⟩
  | true =>
    have f5 := O5.out.frozenAt 127
    have q5 : w5.cell? ⟨g, 127, none⟩ = some (byteCell (X5[127]?.getD 0)) := by
      rw [O5.out.cellAt 127 (by omega), List.getElem?_map, List.getElem?_eq_getElem (by rw [L5.out]; omega)]; rfl
    go_wp2
    go_ret
    have hx : X = X5.set 127 165 := by rw [← HX.out, HN.out]; rfl
    have lx : (X5.set 127 165).length = 128 := by rw [List.length_set, L5.out]
    obtain ⟨os, gs⟩ := O5.out.stored 127 (.int .u8 165)
    have es : (X5.map byteCell).set 127 (.int .u8 165) = (X5.set 127 165).map byteCell := by rw [List.map_set]; rfl
    rw [es] at os
    rw [hx]
    exact ⟨some ⟨g, 0, none⟩, _, ⟨by rw [lx]; rfl, by rw [lx]; exact H5.out⟩, by rw [lx]; exact own_base os Z4.out, B5.out.setCell (by have := G5.out; have := Z4.out; show w.heap.size ≤ g; omega) _⟩
end Go.Proofs.YtbcghggkfnagoaaGreatDoor
