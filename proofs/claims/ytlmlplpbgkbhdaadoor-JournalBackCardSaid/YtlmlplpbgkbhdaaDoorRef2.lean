/- THE WALKS of the document's HeadBytes. -/
import Derived.Test.YtlmlplpbgkbhdaaDoorRef1
set_option linter.unusedVariables false
set_option linter.unusedSimpArgs false
namespace Go.Proofs.YtlmlplpbgkbhdaaDoor
open Go.RowKit Hach Hach.Crc

theorem RetB.nil (w : World) {w' : World} (hb : Below w.heap.size w w') : RetB w [] (.returned (.slice none 0 0)) w' := ⟨none, 0, rfl, own_nil _ _ _ _, hb⟩

set_option maxRecDepth 100000 in
set_option maxHeartbeats 1000000 in
theorem refHead_bad (w : World) (c p n : Int) (b : Bool) (h : ¬ ((0 ≤ c ∧ c ≤ 4000) ∧ (0 ≤ p ∧ p ≤ 4000))) :
    Calls Tryd.prog 25 #[.agg #[.int .i64 c, .int .i64 p, .int .u64 n], .bool b] w (RetB w []) := by
  have hb : ∀ o, Below w.heap.size w (w.alloc o) := fun o => (Below.refl _ _).alloc (Nat.le_refl _) o
  have H := hid h
  clear h
  by_cases h1 : c < 0
  · go_enter Tryd.func25, Tryd.ntmps25
    go_wp2
    go_ret
    exact RetB.nil _ (hb _)
  by_cases h2 : 4000 < c
  · go_enter Tryd.func25, Tryd.ntmps25
    go_wp2
    go_ret
    exact RetB.nil _ (hb _)
  by_cases h3 : p < 0
  · go_enter Tryd.func25, Tryd.ntmps25
    go_wp2
    go_ret
    exact RetB.nil _ (hb _)
  have h4 : 4000 < p := by
    refine Int.not_le.1 fun h => H.out ⟨⟨by omega, by omega⟩, by omega, h⟩
  go_enter Tryd.func25, Tryd.ntmps25
  go_wp2
  go_ret
  exact RetB.nil _ (hb _)

set_option maxRecDepth 100000 in
set_option maxHeartbeats 1000000 in
theorem refHead_good (w : World) (ci pi : Int) (c p n : Nat) (b : Bool) (hci : Hid (ci = (c : Int))) (hpi : Hid (pi = (p : Int))) (hc : c ≤ 4000) (hp : p ≤ 4000) (hn : Hid ((n : Int) < 18446744073709551616)) :
    Calls Tryd.prog 25 #[.agg #[.int .i64 ci, .int .i64 pi, .int .u64 (n : Int)], .bool b] w (RetB w (if b then (Jrn.headN c p n).set 127 165 else Jrn.headN c p n)) := by
  generalize hX : (if b then (Jrn.headN c p n).set 127 165 else Jrn.headN c p n) = X
  have HX := hid hX
  clear hX
  have kc : ∀ (w : World) (o : Obj) (C : Array Value) (n c : Nat), (convert 22 22 (.slice (some ⟨w.heap.size + 1, 0, none⟩) n c)).run Tryd.prog ((w.alloc o).alloc (.cells C 5)) = .ok (.slice (some ⟨w.heap.size + 1, 0, none⟩) n c) ((w.alloc o).alloc (.cells C 5 (C.size, C.size + 1))) := by
    intro w o C n c
    have := Lib.run_convert_bytes_const (P := Tryd.prog) (w.alloc o) 22 5 C n c Tryd.underlying22 Tryd.underlying5
    rwa [World.size_alloc] at this
  have c0 : ¬ ci < 0 := by have := hci.out; omega
  have c1 : ¬ 4000 < ci := by have := hci.out; omega
  have p0 : ¬ pi < 0 := by have := hpi.out; omega
  have p1 : ¬ 4000 < pi := by have := hpi.out; omega
  have HC := hid hc
  have HP := hid hp
  clear hc hp
  go_enter Tryd.func25, Tryd.ntmps25
  go_wp2_with fail
  have hm := Rd.new (w.alloc (.cells #[.int .i64 ci, .int .i64 pi, .int .u64 (n : Int)] 47)) 5 (6, 7) (Jrn.magic.map byteCell)
  have hM := hid (hm.bytes)
  have b0 : Below w.heap.size w ((w.alloc (.cells #[.int .i64 ci, .int .i64 pi, .int .u64 (n : Int)] 47)).alloc (.cells (Jrn.magic.map byteCell).toArray 5 (6, 7))) := ((Below.refl _ _).alloc (Nat.le_refl _) _).alloc (by simp) _
  obtain ⟨X1, hX1⟩ : ∃ X1, Jrn.magic ++ Oct.be c 4 = X1 := ⟨_, rfl⟩
  have l1 : X1.length = 10 := by rw [← hX1, List.length_append, Oct.be_length]; rfl
  have HX1 := hid hX1
  have L1 := hid l1
  clear hX1 l1
  refine (refPut_callsX _ (some ⟨w.heap.size + 1, 0, none⟩) Jrn.magic X1 6 c 4 6 _ _ HX1 rfl hci.out rfl (by have := HC.out; omega) (by omega) (by omega) (by decide) (by rw [World.size_alloc] at hM; exact hM)).mono ?_
  rintro e w1 ⟨A1, c1', rfl, o1, b1⟩
  rw [L1.out]
  have B1 := hid (b0.trans (b1.mono b0.size))
  have z1 : w.heap.size < w1.heap.size := by have := b1.size; simp at this; omega
  have k1 : w1.cell? ⟨w.heap.size, 1, none⟩ = some (.int .i64 pi) := by rw [b1.cell (p := ⟨w.heap.size, 1, none⟩) (by simp; omega)]; go_simp
  have k2 : w1.cell? ⟨w.heap.size, 2, none⟩ = some (.int .u64 (n : Int)) := by rw [b1.cell (p := ⟨w.heap.size, 2, none⟩) (by simp; omega)]; go_simp
  have Y1 := hid o1.bytes
  clear o1 b1 b0 hm hM kc
  obtain ⟨X2, hX2⟩ : ∃ X2, X1 ++ Oct.be p 4 = X2 := ⟨_, rfl⟩
  have l2 : X2.length = 14 := by rw [← hX2, List.length_append, Oct.be_length, L1.out]
  have HX2 := hid hX2
  have L2 := hid l2
  clear hX2 l2
  go_wp2_with fail
  refine (refPut_callsX _ A1 X1 X2 c1' p 4 10 _ _ HX2 L1.out hpi.out rfl (by have := HP.out; omega) (by omega) (by omega) (by rw [L1.out]; decide) Y1).mono ?_
  rintro e w2 ⟨A2, c2, rfl, o2, b2⟩
  rw [L2.out]
  have B2 := hid (B1.out.trans (b2.mono B1.out.size))
  have z2 : w.heap.size < w2.heap.size := by have := b2.size; omega
  have k3 : w2.cell? ⟨w.heap.size, 2, none⟩ = some (.int .u64 (n : Int)) := by rw [b2.cell (p := ⟨w.heap.size, 2, none⟩) z1]; exact k2
  have Y2 := hid o2.bytes
  clear o2 b2 k1 k2 Y1 B1
  obtain ⟨X3, hX3⟩ : ∃ X3, X2 ++ Oct.be n 8 = X3 := ⟨_, rfl⟩
  have l3 : X3.length = 22 := by rw [← hX3, List.length_append, Oct.be_length, L2.out]
  have HX3 := hid hX3
  have L3 := hid l3
  clear hX3 l3
  go_wp2_with fail
  refine (refPut_callsX _ A2 X2 X3 c2 n 8 14 _ _ HX3 L2.out rfl rfl hn.out (by omega) (by omega) (by rw [L2.out]; decide) Y2).mono ?_
  rintro e w3 ⟨A3, c3, rfl, o3, b3⟩
  rw [L3.out]
  have B3 := hid (B2.out.trans (b3.mono B2.out.size))
  have Y3 := hid o3.bytes
  clear o3 b3 k3 Y2 B2
  obtain ⟨X4, hX4⟩ : ∃ X4, X3 ++ Oct.be (ofF X3).toNat 4 = X4 := ⟨_, rfl⟩
  have l4 : X4.length = 26 := by rw [← hX4, List.length_append, Oct.be_length, L3.out]
  have HX4 := hid hX4
  have L4 := hid l4
  clear hX4 l4
  go_wp2_with fail
  refine (refSum_callsX _ A3 A3 X3 X3 X4 c3 c3 22 22 L3 L3 (hid (by decide)) (hid (by decide)) HX4 Y3 Y3).mono ?_
  rintro e w4 ⟨A4, c4, rfl, o4, b4⟩
  rw [L4.out]
  have B4 := hid (B3.out.trans (b4.mono B3.out.size))
  have O4 := hid o4
  have Z3 := hid b4.size
  have ZB := hid B3.out.size
  clear o4 b4 Y3 B3
  obtain ⟨X5, hX5⟩ : ∃ X5, X4 ++ List.replicate (128 - X4.length) 0 = X5 := ⟨_, rfl⟩
  have l5 : X5.length = 128 := by rw [← hX5, List.length_append, List.length_replicate, L4.out]
  have HX5 := hid hX5
  have L5 := hid l5
  clear hX5 l5
  go_wp2_with fail
  refine (refFill_callsX _ w3.heap.size A4 X4 X5 c4 26 128 128 L4 (hid rfl) HX5 (hid (by decide)) (hid (by decide)) Z3.out O4).mono ?_
  rintro e w5 ⟨A5, c5, rfl, o5, g5⟩
  have hob : ∀ k, (Value.slice A4 26 c4).ownBlock = some k → w.heap.size ≤ k := by
    intro k hk
    have ho := O4.out
    unfold OwnB at ho
    rw [L4.out] at ho
    have := (ho.lt k hk).1
    have := ZB.out
    omega
  have B5 := hid (B4.out.grown g5 B4.out.size hob)
  have hN : Jrn.headN c p n = X5 := by
    unfold Jrn.headN Jrn.headW Jrn.sect
    rw [HX1.out, HX2.out, HX3.out, HX4.out, HX5.out]
  unfold OwnB at o5
  rw [L5.out] at o5
  obtain ⟨g, cap, hv, gb, _⟩ := o5.form (by omega)
  injection hv with hv _ hcap
  subst hv
  subst hcap
  have O5 := hid o5
  have G5 := hid gb
  have HN := hid hN
  clear o5 g5 O4 B4 hN gb hob
  cases b with
  | false =>
    go_wp2
    go_ret
    have hx : X = X5 := by rw [← HX.out, HN.out]; rfl
    rw [hx]
    refine ⟨some ⟨g, 0, none⟩, _, by rw [L5.out]; rfl, ?_, B5.out⟩
    unfold OwnB
    rw [L5.out]
    exact own_base O5.out ZB.out
  | true =>
    have f5 := O5.out.frozenAt 127
    have q5 : w5.cell? ⟨g, 127, none⟩ = some (byteCell (X5[127]?.getD 0)) := by
      rw [O5.out.cellAt 127 (by omega), List.getElem?_map, List.getElem?_eq_getElem (by rw [L5.out]; omega)]; rfl
    go_wp2
    go_ret
    have hx : X = X5.set 127 165 := by rw [← HX.out, HN.out]; rfl
    have lx : (X5.set 127 165).length = 128 := by rw [List.length_set, L5.out]
    obtain ⟨os, gs⟩ := O5.out.stored 127 (.int .u8 165)
    have es : (X5.map byteCell).set 127 (.int .u8 165) = (X5.set 127 165).map byteCell := by rw [List.map_set]; rfl
    rw [es] at os
    rw [hx]
    refine ⟨some ⟨g, 0, none⟩, _, by rw [lx]; rfl, ?_, B5.out.setCell (by have := G5.out; have := ZB.out; show w.heap.size ≤ g; omega) _⟩
    unfold OwnB
    rw [lx]
    exact own_base os ZB.out

theorem refHead_calls (w : World) (c p : Int) (n : Nat) (b : Bool) (hn : Hid ((n : Int) < 18446744073709551616)) :
    Calls Tryd.prog 25 #[.agg #[.int .i64 c, .int .i64 p, .int .u64 (n : Int)], .bool b] w (RetB w (Jrn.headB c p n b)) := by
  unfold Jrn.headB
  by_cases h : (0 ≤ c ∧ c ≤ 4000) ∧ (0 ≤ p ∧ p ≤ 4000)
  · rw [if_pos h]
    exact refHead_good w c p c.toNat p.toNat n b (hid (by omega)) (hid (by omega)) (by omega) (by omega) hn
  · rw [if_neg h]
    exact refHead_bad w c p n b h
end Go.Proofs.YtlmlplpbgkbhdaaDoor
