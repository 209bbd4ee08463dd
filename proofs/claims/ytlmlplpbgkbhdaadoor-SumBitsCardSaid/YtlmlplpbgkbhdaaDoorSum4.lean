/- THE WALK of the law SumBits. -/
import Derived.Test.YtlmlplpbgkbhdaaDoorSum3
import Derived.Test.YtlmlplpbgkbhdaaDoorK2
import Derived.Deep.RegionWith
set_option linter.unusedVariables false
set_option linter.unusedSimpArgs false
namespace Go.Proofs.YtlmlplpbgkbhdaaDoor
open Go.RowKit Hach Hach.Crc

set_option maxRecDepth 100000 in
set_option maxHeartbeats 400000 in
theorem sumBits_short (w : World) (ht : Hid (TabOk w)) (A C : Option Addr) (a c : Nat) (q : Int) (ca cc : Nat) (la : a ≤ 9223372036854775807) (lc : c ≤ 9223372036854775807) (h : a = 0 ∨ (2000 : Int) < a ∨ (2000 : Int) < c) :
    Calls Tryd.prog 3 #[.slice A a ca, .int .u64 q, .slice C c cc] w fun e w' => e = .returned (.bool true) ∧ Below w.heap.size w w' := by
  have H := hid h
  clear h
  by_cases c0 : a = 0
  · subst c0
    go_enter Tryd.func3, Tryd.ntmps3
    go_wp2_with fail
    refine (lives03_calls _ ht).mono ?_
    rintro e w' ⟨rfl, hw⟩
    go_wp2
    go_ret
    exact ⟨rfl, hw⟩
  have d0 : ((a : Int) == 0) = false := by rw [beq_eq_false_iff_ne]; omega
  have C0 := hid c0
  clear c0
  by_cases c1 : (2000 : Int) < a
  · go_enter Tryd.func3, Tryd.ntmps3
    go_wp2_with fail
    refine (lives03_calls _ ht).mono ?_
    rintro e w' ⟨rfl, hw⟩
    go_wp2
    go_ret
    exact ⟨rfl, hw⟩
  have c3 : (2000 : Int) < c := by have := C0.out; rcases H.out with h | h | h <;> omega
  go_enter Tryd.func3, Tryd.ntmps3
  go_wp2_with fail
  refine (lives03_calls _ ht).mono ?_
  rintro e w' ⟨rfl, hw⟩
  go_wp2
  go_ret
  exact ⟨rfl, hw⟩

attribute [local go_sem] xor32 xor8

set_option maxRecDepth 100000 in
set_option maxHeartbeats 1000000 in
theorem sumBits_walk (w : World) (ht : Hid (TabOk w)) (A C : Option Addr) (xs zs : List UInt8) (q : Int) (ca cc : Nat) (la : xs.length ≤ 9223372036854775807) (lc : zs.length ≤ 9223372036854775807) (mc : zs.length ≤ cc)
    (q0 : 0 ≤ q) (q1 : q < 18446744073709551616) (ha : Hid (Bytes w A xs)) (hc : Hid (Bytes w C zs)) :
    Calls Tryd.prog 3 #[.slice A xs.length ca, .int .u64 q, .slice C zs.length cc] w fun e w' => e = .returned (.bool true) ∧ Below w.heap.size w w' := by
  by_cases hl : xs.length = 0 ∨ (2000 : Int) < xs.length ∨ (2000 : Int) < zs.length
  · exact sumBits_short w ht A C _ _ q ca cc la lc hl
  have c0 : 0 < xs.length := by have : ¬ xs.length = 0 := fun h => hl (.inl h); omega
  have c1 : ¬ (2000 : Int) < xs.length := fun h => hl (.inr (.inl h))
  have c3 : ¬ (2000 : Int) < zs.length := fun h => hl (.inr (.inr h))
  clear hl
  have d0 : ((xs.length : Int) == 0) = false := by rw [beq_eq_false_iff_ne]; omega
  obtain ⟨k, hk⟩ : ∃ k : Nat, q % (8 * (xs.length : Int)) = (k : Int) := ⟨(q % (8 * (xs.length : Int))).toNat, by have := Int.emod_nonneg q (b := 8 * (xs.length : Int)) (by omega); omega⟩
  have hk8 : k < 8 * xs.length := by have := Int.emod_lt_of_pos q (b := 8 * (xs.length : Int)) (by omega); omega
  go_enter Tryd.func3, Tryd.ntmps3
  go_wp2_with (at_builtin; refine hold ?_)
  have b1 : Below w.heap.size w (w.alloc (.cells #[] 5)) := (Below.refl _ _).alloc (Nat.le_refl _) _
  refine hid (wl_append elemB rfl (.tmp 27) (.tmp 28) rfl rfl (own_lit w w.heap.size 5 0 [] (Nat.le_refl _) (by decide) rfl) rfl ((ha.out.grown b1).rd) (by simp) (byteCells_one _) (by simp only [maxLen]; omega) (by omega) (by simp) ?_)
  intro A1 k1 w1 o1 g1 _
  have b2 := below_append b1 (Nat.le_refl _) (by simp) (own_lit w w.heap.size 5 0 [] (Nat.le_refl _) (by decide) rfl) g1
  clear b1 g1
  simp only [Nat.zero_add, List.nil_append] at o1
  rw [Nat.zero_add]
  obtain ⟨g, cap, hv, gb, gl⟩ := o1.form c0
  injection hv with hv _ _
  subst hv
  have O1 := hid o1
  have B2 := hid b2
  have GB := hid gb
  clear o1 b2 gb
  have hx : w1.cell? ⟨g, k / 8, none⟩ = some (.int .u8 (n8 (xs[k / 8]?.getD 0))) := by
    rw [O1.out.cellAt (k / 8) (by omega), List.getElem?_map, List.getElem?_eq_getElem (by omega)]; rfl
  have hf := O1.out.frozenAt (k / 8)
  have hxor : bits BinOp.xor .u8 (n8 (xs[k / 8]?.getD 0)) (2 ^ (k % 8) % 256) = n8 (xs[k / 8]?.getD 0 ^^^ UInt8.ofNat (2 ^ (k % 8))) := by rw [pow8 _ (Nat.mod_lt _ (by decide)), xor8]
  have Hxor := hid hxor
  clear hxor
  go_wp2_with fail
  rw [Hxor.out]
  generalize hy : xs[k / 8]?.getD 0 ^^^ UInt8.ofNat (2 ^ (k % 8)) = y
  obtain ⟨o2, g2⟩ := O1.out.stored (k / 8) (.int .u8 (n8 y))
  have e2 : (xs.map byteCell).set (k / 8) (.int .u8 (n8 y)) = (xs.set (k / 8) y).map byteCell := by rw [List.map_set]; rfl
  rw [e2] at o2
  have b3 : Below w.heap.size w (w1.setCell ⟨g, k / 8, none⟩ (.int .u8 (n8 y))) := B2.out.setCell GB.out _
  have hne : ofF (xs.set (k / 8) y) ≠ ofF xs := by
    have hlt : k / 8 < xs.length := by omega
    have e : xs = xs.take (k / 8) ++ xs[k / 8] :: xs.drop (k / 8 + 1) := by rw [List.getElem_cons_drop, List.take_append_drop]
    have e' : xs.set (k / 8) y = xs.take (k / 8) ++ y :: xs.drop (k / 8 + 1) := List.set_eq_take_append_cons_drop.trans (if_pos hlt)
    rw [e']
    conv => rhs; rw [e]
    unfold ofF addF
    intro h
    have h2 := congrArg (fun t => ~~~ t) h
    simp only [BitVec.not_not] at h2
    refine run_ne _ _ _ _ _ ?_ h2
    rw [← hy, List.getElem?_eq_getElem hlt]
    intro h3
    apply pow8_ne (k % 8) (Nat.mod_lt _ (by decide))
    have := congrArg (fun t => xs[k / 8] ^^^ t) h3
    simpa [← UInt8.xor_assoc] using this
  have hbeq : (n32 (ofF (xs.set (k / 8) y)) == n32 (ofF xs)) = false := by rw [beq_eq_false_iff_ne]; exact fun h => hne (n32_inj h)
  clear hne
  generalize w1.setCell ⟨g, k / 8, none⟩ (.int .u8 (n8 y)) = w2 at *
  have t2 := hid (ht.out.below b3 ht.out.lt)
  have ht0 := hid ht.out.lt
  have ha2 := hid (ha.out.grown b3)
  have hc2 := hid (hc.out.grown b3)
  have B3 := hid b3
  have Y2 := hid (Rd.bytes (Rd.own o2))
  clear b3 o2 g2 e2 ht ha hc O1 B2 hx hf hy Hxor
  refine (of_calls' _ t2 (some ⟨g, 0, none⟩) (xs.set (k / 8) y) _ _ (by simp) (by simpa using la) Y2).mono ?_
  rintro e w' ⟨rfl, rfl⟩
  go_wp2_with fail
  refine (of_calls _ t2 _ _ _ la ha2).mono ?_
  rintro e w' ⟨rfl, rfl⟩
  by_cases cl : (zs.length : Int) < xs.length
  · go_wp2_with fail
    refine (lives03_calls _ t2).mono ?_
    rintro e w' ⟨rfl, hw⟩
    go_wp2
    go_ret
    exact ⟨rfl, B3.out.trans (hw.mono B3.out.size)⟩
  have hty : Bytes w2 C (zs.take xs.length) := Rd.bytes (by rw [List.map_take]; exact hc2.out.rd.take _)
  have lty : (zs.take xs.length).length = xs.length := by rw [List.length_take]; omega
  have HTY := hid hty
  have LTY := hid lty
  clear hty lty
  generalize zs.take xs.length = ys at HTY LTY
  have n2 := B3.out.size
  go_wp2_with (at_builtin; refine hold ?_)
  have bL : Below w2.heap.size w2 (w2.alloc (.cells #[] 5)) := (Below.refl _ _).alloc (Nat.le_refl _) _
  have bL' := B3.out.alloc (by omega) (.cells #[] 5)
  have oL := own_lit w2 w2.heap.size 5 0 [] (Nat.le_refl _) (by decide) rfl
  refine hid (wl_append elemB rfl (.tmp 59) (.tmp 63) rfl rfl oL rfl ((HTY.out.grown bL).rd) (by simp [LTY.out]) (byteCells_one _) (by simp only [maxLen]; omega) (by omega) (by simp) ?_)
  intro Ay ky w3 oy gy' _
  have b3 := below_append bL (Nat.le_refl _) (by simp) oL gy'
  have B4 := hid (B3.out.trans (b3.mono B3.out.size))
  have ha3 := hid (ha2.out.grown b3)
  have t3 := hid (t2.out.below b3 t2.out.lt)
  have n3 := b3.size
  clear bL bL' oL gy' b3 ha2 hc2 HTY t2 Y2
  simp only [Nat.zero_add, List.nil_append] at oy
  rw [Nat.zero_add]
  obtain ⟨gy, capy, hv, _, gyl⟩ := oy.form c0
  injection hv with hv _ _
  subst hv
  have OY := hid oy
  clear oy
  go_wp2_with (at_make; refine hold ?_)
  refine hid (wl_make elemB rfl (.tmp 66) (.tmp 66) rfl w3.heap.size xs.length rfl rfl rfl rfl (by omega) (by simp only [maxLen]; omega) (Nat.le_refl _) ?_)
  intro w4 od b4 s4
  have hz : (madeCells (Value.int IntKind.u8 0).cells (xs.length * 1)).toList = (List.replicate xs.length (0 : UInt8)).map byteCell := by
    rw [Nat.mul_one]; show (madeCells #[Value.int IntKind.u8 0] xs.length).toList = _
    rw [toList_madeCells_one, List.map_replicate]; rfl
  rw [hz] at od
  have OD := hid od
  have OY4 := hid ((Fr.of_below b4).own OY.out (fun _ _ => id))
  have B5 := hid (B4.out.trans (b4.mono B4.out.size))
  have ha4 := hid (ha3.out.grown b4)
  have t4 := hid (t3.out.below b4 t3.out.lt)
  generalize hd0 : w3.heap.size = d0 at *
  have S4 : d0 < w4.heap.size := s4
  clear od b4 hz OY ha3 t3 B4 hd0
  go_wp2_with (at_builtin; refine hold ?_)
  have bL : Below w4.heap.size w4 (w4.alloc (.cells #[] 5)) := (Below.refl _ _).alloc (Nat.le_refl _) _
  have oL := own_lit w4 w4.heap.size 5 0 [] (Nat.le_refl _) (by decide) rfl
  refine hid (wl_append elemB rfl (.tmp 68) (.tmp 69) rfl rfl oL rfl ((ha4.out.grown bL).rd) (by simp) (byteCells_one _) (by simp only [maxLen]; omega) (by omega) (by simp) ?_)
  intro Az kz w5 oz gz' _
  have b5 := below_append bL (Nat.le_refl _) (by simp) oL gz'
  simp only [Nat.zero_add, List.nil_append] at oz
  rw [Nat.zero_add]
  obtain ⟨gz, capz, hv, gzb, _⟩ := oz.form c0
  injection hv with hv _ _
  subst hv
  have dz : gz ≠ d0 := by omega
  have dy : gy ≠ d0 := by omega
  have OZ := hid oz
  have OD5 := hid ((Fr.of_below b5).own OD.out (fun _ _ => id))
  have OY5 := hid ((Fr.of_below b5).own OY4.out (fun _ _ => id))
  have B6 := hid (B5.out.trans (b5.mono B5.out.size))
  have ha5 := hid (ha4.out.grown b5)
  have t5 := hid (t4.out.below b5 t4.out.lt)
  have L5 := b5.size
  clear bL oL gz' b5 oz OD OY4 ha4 t4 B5
  go_wp2
  go_loopw [12, 73] (fun _ i wr => ∃ j : Nat, j ≤ xs.length ∧ i = .int .i64 j ∧ Hid (wr.ownsRow d0 5 1 (.slice (some ⟨d0, 0, none⟩) xs.length xs.length) xs.length (((Hach.Crc.zs xs ys).take j ++ List.replicate (xs.length - j) 0).map byteCell)) ∧ Hid (Fr (fun b => b = d0) w5 wr)) (fun _ i _ => xs.length - (intOf i).toNat)
  case atStart => exact ⟨0, by omega, rfl, hid (by simpa using OD5.out), hid (Fr.refl _ _)⟩
  case round =>
    obtain ⟨j, hj, rfl, ow, fr⟩ := hrel
    by_cases hlt : j < xs.length
    · have e1 : wr.cell? ⟨gz, j, none⟩ = some (.int .u8 (n8 (xs[j]?.getD 0))) := by
        rw [(fr.out.own OZ.out (by rintro k ⟨⟩; exact dz)).cellAt j (by omega), List.getElem?_map, List.getElem?_eq_getElem hlt]; rfl
      have e2 : wr.cell? ⟨gy, j, none⟩ = some (.int .u8 (n8 (ys[j]?.getD 0))) := by
        rw [(fr.out.own OY5.out (by rintro k ⟨⟩; exact dy)).cellAt j (by omega), List.getElem?_map, List.getElem?_eq_getElem (by rw [LTY.out]; exact hlt)]; rfl
      have lz : (Hach.Crc.zs xs ys).length = xs.length := by unfold Hach.Crc.zs; rw [List.length_zipWith, LTY.out]; omega
      have hrow : (((Hach.Crc.zs xs ys).take j ++ List.replicate (xs.length - j) 0).map byteCell)[j]? = some (.int .u8 0) := by
        rw [List.getElem?_map, List.getElem?_append_right (by rw [List.length_take]; omega), List.length_take, Nat.min_eq_left (by omega), Nat.sub_self, List.getElem?_replicate, if_pos (by omega)]; rfl
      have e3 : wr.cell? ⟨d0, j, none⟩ = some (.int .u8 0) := by rw [ow.out.cellAt j (by omega), hrow]
      have e4 := ow.out.frozenAt j
      clear hrow
      generalize hxj : xs[j]?.getD 0 = xj at e1
      generalize hyj : ys[j]?.getD 0 = yj at e2
      have HX := hid hxj
      have HY := hid hyj
      clear hxj hyj lz
      go_wp2
      go_region
      go_wp2
      go_roundw
      case rel =>
        obtain ⟨os, gs⟩ := ow.out.stored j (.int .u8 (n8 (xj ^^^ yj)))
        have lz : (Hach.Crc.zs xs ys).length = xs.length := by unfold Hach.Crc.zs; rw [List.length_zipWith, LTY.out]; omega
        have hz : (Hach.Crc.zs xs ys)[j]? = some (xj ^^^ yj) := by
          have hy2 : j < ys.length := by rw [LTY.out]; exact hlt
          rw [← HX.out, ← HY.out]
          unfold Hach.Crc.zs
          rw [List.getElem?_zipWith, List.getElem?_eq_getElem hlt, List.getElem?_eq_getElem hy2]; rfl
        have el : (((Hach.Crc.zs xs ys).take j ++ List.replicate (xs.length - j) 0).map byteCell).set j (.int .u8 (n8 (xj ^^^ yj))) = ((Hach.Crc.zs xs ys).take (j + 1) ++ List.replicate (xs.length - (j + 1)) 0).map byteCell := by
          rw [List.take_add_one, hz, show xs.length - j = (xs.length - (j + 1)) + 1 by omega, List.replicate_succ]
          show (List.map byteCell _).set j (byteCell (xj ^^^ yj)) = _
          rw [← List.map_set, List.set_append_right (s := (Hach.Crc.zs xs ys).take j) _ _ (by rw [List.length_take]; omega), List.length_take, Nat.min_eq_left (by omega), Nat.sub_self, List.set_cons_zero]
          simp
        rw [el] at os
        exact ⟨j + 1, by omega, by go_num, hid os, hid ((fr.out.setCell (fun _ => rfl) _).drew)⟩
      case measure => simp [intOf]; omega
    · obtain rfl : j = xs.length := by omega
      have lzs : (Hach.Crc.zs xs ys).length = xs.length := by unfold Hach.Crc.zs; rw [List.length_zipWith, LTY.out]; omega
      have ow2 : Bytes wr (some ⟨d0, 0, none⟩) (Hach.Crc.zs xs ys) := Rd.bytes (by have := Rd.own ow.out; rwa [Nat.sub_self, List.replicate_zero, List.append_nil, List.take_of_length_le (by omega)] at this)
      have oz2 : Bytes wr (some ⟨gz, 0, none⟩) xs := Rd.bytes (Rd.own (fr.out.own OZ.out (by rintro k ⟨⟩; exact dz)))
      have oy2 : Bytes wr (some ⟨gy, 0, none⟩) ys := Rd.bytes (Rd.own (fr.out.own OY5.out (by rintro k ⟨⟩; exact dy)))
      have tw : TabOk wr := by
        intro i hi
        refine fr.out.cell (t5.out i hi) ?_
        show ¬ 0 = d0
        have := ht0.out
        omega
      have hdiff := ofF_diff xs ys LTY.out.symm
      have tn : ∀ b, No b → False := fun _ h => h
      have A1 : ∀ w', Fr No wr w' → Hid (TabOk w') ∧ Hid (Bytes w' (some ⟨d0, 0, none⟩) (Hach.Crc.zs xs ys)) ∧ Hid (Bytes w' (some ⟨gz, 0, none⟩) xs) ∧ Hid (Bytes w' (some ⟨gy, 0, none⟩) ys) := by
        intro w' hf
        refine ⟨?_, (ow2.rd.fr hf (fun _ _ _ => id)).bytes, (oz2.rd.fr hf (fun _ _ _ => id)).bytes, (oy2.rd.fr hf (fun _ _ _ => id)).bytes⟩
        intro i hi
        exact hf.cell (tw i hi) id
      have HA1 := hid A1
      have BW := hid (show Below w.heap.size w wr from B6.out.trans (fr.out.below (by have := B6.out.size; omega) (fun k hk e => by have := B3.out.size; omega)))
      have LZS := hid lzs
      obtain ⟨i0, hi0, hz0, hz1, hz2⟩ := info_parts elemB.hi
      have hmk : ∀ w', (Instr.makeSlice 22 (.int .i64 (xs.length : Int)) (.int .i64 (xs.length : Int))).run Tryd.prog w' = .ok (.slice (some ⟨w'.heap.size, 0, none⟩) xs.length xs.length) (w'.alloc (.cells (madeCells #[.int .u8 0] xs.length) 5)) := by
        intro w'
        have := run_make (P := Tryd.prog) w' 22 5 i0 (.int .u8 0) elemB.ht hi0 hz0 .i64 .i64 (xs.length : Int) (xs.length : Int) (by omega) (Int.le_refl _) (by rw [hz2]; omega) (by omega)
        simpa [hz1, Value.cells] using this
      have hmade : ∀ w' : World, Hid (Bytes (w'.alloc (.cells (madeCells #[.int .u8 0] xs.length) 5)) (some ⟨w'.heap.size, 0, none⟩) (List.replicate xs.length 0)) := by
        intro w'
        refine hid (Rd.bytes ?_)
        have := Rd.new w' 5 (0, 0) ((List.replicate xs.length (0 : UInt8)).map byteCell)
        have e : ((List.replicate xs.length (0 : UInt8)).map byteCell).toArray = madeCells #[.int .u8 0] xs.length := by
          apply Array.ext'
          rw [toList_madeCells_one, List.map_replicate]; rfl
        rwa [e] at this
      clear ow2 oz2 oy2 tw A1 lzs hi0 hz0 hz1 hz2
      go_wp2
      go_region_with (first
        | (go_at_call 12; (with_reducible refine (of_calls' _ ?_ (some ⟨gz, 0, none⟩) xs _ _ rfl la ?_).mono ?_); exact (HA1.out _ (by repeat (first | exact Fr.refl _ _ | apply Fr.drew | apply Fr.alloc))).1; exact (HA1.out _ (by repeat (first | exact Fr.refl _ _ | apply Fr.drew | apply Fr.alloc))).2.2.1; rintro e w' ⟨rfl, rfl⟩)
        | (go_at_call 12; (with_reducible refine (of_calls' _ ?_ (some ⟨gy, 0, none⟩) ys _ _ LTY.out.symm (by rw [LTY.out]; exact la) ?_).mono ?_); exact (HA1.out _ (by repeat (first | exact Fr.refl _ _ | apply Fr.drew | apply Fr.alloc))).1; exact (HA1.out _ (by repeat (first | exact Fr.refl _ _ | apply Fr.drew | apply Fr.alloc))).2.2.2; rintro e w' ⟨rfl, rfl⟩)
        | (go_at_call 12; (with_reducible refine (of_calls' _ ?_ (some ⟨d0, 0, none⟩) (Hach.Crc.zs xs ys) _ _ LZS.out.symm (by rw [LZS.out]; exact la) ?_).mono ?_); exact (HA1.out _ (by repeat (first | exact Fr.refl _ _ | apply Fr.drew | apply Fr.alloc))).1; exact (HA1.out _ (by repeat (first | exact Fr.refl _ _ | apply Fr.drew | apply Fr.alloc))).2.1; rintro e w' ⟨rfl, rfl⟩)
        | (go_at_call 12; (with_reducible refine (of_calls' _ ?_ _ (List.replicate xs.length 0) _ _ (by simp) (by simpa using la) ?_).mono ?_); exact (HA1.out _ (by repeat (first | exact Fr.refl _ _ | apply Fr.drew | apply Fr.alloc))).1; exact hmade _; rintro e w' ⟨rfl, rfl⟩)
        | (go_at_call 11; (with_reducible refine (lives03_calls _ ?_).mono ?_); exact (HA1.out _ (by repeat (first | exact Fr.refl _ _ | apply Fr.drew | apply Fr.alloc))).1; rintro e w' ⟨rfl, hw⟩))
      all_goals go_wp2
      all_goals go_ret
      all_goals (refine ⟨rfl, ?_⟩)
      all_goals (refine Below.trans ?_ (hw.mono ?_))
      all_goals first
        | (repeat first | exact BW.out | apply Below.drew | (refine Below.alloc ?_ ?_ _))
        | skip
      all_goals first
        | exact BW.out.size
        | (have := BW.out.size; simp; omega)
end Go.Proofs.YtlmlplpbgkbhdaaDoor
