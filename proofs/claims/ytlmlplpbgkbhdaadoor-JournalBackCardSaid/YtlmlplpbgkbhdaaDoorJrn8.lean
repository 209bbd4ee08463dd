/- THE WALK of JournalFlips. -/
import Derived.Test.YtlmlplpbgkbhdaaDoorJrn7
import Derived.Test.YtlmlplpbgkbhdaaDoorJrnR
set_option linter.unusedVariables false
set_option linter.unusedSimpArgs false
namespace Go.Proofs.YtlmlplpbgkbhdaaDoor
open Go.RowKit Hach

set_option maxHeartbeats 400000 in
theorem sectors_calls (n : Int) (w : World) :
    Calls Tryd.prog 30 #[.int .i64 n] w fun e w' => e = .returned (.int .i64 (1 + 5 * (min (max n 0) 4000))) ∧ w = w' := by
  go_enter Tryd.func30, Tryd.ntmps30
  go_wp2
  all_goals (go_ret; refine ⟨ret_int ?_, rfl⟩)
  all_goals (first | omega | (split at * <;> omega))

theorem lives06_calls (w : World) :
    Calls Tryd.prog 20 #[] w fun e w' => e = .returned (.bool true) ∧ w = w' := by
  go_enter Tryd.func20, Tryd.ntmps20
  go_wp2_with fail
  refine (sectors_calls 2 _).mono ?_
  rintro e w' ⟨rfl, rfl⟩
  go_wp2
  go_ret
  exact ⟨rfl, rfl⟩

theorem seed_rd (w : World) (g : Nat) (p : Int) (b : UInt8) (s : Bool) (hw : w.heap[g]? = some (.cells #[.int .i64 p, .int .u8 (n8 b), .bool s] 33 (0, 0))) :
    Rd w (some ⟨g, 0, none⟩) (seedCells [(p, b, s)]) := by
  intro j u h
  refine ⟨g, 0, rfl, ?_⟩
  have hj : j < 3 := by have := (List.getElem?_eq_some_iff.1 h).1; simpa [seedCells] using this
  unfold World.cell?
  rw [show (⟨g, 0 + j, none⟩ : Addr).block = g from rfl, hw]
  match j, hj with
  | 0, _ => simpa [seedCells] using h
  | 1, _ => simpa [seedCells] using h
  | 2, _ => simpa [seedCells] using h

theorem readRecord_err (w : World) (ht : Hid (TabOk w)) (A : Option Addr) (xs : List UInt8) (c n k : Nat) (hk : Hid (xs.length = k)) (h6 : Hid (640 ≤ k ∧ k ≤ 1073741824)) (hcap : k ≤ c) (hn : Hid ((n : Int) < 18446744073709551616)) (hf : Hid (Jrn.recIs xs n = false)) (hc : Hid (Bytes w A xs)) :
    Calls Tryd.prog 21 #[.slice A k c, .int .u64 (n : Int)] w fun e w' => e = .returned (.tuple #[.agg #[.int .i64 0, .slice none 0 0], .int .i64 9]) ∧ Below w.heap.size w w' := by
  have hk' := hk.out
  subst hk'
  have h6' := h6.out
  refine (readRecord_calls w ht A xs c n (by omega) hcap hn hc).mono ?_
  rintro e w' ⟨hb, h⟩
  rcases h with ⟨h, _⟩ | ⟨_, _, h⟩ | ⟨_, h, _⟩
  · omega
  · exact ⟨h, hb⟩
  · rw [hf.out] at h; cases h

set_option maxRecDepth 100000 in
set_option maxHeartbeats 1000000 in
theorem journalFlips_walk (w : World) (ht : Hid (TabOk w)) (p : Int) (bt : UInt8) (sh : Bool) (n : Nat) (q : Int) (hn : Hid ((n : Int) < 18446744073709551616)) (q0 : 0 ≤ q) (q1 : q < 18446744073709551616) :
    Calls Tryd.prog 6 #[.agg #[.int .i64 p, .int .u8 (n8 bt), .bool sh], .int .u64 (n : Int), .int .u64 q] w fun e w' => e = .returned (.bool true) ∧ Below w.heap.size w w' := by
  have Q0 := hid q0
  have Q1 := hid q1
  clear q0 q1
  go_enter Tryd.func6, Tryd.ntmps6
  go_wp2_with fail
  have b0 : Below w.heap.size w ((w.alloc (Obj.cells #[Value.int IntKind.i64 p, Value.int IntKind.u8 (n8 bt), Value.bool false] 33)).alloc (Obj.cells #[Value.int IntKind.i64 p, Value.int IntKind.u8 (n8 bt), Value.bool false] 33)) :=
    ((Below.refl _ _).alloc (Nat.le_refl _) _).alloc (by simp) _
  have p0 : ((w.alloc (Obj.cells #[Value.int IntKind.i64 p, Value.int IntKind.u8 (n8 bt), Value.bool false] 33)).alloc (Obj.cells #[Value.int IntKind.i64 p, Value.int IntKind.u8 (n8 bt), Value.bool false] 33)).cell? ⟨w.heap.size, 0, none⟩ = some (.int .i64 p) := by go_simp
  have z0 : w.heap.size + 1 < ((w.alloc (Obj.cells #[Value.int IntKind.i64 p, Value.int IntKind.u8 (n8 bt), Value.bool false] 33)).alloc (Obj.cells #[Value.int IntKind.i64 p, Value.int IntKind.u8 (n8 bt), Value.bool false] 33)).heap.size := by simp
  have s0 := seed_rd ((w.alloc (Obj.cells #[Value.int IntKind.i64 p, Value.int IntKind.u8 (n8 bt), Value.bool false] 33)).alloc (Obj.cells #[Value.int IntKind.i64 p, Value.int IntKind.u8 (n8 bt), Value.bool false] 33)) (w.heap.size + 1) p bt false (by
    have := heap_alloc_new (w.alloc (Obj.cells #[Value.int IntKind.i64 p, Value.int IntKind.u8 (n8 bt), Value.bool false] 33)) (Obj.cells #[Value.int IntKind.i64 p, Value.int IntKind.u8 (n8 bt), Value.bool false] 33)
    rwa [show (w.alloc (Obj.cells #[Value.int IntKind.i64 p, Value.int IntKind.u8 (n8 bt), Value.bool false] 33)).heap.size = w.heap.size + 1 by simp] at this)
  generalize (w.alloc (Obj.cells #[Value.int IntKind.i64 p, Value.int IntKind.u8 (n8 bt), Value.bool false] 33)).alloc (Obj.cells #[Value.int IntKind.i64 p, Value.int IntKind.u8 (n8 bt), Value.bool false] 33) = W at *
  refine (records_calls W _ [(p, bt, false)] 1 (hid (show 1 ≤ 1000000 by decide)) (hid s0)).mono ?_
  rintro e w1 ⟨A1, c1, xs, rfl, o1, r1, b1⟩
  obtain ⟨x0, A2, c2, x1, oD⟩ := r1.get 0 (Nat.zero_lt_one)
  obtain ⟨g1, cap1, hv, gb1, gl1⟩ := o1.form Nat.zero_lt_one
  injection hv with hv _ _
  subst hv
  obtain ⟨D, hD⟩ : ∃ D, (List.replicate 512 bt) = D := ⟨_, rfl⟩
  have lD : D.length = 512 := by rw [← hD, List.length_replicate]
  have k0 := (o1.cellAt 0 (show 0 < 1 * 2 by decide)).trans x0
  have k1 := (o1.cellAt 1 (show 1 < 1 * 2 by decide)).trans x1
  have kp := (b1.cell (p := ⟨w.heap.size, 0, none⟩) (by show w.heap.size < W.heap.size; omega)).trans p0
  have B1 := hid (b0.trans (b1.mono b0.size))
  have Y1 := oD.bytes
  have e0 : ((List.map seedRec [(p, bt, false)])[0]'(Nat.zero_lt_one)).2 = D := hD
  rw [e0] at k1 Y1
  rw [lD] at k1
  replace k0 : w1.cell? ⟨g1, 0, none⟩ = some (.int .i64 p) := k0
  have YD := hid Y1
  have T1 := hid (ht.out.below' B1.out)
  have LD := hid lD
  have HD := hid hD
  have zg : w1.heap.size > w.heap.size := by have := b1.size; omega
  clear p0 z0 s0 o1 r1 oD x0 x1 e0 Y1 hD lD b0 b1
  obtain ⟨R, hR⟩ : ∃ R, Jrn.recB p n D = R := ⟨_, rfl⟩
  have HR := hid hR
  have LR := hid (show R.length ≤ 640 by rw [← hR]; exact Jrn.recB_length _ _ _)
  clear hR
  go_wp2_with fail
  have hs : (w1.alloc (Obj.cells #[Value.int IntKind.i64 p, Value.slice A2 512 c2] 36)).heap.size = w1.heap.size + 1 := by simp
  have oL := own_lit (w1.alloc (Obj.cells #[Value.int IntKind.i64 p, Value.slice A2 512 c2] 36)) w.heap.size 5 0 [] (by omega) (by decide) rfl
  rw [hs] at oL
  have b2 := (B1.out.alloc B1.out.size (Obj.cells #[Value.int IntKind.i64 p, Value.slice A2 512 c2] 36)).alloc (by omega) (Obj.cells #[] 5)
  have f2 : Below w1.heap.size w1 ((w1.alloc (Obj.cells #[Value.int IntKind.i64 p, Value.slice A2 512 c2] 36)).alloc (Obj.cells #[] 5)) := ((Below.refl _ _).alloc (Nat.le_refl _) _).alloc (by omega) _
  have kp2 := (f2.cell (p := ⟨w.heap.size, 0, none⟩) zg).trans kp
  have Y2 := hid (YD.out.grown f2)
  have T2 := hid (T1.out.below' f2)
  generalize hW2 : (w1.alloc (Obj.cells #[Value.int IntKind.i64 p, Value.slice A2 512 c2] 36)).alloc (Obj.cells #[] 5) = W2 at *
  have z2 : w1.heap.size + 1 < W2.heap.size := by rw [← hW2]; simp
  clear hW2 hs f2 kp YD T1 B1 k0 k1
  generalize w1.heap.size = g2 at *
  refine (recordBytes_callsX W2 T2 p n 512 A2 D R c2 LD HR hn Y2).mono ?_
  rintro e w3 ⟨A3, c3, rfl, o3, b3⟩
  have kp3 := (b3.cell (p := ⟨w.heap.size, 0, none⟩) (by show w.heap.size < W2.heap.size; have := b2.size; omega)).trans kp2
  have oL3 := Fr.own (Fr.of_below b3) oL (fun _ _ => id)
  have b23 := b2.trans (b3.mono b2.size)
  have OL := hid oL3
  have B3 := hid b23
  have Y3 := hid o3.bytes
  have T3 := hid (T2.out.below' b3)
  have z3 : w.heap.size < w3.heap.size := by have := b2.size; have := b3.size; omega
  clear oL oL3 b2 b3 b23 o3 Y2 T2 kp2 z2
  obtain ⟨lr, hlr⟩ : ∃ lr, R.length = lr := ⟨_, rfl⟩
  rw [hlr]
  have HLR := hid hlr
  have LR2 := hid (show lr ≤ 640 by rw [← hlr]; exact LR.out)
  clear hlr
  go_wp2_with (at_builtin; refine hold ?_)
  refine hid (wl_append elemB rfl (.tmp 20) (.tmp 23) rfl rfl OL.out rfl (Y3.out.rd) (by simp; exact HLR.out) (byteCells_one _) (by have := LR2.out; simp only [maxLen]; omega) (by have := LR2.out; omega) B3.out.size ?_)
  intro A4 c4 w4 o4 g4 d4
  have b4 := below_append B3.out (Nat.le_refl _) B3.out.size OL.out g4
  rw [Nat.zero_add] at o4
  rw [List.nil_append] at o4
  have O4 := hid o4
  have B4 := hid b4
  have T4 := hid (ht.out.below' b4)
  rw [Nat.zero_add]
  have hno : w.heap.size ≠ g2 + 1 := by omega
  have kp4 : w4.cell? ⟨w.heap.size, 0, none⟩ = some (.int .i64 p) := g4.cell kp3 (by simpa [Value.ownBlock] using hno)
  clear o4 b4 g4 d4 kp3 OL B3 Y3 T3 hno
  cases hg : Jrn.recGood p D with
  | false =>
    have hR0 : R = [] := by rw [← HR.out]; unfold Jrn.recB; rw [hg]; rfl
    obtain rfl : lr = 0 := by rw [← HLR.out, hR0]; rfl
    have hp : p < 1 ∨ 4000 < p := by
      unfold Jrn.recGood at hg
      have := of_decide_eq_false hg
      have := LD.out
      omega
    by_cases cp : p < 1
    · clear hp
      go_wp2_with fail
      refine (lives06_calls _).mono ?_
      rintro e w' ⟨rfl, rfl⟩
      go_wp2
      go_ret
      exact ⟨rfl, B4.out⟩
    · have cq : 4000 < p := by omega
      clear hp
      go_wp2_with fail
      refine (lives06_calls _).mono ?_
      rintro e w' ⟨rfl, rfl⟩
      go_wp2
      go_ret
      exact ⟨rfl, B4.out⟩
  | true =>
    have hg' := of_decide_eq_true hg
    obtain ⟨pn, rfl⟩ := Int.eq_ofNat_of_zero_le (show 0 ≤ p by omega)
    have HRN : Hid (Jrn.recN pn n D = R) := by refine hid ?_; rw [← HR.out]; unfold Jrn.recB; rw [hg]; rfl
    have hR6 : R.length = 640 := by rw [← HRN.out]; exact (Jrn.recN_isR pn n D LD.out).1
    have l6 : lr = 640 := by rw [← HLR.out, hR6]
    have c0 : 0 < lr := by omega
    have c1 : (lr : Int) ≤ 640 := by omega
    have d0 : ((lr : Int) == 0) = false := by rw [beq_eq_false_iff_ne]; omega
    have q0 := Q0.out
    have q1 := Q1.out
    obtain ⟨k, hk⟩ : ∃ k : Nat, q % (8 * (lr : Int)) = (k : Int) := ⟨(q % (8 * (lr : Int))).toNat, by have := Int.emod_nonneg q (b := 8 * (lr : Int)) (by omega); omega⟩
    have hk8 : k < 8 * lr := by have := Int.emod_lt_of_pos q (b := 8 * (lr : Int)) (by omega); omega
    have L6 := hid l6
    have HG := hid hg'
    clear l6 hg hg' hR6 LR2
    obtain ⟨g, cap, hv, gb, gl⟩ := O4.out.form c0
    injection hv with hv _ _
    subst hv
    have GB := hid gb
    clear gb
    have hlR : k / 8 < R.length := by rw [HLR.out]; omega
    have hx : w4.cell? ⟨g, k / 8, none⟩ = some (.int .u8 (n8 (R[k / 8]?.getD 0))) := by
      rw [O4.out.cellAt (k / 8) (by omega), List.getElem?_map, List.getElem?_eq_getElem hlR]; rfl
    have hf := O4.out.frozenAt (k / 8)
    have Hxor : Hid (bits BinOp.xor .u8 (n8 (R[k / 8]?.getD 0)) (2 ^ (k % 8) % 256) = n8 (R[k / 8]?.getD 0 ^^^ UInt8.ofNat (2 ^ (k % 8)))) := by refine hid ?_; rw [pow8 _ (Nat.mod_lt _ (by decide)), xor8]
    clear hlR
    go_wp2_with fail
    rw [Hxor.out]
    generalize hy : R[k / 8]?.getD 0 ^^^ UInt8.ofNat (2 ^ (k % 8)) = y
    have hne : (R[k / 8]?.getD 0) ≠ y := by
      rw [← hy]
      intro h3
      apply pow8_ne (k % 8) (Nat.mod_lt _ (by decide))
      have := congrArg (fun t => R[k / 8]?.getD 0 ^^^ t) h3
      simpa [← UInt8.xor_assoc] using this.symm
    have Hxor2 : Hid (bits BinOp.xor .u8 (n8 y) (2 ^ (k % 8) % 256) = n8 (R[k / 8]?.getD 0)) := by
      refine hid ?_
      rw [pow8 _ (Nat.mod_lt _ (by decide)), xor8, ← hy, UInt8.xor_assoc, UInt8.xor_self, UInt8.xor_zero]
    have hlR : k / 8 < R.length := by rw [HLR.out]; omega
    obtain ⟨o5, g5⟩ := O4.out.stored (k / 8) (.int .u8 (n8 y))
    have e2 : (R.map byteCell).set (k / 8) (.int .u8 (n8 y)) = (R.set (k / 8) y).map byteCell := by rw [List.map_set]; rfl
    rw [e2] at o5
    have b5 : Below w.heap.size w (w4.setCell ⟨g, k / 8, none⟩ (.int .u8 (n8 y))) := B4.out.setCell GB.out _
    have HF : Hid (Jrn.recIs (R.set (k / 8) y) n = false) := by
      refine hid ?_
      have hl' : k / 8 < (Jrn.recN pn n D).length := by rw [HRN.out]; exact hlR
      have := Jrn.rec_flip pn n D LD.out (k / 8) y hl' (by
        intro e
        apply hne
        rw [← e, ← HRN.out, List.getElem?_eq_getElem hl']; rfl)
      rwa [HRN.out] at this
    have HLR5 := hid (show (R.set (k / 8) y).length = lr by rw [List.length_set]; exact HLR.out)
    have h6 := hid (show 640 ≤ lr ∧ lr ≤ 1073741824 by have := L6.out; omega)
    have hcap : lr ≤ cap := by
      obtain ⟨_, _, hv, hc⟩ := own_form O4.out
      injection hv with _ _ hv; omega
    clear hy hne e2 g5 hx Hxor hf hlR
    generalize w4.setCell ⟨g, k / 8, none⟩ (.int .u8 (n8 y)) = w5 at *
    have T5 := hid (ht.out.below' b5)
    have Y5 := hid (Rd.bytes (Rd.own o5))
    refine (readRecord_err w5 T5 (some ⟨g, 0, none⟩) (R.set (k / 8) y) cap n lr HLR5 h6 hcap hn HF Y5).mono ?_
    rintro e w6 ⟨rfl, b6⟩
    have o6 := Fr.own (Fr.of_below b6) o5 (fun _ _ => id)
    have k6 : w6.cell? ⟨g, k / 8, none⟩ = some (.int .u8 (n8 y)) := by
      rw [o6.cellAt (k / 8) (by omega), List.getElem?_map, List.getElem?_set_self (by rw [HLR.out]; omega)]; rfl
    have f6 := o6.frozenAt (k / 8)
    have z6 : g < w6.heap.size := World.block_lt_of_cell? _ _ k6
    have B6 := hid (b5.trans (b6.mono b5.size))
    have O6 := hid o6
    clear O4 B4 T4 b5 o5 Y5 b6 o6 kp4 HF HLR5 T5
    have hj : ∃ j : Nat, q % 64 = (j : Int) ∧ j < 64 := ⟨(q % 64).toNat, by omega, by omega⟩
    obtain ⟨j, hj, j64⟩ := hj
    obtain ⟨n', hn', n64, hn2⟩ := nonce_bit n j hn.out j64
    have HN2 := hid hn2
    have HN' := hid hn'
    have N64 := hid n64
    clear hn2 hn' n64
    go_wp2_with fail
    rw [Hxor2.out, show IntKind.u64.wrap ((2 : Int) ^ j) = 2 ^ j % 18446744073709551616 by simp [IntKind.wrap, IntKind.bits, IntKind.signed], HN'.out]
    have o7 := ((O6.out.stored (k / 8) (.int .u8 (n8 (R[k / 8]?.getD 0)))).1).alloc (Obj.cells #[Value.int IntKind.i64 0, Value.slice none 0 0] 36)
    have e7 : ((R.set (k / 8) y).map byteCell).set (k / 8) (.int .u8 (n8 (R[k / 8]?.getD 0))) = R.map byteCell := by
      show List.set _ _ (byteCell _) = _
      have hlR : k / 8 < R.length := by rw [HLR.out]; omega
      rw [← List.map_set, List.set_set, List.getElem?_eq_getElem hlR]
      show (R.set (k / 8) R[k / 8]).map byteCell = _
      rw [List.set_getElem_self]
    rw [e7] at o7
    have b7 := (B6.out.setCell GB.out (p := ⟨g, k / 8, none⟩) (.int .u8 (n8 (R[k / 8]?.getD 0)))).alloc (by simp [World.setCell]; have := B6.out.size; exact this) (Obj.cells #[Value.int IntKind.i64 0, Value.slice none 0 0] 36)
    have HF7 : Hid (Jrn.recIs R n' = false) := by
      obtain ⟨i, y', hi, hy', he⟩ := HN2.out
      have := Jrn.rec_nonce pn n n' D LD.out i y' hi hy' he
      rw [HRN.out] at this
      exact hid this
    clear e7 k6 f6
    generalize (w6.setCell ⟨g, k / 8, none⟩ (.int .u8 (n8 (R[k / 8]?.getD 0)))).alloc (Obj.cells #[Value.int IntKind.i64 0, Value.slice none 0 0] 36) = w7 at *
    have T7 := hid (ht.out.below' b7)
    have Y7 := hid (Rd.bytes (Rd.own o7))
    refine (readRecord_err w7 T7 (some ⟨g, 0, none⟩) R cap n' lr HLR h6 hcap N64 HF7 Y7).mono ?_
    rintro e w8 ⟨rfl, b8⟩
    have B8 := hid (b7.trans (b8.mono b7.size))
    clear b7 b8 o7 Y7 T7 O6 B6 Hxor2
    go_wp2_with fail
    refine (lives06_calls _).mono ?_
    rintro e w' ⟨rfl, rfl⟩
    go_wp2
    go_ret
    exact ⟨rfl, B8.out.alloc B8.out.size _⟩
end Go.Proofs.YtlmlplpbgkbhdaaDoor
