/- THE WALK of JournalForms. -/
import Derived.Test.YtlmlplpbgkbhdaaDoorJrn12
import Derived.Test.YtlmlplpbgkbhdaaDoorK4
set_option linter.unusedVariables false
set_option linter.unusedSimpArgs false
namespace Go.Proofs.YtlmlplpbgkbhdaaDoor
open Go.RowKit Hach

/-- Bytes handed back, told with a length. -/
def RetN (w : World) (X : List UInt8) (n : Nat) (en : Ending) (w' : World) : Prop := ∃ A c, en = .returned (.slice A n c) ∧ Hid (Bytes w' A X) ∧ Hid (Below w.heap.size w w')
theorem RetB.n {w : World} {X : List UInt8} {n : Nat} {en : Ending} {w' : World} (hn : Hid (X.length = n)) (h : RetB w X en w') : RetN w X n en w' := by
  obtain ⟨A, c, rfl, o, b⟩ := h
  exact ⟨A, c, by rw [hn.out], hid o.bytes, hid b⟩
theorem RetRd.n {w : World} {X : List UInt8} {n : Nat} {en : Ending} {w' : World} (hn : Hid (X.length = n)) (h : RetRd w X en w') : RetN w X n en w' := by
  obtain ⟨A, c, rfl, _, o, b⟩ := h
  exact ⟨A, c, by rw [hn.out], hid o, hid b⟩
theorem RetE.n {e : TypeId} {w : World} {X : List UInt8} {n : Nat} {en : Ending} {w' : World} (hn : Hid (X.length = n)) (h : RetE e w X en w') : RetN w X n en w' := by
  obtain ⟨A, c, ⟨rfl, _⟩, o, b⟩ := h
  exact ⟨A, c, by rw [hn.out], hid (Rd.bytes (Rd.own o)), hid b⟩
theorem conv_n (w : World) {A : Option Addr} {X : List UInt8} {n c : Nat} (hn : Hid (X.length = n)) (hl : Hid (n ≤ 1099511627776)) (h : Hid (Bytes w A X)) : (convert 22 9 (.slice A n c)).run Tryd.prog w = .ok (.string (str X)) w := by
  have e := hn.out
  subst e
  exact run_conv w A X c hl.out h.out
theorem str_eq (X : List UInt8) : ((str X).toList == (str X).toList) = true := beq_self_eq_true _

theorem headB_le (c p : Int) (n : Nat) (b : Bool) : (Jrn.headB c p n b).length ≤ 128 := by
  by_cases h : (0 ≤ c ∧ c ≤ 4000) ∧ (0 ≤ p ∧ p ≤ 4000)
  · exact Nat.le_of_eq (Jrn.headB_length h.1 h.2)
  · unfold Jrn.headB; rw [if_neg h]; exact Nat.zero_le _
theorem recsB_le (n : Nat) (l : List (Int × List UInt8)) : (Jrn.recsB n l).length ≤ 640 * l.length := by
  induction l with
  | nil => exact Nat.le_refl _
  | cons r l ih =>
    have := Jrn.recB_length r.1 n r.2
    unfold Jrn.recsB at ih ⊢
    rw [List.flatMap_cons, List.length_append, List.length_cons]
    omega
theorem bytesJ_le (c p : Int) (n : Nat) (l : List (Int × List UInt8)) (b : Bool) : (Jrn.bytesJ c p n l b).length ≤ 128 + 640 * l.length := by
  unfold Jrn.bytesJ
  split
  · rw [List.length_append]
    have := headB_le c p n b
    have := recsB_le n l
    omega
  · exact Nat.zero_le _

theorem RecsRd.at {w : World} {A : Option Addr} {l : List (Int × List UInt8)} (h : RecsRd w A l) {i : Nat} {p : Int} {D : List UInt8} {dl : Nat} (hi : Hid (l[i]? = some (p, D))) (hn : Hid (D.length = dl)) :
    ∃ b off Ai ci, A = some ⟨b, off, none⟩ ∧ w.cell? ⟨b, off + i * 2, none⟩ = some (.int .i64 p) ∧ w.cell? ⟨b, off + i * 2 + 1, none⟩ = some (.slice Ai dl ci) ∧ Hid (Bytes w Ai D) := by
  obtain ⟨h1, h2⟩ := List.getElem?_eq_some_iff.1 hi.out
  obtain ⟨b, off, Ai, ci, e, q1, q2, q3⟩ := h i h1
  rw [h2] at q1 q2 q3
  rw [hn.out] at q2
  exact ⟨b, off, Ai, ci, e, q1, q2, hid q3⟩

theorem headJ_N (w : World) (ht : Hid (TabOk w)) (c p : Int) (n : Nat) (b : Bool) (hn : Hid ((n : Int) < 18446744073709551616)) (X : List UInt8) (lx : Nat) (HX : Hid (Jrn.headB c p n b = X)) (LX : Hid (X.length = lx)) :
    Calls Tryd.prog 24 #[.agg #[.int .i64 c, .int .i64 p, .int .u64 (n : Int)], .bool b] w (RetN w X lx) := by
  have := headBytes_calls w ht c p n b hn
  rw [HX.out] at this
  exact this.mono fun _ _ h => RetE.n LX h
theorem headR_N (w : World) (c p : Int) (n : Nat) (b : Bool) (hn : Hid ((n : Int) < 18446744073709551616)) (X : List UInt8) (lx : Nat) (HX : Hid (Jrn.headB c p n b = X)) (LX : Hid (X.length = lx)) :
    Calls Tryd.prog 25 #[.agg #[.int .i64 c, .int .i64 p, .int .u64 (n : Int)], .bool b] w (RetN w X lx) := by
  have := refHead_calls w c p n b hn
  rw [HX.out] at this
  exact this.mono fun _ _ h => RetB.n LX h
theorem bytesJ_N (w : World) (ht : Hid (TabOk w)) (c p : Int) (n : Nat) (b : Bool) (A : Option Addr) (l : List (Int × List UInt8)) (cap m : Nat) (hm : Hid (l.length = m)) (hl : Hid (m ≤ 1000000)) (hn : Hid ((n : Int) < 18446744073709551616)) (hr : Hid (RecsRd w A l)) (X : List UInt8) (lx : Nat) (HX : Hid (Jrn.bytesJ c p n l b = X)) (LX : Hid (X.length = lx)) :
    Calls Tryd.prog 26 #[.agg #[.int .i64 c, .int .i64 p, .int .u64 (n : Int)], .slice A m cap, .bool b] w (RetN w X lx) := by
  have := bytes_calls w ht c p n b A l cap (hid (by rw [hm.out]; exact hl.out)) hn hr
  rw [HX.out, hm.out] at this
  exact this.mono fun _ _ h => RetRd.n LX h
theorem bytesR_N (w : World) (c p : Int) (n : Nat) (b : Bool) (A : Option Addr) (l : List (Int × List UInt8)) (cap m : Nat) (hm : Hid (l.length = m)) (hl : Hid (m ≤ 1000000)) (hn : Hid ((n : Int) < 18446744073709551616)) (hr : Hid (RecsRd w A l)) (X : List UInt8) (lx : Nat) (HX : Hid (Jrn.bytesJ c p n l b = X)) (LX : Hid (X.length = lx)) :
    Calls Tryd.prog 27 #[.agg #[.int .i64 c, .int .i64 p, .int .u64 (n : Int)], .slice A m cap, .bool b] w (RetN w X lx) := by
  have := refBytes_calls w c p n b A l cap (hid (by rw [hm.out]; exact hl.out)) hn hr
  rw [HX.out, hm.out] at this
  exact this.mono fun _ _ h => RetRd.n LX h
theorem goodJ_N (w : World) (c p n : Int) (A : Option Addr) (l : List (Int × List UInt8)) (cap m : Nat) (hm : Hid (l.length = m)) (hl : Hid (m ≤ 1000000)) (hr : Hid (RecsRd w A l)) (G : Bool) (HG : Hid (Jrn.goodJ c p l = G)) :
    Calls Tryd.prog 28 #[.agg #[.int .i64 c, .int .i64 p, .int .u64 n], .slice A m cap] w fun e w' => e = .returned (.bool G) ∧ Hid (Below w.heap.size w w') := by
  have := good_callsJ w c p n A l cap (hid (by rw [hm.out]; exact hl.out)) hr
  rw [HG.out, hm.out] at this
  exact this
theorem goodR_N (w : World) (c p n : Int) (A : Option Addr) (l : List (Int × List UInt8)) (cap m : Nat) (hm : Hid (l.length = m)) (hl : Hid (m ≤ 1000000)) (hr : Hid (RecsRd w A l)) (G : Bool) (HG : Hid (Jrn.goodJ c p l = G)) :
    Calls Tryd.prog 29 #[.agg #[.int .i64 c, .int .i64 p, .int .u64 n], .slice A m cap] w fun e w' => e = .returned (.bool G) ∧ Hid (Below w.heap.size w w') := by
  have := refGood_calls w c p n A l cap (hid (by rw [hm.out]; exact hl.out)) hr
  rw [HG.out, hm.out] at this
  exact this

set_option maxRecDepth 100000 in
set_option maxHeartbeats 1000000 in
theorem journalForms_walk (w : World) (ht : Hid (TabOk w)) (c p : Int) (n : Nat) (A : Option Addr) (l : List (Int × UInt8 × Bool)) (cap : Nat) (b : Bool) (hn : Hid ((n : Int) < 18446744073709551616)) (hl : Hid (l.length ≤ 9223372036854775807)) (hc : Hid (Rd w A (seedCells l))) :
    Calls Tryd.prog 7 #[.agg #[.int .i64 c, .int .i64 p, .int .u64 (n : Int)], .slice A l.length cap, .bool b] w fun e w' => e = .returned (.bool true) ∧ Below w.heap.size w w' := by
  have hb : ∀ o, Below w.heap.size w (w.alloc o) := fun o => (Below.refl _ _).alloc (Nat.le_refl _) o
  by_cases h20 : (20 : Int) < l.length
  · go_enter Tryd.func7, Tryd.ntmps7
    go_wp2_with fail
    refine (lives06_calls _).mono ?_
    rintro e w' ⟨rfl, rfl⟩
    go_wp2
    go_ret
    exact ⟨rfl, hb _⟩
  · have HL := hid (show l.length ≤ 20 by omega)
    go_enter Tryd.func7, Tryd.ntmps7
    go_wp2_with fail
    clear h20
    refine (records_calls _ A l cap (hid (by have := HL.out; omega)) (hid (hc.out.grown (hb _)))).mono ?_
    obtain ⟨L, hL⟩ : ∃ L, l.map seedRec = L := ⟨_, rfl⟩
    obtain ⟨m, hm⟩ : ∃ m, L.length = m := ⟨_, rfl⟩
    rw [hL]
    rintro e w1 ⟨A1, c1, xs, rfl, o1, r1, b1⟩
    have hr1 := RecsRow.rd o1 r1
    rw [hm]
    have hc1 : m ≤ c1 := by
      rw [hm] at o1
      obtain ⟨_, _, he, hle⟩ := own_form o1
      injection he with _ _ he
      omega
    have HM := hid hm
    have HM20 := hid (show m ≤ 20 by rw [← hm, ← hL, List.length_map]; exact HL.out)
    have k0 : w1.cell? ⟨w.heap.size, 0, none⟩ = some (.int .i64 c) := by rw [b1.cell (p := ⟨w.heap.size, 0, none⟩) (by simp)]; go_simp
    have k1 : w1.cell? ⟨w.heap.size, 1, none⟩ = some (.int .i64 p) := by rw [b1.cell (p := ⟨w.heap.size, 1, none⟩) (by simp)]; go_simp
    have k2 : w1.cell? ⟨w.heap.size, 2, none⟩ = some (.int .u64 (n : Int)) := by rw [b1.cell (p := ⟨w.heap.size, 2, none⟩) (by simp)]; go_simp
    have z1 : w.heap.size < w1.heap.size := by have := b1.size; simp at this; omega
    have B1 := (hb (.cells #[.int .i64 c, .int .i64 p, .int .u64 (n : Int)] 46)).trans (b1.mono (by simp))
    have b2 : Below w1.heap.size w1 (w1.alloc (.cells #[.int .i64 c, .int .i64 p, .int .u64 (n : Int)] 47)) := (Below.refl _ _).alloc (Nat.le_refl _) _
    have B2 := hid (B1.trans (b2.mono B1.size))
    have R2 := hid (hr1.grown b2)
    have T2 := hid (ht.out.below' B2.out)
    have g0 : (w1.alloc (.cells #[.int .i64 c, .int .i64 p, .int .u64 (n : Int)] 47)).cell? ⟨w1.heap.size, 0, none⟩ = some (.int .i64 c) := by go_simp
    have g1 : (w1.alloc (.cells #[.int .i64 c, .int .i64 p, .int .u64 (n : Int)] 47)).cell? ⟨w1.heap.size, 1, none⟩ = some (.int .i64 p) := by go_simp
    have g2 : (w1.alloc (.cells #[.int .i64 c, .int .i64 p, .int .u64 (n : Int)] 47)).cell? ⟨w1.heap.size, 2, none⟩ = some (.int .u64 (n : Int)) := by go_simp
    have j0 := (b2.cell (p := ⟨w.heap.size, 0, none⟩) z1).trans k0
    have j1 := (b2.cell (p := ⟨w.heap.size, 1, none⟩) z1).trans k1
    have j2 := (b2.cell (p := ⟨w.heap.size, 2, none⟩) z1).trans k2
    have z2 : w1.heap.size < (w1.alloc (.cells #[.int .i64 c, .int .i64 p, .int .u64 (n : Int)] 47)).heap.size := by simp
    have HG := hid (And.intro g0 (And.intro g1 (And.intro g2 (And.intro j0 (And.intro j1 (And.intro j2 (And.intro z1 z2)))))))
    clear hL hm hr1 o1 r1 b1 hb B1 hc ht b2 g0 g1 g2 j0 j1 j2 z2
    go_wp2
    clear k0 k1 k2 z1
    generalize w1.alloc (.cells #[.int .i64 c, .int .i64 p, .int .u64 (n : Int)] 47) = w2 at *
    generalize w1.heap.size = gh at *
    generalize hgw : w.heap.size = gw at *
    have HGW := hid hgw
    clear hgw
    obtain ⟨g0, g1, g2, j0, j1, j2, z1, z2⟩ := HG.out
    clear HG
    go_loopw [20] (fun i wr => ∃ (k : Nat), k ≤ m ∧ i = .int .i64 k ∧ Hid (Below w2.heap.size w2 wr)) (fun i _ => m - (intOf i).toNat)
    case atStart => exact ⟨0, Nat.zero_le _, rfl, hid (Below.refl _ _)⟩
    case round =>
      obtain ⟨k, hk, rfl, bw⟩ := hrel
      by_cases hlt : (k : Int) < m
      · have hkl : k < L.length := by rw [HM.out]; omega
        obtain ⟨pg, D, hLk⟩ : ∃ pg D, L[k]? = some (pg, D) := ⟨_, _, List.getElem?_eq_getElem hkl⟩
        have HLK := hid hLk
        obtain ⟨dl, hdl⟩ : ∃ dl, D.length = dl := ⟨_, rfl⟩
        have HDL := hid hdl
        obtain ⟨b0, off, Ai, ci, rfl, r1, r2, hB⟩ := (R2.out.grown bw.out).at HLK HDL
        obtain ⟨R, hR⟩ : ∃ R, Jrn.recB pg n D = R := ⟨_, rfl⟩
        have HR := hid hR
        obtain ⟨lr, hlr⟩ : ∃ lr, R.length = lr := ⟨_, rfl⟩
        have LR := hid hlr
        have LR2 : Hid (lr ≤ 1099511627776) := hid (by have := Jrn.recB_length pg n D; rw [hR, hlr] at this; omega)
        have sz := bw.out.size
        have hb0 : Below wr.heap.size wr (wr.alloc (.cells #[.int .i64 pg, .slice Ai dl ci] 36)) := (Below.refl _ _).alloc (Nat.le_refl _) _
        have f0 : (wr.alloc (.cells #[.int .i64 pg, .slice Ai dl ci] 36)).drew.cell? ⟨wr.heap.size, 0, none⟩ = some (.int .i64 pg) := by go_simp
        have f1 : (wr.alloc (.cells #[.int .i64 pg, .slice Ai dl ci] 36)).drew.cell? ⟨wr.heap.size, 1, none⟩ = some (.slice Ai dl ci) := by go_simp
        have f2 : (wr.alloc (.cells #[.int .i64 pg, .slice Ai dl ci] 36)).drew.cell? ⟨gw, 2, none⟩ = some (.int .u64 (n : Int)) := (hb0.cell (p := ⟨gw, 2, none⟩) (by show gw < wr.heap.size; omega)).trans ((bw.out.cell (p := ⟨gw, 2, none⟩) (by show gw < w2.heap.size; omega)).trans j2)
        have fz : wr.heap.size < (wr.alloc (.cells #[.int .i64 pg, .slice Ai dl ci] 36)).heap.size := by simp
        have HB : Hid (Bytes (wr.alloc (.cells #[.int .i64 pg, .slice Ai dl ci] 36)).drew Ai D) := hid (show Bytes (wr.alloc (.cells #[.int .i64 pg, .slice Ai dl ci] 36)) Ai D from hB.out.grown hb0)
        have BW := hid (bw.out.trans (hb0.mono sz))
        have TW : Hid (TabOk (wr.alloc (.cells #[.int .i64 pg, .slice Ai dl ci] 36)).drew) := hid (show TabOk (wr.alloc (.cells #[.int .i64 pg, .slice Ai dl ci] 36)) from T2.out.below' BW.out)
        have RW : Hid (RecsRd (wr.alloc (.cells #[.int .i64 pg, .slice Ai dl ci] 36)).drew (some ⟨b0, off, none⟩) L) := hid (show RecsRd (wr.alloc (.cells #[.int .i64 pg, .slice Ai dl ci] 36)) (some ⟨b0, off, none⟩) L from R2.out.grown BW.out)
        clear hkl hLk hdl hR hlr hB hb0 bw
        go_wp2
        generalize wr.alloc (.cells #[.int .i64 pg, .slice Ai dl ci] 36) = W1 at *
        generalize wr.heap.size = gr at *
        clear r1 r2
        refine any_start (by kernel_rfl) ?_
        refine any_take 0 (some 25) (v := ?_) rfl rfl (by kernel_rfl) (by kernel_rfl) (by kernel_rfl) (fun _ _ _ h => h) (by rfl) (fun w9 hS => ?_) ?_
        rotate_left
        · have e0 := hS.c f0; have e1 := hS.c f1; go_simp <;> with_reducible rfl
        try simp only [Act.put, List.setIfInBounds_toArray, List.set_cons_zero, List.set_cons_succ]
        refine any_take 1 (some 26) (v := ?_) rfl rfl (by kernel_rfl) (by kernel_rfl) (by kernel_rfl) (fun _ _ _ h => h) (by rfl) (fun w9 hS => ?_) ?_
        rotate_left
        · go_simp <;> with_reducible rfl
        try simp only [Act.put, List.setIfInBounds_toArray, List.set_cons_zero, List.set_cons_succ]
        refine any_take 2 (some 27) (v := ?_) rfl rfl (by kernel_rfl) (by kernel_rfl) (by kernel_rfl) (fun _ _ _ h => h) (by rfl) (fun w9 hS => ?_) ?_
        rotate_left
        · have e2 := hS.c f2; go_simp <;> with_reducible rfl
        try simp only [Act.put, List.setIfInBounds_toArray, List.set_cons_zero, List.set_cons_succ]
        refine any_take 5 (some 30) (v := ?_) rfl rfl (by kernel_rfl) (by kernel_rfl) (by kernel_rfl) (fun _ _ _ h => h) (by rfl) (fun w9 hS => ?_) ?_
        rotate_left
        · go_simp <;> with_reducible rfl
        try simp only [Act.put, List.setIfInBounds_toArray, List.set_cons_zero, List.set_cons_succ]
        refine any_take 7 (some 32) (v := ?_) rfl rfl (by kernel_rfl) (by kernel_rfl) (by kernel_rfl) (fun _ _ _ h => h) (by rfl) (fun w9 hS => ?_) ?_
        rotate_left
        · go_simp <;> with_reducible rfl
        try simp only [Act.put, List.setIfInBounds_toArray, List.set_cons_zero, List.set_cons_succ]
        refine any_take 10 (some 35) (v := ?_) rfl rfl (by kernel_rfl) (by kernel_rfl) (by kernel_rfl) (fun _ _ _ h => h) (by rfl) (fun w9 hS => ?_) ?_
        rotate_left
        · go_simp <;> with_reducible rfl
        try simp only [Act.put, List.setIfInBounds_toArray, List.set_cons_zero, List.set_cons_succ]
        refine any_take 11 (some 36) (v := ?_) rfl rfl (by kernel_rfl) (by kernel_rfl) (by kernel_rfl) (fun _ _ _ h => h) (by rfl) (fun w9 hS => ?_) ?_
        rotate_left
        · have e2 := hS.c f2; go_simp <;> with_reducible rfl
        try simp only [Act.put, List.setIfInBounds_toArray, List.set_cons_zero, List.set_cons_succ]
        refine any_call 3 (by kernel_rfl) rfl (by rfl) (fun K9 hK9 => ?_)
        go_simp
        go_at_call 19
        refine (recordBytes_callsX _ TW pg n dl Ai D R ci HDL HR hn HB).mono ?_
        rintro e w3 h3
        obtain ⟨A3, c3, rfl, y3, b3⟩ := RetB.n LR h3
        have u3 : Up _ w3 := b3.out
        replace f0 := u3.c f0
        replace f1 := u3.c f1
        replace f2 := u3.c f2
        replace RW := hid (RW.out.grown u3)
        refine hK9.out _ _ u3 ?_
        clear u3
        clear hK9 K9
        try simp only [Act.put, List.setIfInBounds_toArray, List.set_cons_zero, List.set_cons_succ]
        refine any_take 4 (some 29) (v := ?_) rfl rfl (by kernel_rfl) (by kernel_rfl) (by kernel_rfl) (fun _ _ _ h => h) (by rfl) (fun w9 hS => ?_) ?_
        rotate_left
        · have ev := conv_n w9 (c := c3) LR LR2 (hid (y3.out.grown hS)); go_simp <;> with_reducible rfl
        try simp only [Act.put, List.setIfInBounds_toArray, List.set_cons_zero, List.set_cons_succ]
        refine any_call 6 (by kernel_rfl) rfl (by rfl) (fun K9 hK9 => ?_)
        go_simp
        go_at_call 23
        refine (plain_calls _ _ L c1 m HM (hid (by have := HM20.out; omega)) RW).mono ?_
        rintro e w5 ⟨A5, c5, rfl, r5, b5⟩
        obtain ⟨g5, off5, Ai5, ci5, rfl, s1, s2, hB5⟩ := r5.at HLK HDL
        have u5 : Up _ w5 := b5
        replace f2 := u5.c f2
        replace y3 := hid (y3.out.grown u5)
        have B5 := hid b5
        refine hK9.out _ _ u5 ?_
        clear u5 b5 r5
        clear hK9 K9
        try simp only [Act.put, List.setIfInBounds_toArray, List.set_cons_zero, List.set_cons_succ]
        refine any_take 8 (some 33) (v := ?_) rfl rfl (by kernel_rfl) (by kernel_rfl) (by kernel_rfl) (fun _ _ _ h => h) (by rfl) (fun w9 hS => ?_) ?_
        rotate_left
        · go_simp <;> with_reducible rfl
        try simp only [Act.put, List.setIfInBounds_toArray, List.set_cons_zero, List.set_cons_succ]
        refine any_take 9 (some 34) (v := ?_) rfl rfl (by kernel_rfl) (by kernel_rfl) (by kernel_rfl) (fun _ _ _ h => h) (by rfl) (fun w9 hS => ?_) ?_
        rotate_left
        · have e0 := hS.c s1; have e1 := hS.c s2; go_simp <;> with_reducible rfl
        try simp only [Act.put, List.setIfInBounds_toArray, List.set_cons_zero, List.set_cons_succ]
        refine any_call 12 (by kernel_rfl) rfl (by rfl) (fun K9 hK9 => ?_)
        go_simp
        go_at_call 22
        refine (refRec_callsX _ pg n dl Ai5 D R ci5 HDL HR hn hB5).mono ?_
        rintro e w6 h6
        obtain ⟨A6, c6, rfl, y6, b6⟩ := RetB.n LR h6
        refine hK9.out _ _ b6.out ?_
        clear hK9 K9
        try simp only [Act.put, List.setIfInBounds_toArray, List.set_cons_zero, List.set_cons_succ]
        refine any_take 13 (some 38) (v := ?_) rfl rfl (by kernel_rfl) (by kernel_rfl) (by kernel_rfl) (fun _ _ _ h => h) (by rfl) (fun w9 hS => ?_) ?_
        rotate_left
        · have ev := conv_n w9 (c := c6) LR LR2 (hid (y6.out.grown hS)); go_simp <;> with_reducible rfl
        try simp only [Act.put, List.setIfInBounds_toArray, List.set_cons_zero, List.set_cons_succ]
        refine any_take 14 (some 39) (v := ?_) rfl rfl (by kernel_rfl) (by kernel_rfl) (by kernel_rfl) (fun _ _ _ h => h) (by rfl) (fun w9 hS => ?_) ?_
        rotate_left
        · have es := str_eq R; go_simp <;> with_reducible rfl
        try simp only [Act.put, List.setIfInBounds_toArray, List.set_cons_zero, List.set_cons_succ]
        refine any_done (by kernel_rfl) ?_
        have BN := hid (BW.out.trans (((((Below.refl W1.heap.size W1).drew).trans b3.out).trans ((B5.out.trans (b6.out.mono B5.out.size)).mono (by have := b3.out.size; simpa using this))).mono BW.out.size))
        clear h3 h6 y3 y6 b3 B5 b6 f0 f1 f2 s1 s2 hB5 RW TW HB BW
        rename_i K1 h1
        refine h1 _ _ ?_
        clear h1 K1
        go_wp2
        go_roundw
        case rel => exact ⟨k + 1, by omega, (by have := HM20.out; rw [show wrap64 ((k : Int) + 1) = ((k + 1 : Nat) : Int) by unfold wrap64; omega]), BN⟩
        case measure => have := HM20.out; rw [show wrap64 ((k : Int) + 1) = ((k + 1 : Nat) : Int) by unfold wrap64; omega]; simp only [intOf]; omega
      · obtain rfl : m = k := by omega
        obtain ⟨X, hX⟩ : ∃ X, Jrn.headB c p n b = X := ⟨_, rfl⟩
        have HX := hid hX
        obtain ⟨lx, hlx⟩ : ∃ lx, X.length = lx := ⟨_, rfl⟩
        have LX := hid hlx
        have LX2 : Hid (lx ≤ 1099511627776) := hid (by have := headB_le c p n b; rw [hX, hlx] at this; omega)
        obtain ⟨Z, hZ⟩ : ∃ Z, Jrn.bytesJ c p n L b = Z := ⟨_, rfl⟩
        have HZ := hid hZ
        obtain ⟨lz, hlz⟩ : ∃ lz, Z.length = lz := ⟨_, rfl⟩
        have LZ := hid hlz
        have LZ2 : Hid (lz ≤ 1099511627776) := hid (by have := bytesJ_le c p n L b; rw [hZ, hlz, HM.out] at this; have := HM20.out; omega)
        obtain ⟨G, hG⟩ : ∃ G, Jrn.goodJ c p L = G := ⟨_, rfl⟩
        have HGV := hid hG
        obtain ⟨sv, hsv⟩ : ∃ s, 1 + 5 * (min (max c 0) 4000) = s := ⟨_, rfl⟩
        have HSV := hid hsv
        have HM6 : Hid (m ≤ 1000000) := hid (by have := HM20.out; omega)
        have u : Up w2 wr := bw.out
        replace j0 := u.c j0
        replace j1 := u.c j1
        replace j2 := u.c j2
        replace g0 := u.c g0
        replace g1 := u.c g1
        replace g2 := u.c g2
        have RW : Hid (RecsRd wr.drew A1 L) := hid (show RecsRd wr A1 L from R2.out.grown u)
        have TW : Hid (TabOk wr.drew) := hid (show TabOk wr from T2.out.below' u)
        replace j0 : wr.drew.cell? _ = _ := j0
        replace j1 : wr.drew.cell? _ = _ := j1
        replace j2 : wr.drew.cell? _ = _ := j2
        replace g0 : wr.drew.cell? _ = _ := g0
        replace g1 : wr.drew.cell? _ = _ := g1
        replace g2 : wr.drew.cell? _ = _ := g2
        clear hX hlx hZ hlz hG hsv u z1 z2
        go_wp2
        refine any_start (by kernel_rfl) ?_
        refine any_take 0 (some 41) (v := ?_) rfl rfl (by kernel_rfl) (by kernel_rfl) (by kernel_rfl) (fun _ _ _ h => h) (by rfl) (fun w9 hS => ?_) ?_
        rotate_left
        · have e0 := hS.c j0; have e1 := hS.c j1; have e2 := hS.c j2; go_simp <;> with_reducible rfl
        try simp only [Act.put, List.setIfInBounds_toArray, List.set_cons_zero, List.set_cons_succ]
        refine any_take 1 (some 42) (v := ?_) rfl rfl (by kernel_rfl) (by kernel_rfl) (by kernel_rfl) (fun _ _ _ h => h) (by rfl) (fun w9 hS => ?_) ?_
        rotate_left
        · go_simp <;> with_reducible rfl
        try simp only [Act.put, List.setIfInBounds_toArray, List.set_cons_zero, List.set_cons_succ]
        refine any_take 4 (some 45) (v := ?_) rfl rfl (by kernel_rfl) (by kernel_rfl) (by kernel_rfl) (fun _ _ _ h => h) (by rfl) (fun w9 hS => ?_) ?_
        rotate_left
        · have e0 := hS.c g0; have e1 := hS.c g1; have e2 := hS.c g2; go_simp <;> with_reducible rfl
        try simp only [Act.put, List.setIfInBounds_toArray, List.set_cons_zero, List.set_cons_succ]
        refine any_take 5 (some 46) (v := ?_) rfl rfl (by kernel_rfl) (by kernel_rfl) (by kernel_rfl) (fun _ _ _ h => h) (by rfl) (fun w9 hS => ?_) ?_
        rotate_left
        · go_simp <;> with_reducible rfl
        try simp only [Act.put, List.setIfInBounds_toArray, List.set_cons_zero, List.set_cons_succ]
        refine any_call 2 (by kernel_rfl) rfl (by rfl) (fun K9 hK9 => ?_)
        go_simp
        go_at_call 24
        refine (headJ_N _ TW c p n b hn X lx HX LX).mono ?_
        rintro e w3 ⟨A1h, c1h, rfl, y1, b3⟩
        have u : Up _ w3 := b3.out
        replace j0 := u.c j0
        replace j1 := u.c j1
        replace j2 := u.c j2
        replace g0 := u.c g0
        replace g1 := u.c g1
        replace g2 := u.c g2
        replace RW := hid (RW.out.grown u)
        replace TW := hid (TW.out.below' u)
        refine hK9.out _ _ u ?_
        clear u
        clear hK9 K9
        try simp only [Act.put, List.setIfInBounds_toArray, List.set_cons_zero, List.set_cons_succ]
        refine any_take 3 (some 44) (v := ?_) rfl rfl (by kernel_rfl) (by kernel_rfl) (by kernel_rfl) (fun _ _ _ h => h) (by rfl) (fun w9 hS => ?_) ?_
        rotate_left
        · have ev := conv_n w9 (c := c1h) LX LX2 (hid (y1.out.grown hS)); go_simp <;> with_reducible rfl
        try simp only [Act.put, List.setIfInBounds_toArray, List.set_cons_zero, List.set_cons_succ]
        refine any_call 6 (by kernel_rfl) rfl (by rfl) (fun K9 hK9 => ?_)
        go_simp
        go_at_call 25
        refine (headR_N _ c p n b hn X lx HX LX).mono ?_
        rintro e w4 ⟨A2h, c2h, rfl, y2, b4⟩
        have u : Up _ w4 := b4.out
        replace j0 := u.c j0
        replace j1 := u.c j1
        replace j2 := u.c j2
        replace g0 := u.c g0
        replace g1 := u.c g1
        replace g2 := u.c g2
        replace RW := hid (RW.out.grown u)
        replace TW := hid (TW.out.below' u)
        refine hK9.out _ _ u ?_
        clear u
        clear hK9 K9
        try simp only [Act.put, List.setIfInBounds_toArray, List.set_cons_zero, List.set_cons_succ]
        refine any_take 7 (some 48) (v := ?_) rfl rfl (by kernel_rfl) (by kernel_rfl) (by kernel_rfl) (fun _ _ _ h => h) (by rfl) (fun w9 hS => ?_) ?_
        rotate_left
        · have ev := conv_n w9 (c := c2h) LX LX2 (hid (y2.out.grown hS)); go_simp <;> with_reducible rfl
        try simp only [Act.put, List.setIfInBounds_toArray, List.set_cons_zero, List.set_cons_succ]
        refine any_take 8 (some 49) (v := ?_) rfl rfl (by kernel_rfl) (by kernel_rfl) (by kernel_rfl) (fun _ _ _ h => h) (by rfl) (fun w9 hS => ?_) ?_
        rotate_left
        · have es := str_eq X; go_simp <;> with_reducible rfl
        try simp only [Act.put, List.setIfInBounds_toArray, List.set_cons_zero, List.set_cons_succ]
        refine any_take 9 (some 50) (v := ?_) rfl rfl (by kernel_rfl) (by kernel_rfl) (by kernel_rfl) (fun _ _ _ h => h) (by rfl) (fun w9 hS => ?_) ?_
        rotate_left
        · go_simp <;> with_reducible rfl
        try simp only [Act.put, List.setIfInBounds_toArray, List.set_cons_zero, List.set_cons_succ]
        refine any_take 10 (some 51) (v := ?_) rfl rfl (by kernel_rfl) (by kernel_rfl) (by kernel_rfl) (fun _ _ _ h => h) (by rfl) (fun w9 hS => ?_) ?_
        rotate_left
        · have e0 := hS.c j0; have e1 := hS.c j1; have e2 := hS.c j2; go_simp <;> with_reducible rfl
        try simp only [Act.put, List.setIfInBounds_toArray, List.set_cons_zero, List.set_cons_succ]
        refine any_take 11 (some 52) (v := ?_) rfl rfl (by kernel_rfl) (by kernel_rfl) (by kernel_rfl) (fun _ _ _ h => h) (by rfl) (fun w9 hS => ?_) ?_
        rotate_left
        · go_simp <;> with_reducible rfl
        try simp only [Act.put, List.setIfInBounds_toArray, List.set_cons_zero, List.set_cons_succ]
        refine any_take 12 (some 53) (v := ?_) rfl rfl (by kernel_rfl) (by kernel_rfl) (by kernel_rfl) (fun _ _ _ h => h) (by rfl) (fun w9 hS => ?_) ?_
        rotate_left
        · go_simp <;> with_reducible rfl
        try simp only [Act.put, List.setIfInBounds_toArray, List.set_cons_zero, List.set_cons_succ]
        refine any_take 15 (some 56) (v := ?_) rfl rfl (by kernel_rfl) (by kernel_rfl) (by kernel_rfl) (fun _ _ _ h => h) (by rfl) (fun w9 hS => ?_) ?_
        rotate_left
        · have e0 := hS.c g0; have e1 := hS.c g1; have e2 := hS.c g2; go_simp <;> with_reducible rfl
        try simp only [Act.put, List.setIfInBounds_toArray, List.set_cons_zero, List.set_cons_succ]
        refine any_take 16 (some 57) (v := ?_) rfl rfl (by kernel_rfl) (by kernel_rfl) (by kernel_rfl) (fun _ _ _ h => h) (by rfl) (fun w9 hS => ?_) ?_
        rotate_left
        · go_simp <;> with_reducible rfl
        try simp only [Act.put, List.setIfInBounds_toArray, List.set_cons_zero, List.set_cons_succ]
        refine any_take 18 (some 59) (v := ?_) rfl rfl (by kernel_rfl) (by kernel_rfl) (by kernel_rfl) (fun _ _ _ h => h) (by rfl) (fun w9 hS => ?_) ?_
        rotate_left
        · go_simp <;> with_reducible rfl
        try simp only [Act.put, List.setIfInBounds_toArray, List.set_cons_zero, List.set_cons_succ]
        refine any_call 13 (by kernel_rfl) rfl (by rfl) (fun K9 hK9 => ?_)
        go_simp
        go_at_call 26
        refine (bytesJ_N _ TW c p n b _ L c1 m HM HM6 hn RW Z lz HZ LZ).mono ?_
        rintro e w5 ⟨A3h, c3h, rfl, y3, b5⟩
        have u : Up _ w5 := b5.out
        replace j0 := u.c j0
        replace j1 := u.c j1
        replace j2 := u.c j2
        replace g0 := u.c g0
        replace g1 := u.c g1
        replace g2 := u.c g2
        replace RW := hid (RW.out.grown u)
        refine hK9.out _ _ u ?_
        clear u
        clear hK9 K9
        try simp only [Act.put, List.setIfInBounds_toArray, List.set_cons_zero, List.set_cons_succ]
        refine any_take 14 (some 55) (v := ?_) rfl rfl (by kernel_rfl) (by kernel_rfl) (by kernel_rfl) (fun _ _ _ h => h) (by rfl) (fun w9 hS => ?_) ?_
        rotate_left
        · have ev := conv_n w9 (c := c3h) LZ LZ2 (hid (y3.out.grown hS)); go_simp <;> with_reducible rfl
        try simp only [Act.put, List.setIfInBounds_toArray, List.set_cons_zero, List.set_cons_succ]
        refine any_call 17 (by kernel_rfl) rfl (by rfl) (fun K9 hK9 => ?_)
        go_simp
        go_at_call 23
        refine (plain_calls _ _ L c1 m HM HM6 RW).mono ?_
        rintro e w6 ⟨A6, c6, rfl, r6, b6⟩
        have u : Up _ w6 := b6
        replace j0 := u.c j0
        replace j1 := u.c j1
        replace j2 := u.c j2
        replace g0 := u.c g0
        replace g1 := u.c g1
        replace g2 := u.c g2
        replace RW := hid (RW.out.grown u)
        have R6 := hid r6
        have B6 := hid b6
        refine hK9.out _ _ u ?_
        clear u r6 b6
        clear hK9 K9
        try simp only [Act.put, List.setIfInBounds_toArray, List.set_cons_zero, List.set_cons_succ]
        refine any_call 19 (by kernel_rfl) rfl (by rfl) (fun K9 hK9 => ?_)
        go_simp
        go_at_call 27
        refine (bytesR_N _ c p n b _ L c6 m HM HM6 hn R6 Z lz HZ LZ).mono ?_
        rintro e w7 ⟨A5h, c5h, rfl, y5, b7⟩
        have u : Up _ w7 := b7.out
        replace j0 := u.c j0
        replace j1 := u.c j1
        replace j2 := u.c j2
        replace g0 := u.c g0
        replace g1 := u.c g1
        replace g2 := u.c g2
        replace RW := hid (RW.out.grown u)
        refine hK9.out _ _ u ?_
        clear u
        clear hK9 K9
        try simp only [Act.put, List.setIfInBounds_toArray, List.set_cons_zero, List.set_cons_succ]
        refine any_take 20 (some 61) (v := ?_) rfl rfl (by kernel_rfl) (by kernel_rfl) (by kernel_rfl) (fun _ _ _ h => h) (by rfl) (fun w9 hS => ?_) ?_
        rotate_left
        · have ev := conv_n w9 (c := c5h) LZ LZ2 (hid (y5.out.grown hS)); go_simp <;> with_reducible rfl
        try simp only [Act.put, List.setIfInBounds_toArray, List.set_cons_zero, List.set_cons_succ]
        refine any_take 21 (some 62) (v := ?_) rfl rfl (by kernel_rfl) (by kernel_rfl) (by kernel_rfl) (fun _ _ _ h => h) (by rfl) (fun w9 hS => ?_) ?_
        rotate_left
        · have es := str_eq Z; go_simp <;> with_reducible rfl
        try simp only [Act.put, List.setIfInBounds_toArray, List.set_cons_zero, List.set_cons_succ]
        refine any_take 22 (some 63) (v := ?_) rfl rfl (by kernel_rfl) (by kernel_rfl) (by kernel_rfl) (fun _ _ _ h => h) (by rfl) (fun w9 hS => ?_) ?_
        rotate_left
        · go_simp <;> with_reducible rfl
        try simp only [Act.put, List.setIfInBounds_toArray, List.set_cons_zero, List.set_cons_succ]
        refine any_take 23 (some 64) (v := ?_) rfl rfl (by kernel_rfl) (by kernel_rfl) (by kernel_rfl) (fun _ _ _ h => h) (by rfl) (fun w9 hS => ?_) ?_
        rotate_left
        · go_simp <;> with_reducible rfl
        try simp only [Act.put, List.setIfInBounds_toArray, List.set_cons_zero, List.set_cons_succ]
        refine any_take 24 (some 65) (v := ?_) rfl rfl (by kernel_rfl) (by kernel_rfl) (by kernel_rfl) (fun _ _ _ h => h) (by rfl) (fun w9 hS => ?_) ?_
        rotate_left
        · have e0 := hS.c j0; have e1 := hS.c j1; have e2 := hS.c j2; go_simp <;> with_reducible rfl
        try simp only [Act.put, List.setIfInBounds_toArray, List.set_cons_zero, List.set_cons_succ]
        refine any_take 25 (some 66) (v := ?_) rfl rfl (by kernel_rfl) (by kernel_rfl) (by kernel_rfl) (fun _ _ _ h => h) (by rfl) (fun w9 hS => ?_) ?_
        rotate_left
        · go_simp <;> with_reducible rfl
        try simp only [Act.put, List.setIfInBounds_toArray, List.set_cons_zero, List.set_cons_succ]
        refine any_take 27 (some 68) (v := ?_) rfl rfl (by kernel_rfl) (by kernel_rfl) (by kernel_rfl) (fun _ _ _ h => h) (by rfl) (fun w9 hS => ?_) ?_
        rotate_left
        · have e0 := hS.c g0; have e1 := hS.c g1; have e2 := hS.c g2; go_simp <;> with_reducible rfl
        try simp only [Act.put, List.setIfInBounds_toArray, List.set_cons_zero, List.set_cons_succ]
        refine any_take 28 (some 69) (v := ?_) rfl rfl (by kernel_rfl) (by kernel_rfl) (by kernel_rfl) (fun _ _ _ h => h) (by rfl) (fun w9 hS => ?_) ?_
        rotate_left
        · go_simp <;> with_reducible rfl
        try simp only [Act.put, List.setIfInBounds_toArray, List.set_cons_zero, List.set_cons_succ]
        refine any_call 26 (by kernel_rfl) rfl (by rfl) (fun K9 hK9 => ?_)
        go_simp
        go_at_call 28
        refine (goodJ_N _ c p n _ L c1 m HM HM6 RW G HGV).mono ?_
        rintro e w8 ⟨rfl, b8⟩
        have u : Up _ w8 := b8.out
        replace j0 := u.c j0
        replace j1 := u.c j1
        replace j2 := u.c j2
        replace g0 := u.c g0
        replace g1 := u.c g1
        replace g2 := u.c g2
        replace RW := hid (RW.out.grown u)
        refine hK9.out _ _ u ?_
        clear u
        clear hK9 K9
        try simp only [Act.put, List.setIfInBounds_toArray, List.set_cons_zero, List.set_cons_succ]
        refine any_call 29 (by kernel_rfl) rfl (by rfl) (fun K9 hK9 => ?_)
        go_simp
        go_at_call 23
        refine (plain_calls _ _ L c1 m HM HM6 RW).mono ?_
        rintro e w10 ⟨A9, c9, rfl, r9, b9⟩
        have u : Up _ w10 := b9
        replace j0 := u.c j0
        replace j1 := u.c j1
        replace j2 := u.c j2
        replace g0 := u.c g0
        replace g1 := u.c g1
        replace g2 := u.c g2
        have R9 := hid r9
        have B9 := hid b9
        refine hK9.out _ _ u ?_
        clear u r9 b9
        clear hK9 K9
        try simp only [Act.put, List.setIfInBounds_toArray, List.set_cons_zero, List.set_cons_succ]
        refine any_call 30 (by kernel_rfl) rfl (by rfl) (fun K9 hK9 => ?_)
        go_simp
        go_at_call 29
        refine (goodR_N _ c p n _ L c9 m HM HM6 R9 G HGV).mono ?_
        rintro e w11 ⟨rfl, b11⟩
        have u : Up _ w11 := b11.out
        replace j0 := u.c j0
        replace j1 := u.c j1
        replace j2 := u.c j2
        refine hK9.out _ _ u ?_
        clear u
        clear hK9 K9
        try simp only [Act.put, List.setIfInBounds_toArray, List.set_cons_zero, List.set_cons_succ]
        refine any_take 31 (some 72) (v := ?_) rfl rfl (by kernel_rfl) (by kernel_rfl) (by kernel_rfl) (fun _ _ _ h => h) (by rfl) (fun w9 hS => ?_) ?_
        rotate_left
        · have es : (G == G) = true := beq_self_eq_true _; go_simp <;> with_reducible rfl
        try simp only [Act.put, List.setIfInBounds_toArray, List.set_cons_zero, List.set_cons_succ]
        refine any_take 32 (some 73) (v := ?_) rfl rfl (by kernel_rfl) (by kernel_rfl) (by kernel_rfl) (fun _ _ _ h => h) (by rfl) (fun w9 hS => ?_) ?_
        rotate_left
        · go_simp <;> with_reducible rfl
        try simp only [Act.put, List.setIfInBounds_toArray, List.set_cons_zero, List.set_cons_succ]
        refine any_take 33 (some 74) (v := ?_) rfl rfl (by kernel_rfl) (by kernel_rfl) (by kernel_rfl) (fun _ _ _ h => h) (by rfl) (fun w9 hS => ?_) ?_
        rotate_left
        · go_simp <;> with_reducible rfl
        try simp only [Act.put, List.setIfInBounds_toArray, List.set_cons_zero, List.set_cons_succ]
        refine any_take 34 (some 75) (v := ?_) rfl rfl (by kernel_rfl) (by kernel_rfl) (by kernel_rfl) (fun _ _ _ h => h) (by rfl) (fun w9 hS => ?_) ?_
        rotate_left
        · go_simp <;> with_reducible rfl
        try simp only [Act.put, List.setIfInBounds_toArray, List.set_cons_zero, List.set_cons_succ]
        refine any_take 35 (some 76) (v := ?_) rfl rfl (by kernel_rfl) (by kernel_rfl) (by kernel_rfl) (fun _ _ _ h => h) (by rfl) (fun w9 hS => ?_) ?_
        rotate_left
        · have e0 := hS.c j0; go_simp <;> with_reducible rfl
        try simp only [Act.put, List.setIfInBounds_toArray, List.set_cons_zero, List.set_cons_succ]
        refine any_take 37 (some 78) (v := ?_) rfl rfl (by kernel_rfl) (by kernel_rfl) (by kernel_rfl) (fun _ _ _ h => h) (by rfl) (fun w9 hS => ?_) ?_
        rotate_left
        · go_simp <;> with_reducible rfl
        try simp only [Act.put, List.setIfInBounds_toArray, List.set_cons_zero, List.set_cons_succ]
        refine any_take 38 (some 79) (v := ?_) rfl rfl (by kernel_rfl) (by kernel_rfl) (by kernel_rfl) (fun _ _ _ h => h) (by rfl) (fun w9 hS => ?_) ?_
        rotate_left
        · have e0 := hS.c j0; go_simp <;> with_reducible rfl
        try simp only [Act.put, List.setIfInBounds_toArray, List.set_cons_zero, List.set_cons_succ]
        refine any_call 36 (by kernel_rfl) rfl (by rfl) (fun K9 hK9 => ?_)
        go_simp
        go_at_call 30
        refine (sectors_calls c _).mono ?_
        rintro e w' ⟨rfl, rfl⟩
        rw [HSV.out]
        refine hK9.out _ _ (Up.refl _) ?_
        clear hK9 K9
        try simp only [Act.put, List.setIfInBounds_toArray, List.set_cons_zero, List.set_cons_succ]
        refine any_call 39 (by kernel_rfl) rfl (by rfl) (fun K9 hK9 => ?_)
        go_simp
        go_at_call 31
        refine (refSectors_calls c _).mono ?_
        rintro e w' ⟨rfl, rfl⟩
        rw [HSV.out]
        refine hK9.out _ _ (Up.refl _) ?_
        clear hK9 K9
        try simp only [Act.put, List.setIfInBounds_toArray, List.set_cons_zero, List.set_cons_succ]
        refine any_take 40 (some 81) (v := ?_) rfl rfl (by kernel_rfl) (by kernel_rfl) (by kernel_rfl) (fun _ _ _ h => h) (by rfl) (fun w9 hS => ?_) ?_
        rotate_left
        · go_simp <;> with_reducible rfl
        try simp only [Act.put, List.setIfInBounds_toArray, List.set_cons_zero, List.set_cons_succ]
        refine any_take 41 (some 82) (v := ?_) rfl rfl (by kernel_rfl) (by kernel_rfl) (by kernel_rfl) (fun _ _ _ h => h) (by rfl) (fun w9 hS => ?_) ?_
        rotate_left
        · go_simp <;> with_reducible rfl
        try simp only [Act.put, List.setIfInBounds_toArray, List.set_cons_zero, List.set_cons_succ]
        refine any_take 42 (some 83) (v := ?_) rfl rfl (by kernel_rfl) (by kernel_rfl) (by kernel_rfl) (fun _ _ _ h => h) (by rfl) (fun w9 hS => ?_) ?_
        rotate_left
        · go_simp <;> with_reducible rfl
        try simp only [Act.put, List.setIfInBounds_toArray, List.set_cons_zero, List.set_cons_succ]
        refine any_call 43 (by kernel_rfl) rfl (by rfl) (fun K9 hK9 => ?_)
        go_simp
        go_at_call 20
        refine (lives06_calls _).mono ?_
        rintro e w' ⟨rfl, rfl⟩
        refine hK9.out _ _ (Up.refl _) ?_
        clear hK9 K9
        try simp only [Act.put, List.setIfInBounds_toArray, List.set_cons_zero, List.set_cons_succ]
        refine any_take 44 (some 85) (v := ?_) rfl rfl (by kernel_rfl) (by kernel_rfl) (by kernel_rfl) (fun _ _ _ h => h) (by rfl) (fun w9 hS => ?_) ?_
        rotate_left
        · go_simp <;> with_reducible rfl
        try simp only [Act.put, List.setIfInBounds_toArray, List.set_cons_zero, List.set_cons_succ]
        refine any_take 45 (some 6) (v := ?_) rfl rfl (by kernel_rfl) (by kernel_rfl) (by kernel_rfl) (fun _ _ _ h => h) (by rfl) (fun w9 hS => ?_) ?_
        rotate_left
        · go_simp <;> with_reducible rfl
        try simp only [Act.put, List.setIfInBounds_toArray, List.set_cons_zero, List.set_cons_succ]
        refine any_done (by kernel_rfl) ?_
        have BN := hid (show Up w2 w11 from (((((((((show Up w2 wr from bw.out).t (Up.drew wr)).t b3.out).t b4.out).t b5.out).t B6.out).t b7.out).t b8.out).t B9.out).t b11.out)
        clear y1 y2 y3 y5 b3 b4 b5 B6 b7 b8 B9 b11 j0 j1 j2 RW TW R6 R9 bw
        rename_i K1 h1
        refine h1 _ _ ?_
        clear h1 K1
        go_wp2
        go_ret
        exact ⟨rfl, by rw [HGW.out]; exact B2.out.trans (BN.out.mono (HGW.out ▸ B2.out.size))⟩
end Go.Proofs.YtlmlplpbgkbhdaaDoor
