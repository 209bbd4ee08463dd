/- THE WALKS of the document's ReadHead, Hot. -/
import Derived.Test.YtlmlplpbgkbhdaaDoorRefG
import Derived.Test.YtlmlplpbgkbhdaaDoorRef2
import Derived.Test.YtlmlplpbgkbhdaaDoorJrn14
import Derived.Test.YtlmlplpbgkbhdaaDoorK4
set_option linter.unusedVariables false
set_option linter.unusedSimpArgs false
namespace Go.Proofs.YtlmlplpbgkbhdaaDoor
open Go.RowKit Hach

theorem conv_m (w : World) {A : Option Addr} {X : List UInt8} {n c : Nat} (hn : Hid (X.length = n)) (hl : Hid (n ≤ 1099511627776)) (h : Bytes w A X) : (convert 22 9 (.slice A n c)).run Tryd.prog w = .ok (.string (str X)) w := by
  have e := hn.out
  subst e
  exact run_conv w A X c hl.out h
theorem str_beq (X Y : List UInt8) : ((str X).toList == (str Y).toList) = decide (X = Y) := by
  rw [str_toList, str_toList]
  by_cases h : X = Y
  · rw [decide_eq_true h, beq_iff_eq]; exact h
  · rw [decide_eq_false h, beq_eq_false_iff_ne]; exact h
theorem headR_M (w : World) (c p : Int) (n : Nat) (b : Bool) (hn : Hid ((n : Int) < 18446744073709551616)) (X : List UInt8) (lx : Nat) (HX : Hid (Jrn.headB c p n b = X)) (LX : Hid (X.length = lx)) :
    Calls Tryd.prog 25 #[.agg #[.int .i64 c, .int .i64 p, .int .u64 (n : Int)], .bool b] w fun e w' => ∃ A c, e = .returned (.slice A lx c) ∧ Bytes w' A X ∧ Below w.heap.size w w' := by
  have := refHead_calls w c p n b hn
  rw [HX.out] at this
  refine this.mono ?_
  rintro e w' ⟨A, c, rfl, o, b⟩
  exact ⟨A, c, by rw [LX.out], o.bytes, b⟩

set_option maxRecDepth 100000 in
set_option maxHeartbeats 1000000 in
theorem refReadHead_short (w : World) (A : Option Addr) (xs : List UInt8) (c : Nat) (hl : xs.length < 128) :
    Calls Tryd.prog 34 #[.slice A xs.length c] w (RetHead w xs) := by
  go_enter Tryd.func34, Tryd.ntmps34
  go_wp2
  refine bodyPost_ret (v := .tuple #[.agg #[.int .i64 0, .int .i64 0, .int .u64 0], .int .i64 8]) (by simp [results, Tryd.results34, go_sem]) rfl ⟨(Below.refl _ _).alloc (Nat.le_refl _) _, .inl ⟨hl, rfl⟩⟩

set_option maxRecDepth 100000 in
set_option maxHeartbeats 1000000 in
theorem refReadHead_long (w : World) (A : Option Addr) (xs : List UInt8) (c m : Nat) (hmm : Hid (xs.length = m)) (hl : 128 ≤ m) (hm : m ≤ 1073741824) (hcap : m ≤ c) (hc : Hid (Bytes w A xs)) :
    Calls Tryd.prog 34 #[.slice A m c] w (RetHead w xs) := by
  obtain ⟨b, off, rfl, _⟩ := hc.out 0 (by rw [hmm.out]; omega)
  obtain ⟨hc1, e1⟩ : ∃ v, Jrn.hdC xs = v := ⟨_, rfl⟩
  obtain ⟨hp1, e2⟩ : ∃ v, Jrn.hdP xs = v := ⟨_, rfl⟩
  obtain ⟨hn1, e3⟩ : ∃ v, Jrn.hdN xs = v := ⟨_, rfl⟩
  have c4 : (hc1 : Int) < 4294967296 := by have := Jrn.hdC_lt xs; omega
  have p4 : (hp1 : Int) < 4294967296 := by have := Jrn.hdP_lt xs; omega
  have n8' : Hid ((hn1 : Int) < 18446744073709551616) := hid (by have := Jrn.hdN_lt xs; omega)
  obtain ⟨R, hR⟩ : ∃ R, Jrn.headB hc1 hp1 hn1 true = R := ⟨_, rfl⟩
  have lR : R.length ≤ 128 := by
    rw [← hR]
    by_cases h : (0 ≤ (hc1 : Int) ∧ (hc1 : Int) ≤ 4000) ∧ (0 ≤ (hp1 : Int) ∧ (hp1 : Int) ≤ 4000)
    · exact Nat.le_of_eq (Jrn.headB_length h.1 h.2)
    · unfold Jrn.headB; rw [if_neg h]; exact Nat.zero_le _
  obtain ⟨lr, hlr⟩ : ∃ lr, R.length = lr := ⟨_, rfl⟩
  have b0 : ∀ o, Below w.heap.size w (w.alloc o) := fun o => (Below.refl _ _).alloc (Nat.le_refl _) o
  have hcB : ∀ o, Bytes (w.alloc o) (some ⟨b, off, none⟩) xs := fun o => hc.out.grown (b0 o)
  have sub : ∀ o j, j ≤ m → Bytes (w.alloc o) (some ⟨b, off + j, none⟩) (xs.drop j) := fun o j hj => by
    have := (hcB o).sub j (m - j)
    rwa [List.take_of_length_le (by rw [List.length_drop, hmm.out]; exact Nat.le_refl _)] at this
  have S6 := hid (sub (.cells #[.int .i64 0, .int .i64 0, .int .u64 0] 47) 6 (by omega))
  have S10 := hid (sub (.cells #[.int .i64 0, .int .i64 0, .int .u64 0] 47) 10 (by omega))
  have S14 := hid (sub (.cells #[.int .i64 0, .int .i64 0, .int .u64 0] 47) 14 (by omega))
  have S0 := hid (hcB (.cells #[.int .i64 0, .int .i64 0, .int .u64 0] 47))
  have V6 : Hid (Oct.val ((xs.drop 6).take 4) = hc1) := hid e1
  have V10 : Hid (Oct.val ((xs.drop 10).take 4) = hp1) := hid e2
  have V14 : Hid (Oct.val ((xs.drop 14).take 8) = hn1) := hid e3
  have L6 : Hid ((xs.drop 6).length = m - 6) := hid (by rw [List.length_drop, hmm.out])
  have L10 : Hid ((xs.drop 10).length = m - 10) := hid (by rw [List.length_drop, hmm.out])
  have L14 : Hid ((xs.drop 14).length = m - 14) := hid (by rw [List.length_drop, hmm.out])
  have N6 := hid (show (0 < 4 ∧ 4 ≤ 8) ∧ (4 ≤ m - 6 ∧ m - 6 ≤ 1099511627776) from ⟨by decide, by omega, by omega⟩)
  have N10 := hid (show (0 < 4 ∧ 4 ≤ 8) ∧ (4 ≤ m - 10 ∧ m - 10 ≤ 1099511627776) from ⟨by decide, by omega, by omega⟩)
  have N14 := hid (show (0 < 8 ∧ 8 ≤ 8) ∧ (8 ≤ m - 14 ∧ m - 14 ≤ 1099511627776) from ⟨by decide, by omega, by omega⟩)
  have E1 := hid e1
  have E2 := hid e2
  have E3 := hid e3
  have HR := hid hR
  have LR := hid lR
  have HLR := hid hlr
  have d1 : ¬ (m : Int) < 128 := by omega
  have d2 : (128 : Int) ≤ m := by omega
  have d3 : (128 : Int) ≤ c := by omega
  have d6 : ¬ c = 6 := by omega
  have d10 : ¬ c = 10 := by omega
  have d14 : ¬ c = 14 := by omega
  have HL := hid (show 128 ≤ xs.length by rw [hmm.out]; exact hl)
  have LT := hid (show (xs.take 128).length = 128 by rw [List.length_take, hmm.out]; omega)
  have B0 := hid (b0 (.cells #[.int .i64 0, .int .i64 0, .int .u64 0] 47))
  clear e1 e2 e3 hR lR hlr hl hm hcap b0 hcB sub
  go_enter Tryd.func34, Tryd.ntmps34
  go_wp2_with fail
  refine (refGet_calls _ _ (xs.drop 6) _ 4 hc1 _ _ rfl L6 V6 N6 S6).mono ?_
  rintro e w' ⟨rfl, rfl⟩
  go_wp2_with fail
  refine (refGet_calls _ _ (xs.drop 10) _ 4 hp1 _ _ rfl L10 V10 N10 S10).mono ?_
  rintro e w' ⟨rfl, rfl⟩
  go_wp2_with fail
  refine (refGet_calls _ _ (xs.drop 14) _ 8 hn1 _ _ rfl L14 V14 N14 S14).mono ?_
  rintro e w' ⟨rfl, rfl⟩
  clear S6 S10 S14 V6 V10 V14 L6 L10 L14 N6 N10 N14
  go_wp2
  have b2 : Below w.heap.size w ((w.alloc (.cells #[.int .i64 0, .int .i64 0, .int .u64 0] 47)).alloc (.cells #[.int .i64 (hc1 : Int), .int .i64 (hp1 : Int), .int .u64 (hn1 : Int)] 47)) := B0.out.alloc B0.out.size _
  have f0 : ((w.alloc (.cells #[.int .i64 0, .int .i64 0, .int .u64 0] 47)).alloc (.cells #[.int .i64 (hc1 : Int), .int .i64 (hp1 : Int), .int .u64 (hn1 : Int)] 47)).drew.cell? ⟨w.heap.size + 1, 0, none⟩ = some (.int .i64 (hc1 : Int)) := by go_simp
  have f1 : ((w.alloc (.cells #[.int .i64 0, .int .i64 0, .int .u64 0] 47)).alloc (.cells #[.int .i64 (hc1 : Int), .int .i64 (hp1 : Int), .int .u64 (hn1 : Int)] 47)).drew.cell? ⟨w.heap.size + 1, 1, none⟩ = some (.int .i64 (hp1 : Int)) := by go_simp
  have f2 : ((w.alloc (.cells #[.int .i64 0, .int .i64 0, .int .u64 0] 47)).alloc (.cells #[.int .i64 (hc1 : Int), .int .i64 (hp1 : Int), .int .u64 (hn1 : Int)] 47)).drew.cell? ⟨w.heap.size + 1, 2, none⟩ = some (.int .u64 (hn1 : Int)) := by go_simp
  have r0 : ((w.alloc (.cells #[.int .i64 0, .int .i64 0, .int .u64 0] 47)).alloc (.cells #[.int .i64 (hc1 : Int), .int .i64 (hp1 : Int), .int .u64 (hn1 : Int)] 47)).drew.cell? ⟨w.heap.size, 0, none⟩ = some (.int .i64 0) := by go_simp
  have r1 : ((w.alloc (.cells #[.int .i64 0, .int .i64 0, .int .u64 0] 47)).alloc (.cells #[.int .i64 (hc1 : Int), .int .i64 (hp1 : Int), .int .u64 (hn1 : Int)] 47)).drew.cell? ⟨w.heap.size, 1, none⟩ = some (.int .i64 0) := by go_simp
  have r2 : ((w.alloc (.cells #[.int .i64 0, .int .i64 0, .int .u64 0] 47)).alloc (.cells #[.int .i64 (hc1 : Int), .int .i64 (hp1 : Int), .int .u64 (hn1 : Int)] 47)).drew.cell? ⟨w.heap.size, 2, none⟩ = some (.int .u64 0) := by go_simp
  have rf : ∀ i, ((w.alloc (.cells #[.int .i64 0, .int .i64 0, .int .u64 0] 47)).alloc (.cells #[.int .i64 (hc1 : Int), .int .i64 (hp1 : Int), .int .u64 (hn1 : Int)] 47)).drew.frozen? ⟨w.heap.size, i, none⟩ = false := by intro i; go_simp
  have XT : Hid (Bytes ((w.alloc (.cells #[.int .i64 0, .int .i64 0, .int .u64 0] 47)).alloc (.cells #[.int .i64 (hc1 : Int), .int .i64 (hp1 : Int), .int .u64 (hn1 : Int)] 47)).drew (some ⟨b, off, none⟩) (xs.take 128)) := hid (show Bytes ((w.alloc (.cells #[.int .i64 0, .int .i64 0, .int .u64 0] 47)).alloc (.cells #[.int .i64 (hc1 : Int), .int .i64 (hp1 : Int), .int .u64 (hn1 : Int)] 47)) (some ⟨b, off, none⟩) (xs.take 128) from (hc.out.grown b2).take 128)
  have zz : w.heap.size < ((w.alloc (.cells #[.int .i64 0, .int .i64 0, .int .u64 0] 47)).alloc (.cells #[.int .i64 (hc1 : Int), .int .i64 (hp1 : Int), .int .u64 (hn1 : Int)] 47)).drew.heap.size := by show w.heap.size < ((w.alloc (.cells #[.int .i64 0, .int .i64 0, .int .u64 0] 47)).alloc (.cells #[.int .i64 (hc1 : Int), .int .i64 (hp1 : Int), .int .u64 (hn1 : Int)] 47)).heap.size; simp; omega
  have B2 := hid b2
  obtain ⟨r, hr⟩ : ∃ r, decide (R = xs.take 128) = r := ⟨_, rfl⟩
  have HR2 := hid hr
  have LR2 : Hid (lr ≤ 1099511627776) := hid (by have := LR.out; rw [HLR.out] at this; omega)
  clear b2 B0 S0 hr d1 d6 d10 d14 c4 p4
  generalize ((w.alloc (.cells #[.int .i64 0, .int .i64 0, .int .u64 0] 47)).alloc (.cells #[.int .i64 (hc1 : Int), .int .i64 (hp1 : Int), .int .u64 (hn1 : Int)] 47)) = W at *
  refine any_start (by kernel_rfl) ?_
  refine any_take 0 (some 39) (v := ?_) rfl rfl (by kernel_rfl) (by kernel_rfl) (by kernel_rfl) (fun _ _ _ h => h) (by rfl) (fun w9 hS => ?_) ?_
  rotate_left
  · have e0 := hS.c f0; have e1 := hS.c f1; have e2 := hS.c f2; go_simp <;> with_reducible rfl
  try simp only [Act.put, List.setIfInBounds_toArray, List.set_cons_zero, List.set_cons_succ]
  refine any_take 3 (some 42) (v := ?_) rfl rfl (by kernel_rfl) (by kernel_rfl) (by kernel_rfl) (fun _ _ _ h => h) (by rfl) (fun w9 hS => ?_) ?_
  rotate_left
  · go_simp <;> with_reducible rfl
  try simp only [Act.put, List.setIfInBounds_toArray, List.set_cons_zero, List.set_cons_succ]
  refine any_take 4 (some 43) (v := ?_) rfl rfl (by kernel_rfl) (by kernel_rfl) (by kernel_rfl) (fun _ _ _ h => h) (by rfl) (fun w9 hS => ?_) ?_
  rotate_left
  · go_simp <;> with_reducible rfl
  try simp only [Act.put, List.setIfInBounds_toArray, List.set_cons_zero, List.set_cons_succ]
  refine any_take 5 (some 44) (v := ?_) rfl rfl (by kernel_rfl) (by kernel_rfl) (by kernel_rfl) (fun _ _ _ h => h) (by rfl) (fun w9 hS => ?_) ?_
  rotate_left
  · have ev := conv_m w9 (c := c) LT (hid (by decide)) (XT.out.grown hS); go_simp <;> with_reducible rfl
  try simp only [Act.put, List.setIfInBounds_toArray, List.set_cons_zero, List.set_cons_succ]
  refine any_call 1 (by kernel_rfl) rfl (by rfl) (fun K9 hK9 => ?_)
  go_simp
  go_at_call 25
  refine (headR_M _ hc1 hp1 hn1 true n8' R lr HR HLR).mono ?_
  rintro e w3 ⟨A3, c3, rfl, y3, b3⟩
  replace y3 := hid y3
  have u : Up _ w3 := b3
  have BU := hid u
  replace f0 := u.c f0
  replace f1 := u.c f1
  replace f2 := u.c f2
  replace r0 := u.c r0
  replace r1 := u.c r1
  replace r2 := u.c r2
  replace rf : ∀ i, w3.frozen? ⟨w.heap.size, i, none⟩ = false := fun i => by rw [World.frozen?_of_block (u.block w.heap.size zz)]; exact rf i
  replace XT := hid (XT.out.grown u)
  clear b3
  refine hK9.out _ _ u ?_
  clear u
  clear hK9 K9
  try simp only [Act.put, List.setIfInBounds_toArray, List.set_cons_zero, List.set_cons_succ]
  refine any_take 2 (some 41) (v := ?_) rfl rfl (by kernel_rfl) (by kernel_rfl) (by kernel_rfl) (fun _ _ _ h => h) (by rfl) (fun w9 hS => ?_) ?_
  rotate_left
  · have ev := conv_m w9 (c := c3) HLR LR2 (y3.out.grown hS); go_simp <;> with_reducible rfl
  try simp only [Act.put, List.setIfInBounds_toArray, List.set_cons_zero, List.set_cons_succ]
  refine any_take 6 (some 45) (v := ?_) rfl rfl (by kernel_rfl) (by kernel_rfl) (by kernel_rfl) (fun _ _ _ h => h) (by rfl) (fun w9 hS => ?_) ?_
  rotate_left
  · have es : ((str R).toList == (str (xs.take 128)).toList) = r := (str_beq _ _).trans HR2.out; go_simp <;> with_reducible rfl
  try simp only [Act.put, List.setIfInBounds_toArray, List.set_cons_zero, List.set_cons_succ]
  refine any_done (by kernel_rfl) ?_
  have B3 := hid ((show Up w W from B2.out).t (Up.drew W) |>.t BU.out)
  have hz : ∀ r0, Jrn.headIs xs = r0 ↔ decide (R = xs.take 128) = r0 := fun r0 => by unfold Jrn.headIs; rw [E1.out, E2.out, E3.out, HR.out]
  clear y3 XT zz d2 d3 B2
  rename_i K1 h1
  cases r
  · refine h1 _ _ ?_
    clear h1 K1
    simp only [Bool.not_false, Bool.not_true]
    go_wp2
    refine bodyPost_ret (v := .tuple #[.agg #[.int .i64 0, .int .i64 0, .int .u64 0], .int .i64 9]) (by simp [results, Tryd.results34, go_sem, f0, f1, f2, r0, r1, r2, rf]) rfl ⟨((B3.out.setCell (Nat.le_refl _) _).setCell (Nat.le_refl _) _).setCell (Nat.le_refl _) _, .inr (.inl ⟨HL.out, (hz _).2 HR2.out, rfl⟩)⟩
  · refine h1 _ _ ?_
    clear h1 K1
    simp only [Bool.not_false, Bool.not_true]
    go_wp2
    refine bodyPost_ret (v := .tuple #[.agg #[.int .i64 (hc1 : Int), .int .i64 (hp1 : Int), .int .u64 (hn1 : Int)], .int .i64 0]) (by simp [results, Tryd.results34, go_sem, f0, f1, f2, r0, r1, r2, rf]) rfl ⟨((B3.out.setCell (Nat.le_refl _) _).setCell (Nat.le_refl _) _).setCell (Nat.le_refl _) _, .inr (.inr ⟨HL.out, (hz _).2 HR2.out, by rw [E1.out, E2.out, E3.out]; rfl⟩)⟩

theorem refReadHead_calls (w : World) (A : Option Addr) (xs : List UInt8) (c n : Nat) (hn : Hid (xs.length = n)) (hm : Hid (n ≤ 1073741824)) (hcap : Hid (n ≤ c)) (hc : Hid (Bytes w A xs)) :
    Calls Tryd.prog 34 #[.slice A n c] w (RetHead w xs) := by
  by_cases h : n < 128
  · have e := hn.out
    subst e
    exact refReadHead_short w A xs c h
  · exact refReadHead_long w A xs c n hn (by omega) hm.out hcap.out hc

theorem refHot_calls (w : World) (A : Option Addr) (xs : List UInt8) (c n : Nat) (hn : Hid (xs.length = n)) (hm : Hid (n ≤ 1073741824)) (hcap : Hid (n ≤ c)) (hc : Hid (Bytes w A xs)) (r : Bool) (hr : Hid (Jrn.hotB xs = r)) :
    Calls Tryd.prog 39 #[.slice A n c] w fun e w' => e = .returned (.bool r) ∧ Hid (Below w.heap.size w w') := by
  go_enter Tryd.func39, Tryd.ntmps39
  go_wp2_with fail
  refine (refReadHead_calls w A xs c n hn hm hcap hc).mono ?_
  rintro e w1 ⟨b1, h⟩
  have B1 := hid b1
  have HN := hn.out
  have hh := hr.out
  unfold Jrn.hotB at hh
  rcases h with ⟨h1, rfl⟩ | ⟨h1, h2, rfl⟩ | ⟨h1, h2, rfl⟩
  · rw [if_pos h1] at hh
    subst hh
    clear h1 HN b1
    unfold headV
    go_wp2
    go_ret
    exact ⟨rfl, hid (B1.out.alloc B1.out.size _)⟩
  · rw [if_neg (by omega), h2] at hh
    subst hh
    clear h1 h2 HN b1
    unfold headV
    go_wp2
    go_ret
    exact ⟨rfl, hid (B1.out.alloc B1.out.size _)⟩
  · rw [if_neg (by omega), h2] at hh
    subst hh
    clear h1 h2 HN b1
    unfold headV
    go_wp2
    go_ret
    exact ⟨rfl, hid (B1.out.alloc B1.out.size _)⟩
end Go.Proofs.YtlmlplpbgkbhdaaDoor
