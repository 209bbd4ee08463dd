/- THE WALK of the document's ReadRecord. -/
import Derived.Test.YtlmlplpbgkbhdaaDoorRefG
import Derived.Test.YtlmlplpbgkbhdaaDoorRef5
import Derived.Test.YtlmlplpbgkbhdaaDoorRef6
import Derived.Test.YtlmlplpbgkbhdaaDoorJrn5
set_option linter.unusedVariables false
set_option linter.unusedSimpArgs false
namespace Go.Proofs.YtlmlplpbgkbhdaaDoor
open Go.RowKit Hach

set_option maxRecDepth 100000 in
set_option maxHeartbeats 1000000 in
theorem refReadRecord_short (w : World) (A : Option Addr) (xs : List UInt8) (c n : Nat) (hl : xs.length < 640) :
    Calls Tryd.prog 35 #[.slice A xs.length c, .int .u64 (n : Int)] w (RetRec w xs n) := by
  go_enter Tryd.func35, Tryd.ntmps35
  go_wp2
  refine bodyPost_ret (v := .tuple #[.agg #[.int .i64 0, .slice none 0 0], .int .i64 8]) (by simp [results, Tryd.results35, go_sem]) rfl ⟨(Below.refl _ _).alloc (Nat.le_refl _) _, .inl ⟨hl, rfl⟩⟩

set_option maxRecDepth 100000 in
set_option maxHeartbeats 1000000 in
theorem refReadRecord_long (w : World) (A : Option Addr) (xs : List UInt8) (c n m : Nat) (hmm : Hid (xs.length = m)) (hl : 640 ≤ m) (hm : m ≤ 1073741824) (hcap : m ≤ c) (hn : Hid ((n : Int) < 18446744073709551616)) (hc : Hid (Bytes w A xs)) :
    Calls Tryd.prog 35 #[.slice A m c, .int .u64 (n : Int)] w (RetRec w xs n) := by
  obtain ⟨b, off, rfl, _⟩ := hc.out 0 (by rw [hmm.out]; omega)
  obtain ⟨p, hp⟩ : ∃ p, Oct.val (xs.take 4) = p := ⟨_, rfl⟩
  have hp4 : p < 4294967296 := by
    rw [← hp]; refine Nat.lt_of_lt_of_le (Oct.val_lt _) ?_
    rw [List.length_take, Nat.min_eq_left (by rw [hmm.out]; omega)]; decide
  obtain ⟨D, hD⟩ : ∃ D, (xs.drop 128).take 512 = D := ⟨_, rfl⟩
  have lD : D.length = 512 := by rw [← hD, List.length_take, List.length_drop, hmm.out]; omega
  obtain ⟨R, hR⟩ : ∃ R, Jrn.recB p n D = R := ⟨_, rfl⟩
  have lR : R.length ≤ 640 := by rw [← hR]; exact Jrn.recB_length _ _ _
  obtain ⟨lr, hlr⟩ : ∃ lr, R.length = lr := ⟨_, rfl⟩
  have hb := hid (show Bytes w (some ⟨b, off + 128, none⟩) D by rw [← hD]; exact hc.out.sub 128 512)
  have HP := hid hp
  have HD := hid hD
  have LD := hid lD
  have HR := hid hR
  have LR := hid lR
  have HLR := hid hlr
  have LT := hid (show (xs.take 640).length = 640 by rw [List.length_take, hmm.out]; omega)
  have b0 : ∀ o, Below w.heap.size w (w.alloc o) := fun o => (Below.refl _ _).alloc (Nat.le_refl _) o
  have d1 : ¬ (m : Int) < 640 := by omega
  have d2 : (640 : Int) ≤ c := by omega
  have d3 : (640 : Int) ≤ m := by omega
  have d8 : ¬ c = 128 := by omega
  have HL := hid (show 640 ≤ xs.length by rw [hmm.out]; exact hl)
  have p0 : (0 : Int) ≤ p := by omega
  have p1 : (p : Int) < 4294967296 := by omega
  have K4 := hid (show (0 < 4 ∧ 4 ≤ 8) ∧ (4 ≤ m ∧ m ≤ 1099511627776) from ⟨by decide, by omega, by omega⟩)
  clear hp hD lD hR lR hlr hl hm hcap hp4
  go_enter Tryd.func35, Tryd.ntmps35
  go_wp2_with fail
  refine (refGet_calls _ (some ⟨b, off, none⟩) xs c 4 p m _ rfl hmm HP K4 (hid (hc.out.grown (b0 _)))).mono ?_
  rintro e w' ⟨rfl, rfl⟩
  go_wp2_with (at_builtin; refine hold ?_)
  have bA := b0 (.cells #[.int .i64 0, .slice none 0 0] 49)
  have hs : (w.alloc (.cells #[.int .i64 0, .slice none 0 0] 49)).heap.size = w.heap.size + 1 := by simp
  have r0 : (w.alloc (.cells #[.int .i64 0, .slice none 0 0] 49)).cell? ⟨w.heap.size, 0, none⟩ = some (.int .i64 0) := by go_simp
  have r1 : (w.alloc (.cells #[.int .i64 0, .slice none 0 0] 49)).cell? ⟨w.heap.size, 1, none⟩ = some (.slice none 0 0) := by go_simp
  have rf : ∀ i, (w.alloc (.cells #[.int .i64 0, .slice none 0 0] 49)).frozen? ⟨w.heap.size, i, none⟩ = false := by intro i; go_simp
  generalize (w.alloc (.cells #[.int .i64 0, .slice none 0 0] 49)) = W0 at *
  rw [← hs]
  have zr : w.heap.size < W0.heap.size := by omega
  have bl : Below W0.heap.size W0 (W0.alloc (.cells #[] 5)) := (Below.refl _ _).alloc (Nat.le_refl _) _
  have ol := own_lit W0 W0.heap.size 5 0 [] (Nat.le_refl _) (by decide) rfl
  refine hid (wl_append elemB rfl (.tmp 20) (.tmp 22) rfl rfl ol rfl (((hb.out.grown bA).grown bl).rd) (by rw [List.length_map, LD.out]) (byteCells_one _) (by decide) (by decide) (by simp) ?_)
  intro A1 c1 w1 o1 g1 _
  have b1 := below_append bl (Nat.le_refl _) (by simp) ol g1
  simp only [Nat.zero_add, List.nil_append] at o1 ⊢
  replace r0 := (b1.cell (p := ⟨w.heap.size, 0, none⟩) zr).trans r0
  replace r1 := (b1.cell (p := ⟨w.heap.size, 1, none⟩) zr).trans r1
  replace rf : ∀ i, w1.frozen? ⟨w.heap.size, i, none⟩ = false := fun i => (b1.frozen (p := ⟨w.heap.size, i, none⟩) zr).trans (rf i)
  have B1 := hid (bA.trans (b1.mono bA.size))
  have O1 := hid o1
  have z1 : w.heap.size < w1.heap.size := by have := b1.size; omega
  have ZW := hid (show w.heap.size + 1 ≤ W0.heap.size by omega)
  clear bl ol g1 o1 b1 bA b0 hs zr d1
  go_wp2
  have bW : Below w1.heap.size w1 (w1.alloc (.cells #[.int .i64 (p : Int), .slice A1 512 c1] 49)) := (Below.refl _ _).alloc (Nat.le_refl _) _
  have f0 : (w1.alloc (.cells #[.int .i64 (p : Int), .slice A1 512 c1] 49)).drew.cell? ⟨w1.heap.size, 0, none⟩ = some (.int .i64 (p : Int)) := by go_simp
  have f1 : (w1.alloc (.cells #[.int .i64 (p : Int), .slice A1 512 c1] 49)).drew.cell? ⟨w1.heap.size, 1, none⟩ = some (.slice A1 512 c1) := by go_simp
  replace r0 : (w1.alloc (.cells #[.int .i64 (p : Int), .slice A1 512 c1] 49)).drew.cell? ⟨w.heap.size, 0, none⟩ = some (.int .i64 0) := (bW.cell (p := ⟨w.heap.size, 0, none⟩) z1).trans r0
  replace r1 : (w1.alloc (.cells #[.int .i64 (p : Int), .slice A1 512 c1] 49)).drew.cell? ⟨w.heap.size, 1, none⟩ = some (.slice none 0 0) := (bW.cell (p := ⟨w.heap.size, 1, none⟩) z1).trans r1
  replace rf : ∀ i, (w1.alloc (.cells #[.int .i64 (p : Int), .slice A1 512 c1] 49)).drew.frozen? ⟨w.heap.size, i, none⟩ = false := fun i => (bW.frozen (p := ⟨w.heap.size, i, none⟩) z1).trans (rf i)
  have b2 : Below w.heap.size w (w1.alloc (.cells #[.int .i64 (p : Int), .slice A1 512 c1] 49)) := B1.out.alloc B1.out.size _
  have XT : Hid (Bytes (w1.alloc (.cells #[.int .i64 (p : Int), .slice A1 512 c1] 49)).drew (some ⟨b, off, none⟩) (xs.take 640)) := hid (show Bytes (w1.alloc (.cells #[.int .i64 (p : Int), .slice A1 512 c1] 49)) (some ⟨b, off, none⟩) (xs.take 640) from (hc.out.grown b2).take 640)
  have DT : Hid (Bytes (w1.alloc (.cells #[.int .i64 (p : Int), .slice A1 512 c1] 49)).drew A1 D) := hid (show Bytes (w1.alloc (.cells #[.int .i64 (p : Int), .slice A1 512 c1] 49)) A1 D from Bytes.grown (Rd.bytes (Rd.own O1.out)) bW)
  have O2 := hid (Fr.own (Fr.of_below bW) O1.out (fun _ _ => id))
  have zz : w.heap.size < (w1.alloc (.cells #[.int .i64 (p : Int), .slice A1 512 c1] 49)).drew.heap.size := by show w.heap.size < (w1.alloc (.cells #[.int .i64 (p : Int), .slice A1 512 c1] 49)).heap.size; have := bW.size; omega
  have B2 := hid b2
  obtain ⟨r, hr⟩ : ∃ r, decide (R = xs.take 640) = r := ⟨_, rfl⟩
  have HR2 := hid hr
  have LR2 : Hid (lr ≤ 1099511627776) := hid (by have := LR.out; rw [HLR.out] at this; omega)
  clear b2 B1 O1 hr d8 p0 p1 bW
  generalize (w1.alloc (.cells #[.int .i64 (p : Int), .slice A1 512 c1] 49)) = W at *
  refine any_start (by kernel_rfl) ?_
  refine any_take 0 (some 25) (v := ?_) rfl rfl (by kernel_rfl) (by kernel_rfl) (by kernel_rfl) (fun _ _ _ h => h) (by rfl) (fun w9 hS => ?_) ?_
  rotate_left
  · have e0 := hS.c f0; have e1 := hS.c f1; go_simp <;> with_reducible rfl
  try simp only [Act.put, List.setIfInBounds_toArray, List.set_cons_zero, List.set_cons_succ]
  refine any_take 1 (some 26) (v := ?_) rfl rfl (by kernel_rfl) (by kernel_rfl) (by kernel_rfl) (fun _ _ _ h => h) (by rfl) (fun w9 hS => ?_) ?_
  rotate_left
  · go_simp <;> with_reducible rfl
  try simp only [Act.put, List.setIfInBounds_toArray, List.set_cons_zero, List.set_cons_succ]
  refine any_take 4 (some 29) (v := ?_) rfl rfl (by kernel_rfl) (by kernel_rfl) (by kernel_rfl) (fun _ _ _ h => h) (by rfl) (fun w9 hS => ?_) ?_
  rotate_left
  · go_simp <;> with_reducible rfl
  try simp only [Act.put, List.setIfInBounds_toArray, List.set_cons_zero, List.set_cons_succ]
  refine any_take 5 (some 30) (v := ?_) rfl rfl (by kernel_rfl) (by kernel_rfl) (by kernel_rfl) (fun _ _ _ h => h) (by rfl) (fun w9 hS => ?_) ?_
  rotate_left
  · go_simp <;> with_reducible rfl
  try simp only [Act.put, List.setIfInBounds_toArray, List.set_cons_zero, List.set_cons_succ]
  refine any_take 6 (some 31) (v := ?_) rfl rfl (by kernel_rfl) (by kernel_rfl) (by kernel_rfl) (fun _ _ _ h => h) (by rfl) (fun w9 hS => ?_) ?_
  rotate_left
  · have ev := conv_m w9 (c := c) LT (hid (by decide)) (XT.out.grown hS); go_simp <;> with_reducible rfl
  try simp only [Act.put, List.setIfInBounds_toArray, List.set_cons_zero, List.set_cons_succ]
  refine any_call 2 (by kernel_rfl) rfl (by rfl) (fun K9 hK9 => ?_)
  go_simp
  go_at_call 22
  refine (refRec_callsX _ p n 512 A1 D R c1 LD HR hn DT).mono ?_
  rintro e w3 ⟨A3, c3, rfl, o3, b3⟩
  have y3 := hid o3.bytes
  clear o3
  rw [HLR.out]
  have u : Up _ w3 := b3
  have BU := hid u
  replace f0 := u.c f0
  replace f1 := u.c f1
  replace r0 := u.c r0
  replace r1 := u.c r1
  replace rf : ∀ i, w3.frozen? ⟨w.heap.size, i, none⟩ = false := fun i => by rw [World.frozen?_of_block (u.block w.heap.size zz)]; exact rf i
  replace XT := hid (XT.out.grown u)
  clear b3
  refine hK9.out _ _ u ?_
  clear u
  clear hK9 K9
  try simp only [Act.put, List.setIfInBounds_toArray, List.set_cons_zero, List.set_cons_succ]
  refine any_take 3 (some 28) (v := ?_) rfl rfl (by kernel_rfl) (by kernel_rfl) (by kernel_rfl) (fun _ _ _ h => h) (by rfl) (fun w9 hS => ?_) ?_
  rotate_left
  · have ev := conv_m w9 (c := c3) HLR LR2 (y3.out.grown hS); go_simp <;> with_reducible rfl
  try simp only [Act.put, List.setIfInBounds_toArray, List.set_cons_zero, List.set_cons_succ]
  refine any_take 7 (some 32) (v := ?_) rfl rfl (by kernel_rfl) (by kernel_rfl) (by kernel_rfl) (fun _ _ _ h => h) (by rfl) (fun w9 hS => ?_) ?_
  rotate_left
  · have es : ((str R).toList == (str (xs.take 640)).toList) = r := (str_beq _ _).trans HR2.out; go_simp <;> with_reducible rfl
  try simp only [Act.put, List.setIfInBounds_toArray, List.set_cons_zero, List.set_cons_succ]
  refine any_done (by kernel_rfl) ?_
  have B3 := hid ((show Up w W from B2.out).t (Up.drew W) |>.t BU.out)
  have O3 := hid (Fr.own (Fr.of_below (show Below W.heap.size W w3 from (Up.drew W).t BU.out)) O2.out (fun _ _ => id))
  have hz : ∀ r0, Jrn.recIs xs n = r0 ↔ decide (R = xs.take 640) = r0 := fun r0 => by unfold Jrn.recIs; rw [HP.out, HD.out, HR.out]
  have D2 := hid (show ¬ xs.length < 640 by have := HL.out; omega)
  clear y3 XT zz d2 d3 B2 O2
  rename_i K1 h1
  cases r
  · refine h1 _ _ ?_
    clear h1 K1
    simp only [Bool.not_false, Bool.not_true]
    go_wp2
    refine bodyPost_ret (v := .tuple #[.agg #[.int .i64 0, .slice none 0 0], .int .i64 9]) (by simp [results, Tryd.results35, go_sem, f0, f1, r0, r1, rf]) rfl ⟨(B3.out.setCell (Nat.le_refl _) _).setCell (Nat.le_refl _) _, .inr (.inl ⟨HL.out, (hz _).2 HR2.out, rfl⟩)⟩
  · refine h1 _ _ ?_
    clear h1 K1
    simp only [Bool.not_false, Bool.not_true]
    go_wp2
    refine bodyPost_ret (v := .tuple #[.agg #[.int .i64 (p : Int), .slice A1 512 c1], .int .i64 0]) (by simp [results, Tryd.results35, go_sem, f0, f1, r0, r1, rf]) rfl ⟨(B3.out.setCell (Nat.le_refl _) _).setCell (Nat.le_refl _) _, .inr (.inr ⟨HL.out, (hz _).2 HR2.out, A1, c1, by rw [HP.out], ?_⟩)⟩
    rw [HD.out]
    have o := O3.out
    exact own_base (ownsRow_setCell_below (ownsRow_setCell_below (own_base o ZW.out) (Nat.lt_succ_self _) _) (Nat.lt_succ_self _) _) (Nat.le_succ _)

theorem refReadRecord_calls (w : World) (A : Option Addr) (xs : List UInt8) (c n m : Nat) (hmm : Hid (xs.length = m)) (hm : m ≤ 1073741824) (hcap : m ≤ c) (hn : Hid ((n : Int) < 18446744073709551616)) (hc : Hid (Bytes w A xs)) :
    Calls Tryd.prog 35 #[.slice A m c, .int .u64 (n : Int)] w (RetRec w xs n) := by
  by_cases h : m < 640
  · have e := hmm.out
    subst e
    exact refReadRecord_short w A xs c n h
  · exact refReadRecord_long w A xs c n m hmm (by omega) hm hcap hn hc
theorem readRecord_callsX (w : World) (ht : Hid (TabOk w)) (A : Option Addr) (xs : List UInt8) (c n m : Nat) (hmm : Hid (xs.length = m)) (hm : m ≤ 1073741824) (hcap : m ≤ c) (hn : Hid ((n : Int) < 18446744073709551616)) (hc : Hid (Bytes w A xs)) :
    Calls Tryd.prog 21 #[.slice A m c, .int .u64 (n : Int)] w (RetRec w xs n) := by
  have e := hmm.out
  subst e
  exact readRecord_calls w ht A xs c n hm hcap hn hc
end Go.Proofs.YtlmlplpbgkbhdaaDoor
