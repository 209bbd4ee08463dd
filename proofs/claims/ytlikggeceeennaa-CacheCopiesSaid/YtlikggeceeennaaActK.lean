/- THE WALK of act, kind 0. THE WALK of act, kind 1. THE WALK of act, kind 2. THE WALK of act, kind 3. THE WALK of act, kind 4. THE WALK of act, kind 5. THE WALK of act, kind 6. THE WALK of act, kind 7. THE WALK of act, kind other. -/
import Derived.Test.YtlikggeceeennaaActA
set_option linter.unusedVariables false
set_option linter.unusedSimpArgs false
namespace Go.Proofs.Ytlikggeceeennaa
open Go Go.RowKit Hach
set_option maxRecDepth 100000 in
set_option maxHeartbeats 2000000 in
theorem act0_calls (w : World) (bc g mp : Nat) (room hits miss : Int) (V : List Vis) (br b : Nat) (room' hit' miss' : Int) (U : List Vis) (a : ActV) {N : Nat} (hC : Hid (CacheM w bc g mp room hits miss V)) (hR : Hid (RefM w br b room' hit' miss' U))
    (hV : Hid (Ok5 V N ∧ N < 900000)) (hU : Hid (Ok5 U N ∧ N < 900000)) (hwf : Hid ((Lit.int .i64 a.page).wf = true)) (hn : Hid ((hits < 1000000 ∧ 0 ≤ hits ∧ miss < 1000000 ∧ 0 ≤ miss) ∧ (hit' < 1000000 ∧ 0 ≤ hit' ∧ miss' < 1000000 ∧ 0 ≤ miss'))) (hk : a.kind = 0) :
    Calls Try.prog 28 #[ptr g, ptr b, .agg #[.int .i64 a.kind, .int .i64 a.page, .int .u8 (n8 a.seed), .bool a.short]] w (ActRet w bc g mp room hits miss (if a.page < 1 ∨ actN a ≠ 512 then V else putV room a.page (actD a) V) br b room' hit' miss' (if a.page < 1 ∨ actN a ≠ 512 then U else putV room' a.page (actD a) U) (V = U ∧ room = room')) := by
  have S0 := hid (Both.start (a := a) hC.out hR.out)
  have bx := S0.out.box.cells
  obtain ⟨bx0, bx1, bx2, bx3⟩ := bx
  rw [hk] at bx0
  obtain ⟨cd, hcd⟩ : ∃ z : Int, (if a.page < 1 ∨ actN a ≠ 512 then 2 else 0) = z := ⟨_, rfl⟩
  have HCD := hid hcd
  clear hcd
  generalize hhV2 : (if a.page < 1 ∨ actN a ≠ 512 then V else putV room a.page (actD a) V) = V2
  generalize hhU2 : (if a.page < 1 ∨ actN a ≠ 512 then U else putV room' a.page (actD a) U) = U2
  have HG := hid (show (if a.page < 1 ∨ actN a ≠ 512 then V else putV room a.page (actD a) V) = V2 ∧ (if a.page < 1 ∨ actN a ≠ 512 then U else putV room' a.page (actD a) U) = U2 from ⟨hhV2, hhU2⟩)
  clear hhV2 hhU2
  unfold ptr
  go_enter Try.func28, Try.ntmps28
  go_wp2
  rw [show w.alloc (.cells #[.int .i64 0, .int .i64 a.page, .int .u8 (n8 a.seed), .bool a.short] 51) = w.alloc (.cells #[.int .i64 a.kind, .int .i64 a.page, .int .u8 (n8 a.seed), .bool a.short] 51) from by rw [hk]]
  have HK := hid hk
  clear hk bx0 bx1 bx2 bx3
  replace S0 := hid (S0.out.up (Up.drew _))
  have US := S0.out.box
  refine s_start (fun w9 => BoxAt w9 w.heap.size a) (by kernel_rfl) ?_
  refine s_take 0 (some 19) (v := ?_) US rfl rfl (by kernel_rfl) (by kernel_rfl) (by kernel_rfl) (fun _ _ _ h => h) (by rfl) (fun w9 hS => ?_) ?_
  rotate_left
  · go_simp <;> with_reducible rfl
  try simp only [Act.put, List.setIfInBounds_toArray, List.set_cons_zero, List.set_cons_succ]
  refine s_take 1 (some 20) (v := ?_) US rfl rfl (by kernel_rfl) (by kernel_rfl) (by kernel_rfl) (fun _ _ _ h => h) (by rfl) (fun w9 hS => ?_) ?_
  rotate_left
  · go_simp <;> with_reducible rfl
  try simp only [Act.put, List.setIfInBounds_toArray, List.set_cons_zero, List.set_cons_succ]
  refine s_take 2 (some 21) (v := ?_) US rfl rfl (by kernel_rfl) (by kernel_rfl) (by kernel_rfl) (fun _ _ _ h => h) (by rfl) (fun w9 hS => ?_) ?_
  rotate_left
  · obtain ⟨e0, e1, e2, e3⟩ := BoxAt.cells hS; go_simp <;> with_reducible rfl
  try simp only [Act.put, List.setIfInBounds_toArray, List.set_cons_zero, List.set_cons_succ]
  refine s_take 3 (some 22) (v := ?_) US rfl rfl (by kernel_rfl) (by kernel_rfl) (by kernel_rfl) (fun _ _ _ h => h) (by rfl) (fun w9 hS => ?_) ?_
  rotate_left
  · obtain ⟨e0, e1, e2, e3⟩ := BoxAt.cells hS; go_simp <;> with_reducible rfl
  try simp only [Act.put, List.setIfInBounds_toArray, List.set_cons_zero, List.set_cons_succ]
  refine s_take 6 (some 25) (v := ?_) US rfl rfl (by kernel_rfl) (by kernel_rfl) (by kernel_rfl) (fun _ _ _ h => h) (by rfl) (fun w9 hS => ?_) ?_
  rotate_left
  · go_simp <;> with_reducible rfl
  try simp only [Act.put, List.setIfInBounds_toArray, List.set_cons_zero, List.set_cons_succ]
  refine s_take 7 (some 26) (v := ?_) US rfl rfl (by kernel_rfl) (by kernel_rfl) (by kernel_rfl) (fun _ _ _ h => h) (by rfl) (fun w9 hS => ?_) ?_
  rotate_left
  · go_simp <;> with_reducible rfl
  try simp only [Act.put, List.setIfInBounds_toArray, List.set_cons_zero, List.set_cons_succ]
  refine s_take 8 (some 27) (v := ?_) US rfl rfl (by kernel_rfl) (by kernel_rfl) (by kernel_rfl) (fun _ _ _ h => h) (by rfl) (fun w9 hS => ?_) ?_
  rotate_left
  · obtain ⟨e0, e1, e2, e3⟩ := BoxAt.cells hS; go_simp <;> with_reducible rfl
  try simp only [Act.put, List.setIfInBounds_toArray, List.set_cons_zero, List.set_cons_succ]
  refine s_take 9 (some 28) (v := ?_) US rfl rfl (by kernel_rfl) (by kernel_rfl) (by kernel_rfl) (fun _ _ _ h => h) (by rfl) (fun w9 hS => ?_) ?_
  rotate_left
  · obtain ⟨e0, e1, e2, e3⟩ := BoxAt.cells hS; go_simp <;> with_reducible rfl
  try simp only [Act.put, List.setIfInBounds_toArray, List.set_cons_zero, List.set_cons_succ]
  refine s_op 4 (by kernel_rfl) rfl (by rfl) (fun K9 hK9 => ?_)
  go_simp
  refine (bytes5_calls _ a).mono ?_
  rintro en w2 ⟨A1, c1, rfl, hh⟩
  have S1 := hid (S0.out.up hh.out.2)
  have O1 := hid hh.out.1
  clear US hh
  have US : BoxAt w2 w.heap.size a := S1.out.box
  refine hK9.out _ _ US ?_
  clear hK9 K9
  try simp only [Act.put, List.setIfInBounds_toArray, List.set_cons_zero, List.set_cons_succ]
  refine s_op 5 (by kernel_rfl) rfl (by rfl) (fun K9 hK9 => ?_)
  go_simp
  refine (putS_calls _ bc g mp room hits miss V a.page A1 (actN a) c1 (actD a) (hid S1.out.c) hV hwf (hid (actD_length a)) (hid (Rd.bytes (Rd.own O1.out)))).mono ?_
  rintro en w3 ⟨rfl, hh⟩
  rw [HCD.out]
  have S2 := hid (S1.out.cache hh.out)
  clear US hh O1
  have US : BoxAt w3 w.heap.size a := S2.out.box
  refine hK9.out _ _ US ?_
  clear hK9 K9
  try simp only [Act.put, List.setIfInBounds_toArray, List.set_cons_zero, List.set_cons_succ]
  refine s_op 10 (by kernel_rfl) rfl (by rfl) (fun K9 hK9 => ?_)
  go_simp
  refine (bytes5_calls _ a).mono ?_
  rintro en w4 ⟨A2, c2, rfl, hh⟩
  have S3 := hid (S2.out.up hh.out.2)
  have O2 := hid hh.out.1
  clear US hh
  have US : BoxAt w4 w.heap.size a := S3.out.box
  refine hK9.out _ _ US ?_
  clear hK9 K9
  try simp only [Act.put, List.setIfInBounds_toArray, List.set_cons_zero, List.set_cons_succ]
  refine s_op 11 (by kernel_rfl) rfl (by rfl) (fun K9 hK9 => ?_)
  go_simp
  refine (rputS_calls _ br b room' hit' miss' U a.page A2 (actN a) c2 _ (actD a) (hid S3.out.r) hU O2).mono ?_
  rintro en w5 ⟨rfl, hh⟩
  rw [HCD.out]
  have S4 := hid (S3.out.ref hh.out)
  clear US hh O2
  have US : BoxAt w5 w.heap.size a := S4.out.box
  refine hK9.out _ _ US ?_
  clear hK9 K9
  try simp only [Act.put, List.setIfInBounds_toArray, List.set_cons_zero, List.set_cons_succ]
  refine s_take 12 (some 31) (v := ?_) US rfl rfl (by kernel_rfl) (by kernel_rfl) (by kernel_rfl) (fun _ _ _ h => h) (by rfl) (fun w9 hS => ?_) ?_
  rotate_left
  · go_simp <;> with_reducible rfl
  try simp only [Act.put, List.setIfInBounds_toArray, List.set_cons_zero, List.set_cons_succ]
  refine s_take 13 (some 6) (v := ?_) US rfl rfl (by kernel_rfl) (by kernel_rfl) (by kernel_rfl) (fun _ _ _ h => h) (by rfl) (fun w9 hS => ?_) ?_
  rotate_left
  · go_simp <;> with_reducible rfl
  try simp only [Act.put, List.setIfInBounds_toArray, List.set_cons_zero, List.set_cons_succ]
  refine s_done (by kernel_rfl) ?_
  rename_i K1 h1
  refine h1 _ _ ?_
  clear h1 K1 US
  go_wp2
  go_ret
  exact ⟨_, rfl, hid ⟨by have := S4.out.c; rwa [HG.out.1] at this, by have := S4.out.r; rwa [HG.out.2] at this, S4.out.bel, fun hT => by simp⟩⟩
end Go.Proofs.Ytlikggeceeennaa

namespace Go.Proofs.Ytlikggeceeennaa
open Go Go.RowKit Hach
set_option maxRecDepth 100000 in
set_option maxHeartbeats 2000000 in
theorem act1_calls (w : World) (bc g mp : Nat) (room hits miss : Int) (V : List Vis) (br b : Nat) (room' hit' miss' : Int) (U : List Vis) (a : ActV) {N : Nat} (hC : Hid (CacheM w bc g mp room hits miss V)) (hR : Hid (RefM w br b room' hit' miss' U))
    (hV : Hid (Ok5 V N ∧ N < 900000)) (hU : Hid (Ok5 U N ∧ N < 900000)) (hwf : Hid ((Lit.int .i64 a.page).wf = true)) (hn : Hid ((hits < 1000000 ∧ 0 ≤ hits ∧ miss < 1000000 ∧ 0 ≤ miss) ∧ (hit' < 1000000 ∧ 0 ≤ hit' ∧ miss' < 1000000 ∧ 0 ≤ miss'))) (hk : a.kind = 1) :
    Calls Try.prog 28 #[ptr g, ptr b, .agg #[.int .i64 a.kind, .int .i64 a.page, .int .u8 (n8 a.seed), .bool a.short]] w (ActRet w bc g mp room (hits + if foundV a.page V = true then 1 else 0) (miss + if foundV a.page V = true then 0 else 1) (getV a.page V) br b room' (hit' + if foundV a.page U = true then 1 else 0) (miss' + if foundV a.page U = true then 0 else 1) (getV a.page U) (V = U ∧ room = room')) := by
  have S0 := hid (Both.start (a := a) hC.out hR.out)
  have bx := S0.out.box.cells
  obtain ⟨bx0, bx1, bx2, bx3⟩ := bx
  rw [hk] at bx0
  generalize hhV2 : (getV a.page V) = V2
  generalize hhU2 : (getV a.page U) = U2
  generalize hhx1 : ((hits + if foundV a.page V = true then 1 else 0)) = x1
  generalize hhx2 : ((miss + if foundV a.page V = true then 0 else 1)) = x2
  generalize hhx3 : ((hit' + if foundV a.page U = true then 1 else 0)) = x3
  generalize hhx4 : ((miss' + if foundV a.page U = true then 0 else 1)) = x4
  have HG := hid (show (getV a.page V) = V2 ∧ (getV a.page U) = U2 ∧ ((hits + if foundV a.page V = true then 1 else 0)) = x1 ∧ ((miss + if foundV a.page V = true then 0 else 1)) = x2 ∧ ((hit' + if foundV a.page U = true then 1 else 0)) = x3 ∧ ((miss' + if foundV a.page U = true then 0 else 1)) = x4 from ⟨hhV2, hhU2, hhx1, hhx2, hhx3, hhx4⟩)
  clear hhV2 hhU2 hhx1 hhx2 hhx3 hhx4
  unfold ptr
  go_enter Try.func28, Try.ntmps28
  go_wp2_with fail
  rw [show w.alloc (.cells #[.int .i64 1, .int .i64 a.page, .int .u8 (n8 a.seed), .bool a.short] 51) = w.alloc (.cells #[.int .i64 a.kind, .int .i64 a.page, .int .u8 (n8 a.seed), .bool a.short] 51) from by rw [hk]]
  have HK := hid hk
  clear hk bx0 bx1 bx2 bx3
  obtain ⟨f1, hf1⟩ : ∃ f, foundV a.page V = f := ⟨_, rfl⟩
  obtain ⟨f2, hf2⟩ : ∃ f, foundV a.page U = f := ⟨_, rfl⟩
  have HF := hid (And.intro hf1 hf2)
  clear hf1 hf2
  refine (getS_calls _ bc g mp room hits miss V a.page (hid S0.out.c) hwf (hid hn.out.1)).mono ?_
  rintro en w2 ⟨A1, n1, c1, rfl, hd1, hh1⟩
  have S1 := hid (S0.out.cache hh1.out)
  obtain ⟨bx0, bx1, bx2, bx3⟩ := S1.out.box.cells
  rw [HF.out.1]
  clear hh1
  go_wp2_with fail
  refine (rgetS_calls _ br b room' hit' miss' U a.page (hid S1.out.r) hU (hid hn.out.2)).mono ?_
  rintro en w3 ⟨A2, n2, c2, rfl, hd2, hh2⟩
  have S2 := hid (S1.out.ref hh2.out)
  have O1 : w3.ownsRow 0 5 1 (.slice A1 n1 c1) n1 ((dataV a.page V).map byteCell) := own_afterR S1.out.r hh2.out.2.2 hd1.out.2.2
  have ev1 := conv_n w3 (c := c1) (hid hd1.out.1) (hid (Nat.le_trans hd1.out.2.1 (by decide))) (hid (Rd.bytes (Rd.own O1)))
  have ev2 := conv_n w3 (c := c2) (hid hd2.out.1) (hid (Nat.le_trans hd2.out.2.1 (by decide))) (hid hd2.out.2.2)
  rw [HF.out.2]
  obtain ⟨bx0, bx1, bx2, bx3⟩ := S2.out.box.cells
  have HX : Hid (V = U ∧ room = room' → (f1 = f2 ∧ ((str (dataV a.page V)).toList == (str (dataV a.page U)).toList) = true)) := hid (fun hT => by
    obtain ⟨rfl, _⟩ := hT
    exact ⟨by rw [← HF.out.1, HF.out.2], str_eq _⟩)
  clear hh2 O1 hd1 hd2
  generalize str (dataV a.page V) = X1 at *
  generalize str (dataV a.page U) = X2 at *
  obtain ⟨q, hq⟩ : ∃ q, (X1.toList == X2.toList) = q := ⟨_, rfl⟩
  have HQ := hid hq
  cases q with
  | false =>
    go_wp2
    go_ret
    exact ⟨_, rfl, hid ⟨by have := S2.out.c; rwa [HG.out.1, HG.out.2.2.1, HG.out.2.2.2.1] at this, by have := S2.out.r; rwa [HG.out.2.1, HG.out.2.2.2.2.1, HG.out.2.2.2.2.2] at this, S2.out.bel, fun hT => by have := (HX.out hT).2; rw [HQ.out] at this; cases this⟩⟩
  | true =>
    cases f1 <;> cases f2
    all_goals
      go_wp2
      go_ret
    all_goals exact ⟨_, rfl, hid ⟨by have := S2.out.c; rwa [HG.out.1, HG.out.2.2.1, HG.out.2.2.2.1] at this, by have := S2.out.r; rwa [HG.out.2.1, HG.out.2.2.2.2.1, HG.out.2.2.2.2.2] at this, S2.out.bel, fun hT => by first | rfl | (have := (HX.out hT).1; cases this)⟩⟩
end Go.Proofs.Ytlikggeceeennaa

namespace Go.Proofs.Ytlikggeceeennaa
open Go Go.RowKit Hach
set_option maxRecDepth 100000 in
set_option maxHeartbeats 2000000 in
theorem act2_calls (w : World) (bc g mp : Nat) (room hits miss : Int) (V : List Vis) (br b : Nat) (room' hit' miss' : Int) (U : List Vis) (a : ActV) {N : Nat} (hC : Hid (CacheM w bc g mp room hits miss V)) (hR : Hid (RefM w br b room' hit' miss' U))
    (hV : Hid (Ok5 V N ∧ N < 900000)) (hU : Hid (Ok5 U N ∧ N < 900000)) (hwf : Hid ((Lit.int .i64 a.page).wf = true)) (hn : Hid ((hits < 1000000 ∧ 0 ≤ hits ∧ miss < 1000000 ∧ 0 ≤ miss) ∧ (hit' < 1000000 ∧ 0 ≤ hit' ∧ miss' < 1000000 ∧ 0 ≤ miss'))) (hk : a.kind = 2) :
    Calls Try.prog 28 #[ptr g, ptr b, .agg #[.int .i64 a.kind, .int .i64 a.page, .int .u8 (n8 a.seed), .bool a.short]] w (ActRet w bc g mp room hits miss (V) br b room' hit' miss' (U) (V = U ∧ room = room')) := by
  have S0 := hid (Both.start (a := a) hC.out hR.out)
  have bx := S0.out.box.cells
  obtain ⟨bx0, bx1, bx2, bx3⟩ := bx
  rw [hk] at bx0
  unfold ptr
  go_enter Try.func28, Try.ntmps28
  go_wp2_with fail
  rw [show w.alloc (.cells #[.int .i64 2, .int .i64 a.page, .int .u8 (n8 a.seed), .bool a.short] 51) = w.alloc (.cells #[.int .i64 a.kind, .int .i64 a.page, .int .u8 (n8 a.seed), .bool a.short] 51) from by rw [hk]]
  have HK := hid hk
  clear hk bx0 bx1 bx2 bx3
  obtain ⟨f1, hf1⟩ : ∃ f, foundV a.page V = f := ⟨_, rfl⟩
  obtain ⟨f2, hf2⟩ : ∃ f, foundV a.page U = f := ⟨_, rfl⟩
  have HF := hid (And.intro hf1 hf2)
  clear hf1 hf2
  refine (peekS_calls _ bc g mp room hits miss V a.page (hid S0.out.c) hwf).mono ?_
  rintro en w2 ⟨A1, n1, c1, rfl, hd1, hh1⟩
  have S1 := hid (S0.out.up hh1.out)
  obtain ⟨bx0, bx1, bx2, bx3⟩ := S1.out.box.cells
  rw [HF.out.1]
  clear hh1
  go_wp2_with fail
  refine (rpeekS_calls _ br b room' hit' miss' U a.page (hid S1.out.r) hU).mono ?_
  rintro en w3 ⟨A2, n2, c2, rfl, hd2, hh2⟩
  have S2 := hid (S1.out.up hh2.out)
  have O1 : w3.ownsRow 0 5 1 (.slice A1 n1 c1) n1 ((dataV a.page V).map byteCell) := Fr.own (Fr.of_below hh2.out) hd1.out.2.2 (fun _ _ => id)
  have ev1 := conv_n w3 (c := c1) (hid hd1.out.1) (hid (Nat.le_trans hd1.out.2.1 (by decide))) (hid (Rd.bytes (Rd.own O1)))
  have ev2 := conv_n w3 (c := c2) (hid hd2.out.1) (hid (Nat.le_trans hd2.out.2.1 (by decide))) (hid hd2.out.2.2)
  rw [HF.out.2]
  obtain ⟨bx0, bx1, bx2, bx3⟩ := S2.out.box.cells
  have HX : Hid (V = U ∧ room = room' → (f1 = f2 ∧ ((str (dataV a.page V)).toList == (str (dataV a.page U)).toList) = true)) := hid (fun hT => by
    obtain ⟨rfl, _⟩ := hT
    exact ⟨by rw [← HF.out.1, HF.out.2], str_eq _⟩)
  clear hh2 O1 hd1 hd2
  generalize str (dataV a.page V) = X1 at *
  generalize str (dataV a.page U) = X2 at *
  obtain ⟨q, hq⟩ : ∃ q, (X1.toList == X2.toList) = q := ⟨_, rfl⟩
  have HQ := hid hq
  cases q with
  | false =>
    go_wp2
    go_ret
    exact ⟨_, rfl, hid ⟨S2.out.c, S2.out.r, S2.out.bel, fun hT => by have := (HX.out hT).2; rw [HQ.out] at this; cases this⟩⟩
  | true =>
    cases f1 <;> cases f2
    all_goals
      go_wp2
      go_ret
    all_goals exact ⟨_, rfl, hid ⟨S2.out.c, S2.out.r, S2.out.bel, fun hT => by first | rfl | (have := (HX.out hT).1; cases this)⟩⟩
end Go.Proofs.Ytlikggeceeennaa

namespace Go.Proofs.Ytlikggeceeennaa
open Go Go.RowKit Hach
set_option maxRecDepth 100000 in
set_option maxHeartbeats 2000000 in
theorem act3_calls (w : World) (bc g mp : Nat) (room hits miss : Int) (V : List Vis) (br b : Nat) (room' hit' miss' : Int) (U : List Vis) (a : ActV) {N : Nat} (hC : Hid (CacheM w bc g mp room hits miss V)) (hR : Hid (RefM w br b room' hit' miss' U))
    (hV : Hid (Ok5 V N ∧ N < 900000)) (hU : Hid (Ok5 U N ∧ N < 900000)) (hwf : Hid ((Lit.int .i64 a.page).wf = true)) (hn : Hid ((hits < 1000000 ∧ 0 ≤ hits ∧ miss < 1000000 ∧ 0 ≤ miss) ∧ (hit' < 1000000 ∧ 0 ≤ hit' ∧ miss' < 1000000 ∧ 0 ≤ miss'))) (hk : a.kind = 3) :
    Calls Try.prog 28 #[ptr g, ptr b, .agg #[.int .i64 a.kind, .int .i64 a.page, .int .u8 (n8 a.seed), .bool a.short]] w (ActRet w bc g mp room hits miss (pinV a.page V) br b room' hit' miss' (pinV a.page U) (V = U ∧ room = room')) := by
  have S0 := hid (Both.start (a := a) hC.out hR.out)
  have bx := S0.out.box.cells
  obtain ⟨bx0, bx1, bx2, bx3⟩ := bx
  rw [hk] at bx0
  unfold ptr
  go_enter Try.func28, Try.ntmps28
  go_wp2
  rw [show w.alloc (.cells #[.int .i64 3, .int .i64 a.page, .int .u8 (n8 a.seed), .bool a.short] 51) = w.alloc (.cells #[.int .i64 a.kind, .int .i64 a.page, .int .u8 (n8 a.seed), .bool a.short] 51) from by rw [hk]]
  have HK := hid hk
  clear hk bx0 bx1 bx2 bx3
  replace S0 := hid (S0.out.up (Up.drew _))
  have US := S0.out.box
  refine s_start (fun w9 => BoxAt w9 w.heap.size a) (by kernel_rfl) ?_
  refine s_take 0 (some 86) (v := ?_) US rfl rfl (by kernel_rfl) (by kernel_rfl) (by kernel_rfl) (fun _ _ _ h => h) (by rfl) (fun w9 hS => ?_) ?_
  rotate_left
  · go_simp <;> with_reducible rfl
  try simp only [Act.put, List.setIfInBounds_toArray, List.set_cons_zero, List.set_cons_succ]
  refine s_take 1 (some 87) (v := ?_) US rfl rfl (by kernel_rfl) (by kernel_rfl) (by kernel_rfl) (fun _ _ _ h => h) (by rfl) (fun w9 hS => ?_) ?_
  rotate_left
  · go_simp <;> with_reducible rfl
  try simp only [Act.put, List.setIfInBounds_toArray, List.set_cons_zero, List.set_cons_succ]
  refine s_take 2 (some 88) (v := ?_) US rfl rfl (by kernel_rfl) (by kernel_rfl) (by kernel_rfl) (fun _ _ _ h => h) (by rfl) (fun w9 hS => ?_) ?_
  rotate_left
  · obtain ⟨e0, e1, e2, e3⟩ := BoxAt.cells hS; go_simp <;> with_reducible rfl
  try simp only [Act.put, List.setIfInBounds_toArray, List.set_cons_zero, List.set_cons_succ]
  refine s_take 4 (some 90) (v := ?_) US rfl rfl (by kernel_rfl) (by kernel_rfl) (by kernel_rfl) (fun _ _ _ h => h) (by rfl) (fun w9 hS => ?_) ?_
  rotate_left
  · go_simp <;> with_reducible rfl
  try simp only [Act.put, List.setIfInBounds_toArray, List.set_cons_zero, List.set_cons_succ]
  refine s_take 5 (some 91) (v := ?_) US rfl rfl (by kernel_rfl) (by kernel_rfl) (by kernel_rfl) (fun _ _ _ h => h) (by rfl) (fun w9 hS => ?_) ?_
  rotate_left
  · go_simp <;> with_reducible rfl
  try simp only [Act.put, List.setIfInBounds_toArray, List.set_cons_zero, List.set_cons_succ]
  refine s_take 6 (some 92) (v := ?_) US rfl rfl (by kernel_rfl) (by kernel_rfl) (by kernel_rfl) (fun _ _ _ h => h) (by rfl) (fun w9 hS => ?_) ?_
  rotate_left
  · obtain ⟨e0, e1, e2, e3⟩ := BoxAt.cells hS; go_simp <;> with_reducible rfl
  try simp only [Act.put, List.setIfInBounds_toArray, List.set_cons_zero, List.set_cons_succ]
  refine s_op 3 (by kernel_rfl) rfl (by rfl) (fun K9 hK9 => ?_)
  go_simp
  refine (pinS_calls _ bc g mp room hits miss V a.page (hid S0.out.c) hV hwf).mono ?_
  rintro en w2 ⟨rfl, hh⟩
  have S1 := hid (S0.out.cache hh.out)
  clear US
  clear hh
  have US : BoxAt w2 w.heap.size a := S1.out.box
  refine hK9.out _ _ US ?_
  clear hK9 K9
  try simp only [Act.put, List.setIfInBounds_toArray, List.set_cons_zero, List.set_cons_succ]
  refine s_op 7 (by kernel_rfl) rfl (by rfl) (fun K9 hK9 => ?_)
  go_simp
  refine (rpinS_calls _ br b room' hit' miss' U a.page (hid S1.out.r) hU).mono ?_
  rintro en w3 ⟨rfl, hh⟩
  have S2 := hid (S1.out.ref hh.out)
  clear US
  clear hh
  have US : BoxAt w3 w.heap.size a := S2.out.box
  refine hK9.out _ _ US ?_
  clear hK9 K9
  try simp only [Act.put, List.setIfInBounds_toArray, List.set_cons_zero, List.set_cons_succ]
  refine s_take 8 (some 94) (v := ?_) US rfl rfl (by kernel_rfl) (by kernel_rfl) (by kernel_rfl) (fun _ _ _ h => h) (by rfl) (fun w9 hS => ?_) ?_
  rotate_left
  · go_simp <;> with_reducible rfl
  try simp only [Act.put, List.setIfInBounds_toArray, List.set_cons_zero, List.set_cons_succ]
  refine s_take 9 (some 6) (v := ?_) US rfl rfl (by kernel_rfl) (by kernel_rfl) (by kernel_rfl) (fun _ _ _ h => h) (by rfl) (fun w9 hS => ?_) ?_
  rotate_left
  · go_simp <;> with_reducible rfl
  try simp only [Act.put, List.setIfInBounds_toArray, List.set_cons_zero, List.set_cons_succ]
  refine s_done (by kernel_rfl) ?_
  rename_i K1 h1
  refine h1 _ _ ?_
  clear h1 K1 US
  go_wp2
  go_ret
  exact ⟨_, rfl, hid ⟨S2.out.c, S2.out.r, S2.out.bel, fun hT => by obtain ⟨rfl, rfl⟩ := hT; simp⟩⟩
end Go.Proofs.Ytlikggeceeennaa

namespace Go.Proofs.Ytlikggeceeennaa
open Go Go.RowKit Hach
set_option maxRecDepth 100000 in
set_option maxHeartbeats 2000000 in
theorem act4_calls (w : World) (bc g mp : Nat) (room hits miss : Int) (V : List Vis) (br b : Nat) (room' hit' miss' : Int) (U : List Vis) (a : ActV) {N : Nat} (hC : Hid (CacheM w bc g mp room hits miss V)) (hR : Hid (RefM w br b room' hit' miss' U))
    (hV : Hid (Ok5 V N ∧ N < 900000)) (hU : Hid (Ok5 U N ∧ N < 900000)) (hwf : Hid ((Lit.int .i64 a.page).wf = true)) (hn : Hid ((hits < 1000000 ∧ 0 ≤ hits ∧ miss < 1000000 ∧ 0 ≤ miss) ∧ (hit' < 1000000 ∧ 0 ≤ hit' ∧ miss' < 1000000 ∧ 0 ≤ miss'))) (hk : a.kind = 4) :
    Calls Try.prog 28 #[ptr g, ptr b, .agg #[.int .i64 a.kind, .int .i64 a.page, .int .u8 (n8 a.seed), .bool a.short]] w (ActRet w bc g mp room hits miss (freeV a.page V) br b room' hit' miss' (freeV a.page U) (V = U ∧ room = room')) := by
  have S0 := hid (Both.start (a := a) hC.out hR.out)
  have bx := S0.out.box.cells
  obtain ⟨bx0, bx1, bx2, bx3⟩ := bx
  rw [hk] at bx0
  unfold ptr
  go_enter Try.func28, Try.ntmps28
  go_wp2
  rw [show w.alloc (.cells #[.int .i64 4, .int .i64 a.page, .int .u8 (n8 a.seed), .bool a.short] 51) = w.alloc (.cells #[.int .i64 a.kind, .int .i64 a.page, .int .u8 (n8 a.seed), .bool a.short] 51) from by rw [hk]]
  have HK := hid hk
  clear hk bx0 bx1 bx2 bx3
  replace S0 := hid (S0.out.up (Up.drew _))
  have US := S0.out.box
  refine s_start (fun w9 => BoxAt w9 w.heap.size a) (by kernel_rfl) ?_
  refine s_take 0 (some 97) (v := ?_) US rfl rfl (by kernel_rfl) (by kernel_rfl) (by kernel_rfl) (fun _ _ _ h => h) (by rfl) (fun w9 hS => ?_) ?_
  rotate_left
  · go_simp <;> with_reducible rfl
  try simp only [Act.put, List.setIfInBounds_toArray, List.set_cons_zero, List.set_cons_succ]
  refine s_take 1 (some 98) (v := ?_) US rfl rfl (by kernel_rfl) (by kernel_rfl) (by kernel_rfl) (fun _ _ _ h => h) (by rfl) (fun w9 hS => ?_) ?_
  rotate_left
  · go_simp <;> with_reducible rfl
  try simp only [Act.put, List.setIfInBounds_toArray, List.set_cons_zero, List.set_cons_succ]
  refine s_take 2 (some 99) (v := ?_) US rfl rfl (by kernel_rfl) (by kernel_rfl) (by kernel_rfl) (fun _ _ _ h => h) (by rfl) (fun w9 hS => ?_) ?_
  rotate_left
  · obtain ⟨e0, e1, e2, e3⟩ := BoxAt.cells hS; go_simp <;> with_reducible rfl
  try simp only [Act.put, List.setIfInBounds_toArray, List.set_cons_zero, List.set_cons_succ]
  refine s_take 4 (some 101) (v := ?_) US rfl rfl (by kernel_rfl) (by kernel_rfl) (by kernel_rfl) (fun _ _ _ h => h) (by rfl) (fun w9 hS => ?_) ?_
  rotate_left
  · go_simp <;> with_reducible rfl
  try simp only [Act.put, List.setIfInBounds_toArray, List.set_cons_zero, List.set_cons_succ]
  refine s_take 5 (some 102) (v := ?_) US rfl rfl (by kernel_rfl) (by kernel_rfl) (by kernel_rfl) (fun _ _ _ h => h) (by rfl) (fun w9 hS => ?_) ?_
  rotate_left
  · go_simp <;> with_reducible rfl
  try simp only [Act.put, List.setIfInBounds_toArray, List.set_cons_zero, List.set_cons_succ]
  refine s_take 6 (some 103) (v := ?_) US rfl rfl (by kernel_rfl) (by kernel_rfl) (by kernel_rfl) (fun _ _ _ h => h) (by rfl) (fun w9 hS => ?_) ?_
  rotate_left
  · obtain ⟨e0, e1, e2, e3⟩ := BoxAt.cells hS; go_simp <;> with_reducible rfl
  try simp only [Act.put, List.setIfInBounds_toArray, List.set_cons_zero, List.set_cons_succ]
  refine s_op 3 (by kernel_rfl) rfl (by rfl) (fun K9 hK9 => ?_)
  go_simp
  refine (freeS_calls _ bc g mp room hits miss V a.page (hid S0.out.c) hV hwf).mono ?_
  rintro en w2 ⟨rfl, hh⟩
  have S1 := hid (S0.out.cache hh.out)
  clear US
  clear hh
  have US : BoxAt w2 w.heap.size a := S1.out.box
  refine hK9.out _ _ US ?_
  clear hK9 K9
  try simp only [Act.put, List.setIfInBounds_toArray, List.set_cons_zero, List.set_cons_succ]
  refine s_op 7 (by kernel_rfl) rfl (by rfl) (fun K9 hK9 => ?_)
  go_simp
  refine (rfreeS_calls _ br b room' hit' miss' U a.page (hid S1.out.r) hU).mono ?_
  rintro en w3 ⟨rfl, hh⟩
  have S2 := hid (S1.out.ref hh.out)
  clear US
  clear hh
  have US : BoxAt w3 w.heap.size a := S2.out.box
  refine hK9.out _ _ US ?_
  clear hK9 K9
  try simp only [Act.put, List.setIfInBounds_toArray, List.set_cons_zero, List.set_cons_succ]
  refine s_take 8 (some 105) (v := ?_) US rfl rfl (by kernel_rfl) (by kernel_rfl) (by kernel_rfl) (fun _ _ _ h => h) (by rfl) (fun w9 hS => ?_) ?_
  rotate_left
  · go_simp <;> with_reducible rfl
  try simp only [Act.put, List.setIfInBounds_toArray, List.set_cons_zero, List.set_cons_succ]
  refine s_take 9 (some 6) (v := ?_) US rfl rfl (by kernel_rfl) (by kernel_rfl) (by kernel_rfl) (fun _ _ _ h => h) (by rfl) (fun w9 hS => ?_) ?_
  rotate_left
  · go_simp <;> with_reducible rfl
  try simp only [Act.put, List.setIfInBounds_toArray, List.set_cons_zero, List.set_cons_succ]
  refine s_done (by kernel_rfl) ?_
  rename_i K1 h1
  refine h1 _ _ ?_
  clear h1 K1 US
  go_wp2
  go_ret
  exact ⟨_, rfl, hid ⟨S2.out.c, S2.out.r, S2.out.bel, fun hT => by obtain ⟨rfl, rfl⟩ := hT; simp⟩⟩
end Go.Proofs.Ytlikggeceeennaa

namespace Go.Proofs.Ytlikggeceeennaa
open Go Go.RowKit Hach
set_option maxRecDepth 100000 in
set_option maxHeartbeats 2000000 in
theorem act5_calls (w : World) (bc g mp : Nat) (room hits miss : Int) (V : List Vis) (br b : Nat) (room' hit' miss' : Int) (U : List Vis) (a : ActV) {N : Nat} (hC : Hid (CacheM w bc g mp room hits miss V)) (hR : Hid (RefM w br b room' hit' miss' U))
    (hV : Hid (Ok5 V N ∧ N < 900000)) (hU : Hid (Ok5 U N ∧ N < 900000)) (hwf : Hid ((Lit.int .i64 a.page).wf = true)) (hn : Hid ((hits < 1000000 ∧ 0 ≤ hits ∧ miss < 1000000 ∧ 0 ≤ miss) ∧ (hit' < 1000000 ∧ 0 ≤ hit' ∧ miss' < 1000000 ∧ 0 ≤ miss'))) (hk : a.kind = 5) :
    Calls Try.prog 28 #[ptr g, ptr b, .agg #[.int .i64 a.kind, .int .i64 a.page, .int .u8 (n8 a.seed), .bool a.short]] w (ActRet w bc g mp room hits miss (markV a.page (n8 a.seed % 2 == 0) V) br b room' hit' miss' (markV a.page (n8 a.seed % 2 == 0) U) (V = U ∧ room = room')) := by
  have S0 := hid (Both.start (a := a) hC.out hR.out)
  have bx := S0.out.box.cells
  obtain ⟨bx0, bx1, bx2, bx3⟩ := bx
  rw [hk] at bx0
  unfold ptr
  go_enter Try.func28, Try.ntmps28
  go_wp2
  rw [show w.alloc (.cells #[.int .i64 5, .int .i64 a.page, .int .u8 (n8 a.seed), .bool a.short] 51) = w.alloc (.cells #[.int .i64 a.kind, .int .i64 a.page, .int .u8 (n8 a.seed), .bool a.short] 51) from by rw [hk]]
  have HK := hid hk
  clear hk bx0 bx1 bx2 bx3
  replace S0 := hid (S0.out.up (Up.drew _))
  have US := S0.out.box
  refine s_start (fun w9 => BoxAt w9 w.heap.size a) (by kernel_rfl) ?_
  refine s_take 0 (some 108) (v := ?_) US rfl rfl (by kernel_rfl) (by kernel_rfl) (by kernel_rfl) (fun _ _ _ h => h) (by rfl) (fun w9 hS => ?_) ?_
  rotate_left
  · go_simp <;> with_reducible rfl
  try simp only [Act.put, List.setIfInBounds_toArray, List.set_cons_zero, List.set_cons_succ]
  refine s_take 1 (some 109) (v := ?_) US rfl rfl (by kernel_rfl) (by kernel_rfl) (by kernel_rfl) (fun _ _ _ h => h) (by rfl) (fun w9 hS => ?_) ?_
  rotate_left
  · go_simp <;> with_reducible rfl
  try simp only [Act.put, List.setIfInBounds_toArray, List.set_cons_zero, List.set_cons_succ]
  refine s_take 2 (some 110) (v := ?_) US rfl rfl (by kernel_rfl) (by kernel_rfl) (by kernel_rfl) (fun _ _ _ h => h) (by rfl) (fun w9 hS => ?_) ?_
  rotate_left
  · obtain ⟨e0, e1, e2, e3⟩ := BoxAt.cells hS; go_simp <;> with_reducible rfl
  try simp only [Act.put, List.setIfInBounds_toArray, List.set_cons_zero, List.set_cons_succ]
  refine s_take 3 (some 111) (v := ?_) US rfl rfl (by kernel_rfl) (by kernel_rfl) (by kernel_rfl) (fun _ _ _ h => h) (by rfl) (fun w9 hS => ?_) ?_
  rotate_left
  · go_simp <;> with_reducible rfl
  try simp only [Act.put, List.setIfInBounds_toArray, List.set_cons_zero, List.set_cons_succ]
  refine s_take 4 (some 112) (v := ?_) US rfl rfl (by kernel_rfl) (by kernel_rfl) (by kernel_rfl) (fun _ _ _ h => h) (by rfl) (fun w9 hS => ?_) ?_
  rotate_left
  · obtain ⟨e0, e1, e2, e3⟩ := BoxAt.cells hS; go_simp <;> with_reducible rfl
  try simp only [Act.put, List.setIfInBounds_toArray, List.set_cons_zero, List.set_cons_succ]
  refine s_take 5 (some 113) (v := ?_) US rfl rfl (by kernel_rfl) (by kernel_rfl) (by kernel_rfl) (fun _ _ _ h => h) (by rfl) (fun w9 hS => ?_) ?_
  rotate_left
  · go_simp <;> with_reducible rfl
  try simp only [Act.put, List.setIfInBounds_toArray, List.set_cons_zero, List.set_cons_succ]
  refine s_take 6 (some 114) (v := ?_) US rfl rfl (by kernel_rfl) (by kernel_rfl) (by kernel_rfl) (fun _ _ _ h => h) (by rfl) (fun w9 hS => ?_) ?_
  rotate_left
  · go_simp <;> with_reducible rfl
  try simp only [Act.put, List.setIfInBounds_toArray, List.set_cons_zero, List.set_cons_succ]
  refine s_take 8 (some 116) (v := ?_) US rfl rfl (by kernel_rfl) (by kernel_rfl) (by kernel_rfl) (fun _ _ _ h => h) (by rfl) (fun w9 hS => ?_) ?_
  rotate_left
  · go_simp <;> with_reducible rfl
  try simp only [Act.put, List.setIfInBounds_toArray, List.set_cons_zero, List.set_cons_succ]
  refine s_take 9 (some 117) (v := ?_) US rfl rfl (by kernel_rfl) (by kernel_rfl) (by kernel_rfl) (fun _ _ _ h => h) (by rfl) (fun w9 hS => ?_) ?_
  rotate_left
  · go_simp <;> with_reducible rfl
  try simp only [Act.put, List.setIfInBounds_toArray, List.set_cons_zero, List.set_cons_succ]
  refine s_take 10 (some 118) (v := ?_) US rfl rfl (by kernel_rfl) (by kernel_rfl) (by kernel_rfl) (fun _ _ _ h => h) (by rfl) (fun w9 hS => ?_) ?_
  rotate_left
  · obtain ⟨e0, e1, e2, e3⟩ := BoxAt.cells hS; go_simp <;> with_reducible rfl
  try simp only [Act.put, List.setIfInBounds_toArray, List.set_cons_zero, List.set_cons_succ]
  refine s_take 11 (some 119) (v := ?_) US rfl rfl (by kernel_rfl) (by kernel_rfl) (by kernel_rfl) (fun _ _ _ h => h) (by rfl) (fun w9 hS => ?_) ?_
  rotate_left
  · go_simp <;> with_reducible rfl
  try simp only [Act.put, List.setIfInBounds_toArray, List.set_cons_zero, List.set_cons_succ]
  refine s_take 12 (some 120) (v := ?_) US rfl rfl (by kernel_rfl) (by kernel_rfl) (by kernel_rfl) (fun _ _ _ h => h) (by rfl) (fun w9 hS => ?_) ?_
  rotate_left
  · obtain ⟨e0, e1, e2, e3⟩ := BoxAt.cells hS; go_simp <;> with_reducible rfl
  try simp only [Act.put, List.setIfInBounds_toArray, List.set_cons_zero, List.set_cons_succ]
  refine s_take 13 (some 121) (v := ?_) US rfl rfl (by kernel_rfl) (by kernel_rfl) (by kernel_rfl) (fun _ _ _ h => h) (by rfl) (fun w9 hS => ?_) ?_
  rotate_left
  · go_simp <;> with_reducible rfl
  try simp only [Act.put, List.setIfInBounds_toArray, List.set_cons_zero, List.set_cons_succ]
  refine s_take 14 (some 122) (v := ?_) US rfl rfl (by kernel_rfl) (by kernel_rfl) (by kernel_rfl) (fun _ _ _ h => h) (by rfl) (fun w9 hS => ?_) ?_
  rotate_left
  · go_simp <;> with_reducible rfl
  try simp only [Act.put, List.setIfInBounds_toArray, List.set_cons_zero, List.set_cons_succ]
  refine s_op 7 (by kernel_rfl) rfl (by rfl) (fun K9 hK9 => ?_)
  go_simp
  refine (markS_calls _ bc g mp room hits miss V a.page (n8 a.seed % 2 == 0) (hid S0.out.c) hwf).mono ?_
  rintro en w2 ⟨rfl, hh⟩
  have S1 := hid (S0.out.cache hh.out)
  clear US
  clear hh
  have US : BoxAt w2 w.heap.size a := S1.out.box
  refine hK9.out _ _ US ?_
  clear hK9 K9
  try simp only [Act.put, List.setIfInBounds_toArray, List.set_cons_zero, List.set_cons_succ]
  refine s_op 15 (by kernel_rfl) rfl (by rfl) (fun K9 hK9 => ?_)
  go_simp
  refine (rmarkS_calls _ br b room' hit' miss' U a.page (n8 a.seed % 2 == 0) (hid S1.out.r) hU).mono ?_
  rintro en w3 ⟨rfl, hh⟩
  have S2 := hid (S1.out.ref hh.out)
  clear US
  clear hh
  have US : BoxAt w3 w.heap.size a := S2.out.box
  refine hK9.out _ _ US ?_
  clear hK9 K9
  try simp only [Act.put, List.setIfInBounds_toArray, List.set_cons_zero, List.set_cons_succ]
  refine s_take 16 (some 124) (v := ?_) US rfl rfl (by kernel_rfl) (by kernel_rfl) (by kernel_rfl) (fun _ _ _ h => h) (by rfl) (fun w9 hS => ?_) ?_
  rotate_left
  · go_simp <;> with_reducible rfl
  try simp only [Act.put, List.setIfInBounds_toArray, List.set_cons_zero, List.set_cons_succ]
  refine s_take 17 (some 6) (v := ?_) US rfl rfl (by kernel_rfl) (by kernel_rfl) (by kernel_rfl) (fun _ _ _ h => h) (by rfl) (fun w9 hS => ?_) ?_
  rotate_left
  · go_simp <;> with_reducible rfl
  try simp only [Act.put, List.setIfInBounds_toArray, List.set_cons_zero, List.set_cons_succ]
  refine s_done (by kernel_rfl) ?_
  rename_i K1 h1
  refine h1 _ _ ?_
  clear h1 K1 US
  go_wp2
  go_ret
  exact ⟨_, rfl, hid ⟨S2.out.c, S2.out.r, S2.out.bel, fun hT => by obtain ⟨rfl, rfl⟩ := hT; simp⟩⟩
end Go.Proofs.Ytlikggeceeennaa

namespace Go.Proofs.Ytlikggeceeennaa
open Go Go.RowKit Hach
set_option maxRecDepth 100000 in
set_option maxHeartbeats 2000000 in
theorem act6_calls (w : World) (bc g mp : Nat) (room hits miss : Int) (V : List Vis) (br b : Nat) (room' hit' miss' : Int) (U : List Vis) (a : ActV) {N : Nat} (hC : Hid (CacheM w bc g mp room hits miss V)) (hR : Hid (RefM w br b room' hit' miss' U))
    (hV : Hid (Ok5 V N ∧ N < 900000)) (hU : Hid (Ok5 U N ∧ N < 900000)) (hwf : Hid ((Lit.int .i64 a.page).wf = true)) (hn : Hid ((hits < 1000000 ∧ 0 ≤ hits ∧ miss < 1000000 ∧ 0 ≤ miss) ∧ (hit' < 1000000 ∧ 0 ≤ hit' ∧ miss' < 1000000 ∧ 0 ≤ miss'))) (hk : a.kind = 6) :
    Calls Try.prog 28 #[ptr g, ptr b, .agg #[.int .i64 a.kind, .int .i64 a.page, .int .u8 (n8 a.seed), .bool a.short]] w (ActRet w bc g mp room hits miss (dropV a.page V) br b room' hit' miss' (dropV a.page U) (V = U ∧ room = room')) := by
  have S0 := hid (Both.start (a := a) hC.out hR.out)
  have bx := S0.out.box.cells
  obtain ⟨bx0, bx1, bx2, bx3⟩ := bx
  rw [hk] at bx0
  unfold ptr
  go_enter Try.func28, Try.ntmps28
  go_wp2
  rw [show w.alloc (.cells #[.int .i64 6, .int .i64 a.page, .int .u8 (n8 a.seed), .bool a.short] 51) = w.alloc (.cells #[.int .i64 a.kind, .int .i64 a.page, .int .u8 (n8 a.seed), .bool a.short] 51) from by rw [hk]]
  have HK := hid hk
  clear hk bx0 bx1 bx2 bx3
  replace S0 := hid (S0.out.up (Up.drew _))
  have US := S0.out.box
  refine s_start (fun w9 => BoxAt w9 w.heap.size a) (by kernel_rfl) ?_
  refine s_take 0 (some 127) (v := ?_) US rfl rfl (by kernel_rfl) (by kernel_rfl) (by kernel_rfl) (fun _ _ _ h => h) (by rfl) (fun w9 hS => ?_) ?_
  rotate_left
  · go_simp <;> with_reducible rfl
  try simp only [Act.put, List.setIfInBounds_toArray, List.set_cons_zero, List.set_cons_succ]
  refine s_take 1 (some 128) (v := ?_) US rfl rfl (by kernel_rfl) (by kernel_rfl) (by kernel_rfl) (fun _ _ _ h => h) (by rfl) (fun w9 hS => ?_) ?_
  rotate_left
  · go_simp <;> with_reducible rfl
  try simp only [Act.put, List.setIfInBounds_toArray, List.set_cons_zero, List.set_cons_succ]
  refine s_take 2 (some 129) (v := ?_) US rfl rfl (by kernel_rfl) (by kernel_rfl) (by kernel_rfl) (fun _ _ _ h => h) (by rfl) (fun w9 hS => ?_) ?_
  rotate_left
  · obtain ⟨e0, e1, e2, e3⟩ := BoxAt.cells hS; go_simp <;> with_reducible rfl
  try simp only [Act.put, List.setIfInBounds_toArray, List.set_cons_zero, List.set_cons_succ]
  refine s_take 4 (some 131) (v := ?_) US rfl rfl (by kernel_rfl) (by kernel_rfl) (by kernel_rfl) (fun _ _ _ h => h) (by rfl) (fun w9 hS => ?_) ?_
  rotate_left
  · go_simp <;> with_reducible rfl
  try simp only [Act.put, List.setIfInBounds_toArray, List.set_cons_zero, List.set_cons_succ]
  refine s_take 5 (some 132) (v := ?_) US rfl rfl (by kernel_rfl) (by kernel_rfl) (by kernel_rfl) (fun _ _ _ h => h) (by rfl) (fun w9 hS => ?_) ?_
  rotate_left
  · go_simp <;> with_reducible rfl
  try simp only [Act.put, List.setIfInBounds_toArray, List.set_cons_zero, List.set_cons_succ]
  refine s_take 6 (some 133) (v := ?_) US rfl rfl (by kernel_rfl) (by kernel_rfl) (by kernel_rfl) (fun _ _ _ h => h) (by rfl) (fun w9 hS => ?_) ?_
  rotate_left
  · obtain ⟨e0, e1, e2, e3⟩ := BoxAt.cells hS; go_simp <;> with_reducible rfl
  try simp only [Act.put, List.setIfInBounds_toArray, List.set_cons_zero, List.set_cons_succ]
  refine s_op 3 (by kernel_rfl) rfl (by rfl) (fun K9 hK9 => ?_)
  go_simp
  refine (dropS_calls _ bc g mp room hits miss V a.page (hid S0.out.c) hwf).mono ?_
  rintro en w2 ⟨rfl, hh⟩
  have S1 := hid (S0.out.cache hh.out)
  clear US
  clear hh
  have US : BoxAt w2 w.heap.size a := S1.out.box
  refine hK9.out _ _ US ?_
  clear hK9 K9
  try simp only [Act.put, List.setIfInBounds_toArray, List.set_cons_zero, List.set_cons_succ]
  refine s_op 7 (by kernel_rfl) rfl (by rfl) (fun K9 hK9 => ?_)
  go_simp
  refine (rdropS_calls _ br b room' hit' miss' U a.page (hid S1.out.r) hU).mono ?_
  rintro en w3 ⟨rfl, hh⟩
  have S2 := hid (S1.out.ref hh.out)
  clear US
  clear hh
  have US : BoxAt w3 w.heap.size a := S2.out.box
  refine hK9.out _ _ US ?_
  clear hK9 K9
  try simp only [Act.put, List.setIfInBounds_toArray, List.set_cons_zero, List.set_cons_succ]
  refine s_take 8 (some 135) (v := ?_) US rfl rfl (by kernel_rfl) (by kernel_rfl) (by kernel_rfl) (fun _ _ _ h => h) (by rfl) (fun w9 hS => ?_) ?_
  rotate_left
  · go_simp <;> with_reducible rfl
  try simp only [Act.put, List.setIfInBounds_toArray, List.set_cons_zero, List.set_cons_succ]
  refine s_take 9 (some 6) (v := ?_) US rfl rfl (by kernel_rfl) (by kernel_rfl) (by kernel_rfl) (fun _ _ _ h => h) (by rfl) (fun w9 hS => ?_) ?_
  rotate_left
  · go_simp <;> with_reducible rfl
  try simp only [Act.put, List.setIfInBounds_toArray, List.set_cons_zero, List.set_cons_succ]
  refine s_done (by kernel_rfl) ?_
  rename_i K1 h1
  refine h1 _ _ ?_
  clear h1 K1 US
  go_wp2
  go_ret
  exact ⟨_, rfl, hid ⟨S2.out.c, S2.out.r, S2.out.bel, fun hT => by obtain ⟨rfl, rfl⟩ := hT; simp⟩⟩
end Go.Proofs.Ytlikggeceeennaa

namespace Go.Proofs.Ytlikggeceeennaa
open Go Go.RowKit Hach
set_option maxRecDepth 100000 in
set_option maxHeartbeats 2000000 in
theorem act7_calls (w : World) (bc g mp : Nat) (room hits miss : Int) (V : List Vis) (br b : Nat) (room' hit' miss' : Int) (U : List Vis) (a : ActV) {N : Nat} (hC : Hid (CacheM w bc g mp room hits miss V)) (hR : Hid (RefM w br b room' hit' miss' U))
    (hV : Hid (Ok5 V N ∧ N < 900000)) (hU : Hid (Ok5 U N ∧ N < 900000)) (hwf : Hid ((Lit.int .i64 a.page).wf = true)) (hn : Hid ((hits < 1000000 ∧ 0 ≤ hits ∧ miss < 1000000 ∧ 0 ≤ miss) ∧ (hit' < 1000000 ∧ 0 ≤ hit' ∧ miss' < 1000000 ∧ 0 ≤ miss'))) (hk : a.kind = 7) :
    Calls Try.prog 28 #[ptr g, ptr b, .agg #[.int .i64 a.kind, .int .i64 a.page, .int .u8 (n8 a.seed), .bool a.short]] w (ActRet w bc g mp room hits miss (clearV V) br b room' hit' miss' (clearV U) (V = U ∧ room = room')) := by
  have S0 := hid (Both.start (a := a) hC.out hR.out)
  have bx := S0.out.box.cells
  obtain ⟨bx0, bx1, bx2, bx3⟩ := bx
  rw [hk] at bx0
  unfold ptr
  go_enter Try.func28, Try.ntmps28
  go_wp2_with fail
  rw [show w.alloc (.cells #[.int .i64 7, .int .i64 a.page, .int .u8 (n8 a.seed), .bool a.short] 51) = w.alloc (.cells #[.int .i64 a.kind, .int .i64 a.page, .int .u8 (n8 a.seed), .bool a.short] 51) from by rw [hk]]
  have HK := hid hk
  have LV : Hid (V.length < 1000000) := hid (by have := hV.out.1.len; have := hV.out.2; omega)
  have LU : Hid (U.length < 1000000) := hid (by have := hU.out.1.len; have := hU.out.2; omega)
  clear hk bx0 bx1 bx2 bx3
  refine (clearM_calls _ bc g mp room hits miss V (hid S0.out.c) LV).mono ?_
  rintro en w2 ⟨rfl, hh⟩
  have S1 := hid (S0.out.cache hh.out)
  clear hh
  go_wp2_with fail
  refine (rclear_calls _ br b room' hit' miss' U (hid S1.out.r) LU).mono ?_
  rintro en w3 ⟨rfl, hh⟩
  rw [clear_eq hU.out.1] at hh ⊢
  have S2 := hid (S1.out.ref hh.out)
  clear hh
  go_wp2
  go_ret
  exact ⟨_, rfl, hid ⟨S2.out.c, S2.out.r, S2.out.bel, fun hT => by obtain ⟨rfl, rfl⟩ := hT; simp⟩⟩
end Go.Proofs.Ytlikggeceeennaa

namespace Go.Proofs.Ytlikggeceeennaa
open Go Go.RowKit Hach
set_option maxRecDepth 100000 in
set_option maxHeartbeats 2000000 in
theorem actX_calls (w : World) (bc g mp : Nat) (room hits miss : Int) (V : List Vis) (br b : Nat) (room' hit' miss' : Int) (U : List Vis) (a : ActV) {N : Nat} (hC : Hid (CacheM w bc g mp room hits miss V)) (hR : Hid (RefM w br b room' hit' miss' U))
    (hV : Hid (Ok5 V N ∧ N < 900000)) (hU : Hid (Ok5 U N ∧ N < 900000)) (hwf : Hid ((Lit.int .i64 a.page).wf = true)) (hn : Hid ((hits < 1000000 ∧ 0 ≤ hits ∧ miss < 1000000 ∧ 0 ≤ miss) ∧ (hit' < 1000000 ∧ 0 ≤ hit' ∧ miss' < 1000000 ∧ 0 ≤ miss'))) (hk : ¬ a.kind = 0 ∧ ¬ a.kind = 1 ∧ ¬ a.kind = 2 ∧ ¬ a.kind = 3 ∧ ¬ a.kind = 4 ∧ ¬ a.kind = 5 ∧ ¬ a.kind = 6 ∧ ¬ a.kind = 7) :
    Calls Try.prog 28 #[ptr g, ptr b, .agg #[.int .i64 a.kind, .int .i64 a.page, .int .u8 (n8 a.seed), .bool a.short]] w (ActRet w bc g mp room hits miss (V) br b room' hit' miss' (U) (V = U ∧ room = room')) := by
  have S0 := hid (Both.start (a := a) hC.out hR.out)
  have bx := S0.out.box.cells
  obtain ⟨bx0, bx1, bx2, bx3⟩ := bx
  obtain ⟨k0, k1, k2, k3, k4, k5, k6, k7⟩ := hk
  unfold ptr
  go_enter Try.func28, Try.ntmps28
  go_wp2
  go_ret
  exact ⟨true, rfl, hid ⟨S0.out.c, S0.out.r, S0.out.bel, fun _ => rfl⟩⟩
end Go.Proofs.Ytlikggeceeennaa
