/- THE WALKS of journal.Hot, JournalTorn. -/
import Derived.Test.YtlmlplpbgkbhdaaDoorJrn14
import Derived.Test.YtlmlplpbgkbhdaaDoorJrn8
import Derived.Test.YtlmlplpbgkbhdaaDoorRef1
import Derived.Test.YtlmlplpbgkbhdaaDoorK4
set_option linter.unusedVariables false
set_option linter.unusedSimpArgs false
namespace Hach.Jrn
open Hach.Oct Hach.Crc
theorem headN_last (c p n : Nat) : (headN c p n)[127]? = some 0 := by
  rw [headN_form]
  have hm : magic.length = 6 := rfl
  rw [List.getElem?_append_right (by rw [hm]; decide), List.getElem?_append_right (by rw [be_length, hm]; decide), List.getElem?_append_right (by rw [be_length, be_length, hm]; decide),
    List.getElem?_append_right (by rw [be_length, be_length, be_length, hm]; decide), List.getElem?_append_right (by rw [be_length, be_length, be_length, be_length, hm]; decide)]
  simp only [be_length, hm]
  rfl
theorem headB_no {c p : Int} {n : Nat} {b : Bool} (h : ¬ ((0 ≤ c ∧ c ≤ 4000) ∧ (0 ≤ p ∧ p ≤ 4000))) : headB c p n b = [] := by unfold headB; rw [if_neg h]
theorem torn_over {k : Nat} (X : List UInt8) (c p : Int) (n : Nat) (hk : k < 128) (hX : X.length = 128) (hc : 0 ≤ c ∧ c ≤ 4000) (hp : 0 ≤ p ∧ p ≤ 4000) : hotB (X.take k ++ (headB c p n false).drop k) = false := by
  have e : headB c p n false = headN c.toNat p.toNat n := by unfold headB; rw [if_pos ⟨hc, hp⟩]; rfl
  have l1 : (X.take k).length = k := by rw [List.length_take]; omega
  have l2 : (headB c p n false).length = 128 := by rw [e]; exact headN_length _ _ _
  have l3 : (X.take k ++ (headB c p n false).drop k).length = 128 := by rw [List.length_append, l1, List.length_drop, l2]; omega
  unfold hotB
  rw [if_neg (by omega)]
  refine headIs_unmarked _ ?_ (by omega)
  rw [List.getElem?_append_right (by omega), l1, List.getElem?_drop, show k + (127 - k) = 127 by omega, e, headN_last]
  decide
theorem torn_blank {k : Nat} (X : List UInt8) (hk : k < 128) (hX : X.length = 128) : hotB (X.take k ++ List.replicate (128 - k) 0) = false := by
  have l1 : (X.take k).length = k := by rw [List.length_take]; omega
  have l3 : (X.take k ++ List.replicate (128 - k) (0 : UInt8)).length = 128 := by rw [List.length_append, l1, List.length_replicate]; omega
  unfold hotB
  rw [if_neg (by omega)]
  refine headIs_unmarked _ ?_ (by omega)
  rw [List.getElem?_append_right (by omega), l1, List.getElem?_replicate, if_pos (by omega)]
  decide
theorem hot_head {c p : Int} {n : Nat} (hc : 0 ≤ c ∧ c ≤ 4000) (hp : 0 ≤ p ∧ p ≤ 4000) (hn : n < 18446744073709551616) : hotB (headB c p n true) = true := by
  have l2 := headB_length (c := c) (p := p) (n := n) (b := true) hc hp
  unfold hotB
  rw [if_neg (by omega)]
  have := (headIs_head c p n [] hc hp hn).1
  rwa [List.append_nil] at this
end Hach.Jrn
namespace Go.Proofs.YtlmlplpbgkbhdaaDoor
open Go.RowKit Hach

theorem hot_calls (w : World) (ht : Hid (TabOk w)) (A : Option Addr) (xs : List UInt8) (c n : Nat) (hn : Hid (xs.length = n)) (hm : Hid (n ≤ 1073741824)) (hcap : Hid (n ≤ c)) (hc : Hid (Bytes w A xs)) (r : Bool) (hr : Hid (Jrn.hotB xs = r)) :
    Calls Tryd.prog 32 #[.slice A n c] w fun e w' => e = .returned (.bool r) ∧ Hid (Below w.heap.size w w') := by
  go_enter Tryd.func32, Tryd.ntmps32
  go_wp2_with fail
  refine (readHead_calls w ht A xs c n hn hm hcap hc).mono ?_
  rintro e w1 ⟨b1, h⟩
  have B1 := hid b1
  have HN := hn.out
  have hh := hr.out
  unfold Jrn.hotB at hh
  rcases h with ⟨h1, rfl⟩ | ⟨h1, h2, rfl⟩ | ⟨h1, h2, rfl⟩
  · rw [if_pos h1] at hh
    subst hh
    clear h1 HN b1
    unfold headV
    go_wp2
    go_ret
    exact ⟨rfl, hid (B1.out.alloc B1.out.size _)⟩
  · rw [if_neg (by omega), h2] at hh
    subst hh
    clear h1 h2 HN b1
    unfold headV
    go_wp2
    go_ret
    exact ⟨rfl, hid (B1.out.alloc B1.out.size _)⟩
  · rw [if_neg (by omega), h2] at hh
    subst hh
    clear h1 h2 HN b1
    unfold headV
    go_wp2
    go_ret
    exact ⟨rfl, hid (B1.out.alloc B1.out.size _)⟩


theorem headJ_M' (w : World) (ht : Hid (TabOk w)) (c p : Int) (n : Nat) (b : Bool) (hn : Hid ((n : Int) < 18446744073709551616)) (X : List UInt8) (lx : Nat) (HX : Hid (Jrn.headB c p n b = X)) (LX : Hid (X.length = lx)) :
    Calls Tryd.prog 24 #[.agg #[.int .i64 c, .int .i64 p, .int .u64 (n : Int)], .bool b] w fun e w' => ∃ A c, e = .returned (.slice A lx c) ∧ Hid (Bytes w' A X ∧ lx ≤ c) ∧ Hid (Below w.heap.size w w') := by
  have := headBytes_calls w ht c p n b hn
  rw [HX.out] at this
  refine this.mono ?_
  rintro e w' ⟨A, c, ⟨rfl, h⟩, o, b⟩
  exact ⟨A, c, by rw [LX.out], hid ⟨Rd.bytes (Rd.own o), by rw [h, LX.out]; exact Nat.le_refl _⟩, hid b⟩

set_option maxRecDepth 100000 in
set_option maxHeartbeats 1000000 in
theorem journalTorn_walk (w : World) (ht : Hid (TabOk w)) (c p c2 p2 : Int) (n n2 : Nat) (q : Int) (hn : Hid ((n : Int) < 18446744073709551616)) (hn2 : Hid ((n2 : Int) < 18446744073709551616)) (q0 : Hid (0 ≤ q)) (q1 : Hid (q < 18446744073709551616)) :
    Calls Tryd.prog 8 #[.agg #[.int .i64 c, .int .i64 p, .int .u64 (n : Int)], .agg #[.int .i64 c2, .int .i64 p2, .int .u64 (n2 : Int)], .int .u64 q] w fun e w' => e = .returned (.bool true) ∧ Below w.heap.size w w' := by
  obtain ⟨X, hX⟩ : ∃ X, Jrn.headB c p n true = X := ⟨_, rfl⟩
  have HX := hid hX
  obtain ⟨lx, hlx⟩ : ∃ lx, X.length = lx := ⟨_, rfl⟩
  have LX := hid hlx
  obtain ⟨Y, hY⟩ : ∃ Y, Jrn.headB c2 p2 n2 false = Y := ⟨_, rfl⟩
  have HY := hid hY
  obtain ⟨ly, hly⟩ : ∃ ly, Y.length = ly := ⟨_, rfl⟩
  have LY := hid hly
  clear hX hlx hY hly
  go_enter Tryd.func8, Tryd.ntmps8
  go_wp2
  have b0 : Below w.heap.size w ((w.alloc (.cells #[.int .i64 c, .int .i64 p, .int .u64 (n : Int)] 46)).alloc (.cells #[.int .i64 c2, .int .i64 p2, .int .u64 (n2 : Int)] 46)) := ((Below.refl _ _).alloc (Nat.le_refl _) _).alloc (by simp) _
  have f0 : ((w.alloc (.cells #[.int .i64 c, .int .i64 p, .int .u64 (n : Int)] 46)).alloc (.cells #[.int .i64 c2, .int .i64 p2, .int .u64 (n2 : Int)] 46)).drew.cell? ⟨w.heap.size, 0, none⟩ = some (.int .i64 c) := by go_simp
  have f1 : ((w.alloc (.cells #[.int .i64 c, .int .i64 p, .int .u64 (n : Int)] 46)).alloc (.cells #[.int .i64 c2, .int .i64 p2, .int .u64 (n2 : Int)] 46)).drew.cell? ⟨w.heap.size, 1, none⟩ = some (.int .i64 p) := by go_simp
  have f2 : ((w.alloc (.cells #[.int .i64 c, .int .i64 p, .int .u64 (n : Int)] 46)).alloc (.cells #[.int .i64 c2, .int .i64 p2, .int .u64 (n2 : Int)] 46)).drew.cell? ⟨w.heap.size, 2, none⟩ = some (.int .u64 (n : Int)) := by go_simp
  have g0 : ((w.alloc (.cells #[.int .i64 c, .int .i64 p, .int .u64 (n : Int)] 46)).alloc (.cells #[.int .i64 c2, .int .i64 p2, .int .u64 (n2 : Int)] 46)).drew.cell? ⟨w.heap.size + 1, 0, none⟩ = some (.int .i64 c2) := by go_simp
  have g1 : ((w.alloc (.cells #[.int .i64 c, .int .i64 p, .int .u64 (n : Int)] 46)).alloc (.cells #[.int .i64 c2, .int .i64 p2, .int .u64 (n2 : Int)] 46)).drew.cell? ⟨w.heap.size + 1, 1, none⟩ = some (.int .i64 p2) := by go_simp
  have g2 : ((w.alloc (.cells #[.int .i64 c, .int .i64 p, .int .u64 (n : Int)] 46)).alloc (.cells #[.int .i64 c2, .int .i64 p2, .int .u64 (n2 : Int)] 46)).drew.cell? ⟨w.heap.size + 1, 2, none⟩ = some (.int .u64 (n2 : Int)) := by go_simp
  generalize (w.alloc (.cells #[.int .i64 c, .int .i64 p, .int .u64 (n : Int)] 46)).alloc (.cells #[.int .i64 c2, .int .i64 p2, .int .u64 (n2 : Int)] 46) = w0 at *
  have B0 := hid b0
  have TW : Hid (TabOk w0.drew) := hid (show TabOk w0 from ht.out.below' b0)
  refine any_start (by kernel_rfl) ?_
  refine any_take 0 (some 12) (v := ?_) rfl rfl (by kernel_rfl) (by kernel_rfl) (by kernel_rfl) (fun _ _ _ h => h) (by rfl) (fun w9 hS => ?_) ?_
  rotate_left
  · have e0 := hS.c f0; have e1 := hS.c f1; have e2 := hS.c f2; go_simp <;> with_reducible rfl
  try simp only [Act.put, List.setIfInBounds_toArray, List.set_cons_zero, List.set_cons_succ]
  refine any_take 2 (some 14) (v := ?_) rfl rfl (by kernel_rfl) (by kernel_rfl) (by kernel_rfl) (fun _ _ _ h => h) (by rfl) (fun w9 hS => ?_) ?_
  rotate_left
  · have e0 := hS.c g0; have e1 := hS.c g1; have e2 := hS.c g2; go_simp <;> with_reducible rfl
  try simp only [Act.put, List.setIfInBounds_toArray, List.set_cons_zero, List.set_cons_succ]
  refine any_call 1 (by kernel_rfl) rfl (by rfl) (fun K9 hK9 => ?_)
  go_simp
  go_at_call 24
  refine (headJ_M' _ TW c p n true hn X lx HX LX).mono ?_
  rintro e w3 ⟨A3, c3, rfl, y3, b3⟩
  have u : Up _ w3 := b3.out
  replace f0 := u.c f0
  replace f1 := u.c f1
  replace g0 := u.c g0
  replace g1 := u.c g1
  replace g2 := u.c g2
  replace TW := hid (TW.out.below' u)
  refine hK9.out _ _ u ?_
  clear u
  clear hK9 K9
  try simp only [Act.put, List.setIfInBounds_toArray, List.set_cons_zero, List.set_cons_succ]
  refine any_call 3 (by kernel_rfl) rfl (by rfl) (fun K9 hK9 => ?_)
  go_simp
  go_at_call 24
  refine (headJ_M' _ TW c2 p2 n2 false hn2 Y ly HY LY).mono ?_
  rintro e w4 ⟨A4, c4, rfl, y4, b4⟩
  have u : Up _ w4 := b4.out
  replace f0 := u.c f0
  replace f1 := u.c f1
  replace g0 := u.c g0
  replace g1 := u.c g1
  replace TW := hid (TW.out.below' u)
  replace y3 := hid (And.intro (y3.out.1.grown u) y3.out.2)
  refine hK9.out _ _ u ?_
  clear u
  clear hK9 K9
  try simp only [Act.put, List.setIfInBounds_toArray, List.set_cons_zero, List.set_cons_succ]
  refine any_take 4 (some 7) (v := ?_) rfl rfl (by kernel_rfl) (by kernel_rfl) (by kernel_rfl) (fun _ _ _ h => h) (by rfl) (fun w9 hS => ?_) ?_
  rotate_left
  · go_simp <;> with_reducible rfl
  try simp only [Act.put, List.setIfInBounds_toArray, List.set_cons_zero, List.set_cons_succ]
  refine any_take 5 (some 8) (v := ?_) rfl rfl (by kernel_rfl) (by kernel_rfl) (by kernel_rfl) (fun _ _ _ h => h) (by rfl) (fun w9 hS => ?_) ?_
  rotate_left
  · go_simp <;> with_reducible rfl
  try simp only [Act.put, List.setIfInBounds_toArray, List.set_cons_zero, List.set_cons_succ]
  refine any_done (by kernel_rfl) ?_
  have B4 := hid (((show Up w w0 from B0.out).t (Up.drew w0)).t b3.out |>.t b4.out)
  clear b3 b4 B0
  rename_i K1 h1
  refine h1 _ _ ?_
  clear h1 K1
  by_cases hx : (0 ≤ c ∧ c ≤ 4000) ∧ (0 ≤ p ∧ p ≤ 4000)
  · by_cases hy : (0 ≤ c2 ∧ c2 ≤ 4000) ∧ (0 ≤ p2 ∧ p2 ≤ 4000)
    · obtain rfl : lx = 128 := by rw [← LX.out, ← HX.out]; exact Jrn.headB_length hx.1 hx.2
      obtain rfl : ly = 128 := by rw [← LY.out, ← HY.out]; exact Jrn.headB_length hy.1 hy.2
      have GX := hid hx
      have GY := hid hy
      clear hx hy f0 f1 g0 g1
      obtain ⟨b3, o3, rfl, _⟩ := y3.out.1 0 (by have := LX.out; omega)
      obtain ⟨b4, o4, rfl, _⟩ := y4.out.1 0 (by have := LY.out; omega)
      obtain ⟨k, hk⟩ : ∃ k : Nat, q % 128 = (k : Int) := ⟨(q % 128).toNat, by have := Int.emod_nonneg q (b := 128) (by decide); omega⟩
      have k1 : (k : Int) < 128 := by have := Int.emod_lt_of_pos q (b := 128) (by decide); omega
      have d1 : ((128 : Int) == 0) = false := rfl
      have d3 : (128 : Int) ≤ c3 := by have := y3.out.2; omega
      have d4 : (128 : Int) ≤ c4 := by have := y4.out.2; omega
      have d5 : ¬ c4 = k := by omega
      have qq0 := q0.out
      have qq1 := q1.out
      go_wp2
      have XK := hid (show Bytes w4 (some ⟨b3, o3, none⟩) (X.take k) from y3.out.1.take k)
      have YK := hid (show Bytes w4 (some ⟨b4, o4 + k, none⟩) (Y.drop k) from by
        have := (y4.out.1.sub k (128 - k))
        rwa [List.take_of_length_le (by rw [List.length_drop, LY.out]; omega)] at this)
      have kN := hid (show k < 128 by omega)
      have lK := hid (show (X.take k).length = k by rw [List.length_take, LX.out]; have := kN.out; omega)
      have lY := hid (show (Y.drop k).length = 128 - k by rw [List.length_drop, LY.out])
      have bl : Below w4.heap.size w4 (w4.drew.alloc (.cells #[] 5)) := ((Below.refl _ _).drew).alloc (Nat.le_refl _) _
      have k2 : (k : Int) ≤ 128 := by omega
      have k3 : (k : Int) ≤ c3 := by omega
      have k4 : (0 : Int) ≤ k := by omega
      clear y4 qq0 qq1 hk k1
      go_region_held3 (fun _ => True) (trivial)
        (first
          | (refine step_append elemB (by rfl) (.tmp 76) (.tmp 79) (by rfl) (by rfl) (own_lit w4.drew w4.heap.size 5 0 [] (Nat.le_refl _) (by decide) rfl) (by rfl) ((XK.out.grown bl).rd) ?_ ?_ ?_ ?_ ?_ ?_; (rw [List.length_map, lK.out, Nat.mul_one]); (exact byteCells_one _); (have := kN.out; simp only [maxLen]; omega); (have := kN.out; omega); (simp); intro A5 c5 w5 r5 g5 d5; have B5 := below_append bl (Nat.le_refl _) (by simp) (own_lit w4.drew w4.heap.size 5 0 [] (Nat.le_refl _) (by decide) rfl) g5)
          | (refine step_append elemB (by rfl) (.tmp 80) (.tmp 83) (by rfl) (by rfl) r5 (by rfl) ((YK.out.grown B5).rd) ?_ ?_ ?_ ?_ ?_ ?_; (rw [List.length_map, lY.out, Nat.mul_one]); (exact byteCells_one _); (have := kN.out; simp only [maxLen]; omega); (have := kN.out; omega); (exact B5.size); intro A6 c6 w6 r6 g6 d6; have B6 := below_append B5 (Nat.le_refl _) B5.size r5 g6))
      rename_i K1 h1 hHeld
      have e128 : k + (128 - k) = 128 := by have := kN.out; omega
      simp only [Nat.zero_add, List.nil_append, e128] at r6 ⊢
      obtain ⟨V, hV⟩ : ∃ V, X.take k ++ Y.drop k = V := ⟨_, rfl⟩
      have HVB := hid (show Bytes w6 A6 V from Rd.bytes (by rw [← hV, List.map_append]; exact Rd.own r6))
      have LV := hid (show V.length = 128 by rw [← hV, List.length_append, lK.out, lY.out, e128])
      have HTV : Hid (Jrn.hotB V = false) := hid (by rw [← hV, ← HY.out]; exact Jrn.torn_over X c2 p2 n2 kN.out LX.out GY.out.1 GY.out.2)
      have hc6 : 128 ≤ c6 := by
        obtain ⟨_, _, he, hle⟩ := own_form r6
        injection he with _ _ he; omega
      have HC6 := hid hc6
      have BB6 := hid B6
      have YX6 := hid (y3.out.1.grown B6)
      have XK6 := hid (XK.out.grown B6)
      have HC3 := hid y3.out.2
      have HTX : Hid (Jrn.hotB X = true) := hid (by rw [← HX.out]; exact Jrn.hot_head GX.out.1 GX.out.2 (by have := hn.out; omega))
      have HTB : Hid (Jrn.hotB (X.take k ++ List.replicate (128 - k) 0) = false) := hid (Jrn.torn_blank X kN.out LX.out)
      clear hV hc6 r6 g6 d6 r5 g5 d5 B6 B5 bl XK YK y3 e128 hHeld lY TW
      show K1 _ _
      refine h1 _ _ ?_
      clear h1 K1
      go_wp2_with (at_builtin; refine hold ?_)
      have bl : Below w6.heap.size w6 (w6.alloc (.cells #[] 5)) := (Below.refl _ _).alloc (Nat.le_refl _) _
      have ol := own_lit w6 w6.heap.size 5 0 [] (Nat.le_refl _) (by decide) rfl
      refine hid (wl_append elemB rfl (.tmp 85) (.tmp 88) rfl rfl ol rfl ((XK6.out.grown bl).rd) (by rw [List.length_map, lK.out, Nat.mul_one]) (byteCells_one _) (by have := kN.out; simp only [maxLen]; omega) (by have := kN.out; omega) (by simp) ?_)
      intro A7 c7 w7 r7 g7 _
      have B7 := below_append bl (Nat.le_refl _) (by simp) ol g7
      simp only [Nat.zero_add, List.nil_append] at r7 ⊢
      have R7 := hid r7
      have BB7 := hid B7
      clear r7 g7 bl ol B7
      go_wp2_with (at_builtin; refine hold ?_)
      refine hid (wl_append_zeros elemB Tryd.underlying3 rfl (.tmp 89) (.tmp 91) rfl (128 - k) rfl R7.out rfl (by have := kN.out; first | omega | (unfold wrap64; omega)) (by rw [zc_bytes]; exact byteCells_one _) (by have := kN.out; omega) (by have := kN.out; simp only [maxLen]; omega) (by have := kN.out; omega) BB7.out.size ?_)
      intro A8 c8 w8 r8 g8 _
      have B8 := hid (below_append BB7.out (Nat.le_refl _) BB7.out.size R7.out g8)
      have e128 : k + (128 - k) = 128 := by have := kN.out; omega
      rw [e128] at r8 ⊢
      rw [zc_bytes, ← List.map_append] at r8
      have HVB8 := hid (Rd.bytes (Rd.own r8))
      have LV8 := hid (show (X.take k ++ List.replicate (128 - k) (0 : UInt8)).length = 128 by rw [List.length_append, lK.out, List.length_replicate, e128])
      have HC8 : Hid (128 ≤ c8) := hid (by
        obtain ⟨_, _, he, hle⟩ := own_form r8
        injection he with _ _ he; omega)
      have T8 := hid (ht.out.below' ((show Up w w4 from B4.out).t (show Up w4 w6 from BB6.out) |>.t (show Up w6 w8 from B8.out)))
      have HVB' := hid (HVB.out.grown B8.out)
      have B28 := hid ((show Up w w4 from B4.out).t (show Up w4 w6 from BB6.out) |>.t (show Up w6 w8 from B8.out))
      have YX8 := hid (YX6.out.grown B8.out)
      clear r8 g8 e128 R7 BB7 BB6 B4 HVB XK6 YX6 B8
      go_wp2_with fail
      refine (hot_calls _ T8 _ V c6 128 LV (hid (by decide)) HC6 HVB' false HTV).mono ?_
      rintro e w9 ⟨rfl, b9⟩
      go_wp2_with fail
      refine (hot_calls _ (hid (T8.out.below' b9.out)) _ _ c8 128 LV8 (hid (by decide)) HC8 (hid (HVB8.out.grown b9.out)) false HTB).mono ?_
      rintro e w10 ⟨rfl, b10⟩
      go_wp2_with fail
      refine (hot_calls _ (hid ((T8.out.below' b9.out).below' b10.out)) _ X c3 128 LX (hid (by decide)) HC3 (hid ((YX8.out.grown b9.out).grown b10.out)) true HTX).mono ?_
      rintro e w11 ⟨rfl, b11⟩
      have BE := hid ((show Up w w8 from B28.out).t (show Up w8 w9 from b9.out) |>.t (show Up w9 w10 from b10.out) |>.t (show Up w10 w11 from b11.out))
      clear b9 b10 b11 T8 HVB8 HVB' YX8
      go_wp2_with fail
      refine (lives06_calls _).mono ?_
      rintro e w' ⟨rfl, rfl⟩
      go_wp2
      go_ret
      exact ⟨rfl, BE.out⟩
    · have hl : Y = [] := by rw [← HY.out]; exact Jrn.headB_no hy
      obtain rfl : ly = 0 := by rw [← LY.out, hl]; rfl
      have hx1 : ¬ c < 0 := by omega
      have hx2 : ¬ (4000 : Int) < c := by omega
      have hx3 : ¬ p < 0 := by omega
      have hx4 : ¬ (4000 : Int) < p := by omega
      clear hl hx y3 y4
      obtain rfl : lx = 128 := by rw [← LX.out, ← HX.out]; exact Jrn.headB_length ⟨by omega, by omega⟩ ⟨by omega, by omega⟩
      by_cases t4 : c2 < 0
      · clear hy
        go_wp2_with fail
        refine (lives06_calls _).mono ?_
        rintro e w' ⟨rfl, rfl⟩
        go_wp2
        go_ret
        exact ⟨rfl, B4.out⟩
      · by_cases t3 : (4000 : Int) < c2
        · clear hy
          go_wp2_with fail
          refine (lives06_calls _).mono ?_
          rintro e w' ⟨rfl, rfl⟩
          go_wp2
          go_ret
          exact ⟨rfl, B4.out⟩
        · by_cases t2 : p2 < 0
          · clear hy
            go_wp2_with fail
            refine (lives06_calls _).mono ?_
            rintro e w' ⟨rfl, rfl⟩
            go_wp2
            go_ret
            exact ⟨rfl, B4.out⟩
          · by_cases t1 : (4000 : Int) < p2
            · clear hy
              go_wp2_with fail
              refine (lives06_calls _).mono ?_
              rintro e w' ⟨rfl, rfl⟩
              go_wp2
              go_ret
              exact ⟨rfl, B4.out⟩
            · exact absurd (⟨⟨by omega, by omega⟩, by omega, by omega⟩) hy
  · have hl : X = [] := by rw [← HX.out]; exact Jrn.headB_no hx
    obtain rfl : lx = 0 := by rw [← LX.out, hl]; rfl
    clear hl y3 y4
    by_cases t4 : c < 0
    · clear hx
      go_wp2_with fail
      refine (lives06_calls _).mono ?_
      rintro e w' ⟨rfl, rfl⟩
      go_wp2
      go_ret
      exact ⟨rfl, B4.out⟩
    · by_cases t3 : (4000 : Int) < c
      · clear hx
        go_wp2_with fail
        refine (lives06_calls _).mono ?_
        rintro e w' ⟨rfl, rfl⟩
        go_wp2
        go_ret
        exact ⟨rfl, B4.out⟩
      · by_cases t2 : p < 0
        · clear hx
          go_wp2_with fail
          refine (lives06_calls _).mono ?_
          rintro e w' ⟨rfl, rfl⟩
          go_wp2
          go_ret
          exact ⟨rfl, B4.out⟩
        · by_cases t1 : (4000 : Int) < p
          · clear hx
            go_wp2_with fail
            refine (lives06_calls _).mono ?_
            rintro e w' ⟨rfl, rfl⟩
            go_wp2
            go_ret
            exact ⟨rfl, B4.out⟩
          · exact absurd (⟨⟨by omega, by omega⟩, by omega, by omega⟩) hx
end Go.Proofs.YtlmlplpbgkbhdaaDoor
