/- THE WALK of CacheLast. -/
import Derived.Test.YtlikggeceeennaaCac13
import Derived.Test.YtlikggeceeennaaCacL
import Derived.Test.YtlikggeceeennaaStr
set_option linter.unusedVariables false
set_option linter.unusedSimpArgs false
namespace Go.Proofs.Ytlikggeceeennaa
open Go Go.RowKit Hach

theorem wf64 {p : Int} (h1 : -9223372036854775808 ≤ p) (h2 : p ≤ 9223372036854775807) : (Lit.int .i64 p).wf = true := by unfold Lit.wf; rw [Bool.and_eq_true]; exact ⟨decide_eq_true h1, decide_eq_true h2⟩

set_option maxRecDepth 100000 in
set_option maxHeartbeats 1000000 in
theorem cacheLast_walk (w : World) (s : UInt8) (A : Option Addr) (xs : List UInt8) (c : Nat) (hb : Hid (Bytes w A xs)) :
    Calls Try.prog 4 #[.int .u8 (n8 s), .slice A xs.length c] w fun en w' => en = .returned (.bool true) ∧ Below w.heap.size w w' := by
  obtain ⟨m, hm⟩ : ∃ m, xs.length = m := ⟨_, rfl⟩
  have HM := hid hm
  rw [hm]
  clear hm
  by_cases hl : (100 : Int) < m
  · go_enter Try.func4, Try.ntmps4
    go_wp2_with (go_at_call 15; refine (lives_calls _).mono ?_; rintro en w2 ⟨rfl, u⟩)
    go_ret
    exact ⟨rfl, u⟩
  · have s0 := n8_lo s
    have s1 := n8_hi s
    go_enter Try.func4, Try.ntmps4
    go_wp2_with fail
    obtain ⟨N, hN⟩ : ∃ N : Nat, 1 + n8 s % 10 = (N : Int) := ⟨(1 + n8 s % 10).toNat, by omega⟩
    have HN : Hid (1 ≤ N ∧ N ≤ 10) := hid (by omega)
    rw [hN]
    clear hN s0 s1
    refine (new_calls w N (by have := HN.out; omega) (by have := HN.out; omega)).mono ?_
    rintro en w1 ⟨g, mp, r, rfl, h1⟩
    have C1 : Hid (CacheV w1 w.heap.size g N 0 0 (lastV N xs 0)) := hid ⟨mp, r, [], h1.out.1, by unfold lastV; simp⟩
    have B1 := hid h1.out.2
    have D1 : Hid (Bytes w1 A xs) := hid (hb.out.grown h1.out.2)
    clear h1
    unfold ptr
    go_wp2
    go_loopw [25] (fun i wr => ∃ k : Nat, k ≤ m ∧ i = .int .i64 k ∧ Hid (CacheV wr w.heap.size g N 0 0 (lastV N xs k) ∧ Below w.heap.size w wr ∧ Bytes wr A xs)) (fun i _ => m - (intOf i).toNat)
    case atStart => exact ⟨0, Nat.zero_le _, rfl, hid ⟨C1.out, B1.out, D1.out⟩⟩
    case round =>
      obtain ⟨k, hk, rfl, iv⟩ := hrel
      by_cases hlt : (k : Int) < m
      · have hkm : k < xs.length := by have := HM.out; omega
        obtain ⟨ba, oa, rfl, ra⟩ := iv.out.2.2 k hkm
        obtain ⟨bq, oq, eq0, ra0⟩ := hb.out k hkm
        injection eq0 with eq0
        injection eq0 with eq1 eq2 _
        subst eq1; subst eq2
        have RA := hid (World.block_lt_of_cell? _ _ ra0)
        clear ra0
        have hs : Hid (lastV N xs k ++ [(1 + (k : Int), pageD (xs[k]?.getD 0), 0, false)] = lastV N xs k ++ [putV xs k]) := hid rfl
        generalize xs[k]?.getD 0 = x at *
        have HK := hid hkm
        clear hkm
        go_wp2_with fail
        refine (pageX_calls wr x _ rfl).mono ?_
        rintro en w2 ⟨A2, c2, rfl, y2, u2⟩
        have C2 := hid (iv.out.1.up u2)
        have B2 := hid (iv.out.2.1.trans (u2.mono iv.out.2.1.size))
        have D2 := hid (iv.out.2.2.grown u2)
        clear u2 iv
        go_wp2_with fail
        refine (putNewV_calls w2 w.heap.size g N 0 0 (lastV N xs k) (1 + (k : Int)) A2 c2 (pageD x) C2 (by omega) (hid (wf64 (by omega) (by omega))) (hid (lastV_not N xs k)) (hid (pageD_length x)) y2 (hid (by rw [lastV_length]; have := HK.out; have := HM.out; omega))).mono ?_
        rintro en w3 ⟨rfl, h3⟩
        have D3 : Hid (Bytes w3 (some ⟨ba, oa, none⟩) xs) := hid (D2.out.below h3.out.2 (fun b off e => by injection e with e; injection e with e _; rw [← e]; exact RA.out))
        have C3 : Hid (CacheV w3 w.heap.size g N 0 0 (lastV N xs (k + 1)) ∧ Below w.heap.size w w3 ∧ Bytes w3 (some ⟨ba, oa, none⟩) xs) := hid ⟨by have := h3.out.1; rw [hs.out, lastV_succ N HN.out.1] at this; exact this, B2.out.trans h3.out.2, D3.out⟩
        clear h3 D3 C2 B2 D2 y2 hs
        go_wp2
        go_roundw
        case rel => exact ⟨k + 1, by have := HK.out; have := HM.out; omega, rfl, C3⟩
        case measure => have := HK.out; have := HM.out; simp only [intOf]; omega
      · obtain rfl : k = m := by omega
        have IV := hid iv.out
        clear iv hlt
        go_wp2
        go_loopw [40] (fun i wr => ∃ j : Nat, j ≤ k ∧ i = .int .i64 j ∧ Hid (CacheV wr w.heap.size g N 0 0 (lastV N xs k) ∧ Below w.heap.size w wr ∧ Bytes wr A xs)) (fun i _ => k - (intOf i).toNat)
        case atStart => exact ⟨0, Nat.zero_le _, rfl, IV⟩
        case round =>
          obtain ⟨j, hj, rfl, iv⟩ := hrel
          by_cases hlt : (j : Int) < k
          · have hjm : j < xs.length := by have := HM.out; omega
            obtain ⟨ba, oa, rfl, ra⟩ := iv.out.2.2 j hjm
            obtain ⟨bq, oq, eq0, ra0⟩ := hb.out j hjm
            injection eq0 with eq0
            injection eq0 with eq1 eq2 _
            subst eq1; subst eq2
            have RA := hid (World.block_lt_of_cell? _ _ ra0)
            have hs : Hid (putV xs j = (1 + (j : Int), pageD (xs[j]?.getD 0), 0, false)) := hid rfl
            generalize xs[j]?.getD 0 = x at *
            have HK := hid hjm
            have hfind := lastV_find N xs k j (by omega)
            have ra2 := hid ra
            clear hjm ra0
            go_wp2_with fail
            refine (peekV_calls wr w.heap.size g N 0 0 (lastV N xs k) (1 + (j : Int)) (hid iv.out.1) (hid (wf64 (by omega) (by omega)))).mono ?_
            rintro en w2 (⟨q1, rfl, rfl⟩ | ⟨v, A2, c2, q1, rfl, h2, u2⟩)
            · rw [q1] at hfind
              have hji : (j : Int) < (k : Int) - N := by
                by_cases hc : k - N ≤ j
                · rw [if_pos hc] at hfind; cases hfind
                · omega
              have hw : IntKind.i64.wrap ((k : Int) - N) = (k : Int) - N := IntWalk.i64_in _ (by have := HN.out; omega)
              have hd : decide ((k : Int) - N ≤ (j : Int)) = false := decide_eq_false (by omega)
              have C2 := iv
              clear hfind q1 ra hs iv hji
              go_wp2
              refine any_start (by kernel_rfl) ?_
              refine any_take 0 (some 52) (v := ?_) rfl rfl (by kernel_rfl) (by kernel_rfl) (by kernel_rfl) (fun _ _ _ h => h) (by rfl) (fun w9 hS => ?_) ?_
              rotate_left
              · go_simp <;> with_reducible rfl
              try simp only [Act.put, List.setIfInBounds_toArray, List.set_cons_zero, List.set_cons_succ]
              refine any_take 1 (some 53) (v := ?_) rfl rfl (by kernel_rfl) (by kernel_rfl) (by kernel_rfl) (fun _ _ _ h => h) (by rfl) (fun w9 hS => ?_) ?_
              rotate_left
              · go_simp <;> with_reducible rfl
              try simp only [Act.put, List.setIfInBounds_toArray, List.set_cons_zero, List.set_cons_succ]
              refine any_take 2 (some 54) (v := ?_) rfl rfl (by kernel_rfl) (by kernel_rfl) (by kernel_rfl) (fun _ _ _ h => h) (by rfl) (fun w9 hS => ?_) ?_
              rotate_left
              · go_simp <;> with_reducible rfl
              try simp only [Act.put, List.setIfInBounds_toArray, List.set_cons_zero, List.set_cons_succ]
              refine any_take 3 (some 55) (v := ?_) rfl rfl (by kernel_rfl) (by kernel_rfl) (by kernel_rfl) (fun _ _ _ h => h) (by rfl) (fun w9 hS => ?_) ?_
              rotate_left
              · go_simp <;> with_reducible rfl
              try simp only [Act.put, List.setIfInBounds_toArray, List.set_cons_zero, List.set_cons_succ]
              refine any_take 4 (some 56) (v := ?_) rfl rfl (by kernel_rfl) (by kernel_rfl) (by kernel_rfl) (fun _ _ _ h => h) (by rfl) (fun w9 hS => ?_) ?_
              rotate_left
              · go_simp <;> with_reducible rfl
              try simp only [Act.put, List.setIfInBounds_toArray, List.set_cons_zero, List.set_cons_succ]
              refine any_take 5 (some 57) (v := ?_) rfl rfl (by kernel_rfl) (by kernel_rfl) (by kernel_rfl) (fun _ _ _ h => h) (by rfl) (fun w9 hS => ?_) ?_
              rotate_left
              · go_simp <;> with_reducible rfl
              try simp only [Act.put, List.setIfInBounds_toArray, List.set_cons_zero, List.set_cons_succ]
              refine any_take 6 (some 58) (v := ?_) rfl rfl (by kernel_rfl) (by kernel_rfl) (by kernel_rfl) (fun _ _ _ h => h) (by rfl) (fun w9 hS => ?_) ?_
              rotate_left
              · go_simp <;> with_reducible rfl
              try simp only [Act.put, List.setIfInBounds_toArray, List.set_cons_zero, List.set_cons_succ]
              refine any_take 7 (some 59) (v := ?_) rfl rfl (by kernel_rfl) (by kernel_rfl) (by kernel_rfl) (fun _ _ _ h => h) (by rfl) (fun w9 hS => ?_) ?_
              rotate_left
              · go_simp <;> with_reducible rfl
              try simp only [Act.put, List.setIfInBounds_toArray, List.set_cons_zero, List.set_cons_succ]
              refine any_take 8 (some 60) (v := ?_) rfl rfl (by kernel_rfl) (by kernel_rfl) (by kernel_rfl) (fun _ _ _ h => h) (by rfl) (fun w9 hS => ?_) ?_
              rotate_left
              · go_simp <;> with_reducible rfl
              try simp only [Act.put, List.setIfInBounds_toArray, List.set_cons_zero, List.set_cons_succ]
              refine any_take 9 (some 61) (v := ?_) rfl rfl (by kernel_rfl) (by kernel_rfl) (by kernel_rfl) (fun _ _ _ h => h) (by rfl) (fun w9 hS => ?_) ?_
              rotate_left
              · go_simp <;> with_reducible rfl
              try simp only [Act.put, List.setIfInBounds_toArray, List.set_cons_zero, List.set_cons_succ]
              refine any_take 10 (some 62) (v := ?_) rfl rfl (by kernel_rfl) (by kernel_rfl) (by kernel_rfl) (fun _ _ _ h => h) (by rfl) (fun w9 hS => ?_) ?_
              rotate_left
              · go_simp <;> with_reducible rfl
              try simp only [Act.put, List.setIfInBounds_toArray, List.set_cons_zero, List.set_cons_succ]
              refine any_skip 11 (some 63) rfl rfl (by kernel_rfl) (by kernel_rfl) (by kernel_rfl) (fun _ _ _ h => h) (by rfl) ?_
              try simp only [Act.put, List.setIfInBounds_toArray, List.set_cons_zero, List.set_cons_succ]
              refine any_skip 12 (some 64) rfl rfl (by kernel_rfl) (by kernel_rfl) (by kernel_rfl) (fun _ _ _ h => h) (by rfl) ?_
              try simp only [Act.put, List.setIfInBounds_toArray, List.set_cons_zero, List.set_cons_succ]
              refine any_skip 13 (some 65) rfl rfl (by kernel_rfl) (by kernel_rfl) (by kernel_rfl) (fun _ _ _ h => h) (by rfl) ?_
              try simp only [Act.put, List.setIfInBounds_toArray, List.set_cons_zero, List.set_cons_succ]
              refine any_skip 14 (some 66) rfl rfl (by kernel_rfl) (by kernel_rfl) (by kernel_rfl) (fun _ _ _ h => h) (by rfl) ?_
              try simp only [Act.put, List.setIfInBounds_toArray, List.set_cons_zero, List.set_cons_succ]
              refine any_skip 15 (some 67) rfl rfl (by kernel_rfl) (by kernel_rfl) (by kernel_rfl) (fun _ _ _ h => h) (by rfl) ?_
              try simp only [Act.put, List.setIfInBounds_toArray, List.set_cons_zero, List.set_cons_succ]
              refine any_skip 16 (some 68) rfl rfl (by kernel_rfl) (by kernel_rfl) (by kernel_rfl) (fun _ _ _ h => h) (by rfl) ?_
              try simp only [Act.put, List.setIfInBounds_toArray, List.set_cons_zero, List.set_cons_succ]
              refine any_take 17 (some 69) (v := ?_) rfl rfl (by kernel_rfl) (by kernel_rfl) (by kernel_rfl) (fun _ _ _ h => h) (by rfl) (fun w9 hS => ?_) ?_
              rotate_left
              · go_simp <;> with_reducible rfl
              try simp only [Act.put, List.setIfInBounds_toArray, List.set_cons_zero, List.set_cons_succ]
              refine any_take 18 (some 70) (v := ?_) rfl rfl (by kernel_rfl) (by kernel_rfl) (by kernel_rfl) (fun _ _ _ h => h) (by rfl) (fun w9 hS => ?_) ?_
              rotate_left
              · go_simp <;> with_reducible rfl
              try simp only [Act.put, List.setIfInBounds_toArray, List.set_cons_zero, List.set_cons_succ]
              refine any_done (by kernel_rfl) ?_
              rename_i K1 h1
              refine h1 _ _ ?_
              clear h1 K1
              go_wp2
              go_roundw
              case rel => exact ⟨j + 1, by omega, rfl, hid ⟨CacheV.up C2.out.1 (Up.drew wr), C2.out.2.1.drew, C2.out.2.2⟩⟩
              case measure => simp only [intOf]; omega
            · rw [q1] at hfind
              have hji : ¬ (j : Int) < (k : Int) - N := by
                by_cases hc : k - N ≤ j
                · omega
                · rw [if_neg hc] at hfind; cases hfind
              rw [if_pos (by omega)] at hfind
              injection hfind with hfind
              subst hfind
              rw [hs.out] at h2
              have Y2 : Hid (Bytes w2 A2 (pageD x)) := hid h2.out.2
              have PL := hid (pageD_length x)
              have C2 := hid (iv.out.1.up u2)
              have B2 := hid (iv.out.2.1.trans (u2.mono iv.out.2.1.size))
              have D2 := hid (iv.out.2.2.grown u2)
              have hw : IntKind.i64.wrap ((k : Int) - N) = (k : Int) - N := IntWalk.i64_in _ (by have := HN.out; omega)
              have hd : decide ((k : Int) - N ≤ (j : Int)) = true := decide_eq_true (by omega)
              replace Y2 : Hid (Bytes w2.drew A2 (pageD x)) := hid Y2.out
              replace C2 := hid (C2.out.up (Up.drew w2))
              replace B2 : Hid (Below w.heap.size w w2.drew) := hid B2.out.drew
              replace D2 : Hid (Bytes w2.drew (some ⟨ba, oa, none⟩) xs) := hid D2.out
              clear u2 iv h2 q1 ra hs hji
              go_wp2
              refine any_start (by kernel_rfl) ?_
              refine any_take 0 (some 52) (v := ?_) rfl rfl (by kernel_rfl) (by kernel_rfl) (by kernel_rfl) (fun _ _ _ h => h) (by rfl) (fun w9 hS => ?_) ?_
              rotate_left
              · go_simp <;> with_reducible rfl
              try simp only [Act.put, List.setIfInBounds_toArray, List.set_cons_zero, List.set_cons_succ]
              refine any_take 1 (some 53) (v := ?_) rfl rfl (by kernel_rfl) (by kernel_rfl) (by kernel_rfl) (fun _ _ _ h => h) (by rfl) (fun w9 hS => ?_) ?_
              rotate_left
              · go_simp <;> with_reducible rfl
              try simp only [Act.put, List.setIfInBounds_toArray, List.set_cons_zero, List.set_cons_succ]
              refine any_take 2 (some 54) (v := ?_) rfl rfl (by kernel_rfl) (by kernel_rfl) (by kernel_rfl) (fun _ _ _ h => h) (by rfl) (fun w9 hS => ?_) ?_
              rotate_left
              · go_simp <;> with_reducible rfl
              try simp only [Act.put, List.setIfInBounds_toArray, List.set_cons_zero, List.set_cons_succ]
              refine any_take 3 (some 55) (v := ?_) rfl rfl (by kernel_rfl) (by kernel_rfl) (by kernel_rfl) (fun _ _ _ h => h) (by rfl) (fun w9 hS => ?_) ?_
              rotate_left
              · go_simp <;> with_reducible rfl
              try simp only [Act.put, List.setIfInBounds_toArray, List.set_cons_zero, List.set_cons_succ]
              refine any_take 4 (some 56) (v := ?_) rfl rfl (by kernel_rfl) (by kernel_rfl) (by kernel_rfl) (fun _ _ _ h => h) (by rfl) (fun w9 hS => ?_) ?_
              rotate_left
              · go_simp <;> with_reducible rfl
              try simp only [Act.put, List.setIfInBounds_toArray, List.set_cons_zero, List.set_cons_succ]
              refine any_take 5 (some 57) (v := ?_) rfl rfl (by kernel_rfl) (by kernel_rfl) (by kernel_rfl) (fun _ _ _ h => h) (by rfl) (fun w9 hS => ?_) ?_
              rotate_left
              · go_simp <;> with_reducible rfl
              try simp only [Act.put, List.setIfInBounds_toArray, List.set_cons_zero, List.set_cons_succ]
              refine any_take 6 (some 58) (v := ?_) rfl rfl (by kernel_rfl) (by kernel_rfl) (by kernel_rfl) (fun _ _ _ h => h) (by rfl) (fun w9 hS => ?_) ?_
              rotate_left
              · go_simp <;> with_reducible rfl
              try simp only [Act.put, List.setIfInBounds_toArray, List.set_cons_zero, List.set_cons_succ]
              refine any_take 7 (some 59) (v := ?_) rfl rfl (by kernel_rfl) (by kernel_rfl) (by kernel_rfl) (fun _ _ _ h => h) (by rfl) (fun w9 hS => ?_) ?_
              rotate_left
              · go_simp <;> with_reducible rfl
              try simp only [Act.put, List.setIfInBounds_toArray, List.set_cons_zero, List.set_cons_succ]
              refine any_take 8 (some 60) (v := ?_) rfl rfl (by kernel_rfl) (by kernel_rfl) (by kernel_rfl) (fun _ _ _ h => h) (by rfl) (fun w9 hS => ?_) ?_
              rotate_left
              · go_simp <;> with_reducible rfl
              try simp only [Act.put, List.setIfInBounds_toArray, List.set_cons_zero, List.set_cons_succ]
              refine any_take 9 (some 61) (v := ?_) rfl rfl (by kernel_rfl) (by kernel_rfl) (by kernel_rfl) (fun _ _ _ h => h) (by rfl) (fun w9 hS => ?_) ?_
              rotate_left
              · go_simp <;> with_reducible rfl
              try simp only [Act.put, List.setIfInBounds_toArray, List.set_cons_zero, List.set_cons_succ]
              refine any_take 10 (some 62) (v := ?_) rfl rfl (by kernel_rfl) (by kernel_rfl) (by kernel_rfl) (fun _ _ _ h => h) (by rfl) (fun w9 hS => ?_) ?_
              rotate_left
              · go_simp <;> with_reducible rfl
              try simp only [Act.put, List.setIfInBounds_toArray, List.set_cons_zero, List.set_cons_succ]
              refine any_take 11 (some 63) (v := ?_) rfl rfl (by kernel_rfl) (by kernel_rfl) (by kernel_rfl) (fun _ _ _ h => h) (by rfl) (fun w9 hS => ?_) ?_
              rotate_left
              · go_simp <;> with_reducible rfl
              try simp only [Act.put, List.setIfInBounds_toArray, List.set_cons_zero, List.set_cons_succ]
              refine any_take 12 (some 64) (v := ?_) rfl rfl (by kernel_rfl) (by kernel_rfl) (by kernel_rfl) (fun _ _ _ h => h) (by rfl) (fun w9 hS => ?_) ?_
              rotate_left
              · have ev := conv_n w9 (c := c2) PL (hid (by decide)) (hid (Y2.out.grown hS)); go_simp <;> with_reducible rfl
              try simp only [Act.put, List.setIfInBounds_toArray, List.set_cons_zero, List.set_cons_succ]
              refine any_take 13 (some 65) (v := ?_) rfl rfl (by kernel_rfl) (by kernel_rfl) (by kernel_rfl) (fun _ _ _ h => h) (by rfl) (fun w9 hS => ?_) ?_
              rotate_left
              · go_simp <;> with_reducible rfl
              try simp only [Act.put, List.setIfInBounds_toArray, List.set_cons_zero, List.set_cons_succ]
              refine any_call 14 (by kernel_rfl) rfl (by rfl) (fun K9 hK9 => ?_)
              go_simp
              refine (pageX_calls _ x _ rfl).mono ?_
              rintro e w3 ⟨A3, c3, rfl, Y3, u3⟩
              replace C2 := hid (C2.out.up u3)
              replace B2 := hid (B2.out.trans (u3.mono B2.out.size))
              replace D2 := hid (D2.out.grown u3)
              refine hK9.out _ _ u3 ?_
              clear u3
              clear hK9 K9
              try simp only [Act.put, List.setIfInBounds_toArray, List.set_cons_zero, List.set_cons_succ]
              refine any_take 15 (some 67) (v := ?_) rfl rfl (by kernel_rfl) (by kernel_rfl) (by kernel_rfl) (fun _ _ _ h => h) (by rfl) (fun w9 hS => ?_) ?_
              rotate_left
              · have ev := conv_n w9 (c := c3) PL (hid (by decide)) (hid (Y3.out.grown hS)); go_simp <;> with_reducible rfl
              try simp only [Act.put, List.setIfInBounds_toArray, List.set_cons_zero, List.set_cons_succ]
              refine any_take 16 (some 68) (v := ?_) rfl rfl (by kernel_rfl) (by kernel_rfl) (by kernel_rfl) (fun _ _ _ h => h) (by rfl) (fun w9 hS => ?_) ?_
              rotate_left
              · have es := str_eq (pageD x); go_simp <;> with_reducible rfl
              try simp only [Act.put, List.setIfInBounds_toArray, List.set_cons_zero, List.set_cons_succ]
              refine any_take 17 (some 69) (v := ?_) rfl rfl (by kernel_rfl) (by kernel_rfl) (by kernel_rfl) (fun _ _ _ h => h) (by rfl) (fun w9 hS => ?_) ?_
              rotate_left
              · go_simp <;> with_reducible rfl
              try simp only [Act.put, List.setIfInBounds_toArray, List.set_cons_zero, List.set_cons_succ]
              refine any_take 18 (some 70) (v := ?_) rfl rfl (by kernel_rfl) (by kernel_rfl) (by kernel_rfl) (fun _ _ _ h => h) (by rfl) (fun w9 hS => ?_) ?_
              rotate_left
              · go_simp <;> with_reducible rfl
              try simp only [Act.put, List.setIfInBounds_toArray, List.set_cons_zero, List.set_cons_succ]
              refine any_done (by kernel_rfl) ?_
              rename_i K1 h1
              refine h1 _ _ ?_
              clear h1 K1
              go_wp2
              go_roundw
              case rel => exact ⟨j + 1, by omega, rfl, hid ⟨C2.out, B2.out, D2.out⟩⟩
              case measure => simp only [intOf]; omega
          · obtain rfl : j = k := by omega
            clear hlt
            go_wp2_with (go_at_call 15; refine (lives_calls _).mono ?_; rintro en w2 ⟨rfl, u⟩)
            go_ret
            exact ⟨rfl, iv.out.2.1.trans (u.mono iv.out.2.1.size)⟩
end Go.Proofs.Ytlikggeceeennaa
