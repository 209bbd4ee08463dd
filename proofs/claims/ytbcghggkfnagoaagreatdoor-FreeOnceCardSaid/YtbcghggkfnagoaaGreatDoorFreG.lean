/- THE WALK of FreeOnce. -/
import Derived.Test.YtbcghggkfnagoaaGreatDoorFreE
import Derived.Test.YtbcghggkfnagoaaGreatDoorFreO
set_option linter.unusedVariables false
set_option linter.unusedSimpArgs false
namespace Go.Proofs.YtbcghggkfnagoaaGreatDoor
open Go Go.RowKit Go.Maps Hach

theorem w64n {k : Nat} (h : k < 1000000000) : wrap64 (k : Int) = (k : Int) := by unfold wrap64; omega
set_option maxRecDepth 100000 in
set_option maxHeartbeats 4000000 in
theorem freeOnce_walk (w : World) (a : Int) (ha : Hid (0 ≤ a ∧ a < 65536)) (A : Option Addr) (xs : List Nat) (c : Nat) (hl : Hid (xs.length ≤ 9223372036854775807)) (hb : Hid (Rd w A (xs.flatMap u16Cell))) (hq : Hid (∀ x ∈ xs, x < 65536)) :
    Calls Tryz.prog 3 #[.int .u16 a, .slice A xs.length c] w fun en w' => en = .returned (.bool true) ∧ Below w.heap.size w w' := by
  obtain ⟨M, hM⟩ : ∃ M, xs.length = M := ⟨_, rfl⟩
  have HM := hid hM
  rw [hM]
  clear hM
  by_cases h300 : (300 : Int) < (M : Int)
  · go_enter Tryz.func3, Tryz.ntmps3
    go_wp2_with (go_at_call 13; refine (lives8_calls w).mono ?_; rintro en w1 ⟨rfl, u1⟩)
    have U1 := hid u1
    clear u1
    go_wp2
    go_ret
    exact ⟨rfl, U1.out⟩
  · have M300 : Hid (M ≤ 300) := hid (by omega)
    obtain ⟨N, hN⟩ : ∃ N : Nat, a.tmod 400 = N := ⟨(a % 400).toNat, by rw [Int.tmod_eq_emod_of_nonneg ha.out.1]; have := ha.out; omega⟩
    have HN : Hid (N < 400) := hid (by rw [Int.tmod_eq_emod_of_nonneg ha.out.1] at hN; omega)
    have hmod : wrap64 (a.tmod 400) = (N : Int) := by rw [hN]; have := HN.out; exact w64n (by omega)
    clear hN
    have hmm := @run_makeMap Tryz.prog
    go_enter Tryz.func3, Tryz.ntmps3
    go_wp2_with (go_at_call 14; refine (freshH_calls w).mono ?_; rintro en w1 ⟨X, rfl, h1⟩)
    obtain ⟨w2, hw2⟩ : ∃ u, u = w1.alloc (.map #[] 0) := ⟨_, rfl⟩
    have START : Hid (OnceI w w2 X w1.heap.size 1 [] [] none 0 0) := hid (by
      obtain ⟨k1, k2, k3, k4⟩ := h1.out
      have u2 : Up w1 w2 := by rw [hw2]; exact upAlD (Up.refl w1) _
      exact ⟨k2.t u2, ⟨_, k1.up u2⟩, by rw [hw2]; exact SetM.made w1, own_nil _ _ _ _, rfl, List.nodup_nil, fun x hx => (by cases hx), rfl, k3.1, k3.2, k4.1, k4.2, k2.size⟩)
    obtain ⟨mb, hmb⟩ : ∃ mb, w1.heap.size = mb := ⟨_, rfl⟩
    rw [hmb] at START ⊢
    rw [← hw2]
    clear h1 hmb hw2 hmm
    go_loopw [9, 10] (fun ov iv wr => ∃ (k : Nat) (A1 : Option Addr) (c1 : Nat) (l : List Nat), ov = .slice A1 k c1 ∧ iv = .int .i64 k ∧ k ≤ N ∧ Hid (OnceI w wr X mb (k + 1) [] l A1 k c1)) (fun _ iv _ => N - (intOf iv).toNat)
    case atStart => exact ⟨0, none, 0, [], rfl, rfl, Nat.zero_le _, START⟩
    case round =>
      obtain ⟨k, A1, c1, l, rfl, rfl, hk, iv⟩ := hrel
      by_cases hlt : (k : Int) < N
      · have KN : Hid (k < N ∧ k < 400) := hid (by have := HN.out; omega)
        obtain ⟨x, hx⟩ : ∃ x, k + 1 + 1 = x := ⟨_, rfl⟩
        obtain ⟨U, hU⟩ := iv.out.heap
        have CT := takeH_calls wr X (k + 1) [] _ U (hid hU) (hid (by have := KN.out; omega))
        unfold TakeH at CT
        rw [show takeV [] (k + 1) = (x, x, []) by rw [← hx]; rfl] at CT
        have XB : Hid (x = k + 2 ∧ (Lit.int .i64 (x : Int)).wf = true) := hid ⟨by omega, wf_nat (by have := KN.out; omega)⟩
        have xl : ¬ (x : Int) < 2 := by omega
        have IV := iv
        clear iv hx hU
        go_wp2_with fail
        refine CT.mono ?_
        rintro en w3 ⟨rfl, hr⟩
        have T3 := hid (IV.out.take (by rw [show k + 1 + 1 = x by have := XB.out; omega]; exact hr.out.1) hr.out.2)
        have XN : Hid (x ∉ l) := hid (fun e => by have := IV.out.inn x e; have := XB.out; omega)
        have LK := T3.out.2.2.1.look XB.out.2
        rw [decide_eq_false XN.out] at LK
        obtain ⟨w4, hupd, hs4, hg4⟩ := T3.out.2.2.1.add XB.out.2 XN.out (by rw [IV.out.len]; have := KN.out; omega)
        have f4 : Fr (fun b => b = mb) w3 w4 := (Fr.of_grown hg4).mono (fun b e => Option.some.inj e)
        have H4 := hid (T3.out.2.1.fr f4 (fun b _ e => e ▸ apart_set T3.out.2.2.1 IV.out.low.2.2.2.1))
        have O4 := hid (f4.own T3.out.2.2.2 (fun b hb e => by have := (own_block T3.out.2.2.2 b hb).1; omega))
        have U4 := hid (Fr.ups T3.out.1 f4 (fun b e => e ▸ IV.out.low.2.2.2.2))
        have S4 := hid hs4
        have u5 : Up w4 (w4.alloc (.cells #[.int .i64 x] 3)) := upAlD (Up.refl w4) _
        have o5 := World.ownsRow.alloc O4.out (.cells #[.int .i64 x] 3)
        have hs5 : mb + 1 ≤ (w4.alloc (.cells #[.int .i64 x] 3)).heap.size := by have := S4.out.lt; have := u5.size; omega
        have HU5 := hid u5
        clear hr CT hs4 hg4 f4 u5
        go_wp2_with (at_builtin; refine hold ?_)
        refine hid (wl_append elemIN rfl (.tmp 58) (.tmp 60) rfl rfl o5 rfl (Rd.new w4 3 (0, 0) [.int .i64 x]) rfl (by simp [Value.oneCell']) (by have := KN.out; simp only [maxLen]; omega) (by have := KN.out; omega) hs5 ?_)
        intro A6 c6 w6 o6 g6 d6
        have f6 := Fr.of_grown g6
        have REL : Hid (OnceI w w6 X mb (k + 1 + 1) [] (l ++ [x]) A6 (k + 1) c6) := hid (by
          have iv := IV.out
          have hu := HU5.out
          have ss : ∀ b, some b = (Value.slice A1 k c1).ownBlock → mb + 1 ≤ b := fun b e => (own_block o5 b e.symm).1
          refine ⟨Fr.ups (U4.out.t hu) f6 (fun b e => by have := ss b e; have := iv.low; omega), ⟨_, ((show HeapW w4 X (k + 1 + 1) [] (fun _ => 0) (upd U x noPage) from H4.out).up hu).fr f6 (fun b _ e => apart_own (A := none) (c := 0) (base := mb + 1) (n := k) (l := l) o5 e.symm)⟩, (S4.out.up hu).kept f6 (fun e => by have := ss mb e; omega), by rw [List.map_append]; exact o6, by rw [List.length_append, iv.len]; rfl, ?_, fun z hz => ?_, by rw [List.length_append]; have := iv.sum; simp only [List.length_cons, List.length_nil]; omega, iv.low⟩
          · rw [List.nodup_append]
            exact ⟨iv.nd, by simp, fun p hp q hq e => by rw [List.mem_singleton.1 hq] at e; exact XN.out (e ▸ hp)⟩
          · rcases List.mem_append.1 hz with hz | hz
            · have := iv.inn z hz; exact ⟨this.1, by omega, this.2.2⟩
            · rw [List.mem_singleton.1 hz]; have := XB.out; exact ⟨by omega, by omega, by simp [allT]⟩)
        clear o6 g6 d6 f6 o5 hs5 HU5 LK hupd
        go_wp2
        go_roundw
        case rel => exact ⟨k + 1, A6, c6, l ++ [x], rfl, by rw [wS (K := k + 1) (by have := KN.out; omega) rfl], KN.out.1, REL⟩
        case measure => have := KN.out; rw [wS (K := k + 1) (by omega) rfl]; simp only [intOf]; omega
      · have hkN : N = k := by omega
        subst hkN
        have START2 := iv
        clear iv START
        obtain ⟨wo, rfl⟩ : ∃ wo : World, wo = wr := ⟨_, rfl⟩
        go_wp2
        clear hmod
        go_loopw [9, 64] (fun ov iv wr => ∃ (j k : Nat) (A1 : Option Addr) (c1 : Nat) (l : List Nat) (T : List Trk), ov = .slice A1 k c1 ∧ iv = .int .i64 j ∧ j ≤ M ∧ Hid (OnceI w wr X mb (N + 1) T l A1 k c1)) (fun _ iv _ => M - (intOf iv).toNat)
        case atStart => exact ⟨0, _, _, _, _, _, rfl, rfl, Nat.zero_le _, START2⟩
        case round =>
          clear START2
          obtain ⟨j, k, A1, c1, l, T, rfl, rfl, hj, iv⟩ := hrel
          by_cases hgo : j < M ∧ k ≠ 0
          · obtain ⟨hjl, hk0⟩ := hgo
            obtain ⟨g, hg⟩ : ∃ g, xs[j]? = some g := ⟨_, List.getElem?_eq_getElem (by have := HM.out; omega)⟩
            have GB : Hid (g < 65536) := hid (hq.out g (List.mem_of_getElem? hg))
            obtain ⟨gb, go, rfl, hcg⟩ := (hb.out.grown iv.out.up).row (f := u16Cell) (k := 1) (fun _ => rfl) hg (by decide)
            have hcg0 := hcg 0 _ rfl
            rw [Nat.mul_one, Nat.add_zero] at hcg0
            clear hcg hg
            obtain ⟨i, hi⟩ : ∃ i, g % k = i := ⟨_, rfl⟩
            have hik : i < k := by rw [← hi]; exact Nat.mod_lt _ (by omega)
            obtain ⟨i1, hi1⟩ : ∃ i1, i + 1 = i1 := ⟨_, rfl⟩
            have IK2 : Hid (i + 1 = i1 ∧ i < k ∧ k ≤ c1 ∧ k ≤ 400 ∧ l.length = k ∧ j < M) := hid ⟨hi1, hik, by obtain ⟨_, _, e, h⟩ := own_form iv.out.own; injection e with _ _ e; omega, by have := iv.out.len; have := iv.out.sum; have := HN.out; omega, iv.out.len, hjl⟩
            have hjM : (j : Int) < M := by omega
            have hkp : ¬ (k : Int) = 0 := by omega
            have hik2 : (i : Int) < (k : Int) := by omega
            have q1 : (i1 : Int) ≤ k := by omega
            have q2 : (k : Int) ≤ c1 := by have := IK2.out; omega
            have q3 : (i : Int) ≤ c1 := by have := IK2.out; omega
            have B1 : g < 1000000000 := by have := GB.out; omega
            have B2 : i < 1000000000 := by have := IK2.out; omega
            obtain ⟨x, hx⟩ : ∃ x, l[i]? = some x := ⟨_, List.getElem?_eq_getElem (by have := iv.out.len; omega)⟩
            have RO := hid (Rd.own iv.out.own)
            obtain ⟨ob, oo, rfl, hcx⟩ := RO.out i (natCell x) (by rw [List.getElem?_map, hx]; rfl)
            have HX := hid hx
            have IV := iv
            have SZ : Hid (mb + 1 ≤ wr.heap.size) := hid IV.out.set.lt
            have R1 : Hid (Rd wr (some ⟨ob, oo, none⟩) ((l.take i).map natCell)) := hid (by rw [List.map_take]; exact RO.out.take i)
            have HI1V : Hid (IntKind.i64.wrap ((i : Int) + 1) = (i1 : Int)) := hid ((IntWalk.i64_left _).trans (wS B2 hi1))
            have hrem : (g : Int).tmod (k : Int) = (i : Int) := by rw [← hi]; exact (Int.tmod_eq_emod_of_nonneg (by omega)).trans (by omega)
            have hw1 : wrap64 (g : Int) = (g : Int) := w64n B1
            unfold natCell at hcx
            clear iv hx hjl hi hi1 hik hk0 hj B1 B2
            obtain ⟨o2, hcase, R2⟩ : ∃ o2, ((c1 = i1 ∧ o2 = oo) ∨ (¬ c1 = i1 ∧ o2 = oo + i1)) ∧ Hid (Rd wr (some ⟨ob, o2, none⟩) ((l.drop i1).map natCell)) := by
              by_cases e : c1 = i1
              · exact ⟨oo, .inl ⟨e, rfl⟩, hid (by rw [List.drop_of_length_le (by have := IK2.out; omega)]; exact Rd.nil _ _)⟩
              · exact ⟨oo + i1, .inr ⟨e, rfl⟩, hid (by rw [List.map_drop]; exact RO.out.drop i1)⟩
            have q7 : i ≤ i1 := by have := IK2.out; omega
            have q8 : i1 ≤ k := by have := IK2.out; omega
            have q9 : k ≤ c1 := by have := IK2.out; omega
            rcases hcase with ⟨q4, rfl⟩ | ⟨q4, rfl⟩
            all_goals
              go_wp2
              clear hw1 hrem hcx hcg0
              have US : Up wr wr.drew := Up.drew wr
              refine s_start (fun w9 => Up wr w9) (by kernel_rfl) ?_
              refine s_take 1 (some 81) (v := ?_) US rfl rfl (by kernel_rfl) (by kernel_rfl) (by kernel_rfl) (fun _ _ _ h => h) (by rfl) (fun w9 hS => ?_) ?_
              rotate_left
              · go_simp <;> with_reducible rfl
              try simp only [Act.put, List.setIfInBounds_toArray, List.set_cons_zero, List.set_cons_succ]
              refine s_take 2 (some 82) (v := ?_) US rfl rfl (by kernel_rfl) (by kernel_rfl) (by kernel_rfl) (fun _ _ _ h => h) (by rfl) (fun w9 hS => ?_) ?_
              rotate_left
              · go_simp <;> with_reducible rfl
              try simp only [Act.put, List.setIfInBounds_toArray, List.set_cons_zero, List.set_cons_succ]
              refine s_take 3 (some 83) (v := ?_) US rfl rfl (by kernel_rfl) (by kernel_rfl) (by kernel_rfl) (fun _ _ _ h => h) (by rfl) (fun w9 hS => ?_) ?_
              rotate_left
              · go_simp <;> with_reducible rfl
              try simp only [Act.put, List.setIfInBounds_toArray, List.set_cons_zero, List.set_cons_succ]
              refine s_take 5 (some 85) (v := ?_) US rfl rfl (by kernel_rfl) (by kernel_rfl) (by kernel_rfl) (fun _ _ _ h => h) (by rfl) (fun w9 hS => ?_) ?_
              rotate_left
              · go_simp <;> with_reducible rfl
              try simp only [Act.put, List.setIfInBounds_toArray, List.set_cons_zero, List.set_cons_succ]
              refine s_take 6 (some 86) (v := ?_) US rfl rfl (by kernel_rfl) (by kernel_rfl) (by kernel_rfl) (fun _ _ _ h => h) (by rfl) (fun w9 hS => ?_) ?_
              rotate_left
              · go_simp <;> with_reducible rfl
              try simp only [Act.put, List.setIfInBounds_toArray, List.set_cons_zero, List.set_cons_succ]
              refine s_take 7 (some 87) (v := ?_) US rfl rfl (by kernel_rfl) (by kernel_rfl) (by kernel_rfl) (fun _ _ _ h => h) (by rfl) (fun w9 hS => ?_) ?_
              rotate_left
              · have hv := HI1V.out; go_simp <;> with_reducible rfl
              try simp only [Act.put, List.setIfInBounds_toArray, List.set_cons_zero, List.set_cons_succ]
              refine s_take 8 (some 88) (v := ?_) US rfl rfl (by kernel_rfl) (by kernel_rfl) (by kernel_rfl) (fun _ _ _ h => h) (by rfl) (fun w9 hS => ?_) ?_
              rotate_left
              · go_simp <;> with_reducible rfl
              try simp only [Act.put, List.setIfInBounds_toArray, List.set_cons_zero, List.set_cons_succ]
              refine s_op 0 (by kernel_rfl) rfl (by rfl) (fun K9 hK9 => ?_)
              go_simp
              have u0 : Up wr (wr.drew.alloc (.cells #[] 3)) := upAlD (Up.drew wr) _
              have U0 := hid u0
              replace US : Up wr (wr.drew.alloc (.cells #[] 3)) := u0
              clear u0
              refine hK9.out _ _ US ?_
              clear hK9 K9
              try simp only [Act.put, List.setIfInBounds_toArray, List.set_cons_zero, List.set_cons_succ]
              refine s_op 4 (by kernel_rfl) rfl (by rfl) (fun K9 hK9 => ?_)
              show Oper.wp _ ⟨some 84, _, _, _, _, _⟩ _ _ _ _
              refine wp_append elemIN (.tmp 80) (.tmp 83) rfl rfl (own_lit0 wr.drew wr.heap.size 3 1 (Nat.le_refl _)) rfl (R1.out.grown U0.out) (by rw [List.length_map, List.length_take]; have := IK2.out; omega) (natCell_one _) (by have := IK2.out; simp only [maxLen]; omega) (by have := IK2.out; omega) U0.out.size ?_
              intro A4 c4 w4 o4 g4 d4
              have U4 := hid (below_append U0.out (Nat.le_refl _) U0.out.size (own_lit0 wr.drew wr.heap.size 3 1 (Nat.le_refl _)) g4)
              have O4 := hid o4
              clear o4 g4 d4
              replace US : Up wr w4 := U4.out
              refine hK9.out _ _ US ?_
              clear hK9 K9
              try simp only [Act.put, List.setIfInBounds_toArray, List.set_cons_zero, List.set_cons_succ]
              refine s_op 9 (by kernel_rfl) rfl (by rfl) (fun K9 hK9 => ?_)
              rw [Nat.zero_add]
              have o4 := O4.out
              rw [Nat.zero_add, List.nil_append] at o4
              show Oper.wp _ ⟨some 89, _, _, _, _, _⟩ _ _ _ _
              refine wp_append elemIN (.tmp 84) (.tmp 88) rfl rfl o4 rfl (R2.out.grown U4.out) (by rw [List.length_map, List.length_drop]; have := IK2.out; omega) (natCell_one _) (by have := IK2.out; simp only [maxLen]; omega) (by have := IK2.out; omega) U4.out.size ?_
              intro A5 c5 w5 o5 g5 d5
              have U5 := hid (below_append U4.out (Nat.le_refl _) U4.out.size o4 g5)
              have O5 := hid o5
              clear o5 g5 d5 o4
              replace US : Up wr w5 := U5.out
              refine hK9.out _ _ US ?_
              clear hK9 K9
              try simp only [Act.put, List.setIfInBounds_toArray, List.set_cons_zero, List.set_cons_succ]
              refine s_take 10 (some 9) (v := ?_) US rfl rfl (by kernel_rfl) (by kernel_rfl) (by kernel_rfl) (fun _ _ _ h => h) (by rfl) (fun w9 hS => ?_) ?_
              rotate_left
              · go_simp <;> with_reducible rfl
              try simp only [Act.put, List.setIfInBounds_toArray, List.set_cons_zero, List.set_cons_succ]
              refine s_done (by kernel_rfl) ?_
              rename_i K1 h1
              first | (refine h1 _ _ ?_; clear h1 K1) | skip
              have U5w := hid US
              clear US q4 q7 q8 q9 U0 U4 O4
              obtain ⟨U9, hU9⟩ := IV.out.heap
              have XI := IV.out.inn x (List.mem_of_getElem? HX.out)
              have CG := giveH_calls w5 X (N + 1) T (fun _ => 0) U9 x (hid (hU9.up U5w.out)) (hid (by have := HN.out; omega)) (hid XI)
              have WX : Hid ((Lit.int .i64 (x : Int)).wf = true) := hid (wf_nat (by have := XI.2.1; have := HN.out; omega))
              clear XI hU9
              go_wp2_with fail
              refine CG.mono ?_
              rintro en w6 ⟨rfl, hr⟩
              have G6 := hid (OnceI.give IV.out HX.out IK2.out.1 IK2.out.2.1 U5w.out O5.out hr.out.1 hr.out.2)
              obtain ⟨w7, hdel, hs7, hg7⟩ := G6.out.1.del WX.out (List.mem_of_getElem? HX.out) G6.out.2.1 G6.out.2.2.1 0
              have I7 := hid (G6.out.2.2.2 w7 hs7 hg7)
              clear hr CG hs7 hg7 G6
              go_wp2
              go_roundw
              case rel => exact ⟨j + 1, _, _, _, _, _, rfl, rfl, IK2.out.2.2.2.2.2, I7⟩
              case measure => have := IK2.out; have := M300.out; simp only [intOf]; omega
          · have stop : (j < M ∧ k = 0) ∨ ¬ (j : Int) < M := by omega
            have IV := iv
            clear iv hj hgo
            refine Or.elim stop ?stopA ?stopB
            case' stopA =>
              rintro ⟨hjl, hk0⟩
              obtain ⟨g, hg⟩ : ∃ g, xs[j]? = some g := ⟨_, List.getElem?_eq_getElem (by have := HM.out; omega)⟩
              obtain ⟨gb, go, rfl, hcg⟩ := (hb.out.grown IV.out.up).row (f := u16Cell) (k := 1) (fun _ => rfl) hg (by decide)
              have hcg0 := hcg 0 _ rfl
              rw [Nat.mul_one, Nat.add_zero] at hcg0
              have hjM : (j : Int) < M := by omega
              have hk0' : (k : Int) = 0 := by omega
              clear hcg hg hjl hk0
            case' stopB => intro hjM
            all_goals
              clear stop
              obtain ⟨U9, hU9⟩ := IV.out.heap
              have CALL := allH_calls wr X (N + 1) T _ U9 (hid hU9) (hid (by have := HN.out; omega))
              have HU9 := hid hU9
              have SUM : Hid (l.length + (allT T).length = N) := hid (by have := IV.out.sum; omega)
              have ND : Hid ((allT T).Nodup ∧ (∀ x ∈ allT T, 2 ≤ x ∧ x ≤ N + 1) ∧ ∀ x ∈ allT T, x ∉ l) := hid (by obtain ⟨L, _, hs⟩ := hU9; exact ⟨hs.nodup, hs.inn, fun x hx hl => (IV.out.inn x hl).2.2 hx⟩)
              clear hU9
              go_wp2_with fail
              refine CALL.mono ?_
              rintro en w8 ⟨A8, c8, K8, rfl, hr⟩
              clear CALL
              have START3 : Hid (Up w w8 ∧ SetM w8 mb (l ++ (allT T).take 0) ∧ HeapW w8 X (N + 1) T (fun _ => 0) U9 ∧ Rd w8 A8 ((allT T).map natCell)) := hid ⟨IV.out.up.t hr.out.2.2, by rw [List.take_zero, List.append_nil]; exact IV.out.set.up hr.out.2.2, HU9.out.up hr.out.2.2, Rd.own hr.out.2.1⟩
              have HK8 : Hid (K8 = (allT T).length) := hid hr.out.1
              clear hr HU9
              obtain ⟨wo, rfl⟩ : ∃ wo : World, wo = wr := ⟨_, rfl⟩
              go_wp2
              go_loopw [104] (fun iv wr => ∃ s : Nat, iv = .int .i64 s ∧ s ≤ K8 ∧ Hid (Up w wr ∧ SetM wr mb (l ++ (allT T).take s) ∧ HeapW wr X (N + 1) T (fun _ => 0) U9 ∧ Rd wr A8 ((allT T).map natCell))) (fun iv _ => K8 - (intOf iv).toNat)
              case atStart => exact ⟨0, rfl, Nat.zero_le _, START3⟩
              case round =>
                clear START3
                obtain ⟨s, rfl, hs, iv⟩ := hrel
                by_cases hlt : (s : Int) < K8
                · obtain ⟨x, hx⟩ : ∃ x, (allT T)[s]? = some x := ⟨_, List.getElem?_eq_getElem (by have := HK8.out; omega)⟩
                  obtain ⟨ab, ao, rfl, hcx⟩ := iv.out.2.2.2 s (natCell x) (by rw [List.getElem?_map, hx]; rfl)
                  unfold natCell at hcx
                  have hmx := List.mem_of_getElem? hx
                  have htk : (allT T).take (s + 1) = (allT T).take s ++ [x] := by rw [List.take_add_one, hx]; rfl
                  have hnx : x ∉ l ++ (allT T).take s := by
                    rw [List.mem_append]
                    rintro (h | h)
                    · exact ND.out.2.2 x hmx h
                    · have h2 := ND.out.1.sublist (List.take_sublist (s + 1) (allT T))
                      rw [htk, List.nodup_append] at h2
                      exact h2.2.2 x h x (List.mem_singleton.2 rfl) rfl
                  have KB : Hid (K8 ≤ 400 ∧ s < K8) := hid (by have := HK8.out; have := SUM.out; have := HN.out; omega)
                  have wfx : (Lit.int .i64 (x : Int)).wf = true := wf_nat (by have := ND.out.2.1 x hmx; have := HN.out; omega)
                  have LK := iv.out.2.1.look wfx
                  rw [decide_eq_false hnx] at LK
                  obtain ⟨w4, hupd, hs4, hg4⟩ := iv.out.2.1.add wfx hnx (by rw [List.length_append, List.length_take]; have := SUM.out; have := HN.out; omega)
                  have NEXT : Hid (Up w w4 ∧ SetM w4 mb (l ++ (allT T).take (s + 1)) ∧ HeapW w4 X (N + 1) T (fun _ => 0) U9 ∧ Rd w4 (some ⟨ab, ao, none⟩) ((allT T).map natCell)) := hid (by
                    have f4 : Fr (fun b => b = mb) wr w4 := (Fr.of_grown hg4).mono (fun b e => Option.some.inj e)
                    refine ⟨Fr.ups iv.out.1 f4 (fun b e => e ▸ IV.out.low.2.2.2.2), by rw [htk, ← List.append_assoc]; exact hs4, iv.out.2.2.1.fr f4 (fun b _ e => e ▸ apart_set iv.out.2.1 IV.out.low.2.2.2.1), iv.out.2.2.2.fr f4 (fun b off e hb => ?_)⟩
                    injection e with e
                    injection e with e _ _
                    obtain ⟨es, cl, hm⟩ := iv.out.2.1.isMap
                    unfold World.cell? at hcx
                    rw [show (⟨ab, ao + s, none⟩ : Addr).block = ab from rfl, e, hb, hm] at hcx
                    cases hcx)
                  clear iv hx hmx htk hnx wfx hs4 hg4 hs
                  go_wp2
                  go_roundw
                  case rel => exact ⟨s + 1, by first | rfl | rw [wS (K := s + 1) (by have := KB.out; omega) rfl], KB.out.2, NEXT⟩
                  case measure => have := KB.out; first | rw [wS (K := s + 1) (by omega) rfl] | skip
                                  simp only [intOf]; omega
                · have hsK : s = (allT T).length := by have := HK8.out; omega
                  have S9 : Hid (SetM wr mb (l ++ allT T)) := hid (by have := iv.out.2.1; rwa [hsK, List.take_length] at this)
                  have LEN := S9.out.len 3
                  rw [List.length_append, SUM.out] at LEN
                  have NW : Hid (N < 1000000000) := hid (by have := HN.out; omega)
                  have I9 := iv
                  have PG := hpagesW_calls wr X (N + 1) T _ U9 (hid iv.out.2.2.1)
                  obtain ⟨N1, hN1⟩ : ∃ N1, N + 1 = N1 := ⟨_, rfl⟩
                  have hN1w : wrap64 ((N : Int) + 1) = (N1 : Int) := wS NW.out hN1
                  rw [hN1] at PG
                  clear iv hsK hs
                  go_wp2_with fail
                  refine PG.mono ?_
                  rintro en w9 ⟨rfl, hw⟩
                  obtain rfl := hw.symm
                  clear hw PG
                  go_wp2_with fail
                  refine (lives8_calls _).mono ?_
                  rintro en w9 ⟨rfl, u9⟩
                  have U10 : Hid (Up w w9) := hid (I9.out.1.t u9)
                  clear u9
                  go_wp2
                  go_ret
                  exact ⟨rfl, U10.out⟩
end Go.Proofs.YtbcghggkfnagoaaGreatDoor
