/- THE WALK of SpillBack: the chains are written. -/
import Derived.Test.YtbcghggkfnagoaaGreatDoorSb1
set_option linter.unusedVariables false
set_option linter.unusedSimpArgs false
namespace Go.Proofs.YtbcghggkfnagoaaGreatDoor
open Go Go.RowKit Go.Maps Hach

set_option maxRecDepth 100000 in
set_option maxHeartbeats 4000000 in
theorem spillBack_walk (w : World) (A : Option Addr) (xs : List Nat) (c : Nat) (hl : Hid (xs.length ≤ 9223372036854775807)) (hb : Hid (Rd w A (xs.flatMap u16Cell))) (hq : Hid (∀ x ∈ xs, x < 65536)) (wh : Int) (hwh : Hid (0 ≤ wh ∧ wh < 18446744073709551616)) :
    Calls Tryz.prog 11 #[.slice A xs.length c, .int .u64 wh] w fun en w' => en = .returned (.bool true) ∧ Below w.heap.size w w' := by
  obtain ⟨N, hN⟩ : ∃ N, xs.length = N := ⟨_, rfl⟩
  have HN := hid hN
  rw [hN]
  clear hN
  by_cases hno : (N : Int) = 0 ∨ (12 : Int) < (N : Int)
  · have e0 : Hid ((N : Int) = 0 ∨ (12 : Int) < (N : Int)) := hid hno
    rcases hno with hn0 | hn0
    all_goals
      clear e0
      go_enter Tryz.func11, Tryz.ntmps11
      go_wp2_with (go_at_call 38; refine (lives10_calls w).mono ?_; rintro en w1 ⟨rfl, hw⟩; obtain rfl := hw.symm)
      all_goals
        go_ret
        exact ⟨rfl, Below.refl _ _⟩
  · have NB : Hid (1 ≤ N ∧ N ≤ 12) := hid (by omega)
    have n1 : ¬ (N : Int) = 0 := by omega
    have n2 : ¬ (12 : Int) < (N : Int) := by omega
    clear hno
    have hmm := @run_makeMap Tryz.prog
    have hadd : ∀ (W : World), ∃ w', (Instr.mapUpdate 29 (.map (some W.heap.size)) (.int .i64 1) (.bool true)).run Tryz.prog (W.alloc (.map #[] 0)) = .ok () w' ∧ SetM w' W.heap.size [1] ∧ (W.alloc (.map #[] 0)).grownBy w' (some W.heap.size) := fun W =>
      (SetM.made W).add (p := 1) (by decide) (by simp) (by decide)
    go_enter Tryz.func11, Tryz.ntmps11
    go_wp2_with (go_at_call 32; refine (fresh10_calls w).mono ?_; rintro en w1 ⟨X, rfl, h1⟩; obtain ⟨w3, hupd, hs3, hg3⟩ := hadd w1)
    obtain ⟨mb, hmb⟩ : ∃ mb, w1.heap.size = mb := ⟨_, rfl⟩
    have START : Hid (BackG w X mb xs 1 0 1 0 none 0 w3) := hid (by
      obtain ⟨k1, k2, k3, k4⟩ := h1.out
      have u2 : Up w1 (w1.alloc (.map #[] 0)) := upAlD (Up.refl w1) _
      have s1 : X.t < w1.heap.size ∧ X.m < w1.heap.size := ⟨HpS.low k1 X.t (.inl rfl), HpS.low k1 X.m (.inr rfl)⟩
      have G : BackG w X mb xs 1 0 0 0 none 0 (w1.alloc (.map #[] 0)) := ⟨k2.t u2, ⟨_, k1.up u2, fun i x hi => by omega⟩, by rw [← hmb]; exact SetM.made w1, own_nil _ _ _ _, k3, by omega, k4, by omega, by have := k2.size; omega⟩
      rw [hmb] at hg3 hs3
      exact G.add hg3 hs3)
    rw [hmb]
    clear h1 hmm hadd hupd hs3 hg3 hmb
    go_loopw [48, 7] (fun i av wr => ∃ (j : Nat) (A1 : Option Addr) (c1 : Nat), j ≤ N ∧ i = .int .i64 j ∧ av = .slice A1 j c1 ∧ Hid (BackG w X mb xs (nOf (xs.take j)) j (nOf (xs.take j)) j A1 c1 wr)) (fun i _ _ => N - (intOf i).toNat)
    case atStart => exact ⟨0, none, 0, Nat.zero_le _, rfl, rfl, START⟩
    case round =>
      obtain ⟨j, A1, c1, hj, rfl, rfl, iv⟩ := hrel
      by_cases hlt : (j : Int) < N
      · have KB : Hid (j < N ∧ N ≤ 12) := hid (by have := NB.out; omega)
        obtain ⟨x, hx⟩ : ∃ x, xs[j]? = some x := ⟨_, List.getElem?_eq_getElem (by have := HN.out; omega)⟩
        have XB : Hid (x < 65536) := hid (hq.out x (List.mem_of_getElem? hx))
        obtain ⟨gb, go, hA, hcg⟩ := (hb.out.grown iv.out.up).row (f := u16Cell) (k := 1) (fun _ => rfl) hx (by decide)
        subst hA
        have hcg0 := hcg 0 _ rfl
        rw [Nat.mul_one, Nat.add_zero] at hcg0
        have HX := hid hx
        obtain ⟨k, hk⟩ : ∃ k, kOf x = k := ⟨_, rfl⟩
        have HK := hid hk
        have hw1 : IntKind.i64.wrap (x : Int) = (x : Int) := by rw [IntKind.wrap_i64]; have := XB.out; omega
        have hw2 : Hid (1 + (x : Int) % 20000 = (k : Int)) := hid (by rw [← hk]; unfold kOf; omega)
        obtain ⟨C, hC⟩ : ∃ C, cnt k = C := ⟨_, rfl⟩
        have HC := hid hC
        have CB : Hid (1 ≤ C ∧ C ≤ 40 ∧ 1 ≤ k ∧ k ≤ 20000) := hid (by have h1 := cnt_kOf x; have h2 := kOf_le x; rw [hk] at h1 h2; rw [hC] at h1; omega)
        obtain ⟨n, hn⟩ : ∃ n, nOf (xs.take j) = n := ⟨_, rfl⟩
        have HNN := hid hn
        have NB2 : Hid (1 ≤ n ∧ n ≤ 481) := hid (by
          have h1 := nOf_pos (xs.take j)
          have h2 := nOf_le (xs.take j)
          rw [List.length_take] at h2
          have := KB.out
          rw [hn] at h1 h2
          omega)
        rw [hn] at iv
        have IV := iv
        clear hcg hx hk hC hn iv
        go_wp2_with fail
        rw [hw2.out]
        refine (bytes10_calls wr k j (hid (by have := CB.out; omega)) (hid (by have := KB.out; omega))).mono ?_
        rintro en w4 ⟨A2, c2, rfl, h2⟩
        rw [bytesV_len]
        have BL : Hid ((bytesV k j).length = k) := hid (bytesV_len _ _)
        obtain ⟨bs, hbs⟩ : ∃ bs, bytesV k j = bs := ⟨_, rfl⟩
        rw [hbs] at h2 BL
        have HBS := hid hbs
        have I4 := hid (IV.out.grow h2.out.2)
        obtain ⟨U4, hU4, hB4⟩ := I4.out.heap
        have HB4 := hid hB4
        have HU4 := hid hU4
        clear hbs hU4 hB4 IV hcg0
        have WC := write_calls w4 X n (fun _ => 0) U4 HU4 bs A2 c2 wr.heap.size k (hid h2.out.1) (hid ⟨BL.out, CB.out.2.2⟩) (hid (by rw [HC.out]; have := NB2.out; have := CB.out; omega))
        clear h2
        go_wp2_with fail
        refine WC.mono ?_
        clear WC
        rintro en w5 ⟨rfl, h5⟩
        rw [BL.out, HC.out] at h5
        obtain ⟨U5, q1, q2, q3, q4⟩ := h5.out
        have HJ1 : Hid (nOf (xs.take (j + 1)) = n + C) := hid (by rw [nOf_next HX.out, HNN.out, HK.out, HC.out])
        have BU : Hid (BackU xs (j + 1) U5) := hid (HB4.out.next HX.out (fun p hp => q3 p (by rw [HNN.out] at hp; exact hp)) (by rw [HNN.out, HK.out, HBS.out]; exact q2))
        have I5 := hid (I4.out.write q1 BU.out q4)
        have HU5 := hid q1
        have CO : Hid (ChainOk (n + C) [] U5 (n + 1) k C bs) := hid ⟨q2, BL.out, CB.out.2.2, HC.out, by have := NB2.out; omega, by omega, fun p _ _ => by simp [allT]⟩
        clear h5 q1 q2 q3 q4 I4 HU4 HB4
        obtain ⟨s, hs⟩ : ∃ s, n + 1 = s := ⟨_, rfl⟩
        rw [hs] at CO ⊢
        have HS := hid hs
        have PC := pagesC_calls w5 X (n + C) [] (fun _ => 0) U5 s k C bs HU5 (hid (by have := NB2.out; have := CB.out; omega)) CO
        clear hs
        go_wp2_with fail
        refine PC.mono ?_
        clear PC
        rintro en w6 ⟨A6, m6, c6, rfl, h6⟩
        have I6 := hid (I5.out.grow h6.out.2.2)
        have hm6 := h6.out.1
        rw [pgL_len] at hm6
        obtain rfl := hm6.symm
        clear hm6
        have OP := hid h6.out.2.1
        have CC : Hid (∀ W, Calls Tryz.prog 36 #[.int .i64 k] W fun en w' => en = .returned (.int .i64 C) ∧ w' = W) := hid (fun W => by
          have := count_calls W k (hid (by have := CB.out; omega))
          rw [HC.out] at this
          exact this)
        obtain ⟨gp, gq, hA6, hcp⟩ : ∃ gb go, A6 = some ⟨gb, go, none⟩ ∧ w6.cell? ⟨gb, go, none⟩ = some (.int .i64 (s : Int)) := by
          obtain ⟨b, off, e, hc⟩ := (Rd.own OP.out) 0 (natCell (s + 0)) (by rw [List.getElem?_map, pgL_at (by have := CB.out; omega)]; rfl)
          exact ⟨b, off, e, hc⟩
        subst hA6
        have hC0 : 0 < C := CB.out.1
        have hC1 : ¬ (C : Int) = 0 := by omega
        clear h6 I5
        go_wp2_with (go_at_call 36; refine (CC.out _).mono ?_; rintro e w' ⟨rfl, hw⟩; obtain rfl := hw.symm)
        clear hcp
        go_loopw [102] (fun tv wr2 => ∃ t : Nat, t ≤ C ∧ tv = .int .i64 t ∧ Hid (BackG w X mb xs (n + C) (j + 1) (n + t) j A1 c1 wr2 ∧ wr2.ownsRow w5.heap.size 3 1 (.slice (some ⟨gp, gq, none⟩) C c6) C ((pgL s C).map natCell))) (fun tv _ => C - (intOf tv).toNat)
        case' atStart => exact ⟨0, Nat.zero_le _, rfl, hid ⟨I6.out, OP.out⟩⟩
        case' round =>
          obtain ⟨t, ht, rfl, iv2⟩ := hrel
          by_cases htC : (t : Int) < (C : Int)
          · have TB : Hid (t < C) := hid (by omega)
            obtain ⟨z, hz⟩ : ∃ z, s + t = z := ⟨_, rfl⟩
            have ZB : Hid (n + 1 + t = z ∧ z < 100000) := hid (by have h1 := HS.out; have h2 := NB2.out; have h3 := CB.out; have h4 := TB.out; omega)
            have WF : Hid ((Lit.int .i64 (z : Int)).wf = true) := hid (wf_nat (by have := ZB.out; omega))
            have ZN : Hid (z ∉ List.range' 1 (n + t)) := hid (by rw [List.mem_range'_1]; have := ZB.out; omega)
            obtain ⟨b9, o9, e9, hc9⟩ := (Rd.own iv2.out.2) t (natCell z) (by rw [List.getElem?_map, pgL_at (by omega), hz]; rfl)
            injection e9 with e9
            injection e9 with e1 e2 _
            subst e1; subst e2
            unfold natCell at hc9
            have LK := iv2.out.1.set.look WF.out
            rw [decide_eq_false ZN.out] at LK
            obtain ⟨w7, hupd, hs7, hg7⟩ := iv2.out.1.set.add WF.out ZN.out (by rw [List.length_range']; have := NB2.out; have := CB.out; omega)
            have S7 : SetM w7 mb (List.range' 1 (n + t + 1)) := by
              rw [List.range'_1_concat, show 1 + (n + t) = z by have := ZB.out; omega]
              exact hs7
            have f7 : Fr (fun k => k = mb) wr w7 := (Fr.of_grown hg7).mono (fun k e => Option.some.inj e)
            have REL : Hid (BackG w X mb xs (n + C) (j + 1) (n + (t + 1)) j A1 c1 w7 ∧ w7.ownsRow w5.heap.size 3 1 (.slice (some ⟨gp, gq, none⟩) C c6) C ((pgL s C).map natCell)) := hid ⟨iv2.out.1.add hg7 S7, f7.own iv2.out.2 (fun k hk e => by
              obtain ⟨cs, fr, e3⟩ := own_obj iv2.out.2 hk
              obtain ⟨es, cl, e4⟩ := iv2.out.1.set.isMap
              rw [e, e4] at e3; cases e3)⟩
            have W1 : Hid (wrap64 ((t : Int) + 1) = ((t + 1 : Nat) : Int)) := hid (by have := TB.out; have := CB.out; unfold wrap64; omega)
            clear hz hs7 hg7 S7 f7 iv2
            go_wp2
            go_roundw
            case rel => exact ⟨t + 1, TB.out, by rw [W1.out], REL⟩
            case measure => rw [W1.out]; have := TB.out; simp only [intOf]; omega
          · obtain rfl : t = C := by omega
            have I8 := hid iv2.out.1
            have S8 : Hid (mb + 1 ≤ wr.heap.size) := hid I8.out.set.lt
            clear iv2
            go_wp2_with (at_builtin; refine hold ?_)
            refine hid (wl_append elemIN rfl (.tmp 112) (.tmp 114) rfl rfl (World.ownsRow.alloc I8.out.own _) rfl (Rd.new wr 3 (0, 0) [.int .i64 s]) rfl (by simp [Value.oneCell']) (by have := KB.out; simp only [maxLen]; omega) (by have := KB.out; omega) (by have := S8.out; simp; omega) ?_)
            intro A8 c8 w8 o8 g8 d8
            have REL : Hid (BackG w X mb xs (nOf (xs.take (j + 1))) (j + 1) (nOf (xs.take (j + 1))) (j + 1) A8 c8 w8) := hid (by
              rw [HJ1.out]
              exact I8.out.app g8 (by
                rw [stL_snoc, List.map_append, HNN.out, HS.out]
                exact o8))
            have W1 : Hid (wrap64 ((j : Int) + 1) = ((j + 1 : Nat) : Int)) := hid (by have := KB.out; unfold wrap64; omega)
            clear o8 g8 d8
            go_wp2
            go_roundw
            case rel => exact ⟨j + 1, A8, c8, by have := KB.out; omega, by first | rw [W1.out] | rfl, rfl, REL⟩
            case measure => (first | rw [W1.out] | skip); have := KB.out; simp only [intOf]; omega
      · obtain rfl : N = j := by omega
        obtain ⟨W, hW⟩ : ∃ W : Nat, wh.tmod (N : Int) = (W : Int) := ⟨(wh % (N : Int)).toNat, by rw [Int.tmod_eq_emod_of_nonneg hwh.out.1]; have := Int.emod_nonneg wh (show (N : Int) ≠ 0 by have := NB.out; omega); omega⟩
        have WB : Hid (W < N) := hid (by
          have h1 := Int.emod_lt_of_pos wh (show (0 : Int) < (N : Int) by have := NB.out; omega)
          rw [← Int.tmod_eq_emod_of_nonneg hwh.out.1, hW] at h1
          omega)
        have hu1 : IntKind.u64.wrap (N : Int) = (N : Int) := by have := NB.out; simp [IntKind.wrap, IntKind.signed, IntKind.bits]; omega
        have hu2 : IntKind.u64.wrap (W : Int) = (W : Int) := by have := NB.out; have := WB.out; simp [IntKind.wrap, IntKind.signed, IntKind.bits]; omega
        have hu3 : IntKind.i64.wrap (W : Int) = (W : Int) := by rw [IntKind.wrap_i64]; have := NB.out; have := WB.out; omega
        have hWN : W < N := WB.out
        have IV := iv
        obtain ⟨x, hx⟩ : ∃ x, xs[W]? = some x := ⟨_, List.getElem?_eq_getElem (by have := HN.out; omega)⟩
        have XB : Hid (x < 65536) := hid (hq.out x (List.mem_of_getElem? hx))
        obtain ⟨gb, go, hA, hcg⟩ := (hb.out.grown iv.out.up).row (f := u16Cell) (k := 1) (fun _ => rfl) hx (by decide)
        subst hA
        have hcg0 := hcg 0 _ rfl
        rw [Nat.mul_one, Nat.add_zero] at hcg0
        have HX := hid hx
        obtain ⟨k, hk⟩ : ∃ k, kOf x = k := ⟨_, rfl⟩
        have HK := hid hk
        have hw1 : IntKind.i64.wrap (x : Int) = (x : Int) := by rw [IntKind.wrap_i64]; have := XB.out; omega
        have hw2 : Hid (1 + (x : Int) % 20000 = (k : Int)) := hid (by rw [← hk]; unfold kOf; omega)
        obtain ⟨n, hn⟩ : ∃ n, nOf (xs.take N) = n := ⟨_, rfl⟩
        have HNN := hid hn
        obtain ⟨s, hs⟩ : ∃ s, nOf (xs.take W) + 1 = s := ⟨_, rfl⟩
        have HS := hid hs
        obtain ⟨ga, gc, hA1, hat⟩ : ∃ gb go, A1 = some ⟨gb, go, none⟩ ∧ wr.cell? ⟨gb, go + W, none⟩ = some (.int .i64 (s : Int)) := by
          obtain ⟨b, off, e, hc⟩ := (Rd.own iv.out.own) W (natCell s) (by rw [List.getElem?_map, stL_at hWN, hs]; rfl)
          exact ⟨b, off, e, hc⟩
        subst hA1
        obtain ⟨U, hU, hBU⟩ := iv.out.heap
        rw [hn] at hU
        have HU := hid hU
        have HBU := hid hBU
        have CO : Hid (ChainOk n [] U s k (cnt k) (bytesV k W)) := hid (by
          have := hBU.ok hWN hx (T := []) (fun p _ _ => by simp [allT])
          rw [hn, hs, hk] at this
          exact this)
        obtain ⟨C, hC⟩ : ∃ C, cnt k = C := ⟨_, rfl⟩
        have HC := hid hC
        rw [hC] at CO
        have N4 : Hid (n ≤ 4000) := hid (by
          have h2 := nOf_le (xs.take N)
          rw [List.length_take] at h2
          have := NB.out
          omega)
        have AP : Hid (∀ i y, i ≠ W → xs[i]? = some y → ∀ p, nOf (xs.take i) + 1 ≤ p → p < nOf (xs.take i) + 1 + cnt (kOf y) → p ∉ allT (givesV [] (pgL s C))) := hid (fun i y hiW hy p h1 h2 => by
          have := chains_apart hiW hy hx h1 h2
          rw [hs, hk, hC] at this
          exact this)
        clear iv hcg hx hk hn hs hU hBU hC
        go_wp2_with fail
        rw [hw2.out]
        refine (pagesC_calls wr X n [] (fun _ => 0) U s k C (bytesV k W) HU N4 CO).mono ?_
        rintro en w3 ⟨A3, m3, c3, rfl, h3⟩
        have hm3 := h3.out.1
        rw [pgL_len] at hm3
        obtain rfl := hm3.symm
        clear hm3
        have I3 := hid (IV.out.grow h3.out.2.2)
        have HU3 := hid (HU.out.up h3.out.2.2)
        have hat3 := (h3.out.2.2).c hat
        clear h3 hat hcg0 hu1 hu2 hu3
        go_wp2_with fail
        refine (freeC_calls w3 X n [] (fun _ => 0) U s k C (bytesV k W) HU3 N4 CO).mono ?_
        rintro en w4 ⟨rfl, h4⟩
        have I4 := hid (I3.out.own)
        have L3 := I3.out.low
        have U4 : Hid (Up w w4) := hid (Fr.ups I3.out.up h4.out.2 (fun q e => by rcases e with e | e <;> omega))
        have O4 := hid (h4.out.2.own I3.out.own (fun q hq e => by have := (own_block I3.out.own q hq).1; rcases e with e | e <;> omega))
        have HU4 := hid h4.out.1
        obtain ⟨T, hT⟩ : ∃ T, givesV [] (pgL s C) = T := ⟨_, rfl⟩
        have TL : Hid ((allT T).length = C) := hid (by rw [← hT, givesV_len, pgL_len]; show 0 + C = C; omega)
        rw [hT] at HU4 AP
        clear h4 I4 L3 hat3 hT
        go_wp2_with fail
        refine (allH_calls w4 X n T (fun _ => 0) U HU4 N4).mono ?_
        rintro en w5 ⟨A5, c5, k5, rfl, h5⟩
        have hk5 : k5 = C := h5.out.1.trans TL.out
        have U5 := hid h5.out.2.2
        subst hk5
        clear h5
        go_wp2
        go_loopw [164] (fun i wr => ∃ j : Nat, j ≤ N ∧ i = .int .i64 j ∧ Hid (Up w5 wr)) (fun i _ => N - (intOf i).toNat)
        case' atStart => exact ⟨0, Nat.zero_le _, rfl, hid (Up.refl _)⟩
        case' round =>
          obtain ⟨j, hj, rfl, u6⟩ := hrel
          by_cases hjN : (j : Int) < (N : Int)
          · have JN : Hid (j < N) := hid (by omega)
            obtain ⟨y, hy⟩ : ∃ y, xs[j]? = some y := ⟨_, List.getElem?_eq_getElem (by have := HN.out; omega)⟩
            have YB : Hid (y < 65536) := hid (hq.out y (List.mem_of_getElem? hy))
            have U46 := hid (U5.out.t u6.out)
            obtain ⟨gb', go', hA, hcg⟩ := (hb.out.grown (U4.out.t U46.out)).row (f := u16Cell) (k := 1) (fun _ => rfl) hy (by decide)
            injection hA with hA
            injection hA with e1 e2 _
            subst e1; subst e2
            have hcg0 := hcg 0 _ rfl
            rw [Nat.mul_one, Nat.add_zero] at hcg0
            have W1 : Hid (wrap64 ((j : Int) + 1) = ((j + 1 : Nat) : Int)) := hid (by have := JN.out; have := NB.out; unfold wrap64; omega)
            by_cases hjW : j = W
            · subst hjW
              have U6 := hid u6.out
              clear hcg hy
              go_wp2
              go_roundw
              case rel => exact ⟨j + 1, JN.out, by first | rw [W1.out] | rfl, U6⟩
              case measure => (first | rw [W1.out] | skip); have := JN.out; simp only [intOf]; omega
            · have hjWi : ¬ (j : Int) = (W : Int) := by omega
              obtain ⟨ky, hky⟩ : ∃ ky, kOf y = ky := ⟨_, rfl⟩
              have hv1 : IntKind.i64.wrap (y : Int) = (y : Int) := by rw [IntKind.wrap_i64]; have := YB.out; omega
              have hv2 : Hid (1 + (y : Int) % 20000 = (ky : Int)) := hid (by rw [← hky]; unfold kOf; omega)
              have KYB : Hid (1 ≤ ky ∧ ky ≤ 20000) := hid (by rw [← hky]; exact kOf_le y)
              obtain ⟨sy, hsy⟩ : ∃ sy, nOf (xs.take j) + 1 = sy := ⟨_, rfl⟩
              have COY : Hid (ChainOk n T U sy ky (cnt ky) (bytesV ky j)) := hid (by
                have := HBU.out.ok JN.out hy (T := T) (AP.out j y hjW hy)
                rw [HNN.out, hsy, hky] at this
                exact this)
              obtain ⟨ga', gc', hA1, hat⟩ : ∃ gb go, (some ⟨ga, gc, none⟩ : Option Addr) = some ⟨gb, go, none⟩ ∧ wr.cell? ⟨gb, go + j, none⟩ = some (.int .i64 (sy : Int)) := by
                obtain ⟨b, off, e, hc⟩ := ((Rd.own O4.out).grown U46.out) j (natCell sy) (by rw [List.getElem?_map, stL_at JN.out, hsy]; rfl)
                exact ⟨b, off, e, hc⟩
              injection hA1 with hA1
              injection hA1 with e1 e2 _
              subst e1; subst e2
              have HU6 := hid (HU4.out.up U46.out)
              clear hcg hy hky hsy
              go_wp2_with fail
              rw [hv2.out]
              refine (readC_calls wr X n T (fun _ => 0) U sy ky (cnt ky) (bytesV ky j) HU6 N4 COY).mono ?_
              rintro en w7 ⟨A7, c7, rfl, h7⟩
              have B7 := hid h7.out.1
              have U7 := hid (u6.out.t h7.out.2)
              have BYL : Hid ((bytesV ky j).length = ky) := hid (bytesV_len _ _)
              have BR : Hid (∀ W', Calls Tryz.prog 34 #[.int .i64 ky, .int .i64 j] W' (BytesRet W' (bytesV ky j))) := hid (fun W' => bytes10_calls W' ky j (hid (by have := KYB.out; omega)) (hid (by have := JN.out; have := NB.out; omega)))
              obtain ⟨bs, hbs⟩ : ∃ bs, bytesV ky j = bs := ⟨_, rfl⟩
              rw [hbs] at B7 BYL BR
              clear h7 hat hcg0 hbs
              go_wp2
              have B7d := hid (B7.out.grown (Up.drew w7))
              refine any_start (by kernel_rfl) ?_
              refine any_take 0 (some 186) (v := ?_) rfl rfl (by kernel_rfl) (by kernel_rfl) (by kernel_rfl) (fun _ _ _ h => h) (by rfl) (fun w9 hS => ?_) ?_
              rotate_left
              · go_simp <;> with_reducible rfl
              try simp only [Act.put, List.setIfInBounds_toArray, List.set_cons_zero, List.set_cons_succ]
              refine any_take 1 (some 187) (v := ?_) rfl rfl (by kernel_rfl) (by kernel_rfl) (by kernel_rfl) (fun _ _ _ h => h) (by rfl) (fun w9 hS => ?_) ?_
              rotate_left
              · go_simp <;> with_reducible rfl
              try simp only [Act.put, List.setIfInBounds_toArray, List.set_cons_zero, List.set_cons_succ]
              refine any_take 2 (some 188) (v := ?_) rfl rfl (by kernel_rfl) (by kernel_rfl) (by kernel_rfl) (fun _ _ _ h => h) (by rfl) (fun w9 hS => ?_) ?_
              rotate_left
              · go_simp <;> with_reducible rfl
              try simp only [Act.put, List.setIfInBounds_toArray, List.set_cons_zero, List.set_cons_succ]
              refine any_take 3 (some 189) (v := ?_) rfl rfl (by kernel_rfl) (by kernel_rfl) (by kernel_rfl) (fun _ _ _ h => h) (by rfl) (fun w9 hS => ?_) ?_
              rotate_left
              · go_simp <;> with_reducible rfl
              try simp only [Act.put, List.setIfInBounds_toArray, List.set_cons_zero, List.set_cons_succ]
              refine any_take 5 (some 191) (v := ?_) rfl rfl (by kernel_rfl) (by kernel_rfl) (by kernel_rfl) (fun _ _ _ h => h) (by rfl) (fun w9 hS => ?_) ?_
              rotate_left
              · go_simp <;> with_reducible rfl
              try simp only [Act.put, List.setIfInBounds_toArray, List.set_cons_zero, List.set_cons_succ]
              refine any_take 6 (some 192) (v := ?_) rfl rfl (by kernel_rfl) (by kernel_rfl) (by kernel_rfl) (fun _ _ _ h => h) (by rfl) (fun w9 hS => ?_) ?_
              rotate_left
              · go_simp <;> with_reducible rfl
              try simp only [Act.put, List.setIfInBounds_toArray, List.set_cons_zero, List.set_cons_succ]
              refine any_take 4 (some 190) (v := ?_) rfl rfl (by kernel_rfl) (by kernel_rfl) (by kernel_rfl) (fun _ _ _ h => h) (by rfl) (fun w9 hS => ?_) ?_
              rotate_left
              · have ev := conv_n w9 (c := c7) BYL (hid (by have := KYB.out; omega)) (hid (B7d.out.grown hS)); go_simp <;> with_reducible rfl
              try simp only [Act.put, List.setIfInBounds_toArray, List.set_cons_zero, List.set_cons_succ]
              refine any_call 7 (by kernel_rfl) rfl (by rfl) (fun K9 hK9 => ?_)
              go_simp
              go_at_call 34
              refine (BR.out _).mono ?_
              rintro e w8 ⟨A8, c8, rfl, h8⟩
              rw [BYL.out]
              have u8 : Up _ w8 := h8.out.2
              have B8 : Hid (Bytes w8 A8 bs) := hid (Rd.own h8.out.1).bytes
              have U8 := hid ((U7.out.t (Up.drew w7)).t u8)
              refine hK9.out _ _ u8 ?_
              clear u8 h8
              clear hK9 K9
              try simp only [Act.put, List.setIfInBounds_toArray, List.set_cons_zero, List.set_cons_succ]
              refine any_take 8 (some 194) (v := ?_) rfl rfl (by kernel_rfl) (by kernel_rfl) (by kernel_rfl) (fun _ _ _ h => h) (by rfl) (fun w9 hS => ?_) ?_
              rotate_left
              · have ev := conv_n w9 (c := c8) BYL (hid (by have := KYB.out; omega)) (hid (B8.out.grown hS)); go_simp <;> with_reducible rfl
              try simp only [Act.put, List.setIfInBounds_toArray, List.set_cons_zero, List.set_cons_succ]
              refine any_take 9 (some 195) (v := ?_) rfl rfl (by kernel_rfl) (by kernel_rfl) (by kernel_rfl) (fun _ _ _ h => h) (by rfl) (fun w9 hS => ?_) ?_
              rotate_left
              · go_simp <;> with_reducible rfl
              try simp only [Act.put, List.setIfInBounds_toArray, List.set_cons_zero, List.set_cons_succ]
              refine any_take 10 (some 196) (v := ?_) rfl rfl (by kernel_rfl) (by kernel_rfl) (by kernel_rfl) (fun _ _ _ h => h) (by rfl) (fun w9 hS => ?_) ?_
              rotate_left
              · go_simp <;> with_reducible rfl
              try simp only [Act.put, List.setIfInBounds_toArray, List.set_cons_zero, List.set_cons_succ]
              refine any_done (by kernel_rfl) ?_
              have eS := str_eq bs
              first | (rename_i K1 h1; refine h1 _ _ ?_; clear h1 K1) | skip
              go_wp2
              go_roundw
              case rel => exact ⟨j + 1, JN.out, by first | rw [W1.out] | rfl, U8⟩
              case measure => (first | rw [W1.out] | skip); have := JN.out; simp only [intOf]; omega
          · obtain rfl : N = j := by omega
            have UF : Hid (Up w wr) := hid (U4.out.t (U5.out.t u6.out))
            clear u6
            go_wp2_with (go_at_call 38; refine (lives10_calls wr).mono ?_; rintro en w9 ⟨rfl, hw⟩; obtain rfl := hw.symm)
            go_ret
            exact ⟨rfl, UF.out⟩
end Go.Proofs.YtbcghggkfnagoaaGreatDoor
