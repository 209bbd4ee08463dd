/- THE WALK of SpillWrong: fewer bytes of as many pages. THE WALK of SpillWrong. -/
import Derived.Test.YtbcghggkfnagoaaGreatDoorSch8
import Derived.Test.YtbcghggkfnagoaaGreatDoorSch10
set_option linter.unusedVariables false
set_option linter.unusedSimpArgs false
namespace Go.Proofs.YtbcghggkfnagoaaGreatDoor
open Go Go.RowKit Go.Maps Hach

set_option maxRecDepth 100000 in
set_option maxHeartbeats 4000000 in
theorem spillWrongE (w : World) (a0 : Int) (h0 : Hid (0 ≤ a0 ∧ a0 < 65536)) (ask page : Int) (hyp : Hid (1 ≤ ask ∧ ask ≤ 20000 ∧ cnt ask.toNat = cnt (1 + a0 % 3000).toNat ∧ ask < ((1 + a0 % 3000).toNat : Int))) : Calls Tryz.prog 5 #[.int .u16 a0, .int .i64 ask, .int .i64 page] w fun en w' => en = .returned (.bool true) ∧ Below w.heap.size w w' := by
  obtain ⟨K, hK, hKB1, hKB2, hKv⟩ : ∃ K : Nat, wrap64 (1 + a0.tmod 3000) = (K : Int) ∧ 1 ≤ K ∧ K ≤ 3000 ∧ K = (1 + a0 % 3000).toNat := ⟨(1 + a0 % 3000).toNat, by rw [Int.tmod_eq_emod_of_nonneg h0.out.1]; have := h0.out; unfold wrap64; omega, by have := h0.out; omega, by have := h0.out; omega, rfl⟩
  have hK' : IntKind.i64.wrap a0 = a0 := by rw [IntKind.wrap_i64]; have := h0.out; omega
  have KB := hid (And.intro hKB1 hKB2)
  rw [← hKv] at hyp
  clear hKB1 hKB2 hKv
  go_enter Tryz.func5, Tryz.ntmps5
  go_wp2_with (first | (go_at_call 32; refine (fresh10_calls w).mono ?_; rintro en w1 ⟨X, rfl, h1⟩))
  have B1 := (bytes10_calls w1 K 1 (hid (by have := KB.out; omega)) (hid (by decide)))
  refine B1.mono ?_
  clear B1
  rintro en w2 ⟨A2, c2, rfl, h2⟩
  rw [bytesV_len]
  obtain ⟨xs, hxs⟩ : ∃ xs, bytesV K 1 = xs := ⟨_, rfl⟩
  rw [hxs] at h2
  have XL : Hid (xs.length = K) := hid (by rw [← hxs]; exact bytesV_len _ _)
  have HXS := hid hxs
  obtain ⟨C, hC⟩ : ∃ C, cnt K = C := ⟨_, rfl⟩
  have HC := hid hC
  have CB : Hid (1 ≤ C ∧ C ≤ 6) := hid (by rw [← hC]; have := KB.out; unfold cnt; omega)
  have HW2 := hid (h1.out.1.up h2.out.2)
  clear hxs hC
  go_wp2_with fail
  refine (write_calls w2 X 1 (fun _ => 0) (fun _ => []) HW2 xs A2 c2 w1.heap.size K (hid h2.out.1) (hid ⟨XL.out, by have := KB.out; omega⟩) (hid (by rw [HC.out]; have := CB.out; omega))).mono ?_
  rintro en w3 ⟨rfl, h3⟩
  rw [XL.out, HC.out] at h3
  obtain ⟨U3, hw3, hc3, _, hf3⟩ := h3.out
  obtain ⟨n, hn⟩ : ∃ n, 1 + C = n := ⟨_, rfl⟩
  rw [hn] at hw3
  have HN := hid hn
  have HW3 := hid hw3
  have UP3 : Hid (Up w w3) := hid (by
    have u2 := h1.out.2.1.t h2.out.2
    exact u2.trans (hf3.below u2.size (fun k hk e => by have := h1.out.2.2; rcases e with e | e <;> omega)))
  have FA : Hid (∀ B : Nat → List UInt8, (∀ i, 2 ≤ i → i ≤ n → i ∉ allT [] → B i = U3 i) → (readV n B 2 ask).2 = (if ask < 1 ∨ 20000 < ask then 2 else if cnt ask.toNat ≠ C then 9 else if (K : Int) ≤ ask then 0 else if (xs.drop ask.toNat).any nz = true then 9 else 0) ∧
      (0 < (readV n B 2 ask).1.length ↔ (readV n B 2 ask).2 = 0)) := hid (fun B hB => by
    have hch : Chained B 2 xs := hc3.agree (fun i h1 h2 => hB i h1 (by rw [XL.out, HC.out] at h2; omega) (by simp [allT]))
    have := readV_ask hch (n := n) (by decide) (by rw [XL.out, HC.out]; omega) (by have := CB.out; omega) (by rw [XL.out]; exact KB.out.1) ask
    rw [XL.out, HC.out] at this
    exact this)
  have CCK : Hid (∀ W, Calls Tryz.prog 36 #[.int .i64 K] W fun en w' => en = .returned (.int .i64 C) ∧ w' = W) := hid (fun W => by
    have := count_calls W K (hid (by have := KB.out; omega))
    rw [HC.out] at this
    exact this)
  have NB : Hid (n ≤ 7 ∧ 2 ≤ n) := hid (by have := CB.out; omega)
  have RD := readH_calls w3 X n [] (fun _ => 0) U3 HW3 (hid (by have := NB.out; omega)) 2 ask
  clear h1 h2 h3 hw3 hc3 hf3 hn hK hK'
  have RD := hid RD
  go_wp2_with fail
  by_cases ha1 : ask < 1 ∨ 20000 < ask
  · exact absurd hyp.out (by omega)
  · obtain ⟨a, rfl⟩ : ∃ a : Nat, ask = (a : Int) := ⟨ask.toNat, by omega⟩
    have AB : Hid (1 ≤ a ∧ a ≤ 20000) := hid (by omega)
    have a1 : ¬ (a : Int) < 1 := by omega
    have a2 : ¬ (20000 : Int) < (a : Int) := by omega
    obtain ⟨Ca, hCa⟩ : ∃ Ca, cnt a = Ca := ⟨_, rfl⟩
    have CCA : Hid (∀ W, Calls Tryz.prog 36 #[.int .i64 a] W fun en w' => en = .returned (.int .i64 Ca) ∧ w' = W) := hid (fun W => by
      have := count_calls W a (hid (by have := AB.out; omega))
      rw [hCa] at this
      exact this)
    replace FA : Hid (∀ B : Nat → List UInt8, (∀ i, 2 ≤ i → i ≤ n → i ∉ allT [] → B i = U3 i) → (readV n B 2 a).2 = (if Ca ≠ C then 9 else if (K : Int) ≤ a then 0 else if (xs.drop a).any nz = true then 9 else 0) ∧
      (0 < (readV n B 2 a).1.length ↔ (readV n B 2 a).2 = 0)) := hid (fun B hB => by
      have := FA.out B hB
      rw [if_neg ha1, Int.toNat_natCast, hCa] at this
      exact this)
    have HCa := hid hCa
    clear ha1 hCa
    by_cases hcn : Ca = C
    · subst hcn
      by_cases hle : (K : Int) ≤ (a : Int)
      · exact absurd hyp.out.2.2.2 (by omega)
      · have hlt : a < K := by omega
        obtain ⟨y, hy⟩ : ∃ y, xs.drop a = y := ⟨_, rfl⟩
        rw [hy] at FA
        have HY := hid hy
        obtain ⟨M, hM⟩ : ∃ M, K - a = M := ⟨_, rfl⟩
        have HM := hid hM
        have YL : Hid (y.length = M) := hid (by rw [← hy, List.length_drop, XL.out]; exact hM)
        cases han : y.any nz
        case' false => have FW : Hid (∀ B : Nat → List UInt8, (∀ i, 2 ≤ i → i ≤ n → i ∉ allT [] → B i = U3 i) → (readV n B 2 a).2 = 0 ∧ 0 < (readV n B 2 a).1.length) := hid (fun B hB => by
          have F := FA.out B hB
          rw [if_neg (fun h => h rfl), if_neg hle, han, if_neg (by decide)] at F
          exact ⟨F.1, F.2.2 F.1⟩)
        case' true => have FW : Hid (∀ B : Nat → List UInt8, (∀ i, 2 ≤ i → i ≤ n → i ∉ allT [] → B i = U3 i) → (readV n B 2 a).2 = 9 ∧ (readV n B 2 a).1.length = 0) := hid (fun B hB => by
          have F := FA.out B hB
          rw [if_neg (fun h => h rfl), if_neg hle, han, if_pos rfl] at F
          refine ⟨F.1, ?_⟩
          rcases Nat.eq_zero_or_pos (readV n B 2 a).1.length with e | e
          · exact e
          · rw [F.1] at F; exact absurd (F.2.1 e) (by decide))
        all_goals
          refine RD.out.mono ?_
          rintro en w4 ⟨B4, hB4, A4, m4, c4, rfl, hr4⟩
          obtain ⟨f4, l4⟩ := FW.out B4 hB4
          rw [← hr4.out.1] at l4
          rw [f4]
          have UP4 := hid (UP3.out.t hr4.out.2.2)
          have HW4 := hid (HW3.out.up hr4.out.2.2)
          have HAN := hid han
          clear hr4 f4 hB4 hy hM
          have l4i : (m4 : Int) = 0 ∨ (0 : Int) < (m4 : Int) := by omega
          clear RD FA FW han
          go_wp2_with (first
            | (go_at_call 36; first | (refine (CCA.out _).mono ?_; rintro e w' ⟨rfl, hw⟩; obtain rfl := hw.symm) | (refine (CCK.out _).mono ?_; rintro e w' ⟨rfl, hw⟩; obtain rfl := hw.symm)))
          refine (bytes10_calls w4 K 1 (hid (by have := KB.out; omega)) (hid (by decide))).mono ?_
          rintro en w4b ⟨A6, c6, rfl, h6⟩
          rw [bytesV_len]
          replace UP4 := hid (UP4.out.t h6.out.2)
          replace HW4 := hid (HW4.out.up h6.out.2)
          have o6 := h6.out.1
          unfold OwnB at o6
          rw [HXS.out, XL.out] at o6
          obtain ⟨⟨g6, hA6⟩, hc6⟩ := own_addr o6 (by have := KB.out; omega)
          subst hA6
          have hac : ¬ c6 = a := by omega
          have hak : a ≤ K := by omega
          have RY : Hid (Rd w4b (some ⟨g6, a, none⟩) (y.map byteCell)) := hid (by
            have := (Rd.own o6).drop a
            rw [Nat.zero_add, ← List.map_drop, HY.out] at this
            exact this)
          clear h6 o6
          go_wp2
          rw [HM.out]
          go_loopw [85, 15] (fun i b wr => ∃ j : Nat, j ≤ M ∧ i = .int .i64 j ∧ b = .bool (!((y.take j).any nz)) ∧ wr = w4b) (fun i _ _ => M - (intOf i).toNat)
          case' atStart => exact ⟨0, Nat.zero_le _, rfl, rfl, by first | rfl | trivial⟩
          case' round =>
            obtain ⟨j, hj, rfl, rfl, hwr⟩ := hrel
            obtain rfl := hwr.symm
            clear hwr
            by_cases hjM : (j : Int) < (M : Int)
            · have hjy : j < y.length := by have := YL.out; omega
              obtain ⟨x, hx⟩ : ∃ x, y[j]? = some x := ⟨_, List.getElem?_eq_getElem hjy⟩
              obtain ⟨b9, o9, e9, hc9⟩ := RY.out j (byteCell x) (by rw [List.getElem?_map, hx]; rfl)
              injection e9 with e9
              injection e9 with e1 e2 _
              subst e1; subst e2
              unfold byteCell at hc9
              have W1 : Hid (wrap64 ((j : Int) + 1) = ((j + 1 : Nat) : Int)) := hid (by have := HM.out; have := KB.out; unfold wrap64; omega)
              have JM : Hid (j + 1 ≤ M) := hid (by omega)
              have ST : Hid ((!((y.take (j + 1)).any nz)) = ((!((y.take j).any nz)) && !(nz x))) := hid (by
                rw [take_next hx, List.any_append, List.any_cons, List.any_nil, Bool.or_false, Bool.not_or])
              have hx0 : decide (n8 x = 0) = !(nz x) := by
                unfold n8 nz
                by_cases e : x = 0
                · subst e; rfl
                · have : ¬ ((x.toNat : Int) = 0) := fun h => e (UInt8.toNat.inj (by rw [Int.natCast_eq_zero.1 h]; rfl))
                  rw [decide_eq_false this, decide_eq_true e]; rfl
              obtain ⟨bl, hbl⟩ : ∃ bl, (!((y.take j).any nz)) = bl := ⟨_, rfl⟩
              obtain ⟨bx, hbx⟩ : ∃ bx, (!(nz x)) = bx := ⟨_, rfl⟩
              rw [hbl, hbx] at ST
              rw [hbx] at hx0
              rw [hbl]
              have X0 : n8 x = 0 ∧ bx = true ∨ ¬ n8 x = 0 ∧ bx = false := by
                by_cases e : n8 x = 0
                · rw [decide_eq_true e] at hx0; exact .inl ⟨e, hx0.symm⟩
                · rw [decide_eq_false e] at hx0; exact .inr ⟨e, hx0.symm⟩
              clear hx hbl hbx hx0 hjy
              have X0 := hid X0
              cases bl
              · go_wp2
                go_roundw
                case rel => exact ⟨j + 1, JM.out, by rw [W1.out], by rw [ST.out]; rfl, trivial⟩
                case measure => rw [W1.out]; have := JM.out; simp only [intOf]; omega
              · rcases X0.out with ⟨e, rfl⟩ | ⟨e, rfl⟩
                · go_wp2
                  go_roundw
                  case rel => exact ⟨j + 1, JM.out, by rw [W1.out], by rw [ST.out]; first | rfl | (simp [e]; done), trivial⟩
                  case measure => rw [W1.out]; have := JM.out; simp only [intOf]; omega
                · go_wp2
                  go_roundw
                  case rel => exact ⟨j + 1, JM.out, by rw [W1.out], by rw [ST.out]; first | rfl | (simp [e]; done), trivial⟩
                  case measure => rw [W1.out]; have := JM.out; simp only [intOf]; omega
            · obtain rfl : j = M := by omega
              rw [List.take_of_length_le (by rw [YL.out]; exact Nat.le_refl _), HAN.out]
              go_wp2_with (go_at_call 35; with_reducible refine hold ?_)
              all_goals
                refine hid ?_
                have R2 := readH_calls w4b X n [] (fun _ => 0) U3 HW4 (hid (by have := NB.out; omega)) page 600
                refine R2.mono ?_
                clear R2
                rintro en w5 ⟨B5, _, A5, m5, c5, rfl, hr5⟩
                have UP5 := hid (UP4.out.t hr5.out.2.2)
                have HW5 := hid (HW4.out.up hr5.out.2.2)
                have G5 : Hid (page < 2 ∨ (n : Int) < page → (readV n B5 page 600).2 = 9) := hid (fun h => readV_bad (k := 600) h (by decide))
                clear hr5
                obtain ⟨g5, hg5⟩ : ∃ g, (readV n B5 page 600).2 = g := ⟨_, rfl⟩
                rw [hg5] at G5 ⊢
                clear hg5
                have HPG : ∀ W, Up w5 W → Calls Tryz.prog 37 #[.pointer (some ⟨X.h, 0, none⟩)] W fun en w' => en = .returned (.pointer (some ⟨X.p, 0, none⟩)) ∧ w' = W := fun W hu => by
                  obtain ⟨L, hp, _⟩ := HW5.out
                  exact hpager_calls W X.h X.p X.t X.m X.q X.mv X.last n L (hid (hp.up hu))
                have HPG := hid HPG
                by_cases hbad : page < 2 ∨ (n : Int) < page
                case' pos =>
                  have g9 := G5.out hbad
                  subst g9
                  clear hbad G5
                case' neg =>
                  have hb1 : ¬ page < 2 := fun e => hbad (.inl e)
                  have hb2 : ¬ (n : Int) < page := fun e => hbad (.inr e)
                  clear hbad G5
                all_goals
                  go_wp2_with (first
                    | (go_at_call 37; refine (HPG.out _ (Up.refl _)).mono ?_; rintro e w' ⟨rfl, hw⟩; obtain rfl := hw.symm)
                    | (go_at_call 18; refine (hpagesW_calls _ X n [] (fun _ => 0) U3 HW5).mono ?_; rintro e w' ⟨rfl, hw⟩; obtain rfl := hw.symm)
                    | (go_at_call 33; with_reducible refine hold ?_))
                  all_goals
                    refine hid ((writeNo_calls w5 X n [] (fun _ => 0) U3 HW5 none 0 0 (hid (.inl (by decide)))).mono ?_)
                    rintro en w6 ⟨rfl, u6⟩
                    have UP6 := hid (UP5.out.t u6)
                    have HW6 := hid (HW5.out.up u6)
                    clear u6
                    go_wp2_with (at_make; refine hold ?_)
                    refine hid (wl_make elemB rfl (.const (.int .i64 20001)) (.const (.int .i64 20001)) rfl w6.heap.size 20001 rfl rfl rfl rfl (by decide) (by decide) (Nat.le_refl _) ?_)
                    intro w7 o7 b7 z7
                    have UP7 := hid (UP6.out.t b7)
                    have WN := hid (writeNo_calls w7 X n [] (fun _ => 0) U3 (hid (HW6.out.up b7)) (some ⟨w6.heap.size, 0, none⟩) 20001 20001 (hid (.inr (by decide))))
                    clear o7 b7 z7
                    go_wp2_with (first
                      | (go_at_call 33; refine WN.out.mono ?_; rintro en w8 ⟨rfl, u8⟩; have UP8 := hid (UP7.out.t u8); clear u8)
                      | (go_at_call 38; refine (lives10_calls _).mono ?_; rintro en w9 ⟨rfl, hw⟩; obtain rfl := hw.symm))
                    go_ret
                    exact ⟨rfl, UP8.out⟩
    · exact absurd hyp.out.2.2.1 (by rw [Int.toNat_natCast, HCa.out, HC.out]; exact hcn)
end Go.Proofs.YtbcghggkfnagoaaGreatDoor

namespace Go.Proofs.YtbcghggkfnagoaaGreatDoor
open Go Go.RowKit Go.Maps Hach

theorem spillWrong_walk (w : World) (a0 : Int) (h0 : Hid (0 ≤ a0 ∧ a0 < 65536)) (ask page : Int) : Calls Tryz.prog 5 #[.int .u16 a0, .int .i64 ask, .int .i64 page] w fun en w' => en = .returned (.bool true) ∧ Below w.heap.size w w' := by
  by_cases h : 1 ≤ ask ∧ ask ≤ 20000 ∧ cnt ask.toNat = cnt (1 + a0 % 3000).toNat ∧ ask < ((1 + a0 % 3000).toNat : Int)
  · exact spillWrongE w a0 h0 ask page (hid h)
  · exact spillWrongA w a0 h0 ask page (hid h)
end Go.Proofs.YtbcghggkfnagoaaGreatDoor
