/- THE WALK of SpillWrong, but for fewer bytes of as many pages. -/
import Derived.Test.YtbcghggkfnagoaaGreatDoorSch8
set_option linter.unusedVariables false
set_option linter.unusedSimpArgs false
namespace Go.Proofs.YtbcghggkfnagoaaGreatDoor
open Go Go.RowKit Go.Maps Hach

set_option maxRecDepth 100000 in
set_option maxHeartbeats 4000000 in
theorem spillWrongA (w : World) (a0 : Int) (h0 : Hid (0 ≤ a0 ∧ a0 < 65536)) (ask page : Int) (hyp : Hid (¬ (1 ≤ ask ∧ ask ≤ 20000 ∧ cnt ask.toNat = cnt (1 + a0 % 3000).toNat ∧ ask < ((1 + a0 % 3000).toNat : Int)))) : Calls Tryz.prog 5 #[.int .u16 a0, .int .i64 ask, .int .i64 page] w fun en w' => en = .returned (.bool true) ∧ Below w.heap.size w w' := by
  obtain ⟨K, hK, hKB1, hKB2, hKv⟩ : ∃ K : Nat, wrap64 (1 + a0.tmod 3000) = (K : Int) ∧ 1 ≤ K ∧ K ≤ 3000 ∧ K = (1 + a0 % 3000).toNat := ⟨(1 + a0 % 3000).toNat, by rw [Int.tmod_eq_emod_of_nonneg h0.out.1]; have := h0.out; unfold wrap64; omega, by have := h0.out; omega, by have := h0.out; omega, rfl⟩
  have hK' : IntKind.i64.wrap a0 = a0 := by rw [IntKind.wrap_i64]; have := h0.out; omega
  have KB := hid (And.intro hKB1 hKB2)
  rw [← hKv] at hyp
  clear hKB1 hKB2 hKv
  go_enter Tryz.func5, Tryz.ntmps5
  go_wp2_with (first | (go_at_call 32; refine (fresh10_calls w).mono ?_; rintro en w1 ⟨X, rfl, h1⟩))
  have B1 := (bytes10_calls w1 K 1 (hid (by have := KB.out; omega)) (hid (by decide)))
  refine B1.mono ?_
  clear B1
  rintro en w2 ⟨A2, c2, rfl, h2⟩
  rw [bytesV_len]
  obtain ⟨xs, hxs⟩ : ∃ xs, bytesV K 1 = xs := ⟨_, rfl⟩
  rw [hxs] at h2
  have XL : Hid (xs.length = K) := hid (by rw [← hxs]; exact bytesV_len _ _)
  have HXS := hid hxs
  obtain ⟨C, hC⟩ : ∃ C, cnt K = C := ⟨_, rfl⟩
  have HC := hid hC
  have CB : Hid (1 ≤ C ∧ C ≤ 6) := hid (by rw [← hC]; have := KB.out; unfold cnt; omega)
  have HW2 := hid (h1.out.1.up h2.out.2)
  clear hxs hC
  go_wp2_with fail
  refine (write_calls w2 X 1 (fun _ => 0) (fun _ => []) HW2 xs A2 c2 w1.heap.size K (hid h2.out.1) (hid ⟨XL.out, by have := KB.out; omega⟩) (hid (by rw [HC.out]; have := CB.out; omega))).mono ?_
  rintro en w3 ⟨rfl, h3⟩
  rw [XL.out, HC.out] at h3
  obtain ⟨U3, hw3, hc3, _, hf3⟩ := h3.out
  obtain ⟨n, hn⟩ : ∃ n, 1 + C = n := ⟨_, rfl⟩
  rw [hn] at hw3
  have HN := hid hn
  have HW3 := hid hw3
  have UP3 : Hid (Up w w3) := hid (by
    have u2 := h1.out.2.1.t h2.out.2
    exact u2.trans (hf3.below u2.size (fun k hk e => by have := h1.out.2.2; rcases e with e | e <;> omega)))
  have FA : Hid (∀ B : Nat → List UInt8, (∀ i, 2 ≤ i → i ≤ n → i ∉ allT [] → B i = U3 i) → (readV n B 2 ask).2 = (if ask < 1 ∨ 20000 < ask then 2 else if cnt ask.toNat ≠ C then 9 else if (K : Int) ≤ ask then 0 else if (xs.drop ask.toNat).any nz = true then 9 else 0) ∧
      (0 < (readV n B 2 ask).1.length ↔ (readV n B 2 ask).2 = 0)) := hid (fun B hB => by
    have hch : Chained B 2 xs := hc3.agree (fun i h1 h2 => hB i h1 (by rw [XL.out, HC.out] at h2; omega) (by simp [allT]))
    have := readV_ask hch (n := n) (by decide) (by rw [XL.out, HC.out]; omega) (by have := CB.out; omega) (by rw [XL.out]; exact KB.out.1) ask
    rw [XL.out, HC.out] at this
    exact this)
  have CCK : Hid (∀ W, Calls Tryz.prog 36 #[.int .i64 K] W fun en w' => en = .returned (.int .i64 C) ∧ w' = W) := hid (fun W => by
    have := count_calls W K (hid (by have := KB.out; omega))
    rw [HC.out] at this
    exact this)
  have NB : Hid (n ≤ 7 ∧ 2 ≤ n) := hid (by have := CB.out; omega)
  have RD := readH_calls w3 X n [] (fun _ => 0) U3 HW3 (hid (by have := NB.out; omega)) 2 ask
  clear h1 h2 h3 hw3 hc3 hf3 hn hK hK'
  have RD := hid RD
  go_wp2_with fail
  by_cases ha1 : ask < 1 ∨ 20000 < ask
  · have HA := hid ha1
    refine RD.out.mono ?_
    rintro en w4 ⟨B4, hB4, A4, m4, c4, rfl, hr4⟩
    have F4 := FA.out B4 hB4
    have hf4 : (readV n B4 2 ask).2 = 2 := by rw [F4.1]; exact if_pos ha1
    have hm4 : m4 = 0 := by rw [hr4.out.1]; have h9 := F4.2; rw [hf4] at h9; rcases Nat.eq_zero_or_pos (readV n B4 2 ask).1.length with e | e; exact e; exact absurd (h9.1 e) (by decide)
    rw [hf4]
    have UP4 := hid (UP3.out.t hr4.out.2.2)
    have HW4 := hid (HW3.out.up hr4.out.2.2)
    clear hr4 F4 hf4 hB4
    subst hm4
    clear RD FA
    go_wp2_with (go_at_call 36; first | (refine (CCK.out _).mono ?_; rintro e w' ⟨rfl, hw⟩; obtain rfl := hw.symm) | (refine (CCA.out _).mono ?_; rintro e w' ⟨rfl, hw⟩; obtain rfl := hw.symm))
    all_goals
      have R2 := readH_calls w4 X n [] (fun _ => 0) U3 HW4 (hid (by have := NB.out; omega)) page 600
      refine R2.mono ?_
      clear R2
      rintro en w5 ⟨B5, _, A5, m5, c5, rfl, hr5⟩
      have UP5 := hid (UP4.out.t hr5.out.2.2)
      have HW5 := hid (HW4.out.up hr5.out.2.2)
      have G5 : Hid (page < 2 ∨ (n : Int) < page → (readV n B5 page 600).2 = 9) := hid (fun h => readV_bad (k := 600) h (by decide))
      clear hr5
      obtain ⟨g5, hg5⟩ : ∃ g, (readV n B5 page 600).2 = g := ⟨_, rfl⟩
      rw [hg5] at G5 ⊢
      clear hg5
      have HPG : ∀ W, Up w5 W → Calls Tryz.prog 37 #[.pointer (some ⟨X.h, 0, none⟩)] W fun en w' => en = .returned (.pointer (some ⟨X.p, 0, none⟩)) ∧ w' = W := fun W hu => by
        obtain ⟨L, hp, _⟩ := HW5.out
        exact hpager_calls W X.h X.p X.t X.m X.q X.mv X.last n L (hid (hp.up hu))
      have HPG := hid HPG
      by_cases hbad : page < 2 ∨ (n : Int) < page
      case' pos =>
        have g9 := G5.out hbad
        subst g9
        clear hbad G5
      case' neg =>
        have hb1 : ¬ page < 2 := fun e => hbad (.inl e)
        have hb2 : ¬ (n : Int) < page := fun e => hbad (.inr e)
        clear hbad G5
      all_goals
        go_wp2_with (first
          | (go_at_call 37; refine (HPG.out _ (Up.refl _)).mono ?_; rintro e w' ⟨rfl, hw⟩; obtain rfl := hw.symm)
          | (go_at_call 18; refine (hpagesW_calls _ X n [] (fun _ => 0) U3 HW5).mono ?_; rintro e w' ⟨rfl, hw⟩; obtain rfl := hw.symm)
          | (go_at_call 33; with_reducible refine hold ?_))
        all_goals
          refine hid ((writeNo_calls w5 X n [] (fun _ => 0) U3 HW5 none 0 0 (hid (.inl (by decide)))).mono ?_)
          rintro en w6 ⟨rfl, u6⟩
          have UP6 := hid (UP5.out.t u6)
          have HW6 := hid (HW5.out.up u6)
          clear u6
          go_wp2_with (at_make; refine hold ?_)
          refine hid (wl_make elemB rfl (.const (.int .i64 20001)) (.const (.int .i64 20001)) rfl w6.heap.size 20001 rfl rfl rfl rfl (by decide) (by decide) (Nat.le_refl _) ?_)
          intro w7 o7 b7 z7
          have UP7 := hid (UP6.out.t b7)
          have WN := hid (writeNo_calls w7 X n [] (fun _ => 0) U3 (hid (HW6.out.up b7)) (some ⟨w6.heap.size, 0, none⟩) 20001 20001 (hid (.inr (by decide))))
          clear o7 b7 z7
          go_wp2_with (first
            | (go_at_call 33; refine WN.out.mono ?_; rintro en w8 ⟨rfl, u8⟩; have UP8 := hid (UP7.out.t u8); clear u8)
            | (go_at_call 38; refine (lives10_calls _).mono ?_; rintro en w9 ⟨rfl, hw⟩; obtain rfl := hw.symm))
          go_ret
          exact ⟨rfl, UP8.out⟩
  · obtain ⟨a, rfl⟩ : ∃ a : Nat, ask = (a : Int) := ⟨ask.toNat, by omega⟩
    have AB : Hid (1 ≤ a ∧ a ≤ 20000) := hid (by omega)
    have a1 : ¬ (a : Int) < 1 := by omega
    have a2 : ¬ (20000 : Int) < (a : Int) := by omega
    obtain ⟨Ca, hCa⟩ : ∃ Ca, cnt a = Ca := ⟨_, rfl⟩
    have CCA : Hid (∀ W, Calls Tryz.prog 36 #[.int .i64 a] W fun en w' => en = .returned (.int .i64 Ca) ∧ w' = W) := hid (fun W => by
      have := count_calls W a (hid (by have := AB.out; omega))
      rw [hCa] at this
      exact this)
    replace FA : Hid (∀ B : Nat → List UInt8, (∀ i, 2 ≤ i → i ≤ n → i ∉ allT [] → B i = U3 i) → (readV n B 2 a).2 = (if Ca ≠ C then 9 else if (K : Int) ≤ a then 0 else if (xs.drop a).any nz = true then 9 else 0) ∧
      (0 < (readV n B 2 a).1.length ↔ (readV n B 2 a).2 = 0)) := hid (fun B hB => by
      have := FA.out B hB
      rw [if_neg ha1, Int.toNat_natCast, hCa] at this
      exact this)
    have HCa := hid hCa
    clear ha1 hCa
    by_cases hcn : Ca = C
    · subst hcn
      by_cases hle : (K : Int) ≤ (a : Int)
      · have hle2 : ¬ (a : Int) < (K : Int) := by omega
        refine RD.out.mono ?_
        rintro en w4 ⟨B4, hB4, A4, m4, c4, rfl, hr4⟩
        have F4 := FA.out B4 hB4
        have hf4 : (readV n B4 2 a).2 = 0 := by rw [F4.1]; rw [if_neg (fun h => h rfl), if_pos hle]
        have hm4 : 0 < m4 := by rw [hr4.out.1]; have h9 := F4.2; rw [hf4] at h9; exact h9.2 rfl
        rw [hf4]
        have UP4 := hid (UP3.out.t hr4.out.2.2)
        have HW4 := hid (HW3.out.up hr4.out.2.2)
        clear hr4 F4 hf4 hB4
        have hm4i : (0 : Int) < (m4 : Int) := by omega
        clear RD FA
        go_wp2_with (go_at_call 36; first | (refine (CCA.out _).mono ?_; rintro e w' ⟨rfl, hw⟩; obtain rfl := hw.symm) | (refine (CCK.out _).mono ?_; rintro e w' ⟨rfl, hw⟩; obtain rfl := hw.symm))
        all_goals
          have R2 := readH_calls w4 X n [] (fun _ => 0) U3 HW4 (hid (by have := NB.out; omega)) page 600
          refine R2.mono ?_
          clear R2
          rintro en w5 ⟨B5, _, A5, m5, c5, rfl, hr5⟩
          have UP5 := hid (UP4.out.t hr5.out.2.2)
          have HW5 := hid (HW4.out.up hr5.out.2.2)
          have G5 : Hid (page < 2 ∨ (n : Int) < page → (readV n B5 page 600).2 = 9) := hid (fun h => readV_bad (k := 600) h (by decide))
          clear hr5
          obtain ⟨g5, hg5⟩ : ∃ g, (readV n B5 page 600).2 = g := ⟨_, rfl⟩
          rw [hg5] at G5 ⊢
          clear hg5
          have HPG : ∀ W, Up w5 W → Calls Tryz.prog 37 #[.pointer (some ⟨X.h, 0, none⟩)] W fun en w' => en = .returned (.pointer (some ⟨X.p, 0, none⟩)) ∧ w' = W := fun W hu => by
            obtain ⟨L, hp, _⟩ := HW5.out
            exact hpager_calls W X.h X.p X.t X.m X.q X.mv X.last n L (hid (hp.up hu))
          have HPG := hid HPG
          by_cases hbad : page < 2 ∨ (n : Int) < page
          case' pos =>
            have g9 := G5.out hbad
            subst g9
            clear hbad G5
          case' neg =>
            have hb1 : ¬ page < 2 := fun e => hbad (.inl e)
            have hb2 : ¬ (n : Int) < page := fun e => hbad (.inr e)
            clear hbad G5
          all_goals
            go_wp2_with (first
              | (go_at_call 37; refine (HPG.out _ (Up.refl _)).mono ?_; rintro e w' ⟨rfl, hw⟩; obtain rfl := hw.symm)
              | (go_at_call 18; refine (hpagesW_calls _ X n [] (fun _ => 0) U3 HW5).mono ?_; rintro e w' ⟨rfl, hw⟩; obtain rfl := hw.symm)
              | (go_at_call 33; with_reducible refine hold ?_))
            all_goals
              refine hid ((writeNo_calls w5 X n [] (fun _ => 0) U3 HW5 none 0 0 (hid (.inl (by decide)))).mono ?_)
              rintro en w6 ⟨rfl, u6⟩
              have UP6 := hid (UP5.out.t u6)
              have HW6 := hid (HW5.out.up u6)
              clear u6
              go_wp2_with (at_make; refine hold ?_)
              refine hid (wl_make elemB rfl (.const (.int .i64 20001)) (.const (.int .i64 20001)) rfl w6.heap.size 20001 rfl rfl rfl rfl (by decide) (by decide) (Nat.le_refl _) ?_)
              intro w7 o7 b7 z7
              have UP7 := hid (UP6.out.t b7)
              have WN := hid (writeNo_calls w7 X n [] (fun _ => 0) U3 (hid (HW6.out.up b7)) (some ⟨w6.heap.size, 0, none⟩) 20001 20001 (hid (.inr (by decide))))
              clear o7 b7 z7
              go_wp2_with (first
                | (go_at_call 33; refine WN.out.mono ?_; rintro en w8 ⟨rfl, u8⟩; have UP8 := hid (UP7.out.t u8); clear u8)
                | (go_at_call 38; refine (lives10_calls _).mono ?_; rintro en w9 ⟨rfl, hw⟩; obtain rfl := hw.symm))
              go_ret
              exact ⟨rfl, UP8.out⟩
      · exact absurd ⟨by omega, by omega, by rw [Int.toNat_natCast, HCa.out, HC.out], by omega⟩ hyp.out
    · skip
      refine RD.out.mono ?_
      rintro en w4 ⟨B4, hB4, A4, m4, c4, rfl, hr4⟩
      have F4 := FA.out B4 hB4
      have hf4 : (readV n B4 2 a).2 = 9 := by rw [F4.1]; exact if_pos hcn
      have hm4 : m4 = 0 := by rw [hr4.out.1]; have h9 := F4.2; rw [hf4] at h9; rcases Nat.eq_zero_or_pos (readV n B4 2 a).1.length with e | e; exact e; exact absurd (h9.1 e) (by decide)
      rw [hf4]
      have UP4 := hid (UP3.out.t hr4.out.2.2)
      have HW4 := hid (HW3.out.up hr4.out.2.2)
      clear hr4 F4 hf4 hB4
      subst hm4
      have hcni : ¬ (Ca : Int) = (C : Int) := by omega
      clear RD FA
      go_wp2_with (go_at_call 36; first | (refine (CCA.out _).mono ?_; rintro e w' ⟨rfl, hw⟩; obtain rfl := hw.symm) | (refine (CCK.out _).mono ?_; rintro e w' ⟨rfl, hw⟩; obtain rfl := hw.symm))
      all_goals
        have R2 := readH_calls w4 X n [] (fun _ => 0) U3 HW4 (hid (by have := NB.out; omega)) page 600
        refine R2.mono ?_
        clear R2
        rintro en w5 ⟨B5, _, A5, m5, c5, rfl, hr5⟩
        have UP5 := hid (UP4.out.t hr5.out.2.2)
        have HW5 := hid (HW4.out.up hr5.out.2.2)
        have G5 : Hid (page < 2 ∨ (n : Int) < page → (readV n B5 page 600).2 = 9) := hid (fun h => readV_bad (k := 600) h (by decide))
        clear hr5
        obtain ⟨g5, hg5⟩ : ∃ g, (readV n B5 page 600).2 = g := ⟨_, rfl⟩
        rw [hg5] at G5 ⊢
        clear hg5
        have HPG : ∀ W, Up w5 W → Calls Tryz.prog 37 #[.pointer (some ⟨X.h, 0, none⟩)] W fun en w' => en = .returned (.pointer (some ⟨X.p, 0, none⟩)) ∧ w' = W := fun W hu => by
          obtain ⟨L, hp, _⟩ := HW5.out
          exact hpager_calls W X.h X.p X.t X.m X.q X.mv X.last n L (hid (hp.up hu))
        have HPG := hid HPG
        by_cases hbad : page < 2 ∨ (n : Int) < page
        case' pos =>
          have g9 := G5.out hbad
          subst g9
          clear hbad G5
        case' neg =>
          have hb1 : ¬ page < 2 := fun e => hbad (.inl e)
          have hb2 : ¬ (n : Int) < page := fun e => hbad (.inr e)
          clear hbad G5
        all_goals
          go_wp2_with (first
            | (go_at_call 37; refine (HPG.out _ (Up.refl _)).mono ?_; rintro e w' ⟨rfl, hw⟩; obtain rfl := hw.symm)
            | (go_at_call 18; refine (hpagesW_calls _ X n [] (fun _ => 0) U3 HW5).mono ?_; rintro e w' ⟨rfl, hw⟩; obtain rfl := hw.symm)
            | (go_at_call 33; with_reducible refine hold ?_))
          all_goals
            refine hid ((writeNo_calls w5 X n [] (fun _ => 0) U3 HW5 none 0 0 (hid (.inl (by decide)))).mono ?_)
            rintro en w6 ⟨rfl, u6⟩
            have UP6 := hid (UP5.out.t u6)
            have HW6 := hid (HW5.out.up u6)
            clear u6
            go_wp2_with (at_make; refine hold ?_)
            refine hid (wl_make elemB rfl (.const (.int .i64 20001)) (.const (.int .i64 20001)) rfl w6.heap.size 20001 rfl rfl rfl rfl (by decide) (by decide) (Nat.le_refl _) ?_)
            intro w7 o7 b7 z7
            have UP7 := hid (UP6.out.t b7)
            have WN := hid (writeNo_calls w7 X n [] (fun _ => 0) U3 (hid (HW6.out.up b7)) (some ⟨w6.heap.size, 0, none⟩) 20001 20001 (hid (.inr (by decide))))
            clear o7 b7 z7
            go_wp2_with (first
              | (go_at_call 33; refine WN.out.mono ?_; rintro en w8 ⟨rfl, u8⟩; have UP8 := hid (UP7.out.t u8); clear u8)
              | (go_at_call 38; refine (lives10_calls _).mono ?_; rintro en w9 ⟨rfl, hw⟩; obtain rfl := hw.symm))
            go_ret
            exact ⟨rfl, UP8.out⟩
end Go.Proofs.YtbcghggkfnagoaaGreatDoor
