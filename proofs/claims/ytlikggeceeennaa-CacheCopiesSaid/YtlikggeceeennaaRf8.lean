/- THE WALK of the document's Dirt. -/
import Derived.Test.YtlikggeceeennaaRf5
import Derived.Test.YtlikggeceeennaaCac24
import Derived.Deep.LoopGhost
set_option linter.unusedVariables false
set_option linter.unusedSimpArgs false
namespace Go.Proofs.Ytlikggeceeennaa
open Go Go.RowKit Hach

theorem rising_unique {L M : List Int} (h : L.Pairwise (· ≤ ·)) (hp : L.Perm M) : L = rising M := by
  unfold rising
  have tr : ∀ a b c : Int, decide (a ≤ b) = true → decide (b ≤ c) = true → decide (a ≤ c) = true := fun a b c h1 h2 => by simp only [decide_eq_true_eq] at *; omega
  have to : ∀ a b : Int, (decide (a ≤ b) || decide (b ≤ a)) = true := fun a b => by simp only [Bool.or_eq_true, decide_eq_true_eq]; omega
  refine List.Perm.eq_of_pairwise (le := fun a b => decide (a ≤ b) = true) (fun a b _ _ h1 h2 => ?_) (h.imp (fun h => decide_eq_true h)) (List.pairwise_mergeSort tr to M) (hp.trans (List.mergeSort_perm M _).symm)
  simp only [decide_eq_true_eq] at h1 h2
  omega
/-- A number set into its place. -/
theorem ins_sorted {L : List Int} {j : Nat} {p : Int} (hL : L.Pairwise (· ≤ ·)) (hj : j ≤ L.length) (h1 : ∀ y ∈ L.drop j, p < y) (h2 : j = 0 ∨ ∃ y, L[j - 1]? = some y ∧ y ≤ p) : (L.take j ++ [p] ++ L.drop j).Pairwise (· ≤ ·) := by
  have hLL := hL
  rw [← List.take_append_drop j L, List.pairwise_append] at hL
  obtain ⟨a, b, c⟩ := hL
  have hle : ∀ y ∈ L.take j, y ≤ p := by
    intro y hy
    rcases h2 with rfl | ⟨z, hz, hzp⟩
    · simp at hy
    · obtain ⟨i, hi, rfl⟩ := List.getElem_of_mem hy
      rw [List.length_take] at hi
      rw [List.getElem_take]
      have hz2 : j - 1 < L.length := (List.getElem?_eq_some_iff.1 hz).1
      rw [List.getElem?_eq_getElem hz2] at hz
      injection hz with hz
      by_cases e : i = j - 1
      · subst e; rw [hz]; exact hzp
      · have := List.pairwise_iff_getElem.1 hLL i (j - 1) (by omega) hz2 (by omega)
        omega
  rw [List.append_assoc, List.pairwise_append]
  refine ⟨a, ?_, ?_⟩
  · rw [List.singleton_append, List.pairwise_cons]
    exact ⟨fun y hy => Int.le_of_lt (h1 y hy), b⟩
  · intro y hy z hz
    rcases List.mem_append.1 hz with hz | hz
    · rw [List.mem_singleton.1 hz]; exact hle y hy
    · exact c y hy z hz
theorem ins_perm {L : List Int} {j : Nat} {p : Int} : (L.take j ++ [p] ++ L.drop j).Perm (L ++ [p]) := by
  rw [List.append_assoc]
  refine (List.perm_middle (l₁ := L.take j) (l₂ := L.drop j) (a := p)).trans ?_
  rw [List.take_append_drop]
  exact List.perm_append_comm (l₁ := [p]) (l₂ := L)

def dirtyR (x : RowR) : Bool := x.dirty
def DirtI (w wr : World) (R : List RowR) (k m : Nat) (A : Option Addr) (c : Nat) : Prop :=
  ∃ L : List Int, Up w wr ∧ m = L.length ∧ m ≤ k ∧ wr.ownsRow w.heap.size 3 1 (.slice A m c) m (L.map intCell) ∧ L.Pairwise (· ≤ ·) ∧ L.Perm (((R.take k).filter dirtyR).map RowR.page)
/-- The shifting: from j on all are greater; place j is free. -/
def ShiftI (w wi : World) (L : List Int) (p : Int) (j m g c rb : Nat) (cs : Array Value) : Prop :=
  ∃ hh, Up w wi ∧ wi.ownsRow w.heap.size 3 1 (.slice (some ⟨g, 0, none⟩) (m + 1) c) (m + 1) ((L.take j ++ [hh] ++ L.drop j).map intCell) ∧ (∀ y ∈ L.drop j, p < y) ∧ wi.heap[rb]? = some (.cells cs 174 (0, 0))

set_option maxRecDepth 100000 in
set_option maxHeartbeats 2000000 in
theorem rdirt_calls (w : World) (base b : Nat) (room hit miss : Int) (V : List Vis) (h : Hid (RefM w base b room hit miss V)) (hl : Hid (V.length < 1000000)) :
    Calls Try.prog 92 #[ptr b] w (IntsRet w (rising (dirtyOf V))) := by
  obtain ⟨A, c, R, h1, rfl⟩ := h.out
  have ed : dirtyOf (R.map visR) = (R.filter dirtyR).map RowR.page := by unfold dirtyOf; rw [List.filter_map, List.map_map]; rfl
  rw [ed]
  have H1 := hid h1
  have c1 := h1.c1
  obtain ⟨n, hn⟩ : ∃ n, R.length = n := ⟨_, rfl⟩
  rw [hn] at c1
  have HN := hid hn
  have HL : Hid (n < 1000000) := hid (by rw [← hn]; have := hl.out; rwa [List.length_map] at this)
  clear h1 hn ed
  unfold ptr
  go_enter Try.func92, Try.ntmps92
  go_wp2
  clear c1
  go_loopw [3, 12] (fun o i wr => ∃ (k m : Nat) (A' : Option Addr) (c' : Nat), k ≤ n ∧ o = .slice A' m c' ∧ i = .int .i64 k ∧ Hid (DirtI w wr R k m A' c')) (fun _ i _ => n - (intOf i).toNat)
  case atStart => exact ⟨0, 0, none, 0, by omega, rfl, rfl, hid ⟨[], Up.refl w, rfl, Nat.le_refl _, own_nil _ _ _ _, List.Pairwise.nil, by simp⟩⟩
  case round =>
    obtain ⟨k, m, A', c', hk, rfl, rfl, iv⟩ := hrel
    by_cases hlt : (k : Int) < n
    · have hkl : k < R.length := by have := HN.out; omega
      obtain ⟨L, u, hm, hmk, o, so, pe⟩ := iv.out
      obtain ⟨g, off, rfl, q0, q1, q2, q3⟩ := H1.out.at u hkl
      have ht : R.take (k + 1) = R.take k ++ [R[k]] := List.take_succ_eq_append_getElem hkl
      generalize R[k] = x at *
      have u1 : Up wr (wr.alloc (.cells #[.int .i64 x.page, .slice x.A 512 x.c, .int .i64 x.pins, .bool x.dirty] 174)) := (Below.refl _ _).alloc (Nat.le_refl _) _
      have HT := hid ht
      have HK := hid (And.intro hkl (And.intro hlt hmk))
      have HM := hid hm
      have HSP := hid (And.intro so pe)
      cases hd : x.dirty with
      | false =>
        rw [hd] at q3 u1
        have NI : Hid (DirtI w (wr.alloc (.cells #[.int .i64 x.page, .slice x.A 512 x.c, .int .i64 x.pins, .bool false] 174)) R (k + 1) m A' c') := by
          refine hid ⟨L, u.t u1, hm, by omega, Fr.own (Fr.of_below u1) o (fun _ _ => id), so, ?_⟩
          rw [ht, List.filter_append, List.filter_cons_of_neg (by unfold dirtyR; rw [hd]; decide)]
          simpa using pe
        clear iv u o ht hkl hm hmk u1 so pe hd
        go_wp2
        go_roundw
        case rel => exact ⟨k + 1, m, A', c', by have := HK.out.2; omega, rfl, (by have := HL.out; have := HK.out.2; rw [show wrap64 ((k : Int) + 1) = ((k + 1 : Nat) : Int) by unfold wrap64; omega]), NI⟩
        case measure => have := HL.out; have := HK.out.2; rw [show wrap64 ((k : Int) + 1) = ((k + 1 : Nat) : Int) by unfold wrap64; omega]; simp only [intOf]; omega
      | true =>
        rw [hd] at q3 u1
        have u2 : Up (wr.alloc (.cells #[.int .i64 x.page, .slice x.A 512 x.c, .int .i64 x.pins, .bool true] 174)) ((wr.alloc (.cells #[.int .i64 x.page, .slice x.A 512 x.c, .int .i64 x.pins, .bool true] 174)).alloc (.cells #[.int .i64 x.page] 3)) := (Below.refl _ _).alloc (Nat.le_refl _) _
        have HU := hid (And.intro (u.t u1) u2)
        have HO := hid (Fr.own (Fr.of_below (u1.t u2)) o (fun _ _ => id))
        have HRN := hid (show Rd ((wr.alloc (.cells #[.int .i64 x.page, .slice x.A 512 x.c, .int .i64 x.pins, .bool true] 174)).alloc (.cells #[.int .i64 x.page] 3)) (some ⟨wr.heap.size + 1, 0, none⟩) [.int .i64 x.page] from by
          have := Rd.new (wr.alloc (.cells #[.int .i64 x.page, .slice x.A 512 x.c, .int .i64 x.pins, .bool true] 174)) 3 (0, 0) [.int .i64 x.page]
          simpa using this)
        have KB := hid (show (wr.alloc (.cells #[.int .i64 x.page, .slice x.A 512 x.c, .int .i64 x.pins, .bool true] 174)).heap[wr.heap.size]? = some (.cells #[.int .i64 x.page, .slice x.A 512 x.c, .int .i64 x.pins, .bool true] 174 (0, 0)) from heap_alloc_new wr _)
        have HD := hid hd
        clear iv u o ht hkl hm hmk u1 u2 so pe hd
        go_wp2_with (at_builtin; refine hold ?_)
        refine hid (wl_append (news := [Value.int .i64 x.page]) elemI rfl (.tmp 21) (.tmp 24) rfl rfl HO.out rfl HRN.out rfl (by simp [Value.oneCell']) (by have := HL.out; have := HK.out; simp only [maxLen]; omega) (by have := HL.out; have := HK.out; omega) (Nat.le_trans HU.out.1.size HU.out.2.size) ?_)
        intro A2 k2 w2 o2 g2' d2'
        obtain ⟨g2, hg2⟩ : ∃ g2, A2 = some ⟨g2, 0, none⟩ := by
          rcases o2.2 with ⟨_, h0⟩ | ⟨gg, cap, cur, hv, _⟩
          · omega
          · injection hv with hv _ _; exact ⟨gg, hv⟩
        subst hg2
        have rb2 : w2.heap[wr.heap.size]? = some (.cells #[.int .i64 x.page, .slice x.A 512 x.c, .int .i64 x.pins, .bool true] 174 (0, 0)) := by
          have hk := (HU.out.2.block _ (Array.getElem?_eq_some_iff.1 KB.out).1).trans KB.out
          exact ((Fr.of_grown g2').block _ (Array.getElem?_eq_some_iff.1 hk).1 (fun e => own_ne HO.out hk (by decide) e.symm)).trans hk
        have ST : Hid (ShiftI w w2 L x.page m m g2 k2 wr.heap.size #[.int .i64 x.page, .slice x.A 512 x.c, .int .i64 x.pins, .bool true]) := by
          refine hid ⟨x.page, below_append (HU.out.1.t HU.out.2) (Nat.le_refl _) (HU.out.1.t HU.out.2).size HO.out g2', ?_, ?_, rb2⟩
          · rw [HM.out, List.take_length, List.drop_length, List.append_nil, ← HM.out, List.map_append]
            exact o2
          · rw [HM.out, List.drop_length]; simp
        clear o2 g2' d2' rb2 q0 q1 q2 q3 HRN HO HU KB
        generalize wr.heap.size = rb at *
        go_wp2
        go_loopw [6] (fun kk wi => ∃ j : Nat, j ≤ m ∧ kk = .int .i64 j ∧ Hid (ShiftI w wi L x.page j m g2 k2 rb #[.int .i64 x.page, .slice x.A 512 x.c, .int .i64 x.pins, .bool true])) (fun kk _ => (intOf kk).toNat)
        case atStart => exact ⟨m, Nat.le_refl _, rfl, ST⟩
        case round =>
          obtain ⟨j, hj, rfl, ih⟩ := hrel
          obtain ⟨hh, ui, oi, gt, kb⟩ := ih.out
          have hlen : L.length = m := HM.out.symm
          have HH := hid (And.intro ui (And.intro oi (And.intro gt kb)))
          have cj : wr.cell? ⟨g2, j, none⟩ = some (.int .i64 hh) := by
            rw [oi.cellAt j (by omega), List.getElem?_map, List.append_assoc, List.getElem?_append_right (by rw [List.length_take]; omega), List.length_take, show j - min j L.length = 0 by omega]
            rfl
          have fj := oi.frozenAt j
          have p0 := (show wr.cell? ⟨rb, 0, none⟩ = some (.int .i64 x.page) by unfold World.cell?; rw [show (⟨rb, 0, none⟩ : Addr).block = rb from rfl, kb]; rfl)
          have HP := hid (show ∀ w', Up wr w' → w'.cell? ⟨rb, 0, none⟩ = some (.int .i64 x.page) from fun w' u => u.c p0)
          have hgr : rb ≠ g2 := by
            rintro rfl
            rcases oi.2 with ⟨hv, _⟩ | ⟨gg, cap, cur, hv, _, hg, _⟩
            · cases hv
            · injection hv with hv _ _
              injection hv with hv
              injection hv with hv _ _
              subst hv
              rw [kb] at hg
              injection hg with hg; injection hg with _ hg _
              revert hg; decide
          by_cases hj0 : j = 0
          · have d1 : decide (0 < (j : Int)) = false := decide_eq_false (by omega)
            have d1b : decide (0 < j) = false := decide_eq_false (by omega)
            have HJ := hid hj0
            clear ih ui oi gt kb hj0 hlen
            go_wp2
            refine any_start (by kernel_rfl) ?_
            refine any_take 0 (some 26) (v := ?_) rfl rfl (by kernel_rfl) (by kernel_rfl) (by kernel_rfl) (fun _ _ _ h => h) (by rfl) (fun w9 hS => ?_) ?_
            rotate_left
            · go_simp <;> with_reducible rfl
            try simp only [Act.put, List.setIfInBounds_toArray, List.set_cons_zero, List.set_cons_succ]
            refine any_take 1 (some 27) (v := ?_) rfl rfl (by kernel_rfl) (by kernel_rfl) (by kernel_rfl) (fun _ _ _ h => h) (by rfl) (fun w9 hS => ?_) ?_
            rotate_left
            · go_simp <;> with_reducible rfl
            try simp only [Act.put, List.setIfInBounds_toArray, List.set_cons_zero, List.set_cons_succ]
            refine any_take 2 (some 28) (v := ?_) rfl rfl (by kernel_rfl) (by kernel_rfl) (by kernel_rfl) (fun _ _ _ h => h) (by rfl) (fun w9 hS => ?_) ?_
            rotate_left
            · go_simp <;> with_reducible rfl
            try simp only [Act.put, List.setIfInBounds_toArray, List.set_cons_zero, List.set_cons_succ]
            refine any_skip 3 (some 29) rfl rfl (by kernel_rfl) (by kernel_rfl) (by kernel_rfl) (fun _ _ _ h => h) (by rfl) ?_
            try simp only [Act.put, List.setIfInBounds_toArray, List.set_cons_zero, List.set_cons_succ]
            refine any_skip 4 (some 30) rfl rfl (by kernel_rfl) (by kernel_rfl) (by kernel_rfl) (fun _ _ _ h => h) (by rfl) ?_
            try simp only [Act.put, List.setIfInBounds_toArray, List.set_cons_zero, List.set_cons_succ]
            refine any_skip 5 (some 31) rfl rfl (by kernel_rfl) (by kernel_rfl) (by kernel_rfl) (fun _ _ _ h => h) (by rfl) ?_
            try simp only [Act.put, List.setIfInBounds_toArray, List.set_cons_zero, List.set_cons_succ]
            refine any_skip 6 (some 32) rfl rfl (by kernel_rfl) (by kernel_rfl) (by kernel_rfl) (fun _ _ _ h => h) (by rfl) ?_
            try simp only [Act.put, List.setIfInBounds_toArray, List.set_cons_zero, List.set_cons_succ]
            refine any_skip 7 (some 33) rfl rfl (by kernel_rfl) (by kernel_rfl) (by kernel_rfl) (fun _ _ _ h => h) (by rfl) ?_
            try simp only [Act.put, List.setIfInBounds_toArray, List.set_cons_zero, List.set_cons_succ]
            refine any_skip 8 (some 34) rfl rfl (by kernel_rfl) (by kernel_rfl) (by kernel_rfl) (fun _ _ _ h => h) (by rfl) ?_
            try simp only [Act.put, List.setIfInBounds_toArray, List.set_cons_zero, List.set_cons_succ]
            refine any_skip 9 (some 35) rfl rfl (by kernel_rfl) (by kernel_rfl) (by kernel_rfl) (fun _ _ _ h => h) (by rfl) ?_
            try simp only [Act.put, List.setIfInBounds_toArray, List.set_cons_zero, List.set_cons_succ]
            refine any_skip 10 (some 36) rfl rfl (by kernel_rfl) (by kernel_rfl) (by kernel_rfl) (fun _ _ _ h => h) (by rfl) ?_
            try simp only [Act.put, List.setIfInBounds_toArray, List.set_cons_zero, List.set_cons_succ]
            refine any_take 11 (some 37) (v := ?_) rfl rfl (by kernel_rfl) (by kernel_rfl) (by kernel_rfl) (fun _ _ _ h => h) (by rfl) (fun w9 hS => ?_) ?_
            rotate_left
            · go_simp <;> with_reducible rfl
            try simp only [Act.put, List.setIfInBounds_toArray, List.set_cons_zero, List.set_cons_succ]
            refine any_done (by kernel_rfl) ?_
            rename_i K1 h1
            refine h1 _ _ ?_
            clear h1 K1 d1 d1b
            have NI : Hid (DirtI w (wr.drew.setCell ⟨g2, j, none⟩ (.int .i64 x.page)) R (k + 1) (m + 1) (some ⟨g2, 0, none⟩) k2) := by
              obtain ⟨ui, oi, gt, kb⟩ := HH.out
              obtain ⟨os, _⟩ := oi.stored j (.int .i64 x.page)
              have hj2 : j ≤ L.length := by have := HM.out; omega
              have e : (((L.take j ++ [hh] ++ L.drop j).map intCell).set j (.int .i64 x.page)) = ((L.take j ++ [x.page] ++ L.drop j).map intCell) := by
                show List.set _ j (intCell x.page) = _
                rw [← List.map_set]
                congr 1
                rw [List.append_assoc, List.set_append_right _ _ (by rw [List.length_take]; omega), List.length_take, show j - min j L.length = 0 by omega, List.singleton_append, List.set_cons_zero, List.append_assoc]
                rfl
              rw [e] at os
              refine hid ⟨L.take j ++ [x.page] ++ L.drop j, Below.setCell (Below.drew ui) (p := ⟨g2, j, none⟩) ((own_block oi g2 rfl).1) _, ?_, by have := HK.out; omega, os, ins_sorted HSP.out.1 hj2 gt (.inl HJ.out), ?_⟩
              · rw [ins_perm.length_eq, List.length_append, ← HM.out]; rfl
              · refine ins_perm.trans ?_
                rw [HT.out, List.filter_append, List.filter_cons_of_pos (show dirtyR x = true from HD.out), List.map_append]
                exact List.Perm.append_right _ HSP.out.2
            clear HH
            go_wp2
            go_roundw
            case rel => exact ⟨k + 1, m + 1, _, k2, by have := HK.out.2; omega, rfl, (by have := HL.out; have := HK.out.2; rw [show wrap64 ((k : Int) + 1) = ((k + 1 : Nat) : Int) by unfold wrap64; omega]), NI⟩
            case measure => have := HL.out; have := HK.out.2; rw [show wrap64 ((k : Int) + 1) = ((k + 1 : Nat) : Int) by unfold wrap64; omega]; simp only [intOf]; omega
          · obtain ⟨i, hi⟩ : ∃ i, j = i + 1 := ⟨j - 1, by omega⟩
            have hil : i < L.length := by omega
            have hw : IntKind.i64.wrap ((j : Int) - 1) = (i : Int) := by rw [IntKind.wrap_i64]; have := HL.out; have := HK.out; omega
            have ci : wr.cell? ⟨g2, i, none⟩ = some (.int .i64 (L[i]?.getD 0)) := by
              rw [oi.cellAt i (by omega), List.getElem?_map, List.append_assoc, List.getElem?_append_left (by rw [List.length_take]; omega), List.getElem?_take, if_pos (by omega), List.getElem?_eq_getElem hil]
              rfl
            have HC := hid (show ∀ w', Up wr w' → w'.cell? ⟨g2, i, none⟩ = some (.int .i64 (L[i]?.getD 0)) from fun w' u => u.c ci)
            have b0 : (0 : Int) ≤ (i : Int) := by omega
            have b1 : (i : Int) < (m : Int) + 1 := by omega
            have b2 : (0 : Int) ≤ (j : Int) := by omega
            have b3 : (j : Int) < (m : Int) + 1 := by omega
            have b4 : i < m + 1 := by omega
            have b5 : j < m + 1 := by omega
            have d1 : decide (0 < (j : Int)) = true := decide_eq_true (by omega)
            have d1b : decide (0 < j) = true := decide_eq_true (by omega)
            have d0 : (0 : Int) < (j : Int) := by omega
            by_cases hc : x.page < L[i]?.getD 0
            · have d2 : decide (x.page < L[i]?.getD 0) = true := decide_eq_true hc
              have HJ := hid (And.intro hi (And.intro hil hc))
              clear ih ui oi gt kb hj0 hlen hi hil hc
              go_wp2
              refine any_start (by kernel_rfl) ?_
              refine any_take 0 (some 26) (v := ?_) rfl rfl (by kernel_rfl) (by kernel_rfl) (by kernel_rfl) (fun _ _ _ h => h) (by rfl) (fun w9 hS => ?_) ?_
              rotate_left
              · go_simp <;> with_reducible rfl
              try simp only [Act.put, List.setIfInBounds_toArray, List.set_cons_zero, List.set_cons_succ]
              refine any_take 1 (some 27) (v := ?_) rfl rfl (by kernel_rfl) (by kernel_rfl) (by kernel_rfl) (fun _ _ _ h => h) (by rfl) (fun w9 hS => ?_) ?_
              rotate_left
              · go_simp <;> with_reducible rfl
              try simp only [Act.put, List.setIfInBounds_toArray, List.set_cons_zero, List.set_cons_succ]
              refine any_take 2 (some 28) (v := ?_) rfl rfl (by kernel_rfl) (by kernel_rfl) (by kernel_rfl) (fun _ _ _ h => h) (by rfl) (fun w9 hS => ?_) ?_
              rotate_left
              · go_simp <;> with_reducible rfl
              try simp only [Act.put, List.setIfInBounds_toArray, List.set_cons_zero, List.set_cons_succ]
              refine any_take 3 (some 29) (v := ?_) rfl rfl (by kernel_rfl) (by kernel_rfl) (by kernel_rfl) (fun _ _ _ h => h) (by rfl) (fun w9 hS => ?_) ?_
              rotate_left
              · go_simp <;> with_reducible rfl
              try simp only [Act.put, List.setIfInBounds_toArray, List.set_cons_zero, List.set_cons_succ]
              refine any_take 4 (some 30) (v := ?_) rfl rfl (by kernel_rfl) (by kernel_rfl) (by kernel_rfl) (fun _ _ _ h => h) (by rfl) (fun w9 hS => ?_) ?_
              rotate_left
              · go_simp <;> with_reducible rfl
              try simp only [Act.put, List.setIfInBounds_toArray, List.set_cons_zero, List.set_cons_succ]
              refine any_take 5 (some 31) (v := ?_) rfl rfl (by kernel_rfl) (by kernel_rfl) (by kernel_rfl) (fun _ _ _ h => h) (by rfl) (fun w9 hS => ?_) ?_
              rotate_left
              · go_simp <;> with_reducible rfl
              try simp only [Act.put, List.setIfInBounds_toArray, List.set_cons_zero, List.set_cons_succ]
              refine any_take 6 (some 32) (v := ?_) rfl rfl (by kernel_rfl) (by kernel_rfl) (by kernel_rfl) (fun _ _ _ h => h) (by rfl) (fun w9 hS => ?_) ?_
              rotate_left
              · go_simp <;> with_reducible rfl
              try simp only [Act.put, List.setIfInBounds_toArray, List.set_cons_zero, List.set_cons_succ]
              refine any_take 7 (some 33) (v := ?_) rfl rfl (by kernel_rfl) (by kernel_rfl) (by kernel_rfl) (fun _ _ _ h => h) (by rfl) (fun w9 hS => ?_) ?_
              rotate_left
              · have e0 : w9.cell? ⟨g2, i, none⟩ = some (.int .i64 (L[i]?.getD 0)) := HC.out w9 ((Up.drew wr).t hS); go_simp <;> with_reducible rfl
              try simp only [Act.put, List.setIfInBounds_toArray, List.set_cons_zero, List.set_cons_succ]
              refine any_take 8 (some 34) (v := ?_) rfl rfl (by kernel_rfl) (by kernel_rfl) (by kernel_rfl) (fun _ _ _ h => h) (by rfl) (fun w9 hS => ?_) ?_
              rotate_left
              · go_simp <;> with_reducible rfl
              try simp only [Act.put, List.setIfInBounds_toArray, List.set_cons_zero, List.set_cons_succ]
              refine any_take 9 (some 35) (v := ?_) rfl rfl (by kernel_rfl) (by kernel_rfl) (by kernel_rfl) (fun _ _ _ h => h) (by rfl) (fun w9 hS => ?_) ?_
              rotate_left
              · have e0 : w9.cell? ⟨rb, 0, none⟩ = some (.int .i64 x.page) := HP.out w9 ((Up.drew wr).t hS); go_simp <;> with_reducible rfl
              try simp only [Act.put, List.setIfInBounds_toArray, List.set_cons_zero, List.set_cons_succ]
              refine any_take 10 (some 36) (v := ?_) rfl rfl (by kernel_rfl) (by kernel_rfl) (by kernel_rfl) (fun _ _ _ h => h) (by rfl) (fun w9 hS => ?_) ?_
              rotate_left
              · go_simp <;> with_reducible rfl
              try simp only [Act.put, List.setIfInBounds_toArray, List.set_cons_zero, List.set_cons_succ]
              refine any_take 11 (some 37) (v := ?_) rfl rfl (by kernel_rfl) (by kernel_rfl) (by kernel_rfl) (fun _ _ _ h => h) (by rfl) (fun w9 hS => ?_) ?_
              rotate_left
              · go_simp <;> with_reducible rfl
              try simp only [Act.put, List.setIfInBounds_toArray, List.set_cons_zero, List.set_cons_succ]
              refine any_done (by kernel_rfl) ?_
              rename_i K1 h1
              refine h1 _ _ ?_
              clear h1 K1 d1 d1b d2
              have NI : Hid (ShiftI w (wr.drew.setCell ⟨g2, j, none⟩ (.int .i64 (L[i]?.getD 0))) L x.page i m g2 k2 rb #[.int .i64 x.page, .slice x.A 512 x.c, .int .i64 x.pins, .bool true]) := by
                obtain ⟨ui, oi, gt, kb⟩ := HH.out
                obtain ⟨hi, hil, hc⟩ := HJ.out
                obtain ⟨os, _⟩ := oi.stored j (.int .i64 (L[i]?.getD 0))
                refine hid ⟨L[i]?.getD 0, ?_, ?_, ?_, ?_⟩
                · exact Below.setCell (Below.drew ui) (p := ⟨g2, j, none⟩) ((own_block oi g2 rfl).1) _
                · have e : (((L.take j ++ [hh] ++ L.drop j).map intCell).set j (.int .i64 (L[i]?.getD 0))) = ((L.take i ++ [L[i]?.getD 0] ++ L.drop i).map intCell) := by
                    show List.set _ j (intCell (L[i]?.getD 0)) = _
                    rw [← List.map_set]
                    congr 1
                    rw [List.append_assoc, List.set_append_right _ _ (by rw [List.length_take]; omega), List.length_take, show j - min j L.length = 0 by have := HM.out; omega]
                    rw [List.singleton_append, List.set_cons_zero, List.append_assoc, hi, List.take_succ_eq_append_getElem hil, List.append_assoc]
                    rw [List.drop_eq_getElem_cons hil, List.getElem?_eq_getElem hil]
                    rfl
                  rw [e] at os
                  exact os
                · rw [List.drop_eq_getElem_cons hil]
                  intro y hy
                  rcases List.mem_cons.1 hy with hy | hy
                  · rw [hy]; rw [List.getElem?_eq_getElem hil] at hc; exact hc
                  · exact gt y (by rw [hi]; exact hy)
                · rw [Below.heap_setCell _ _ _ _ hgr]; exact kb
              clear HH
              go_wp2
              go_roundw
              case rel => exact ⟨i, by have := HJ.out; omega, rfl, NI⟩
              case measure => have := HJ.out; simp only [intOf]; omega
            · have d2 : decide (x.page < L[i]?.getD 0) = false := decide_eq_false hc
              have HJ := hid (And.intro hi (And.intro hil hc))
              clear ih ui oi gt kb hj0 hlen hi hil hc
              go_wp2
              refine any_start (by kernel_rfl) ?_
              refine any_take 0 (some 26) (v := ?_) rfl rfl (by kernel_rfl) (by kernel_rfl) (by kernel_rfl) (fun _ _ _ h => h) (by rfl) (fun w9 hS => ?_) ?_
              rotate_left
              · go_simp <;> with_reducible rfl
              try simp only [Act.put, List.setIfInBounds_toArray, List.set_cons_zero, List.set_cons_succ]
              refine any_take 1 (some 27) (v := ?_) rfl rfl (by kernel_rfl) (by kernel_rfl) (by kernel_rfl) (fun _ _ _ h => h) (by rfl) (fun w9 hS => ?_) ?_
              rotate_left
              · go_simp <;> with_reducible rfl
              try simp only [Act.put, List.setIfInBounds_toArray, List.set_cons_zero, List.set_cons_succ]
              refine any_take 2 (some 28) (v := ?_) rfl rfl (by kernel_rfl) (by kernel_rfl) (by kernel_rfl) (fun _ _ _ h => h) (by rfl) (fun w9 hS => ?_) ?_
              rotate_left
              · go_simp <;> with_reducible rfl
              try simp only [Act.put, List.setIfInBounds_toArray, List.set_cons_zero, List.set_cons_succ]
              refine any_take 3 (some 29) (v := ?_) rfl rfl (by kernel_rfl) (by kernel_rfl) (by kernel_rfl) (fun _ _ _ h => h) (by rfl) (fun w9 hS => ?_) ?_
              rotate_left
              · go_simp <;> with_reducible rfl
              try simp only [Act.put, List.setIfInBounds_toArray, List.set_cons_zero, List.set_cons_succ]
              refine any_take 4 (some 30) (v := ?_) rfl rfl (by kernel_rfl) (by kernel_rfl) (by kernel_rfl) (fun _ _ _ h => h) (by rfl) (fun w9 hS => ?_) ?_
              rotate_left
              · go_simp <;> with_reducible rfl
              try simp only [Act.put, List.setIfInBounds_toArray, List.set_cons_zero, List.set_cons_succ]
              refine any_take 5 (some 31) (v := ?_) rfl rfl (by kernel_rfl) (by kernel_rfl) (by kernel_rfl) (fun _ _ _ h => h) (by rfl) (fun w9 hS => ?_) ?_
              rotate_left
              · go_simp <;> with_reducible rfl
              try simp only [Act.put, List.setIfInBounds_toArray, List.set_cons_zero, List.set_cons_succ]
              refine any_take 6 (some 32) (v := ?_) rfl rfl (by kernel_rfl) (by kernel_rfl) (by kernel_rfl) (fun _ _ _ h => h) (by rfl) (fun w9 hS => ?_) ?_
              rotate_left
              · go_simp <;> with_reducible rfl
              try simp only [Act.put, List.setIfInBounds_toArray, List.set_cons_zero, List.set_cons_succ]
              refine any_take 7 (some 33) (v := ?_) rfl rfl (by kernel_rfl) (by kernel_rfl) (by kernel_rfl) (fun _ _ _ h => h) (by rfl) (fun w9 hS => ?_) ?_
              rotate_left
              · have e0 : w9.cell? ⟨g2, i, none⟩ = some (.int .i64 (L[i]?.getD 0)) := HC.out w9 ((Up.drew wr).t hS); go_simp <;> with_reducible rfl
              try simp only [Act.put, List.setIfInBounds_toArray, List.set_cons_zero, List.set_cons_succ]
              refine any_take 8 (some 34) (v := ?_) rfl rfl (by kernel_rfl) (by kernel_rfl) (by kernel_rfl) (fun _ _ _ h => h) (by rfl) (fun w9 hS => ?_) ?_
              rotate_left
              · go_simp <;> with_reducible rfl
              try simp only [Act.put, List.setIfInBounds_toArray, List.set_cons_zero, List.set_cons_succ]
              refine any_take 9 (some 35) (v := ?_) rfl rfl (by kernel_rfl) (by kernel_rfl) (by kernel_rfl) (fun _ _ _ h => h) (by rfl) (fun w9 hS => ?_) ?_
              rotate_left
              · have e0 : w9.cell? ⟨rb, 0, none⟩ = some (.int .i64 x.page) := HP.out w9 ((Up.drew wr).t hS); go_simp <;> with_reducible rfl
              try simp only [Act.put, List.setIfInBounds_toArray, List.set_cons_zero, List.set_cons_succ]
              refine any_take 10 (some 36) (v := ?_) rfl rfl (by kernel_rfl) (by kernel_rfl) (by kernel_rfl) (fun _ _ _ h => h) (by rfl) (fun w9 hS => ?_) ?_
              rotate_left
              · go_simp <;> with_reducible rfl
              try simp only [Act.put, List.setIfInBounds_toArray, List.set_cons_zero, List.set_cons_succ]
              refine any_take 11 (some 37) (v := ?_) rfl rfl (by kernel_rfl) (by kernel_rfl) (by kernel_rfl) (fun _ _ _ h => h) (by rfl) (fun w9 hS => ?_) ?_
              rotate_left
              · go_simp <;> with_reducible rfl
              try simp only [Act.put, List.setIfInBounds_toArray, List.set_cons_zero, List.set_cons_succ]
              refine any_done (by kernel_rfl) ?_
              rename_i K1 h1
              refine h1 _ _ ?_
              clear h1 K1 d1 d1b d2
              have NI : Hid (DirtI w (wr.drew.setCell ⟨g2, j, none⟩ (.int .i64 x.page)) R (k + 1) (m + 1) (some ⟨g2, 0, none⟩) k2) := by
                obtain ⟨ui, oi, gt, kb⟩ := HH.out
                obtain ⟨os, _⟩ := oi.stored j (.int .i64 x.page)
                have hj2 : j ≤ L.length := by have := HM.out; omega
                have e : (((L.take j ++ [hh] ++ L.drop j).map intCell).set j (.int .i64 x.page)) = ((L.take j ++ [x.page] ++ L.drop j).map intCell) := by
                  show List.set _ j (intCell x.page) = _
                  rw [← List.map_set]
                  congr 1
                  rw [List.append_assoc, List.set_append_right _ _ (by rw [List.length_take]; omega), List.length_take, show j - min j L.length = 0 by omega, List.singleton_append, List.set_cons_zero, List.append_assoc]
                  rfl
                rw [e] at os
                refine hid ⟨L.take j ++ [x.page] ++ L.drop j, Below.setCell (Below.drew ui) (p := ⟨g2, j, none⟩) ((own_block oi g2 rfl).1) _, ?_, by have := HK.out; omega, os, ins_sorted HSP.out.1 hj2 gt (.inr ⟨_, by rw [HJ.out.1, Nat.add_sub_cancel]; exact List.getElem?_eq_getElem HJ.out.2.1, by have h9 := HJ.out.2.2; rw [List.getElem?_eq_getElem HJ.out.2.1] at h9; exact h9⟩), ?_⟩
                · rw [ins_perm.length_eq, List.length_append, ← HM.out]; rfl
                · refine ins_perm.trans ?_
                  rw [HT.out, List.filter_append, List.filter_cons_of_pos (show dirtyR x = true from HD.out), List.map_append]
                  exact List.Perm.append_right _ HSP.out.2
              clear HH
              go_wp2
              go_roundw
              case rel => exact ⟨k + 1, m + 1, _, k2, by have := HK.out.2; omega, rfl, (by have := HL.out; have := HK.out.2; rw [show wrap64 ((k : Int) + 1) = ((k + 1 : Nat) : Int) by unfold wrap64; omega]), NI⟩
              case measure => have := HL.out; have := HK.out.2; rw [show wrap64 ((k : Int) + 1) = ((k + 1 : Nat) : Int) by unfold wrap64; omega]; simp only [intOf]; omega
    · have hkk : k = R.length := by have := HN.out; omega
      have I := iv
      have HKK := hid hkk
      clear iv hkk
      go_wp2
      go_ret
      obtain ⟨L, u, hm, hmk, o, so, pe⟩ := I.out
      rw [HKK.out, List.take_length] at pe
      have el := rising_unique so pe
      rw [← el]
      exact ⟨A', c', m, rfl, hid ⟨hm, o, u⟩⟩
end Go.Proofs.Ytlikggeceeennaa
