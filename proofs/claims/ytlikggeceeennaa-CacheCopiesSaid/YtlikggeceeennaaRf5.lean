/- THE WALKS of the document's Order, Clear. -/
import Derived.Test.YtlikggeceeennaaRf3
import Derived.Test.YtlikggeceeennaaCac10
set_option linter.unusedVariables false
set_option linter.unusedSimpArgs false
namespace Go.Proofs.Ytlikggeceeennaa
open Go Go.RowKit Hach

set_option maxRecDepth 100000 in
set_option maxHeartbeats 1000000 in
theorem rorder_calls (w : World) (base b : Nat) (room hit miss : Int) (V : List Vis) (h : Hid (RefM w base b room hit miss V)) (hl : Hid (V.length < 1000000)) :
    Calls Try.prog 91 #[ptr b] w (IntsRet w (V.map (·.1))) := by
  obtain ⟨A, c, R, h1, rfl⟩ := h.out
  rw [visR_page]
  have H1 := hid h1
  have c1 := h1.c1
  obtain ⟨n, hn⟩ : ∃ n, R.length = n := ⟨_, rfl⟩
  rw [hn] at c1
  have HN := hid hn
  have HL : Hid (n < 1000000) := hid (by rw [← hn]; have := hl.out; rwa [List.length_map] at this)
  clear h1 hn
  unfold ptr
  go_enter Try.func91, Try.ntmps91
  go_wp2
  clear c1
  go_loopw [3, 11] (fun o i wr => ∃ (k : Nat) (A' : Option Addr) (c' : Nat), k ≤ n ∧ o = .slice A' k c' ∧ i = .int .i64 k ∧ Hid (Up w wr ∧ wr.ownsRow w.heap.size 3 1 (.slice A' k c') k (((R.take k).map RowR.page).map intCell))) (fun _ i _ => n - (intOf i).toNat)
  case atStart => exact ⟨0, none, 0, by omega, rfl, rfl, hid ⟨Up.refl w, own_nil _ _ _ _⟩⟩
  case round =>
    obtain ⟨k, A', c', hk, rfl, rfl, iv⟩ := hrel
    by_cases hlt : (k : Int) < n
    · have hkl : k < R.length := by have := HN.out; omega
      obtain ⟨u, o⟩ := iv.out
      obtain ⟨g, off, rfl, q0, q1, q2, q3⟩ := H1.out.at u hkl
      have ht : R.take (k + 1) = R.take k ++ [R[k]] := List.take_succ_eq_append_getElem hkl
      generalize R[k] = x at *
      have u1 : Up wr (wr.alloc (.cells #[.int .i64 x.page, .slice x.A 512 x.c, .int .i64 x.pins, .bool x.dirty] 174)) := (Below.refl _ _).alloc (Nat.le_refl _) _
      have u2 : Up (wr.alloc (.cells #[.int .i64 x.page, .slice x.A 512 x.c, .int .i64 x.pins, .bool x.dirty] 174)) ((wr.alloc (.cells #[.int .i64 x.page, .slice x.A 512 x.c, .int .i64 x.pins, .bool x.dirty] 174)).alloc (.cells #[.int .i64 x.page] 3)) := (Below.refl _ _).alloc (Nat.le_refl _) _
      have HU := hid (And.intro (u.t u1) u2)
      have HO := hid (Fr.own (Fr.of_below (u1.t u2)) o (fun _ _ => id))
      have HRN := hid (show Rd ((wr.alloc (.cells #[.int .i64 x.page, .slice x.A 512 x.c, .int .i64 x.pins, .bool x.dirty] 174)).alloc (.cells #[.int .i64 x.page] 3)) (some ⟨wr.heap.size + 1, 0, none⟩) [.int .i64 x.page] from by
        have := Rd.new (wr.alloc (.cells #[.int .i64 x.page, .slice x.A 512 x.c, .int .i64 x.pins, .bool x.dirty] 174)) 3 (0, 0) [.int .i64 x.page]
        simpa using this)
      have HT := hid ht
      have HK := hid (And.intro hkl hlt)
      clear iv u o ht hkl
      go_wp2_with (at_builtin; refine hold ?_)
      refine hid (wl_append (news := [Value.int .i64 x.page]) elemI rfl (.tmp 15) (.tmp 18) rfl rfl HO.out rfl HRN.out rfl (by simp [Value.oneCell']) (by have := HL.out; simp only [maxLen]; omega) (by have := HL.out; omega) (Nat.le_trans HU.out.1.size HU.out.2.size) ?_)
      intro A2 k2 w2 o2 g2 _
      have NI : Hid (Up w w2 ∧ w2.ownsRow w.heap.size 3 1 (.slice A2 (k + 1) k2) (k + 1) (((R.take (k + 1)).map RowR.page).map intCell)) := by
        refine hid ⟨below_append (HU.out.1.t HU.out.2) (Nat.le_refl _) (HU.out.1.t HU.out.2).size HO.out g2, ?_⟩
        rw [HT.out, List.map_append, List.map_append]
        exact o2
      clear o2 g2 q0 q1 q2 q3
      go_wp2
      go_roundw
      case rel => exact ⟨k + 1, A2, k2, by have := HK.out.2; omega, rfl, (by have := HL.out; have := HK.out.2; rw [show wrap64 ((k : Int) + 1) = ((k + 1 : Nat) : Int) by unfold wrap64; omega]), NI⟩
      case measure => have := HL.out; have := HK.out.2; rw [show wrap64 ((k : Int) + 1) = ((k + 1 : Nat) : Int) by unfold wrap64; omega]; simp only [intOf]; omega
    · have hkk : k = R.length := by have := HN.out; omega
      have I := iv
      have HKK := hid hkk
      clear iv hkk
      go_wp2
      go_ret
      have hkk := HKK.out
      refine ⟨A', c', k, rfl, hid ⟨by rw [List.length_map, hkk], ?_, I.out.1⟩⟩
      have := I.out.2
      rwa [List.take_of_length_le (by omega)] at this

def keepsR (x : RowR) : Bool := decide (0 < x.pins)
def rclearV (V : List Vis) : List Vis := V.filter fun v => decide (0 < v.2.2.1)
set_option maxRecDepth 100000 in
set_option maxHeartbeats 1000000 in
theorem rclear_calls (w : World) (base b : Nat) (room hit miss : Int) (V : List Vis) (h : Hid (RefM w base b room hit miss V)) (hl : Hid (V.length < 1000000)) :
    Calls Try.prog 90 #[ptr b] w (StepR w base b room hit miss (rclearV V) (.int .i64 ((V.length : Int) - (rclearV V).length))) := by
  obtain ⟨A, c, R, h1, rfl⟩ := h.out
  have ev : rclearV (R.map visR) = (R.filter keepsR).map visR := by unfold rclearV; rw [List.filter_map]; rfl
  rw [ev, List.length_map, List.length_map]
  have H1 := hid h1
  have c1 := h1.c1
  obtain ⟨n, hn⟩ : ∃ n, R.length = n := ⟨_, rfl⟩
  rw [hn] at c1 ⊢
  have HN := hid hn
  have HL : Hid (n < 1000000) := hid (by rw [← hn]; have := hl.out; rwa [List.length_map] at this)
  clear h1 hn ev
  unfold ptr
  go_enter Try.func90, Try.ntmps90
  go_wp2
  clear c1
  go_loopw [3, 12] (fun o i wr => ∃ (k m : Nat) (A' : Option Addr) (c' : Nat), k ≤ n ∧ o = .slice A' m c' ∧ i = .int .i64 k ∧ Hid (Up w wr ∧ m = ((R.take k).filter keepsR).length ∧ wr.ownsRow w.heap.size 174 4 (.slice A' m c') m (((R.take k).filter keepsR).flatMap rowC))) (fun _ i _ => n - (intOf i).toNat)
  case atStart => exact ⟨0, 0, none, 0, by omega, rfl, rfl, hid ⟨Up.refl w, rfl, own_nil _ _ _ _⟩⟩
  case round =>
    obtain ⟨k, m, A', c', hk, rfl, rfl, iv⟩ := hrel
    by_cases hlt : (k : Int) < n
    · have hkl : k < R.length := by have := HN.out; omega
      obtain ⟨u, hm, o⟩ := iv.out
      obtain ⟨g, off, rfl, q0, q1, q2, q3⟩ := H1.out.at u hkl
      have ht : R.take (k + 1) = R.take k ++ [R[k]] := List.take_succ_eq_append_getElem hkl
      have hm2 : m ≤ k := by rw [hm]; refine Nat.le_trans (List.length_filter_le _ _) ?_; rw [List.length_take]; omega
      generalize R[k] = x at *
      have u1 : Up wr (wr.alloc (.cells #[.int .i64 x.page, .slice x.A 512 x.c, .int .i64 x.pins, .bool x.dirty] 174)) := (Below.refl _ _).alloc (Nat.le_refl _) _
      have u2 : Up (wr.alloc (.cells #[.int .i64 x.page, .slice x.A 512 x.c, .int .i64 x.pins, .bool x.dirty] 174)) ((wr.alloc (.cells #[.int .i64 x.page, .slice x.A 512 x.c, .int .i64 x.pins, .bool x.dirty] 174)).alloc (.cells #[.int .i64 x.page, .slice x.A 512 x.c, .int .i64 x.pins, .bool x.dirty] 174)) := (Below.refl _ _).alloc (Nat.le_refl _) _
      have HU := hid (And.intro (u.t u1) u2)
      have HT := hid ht
      have HM := hid hm
      have HK := hid (And.intro hkl (And.intro hlt hm2))
      by_cases hp : 0 < x.pins
      · have HO := hid (Fr.own (Fr.of_below (u1.t u2)) o (fun _ _ => id))
        have HP := hid hp
        have HRN := hid (show Rd ((wr.alloc (.cells #[.int .i64 x.page, .slice x.A 512 x.c, .int .i64 x.pins, .bool x.dirty] 174)).alloc (.cells #[.int .i64 x.page, .slice x.A 512 x.c, .int .i64 x.pins, .bool x.dirty] 174)) (some ⟨wr.heap.size + 1, 0, none⟩) (rowC x) from by
          have := Rd.new (wr.alloc (.cells #[.int .i64 x.page, .slice x.A 512 x.c, .int .i64 x.pins, .bool x.dirty] 174)) 174 (0, 0) (rowC x)
          simpa [rowC] using this)
        clear iv u o ht hkl hm hm2 u1 u2
        go_wp2_with (at_builtin; refine hold ?_)
        refine hid (wl_append (news := rowC x) elemRow rfl (.tmp 19) (.tmp 21) rfl rfl HO.out rfl HRN.out rfl (rowC_one x) (by have := HL.out; have := HK.out; simp only [maxLen]; omega) (by have := HL.out; have := HK.out; omega) (Nat.le_trans HU.out.1.size HU.out.2.size) ?_)
        intro A2 k2 w2 o2 g2 _
        have NI : Hid (Up w w2 ∧ m + 1 = ((R.take (k + 1)).filter keepsR).length ∧ w2.ownsRow w.heap.size 174 4 (.slice A2 (m + 1) k2) (m + 1) (((R.take (k + 1)).filter keepsR).flatMap rowC)) := by
          have hkp : keepsR x = true := decide_eq_true HP.out
          have e : (R.take (k + 1)).filter keepsR = (R.take k).filter keepsR ++ [x] := by rw [HT.out, List.filter_append, List.filter_cons_of_pos hkp]; rfl
          refine hid ⟨below_append (HU.out.1.t HU.out.2) (Nat.le_refl _) (HU.out.1.t HU.out.2).size HO.out g2, by rw [e, List.length_append, ← HM.out]; rfl, ?_⟩
          rw [e, List.flatMap_append]
          exact o2
        clear o2 g2 q0 q1 q2 q3 hp
        go_wp2
        go_roundw
        case rel => exact ⟨k + 1, m + 1, A2, k2, by have := HK.out.2; omega, rfl, (by have := HL.out; have := HK.out.2; rw [show wrap64 ((k : Int) + 1) = ((k + 1 : Nat) : Int) by unfold wrap64; omega]), NI⟩
        case measure => have := HL.out; have := HK.out.2; rw [show wrap64 ((k : Int) + 1) = ((k + 1 : Nat) : Int) by unfold wrap64; omega]; simp only [intOf]; omega
      · have NI : Hid (Up w (wr.alloc (.cells #[.int .i64 x.page, .slice x.A 512 x.c, .int .i64 x.pins, .bool x.dirty] 174)) ∧ m = ((R.take (k + 1)).filter keepsR).length ∧ (wr.alloc (.cells #[.int .i64 x.page, .slice x.A 512 x.c, .int .i64 x.pins, .bool x.dirty] 174)).ownsRow w.heap.size 174 4 (.slice A' m c') m (((R.take (k + 1)).filter keepsR).flatMap rowC)) := by
          have hkp : ¬ keepsR x = true := by unfold keepsR; simpa using hp
          have e : (R.take (k + 1)).filter keepsR = (R.take k).filter keepsR := by rw [HT.out, List.filter_append, List.filter_cons_of_neg hkp]; simp
          exact hid ⟨HU.out.1, by rw [e]; exact HM.out, by rw [e]; exact Fr.own (Fr.of_below u1) o (fun _ _ => id)⟩
        clear iv u o ht hkl hm hm2 u1 u2
        go_wp2
        go_roundw
        case rel => exact ⟨k + 1, m, A', c', by have := HK.out.2; omega, rfl, (by have := HL.out; have := HK.out.2; rw [show wrap64 ((k : Int) + 1) = ((k + 1 : Nat) : Int) by unfold wrap64; omega]), NI⟩
        case measure => have := HL.out; have := HK.out.2; rw [show wrap64 ((k : Int) + 1) = ((k + 1 : Nat) : Int) by unfold wrap64; omega]; simp only [intOf]; omega
    · have hkk : k = R.length := by have := HN.out; omega
      obtain ⟨u, hm, o⟩ := iv.out
      rw [List.take_of_length_le (by omega)] at hm o
      have hle : m ≤ n := by rw [hm, ← HN.out]; exact List.length_filter_le _ _
      have c1 := (H1.out.up u).c1
      have fz := (H1.out.up u).fz 1
      rw [HN.out] at c1
      have hw : IntKind.i64.wrap ((n : Int) - (m : Int)) = (n : Int) - (m : Int) := by rw [IntKind.wrap_i64]; have := HL.out; omega
      have K : Hid (RefAt (wr.setCell ⟨b, 1, none⟩ (.slice A' m c')) base b room hit miss A' c' (R.filter keepsR) ∧ Below base w (wr.setCell ⟨b, 1, none⟩ (.slice A' m c')) ∧ Fr (RefS w b) w (wr.setCell ⟨b, 1, none⟩ (.slice A' m c'))) := by
        have H2 := H1.out.up u
        have hf : Fr (fun k => k = b) wr (wr.setCell ⟨b, 1, none⟩ (.slice A' m c')) := (Fr.refl (fun k => k = b) wr).setCell (p := ⟨b, 1, none⟩) (fun _ => rfl) _
        refine hid ⟨⟨?_, ?_, fun x hx => ?_, H1.out.low⟩, Below.setCell (u.mono H1.out.bs) (p := ⟨b, 1, none⟩) H1.out.low _, frR_trans (frR_up u) (frR_b hf)⟩
        · rw [heap_setCell_same wr b 1 _ _ _ H2.own, ← hm]; rfl
        · rw [← hm]; exact hf.own (own_base o H1.out.bs) (fun k hk e => own_ne o H2.own (by decide) (by rw [hk, e]))
        · have := H2.data x ((List.mem_filter.1 hx).1)
          exact hf.own this (fun k hk e => own_ne this H2.own (by decide) (by rw [hk, e]))
      have HM := hid hm
      clear iv hkk o u hm hle
      go_wp2
      go_ret
      exact ⟨by rw [← HM.out]; rfl, hid ⟨⟨_, _, _, K.out.1, rfl⟩, K.out.2.1, K.out.2.2⟩⟩
end Go.Proofs.Ytlikggeceeennaa
