/- THE WALK of the document's Ints. -/
import Derived.Test.YtlikggeceeennaaCac10
set_option linter.unusedVariables false
set_option linter.unusedSimpArgs false
namespace Go.Proofs.Ytlikggeceeennaa
open Go Go.RowKit Hach

theorem same_step {L1 L2 : List Int} {k : Nat} (h1 : k < L1.length) (h2 : k < L2.length) (he : L1.take k = L2.take k) : (L1.take (k + 1) = L2.take (k + 1)) ↔ L1[k] = L2[k] := by
  rw [List.take_succ_eq_append_getElem h1, List.take_succ_eq_append_getElem h2, he]
  constructor
  · intro h; have := List.append_cancel_left h; injection this
  · intro h; rw [h]

set_option maxRecDepth 100000 in
set_option maxHeartbeats 1000000 in
theorem ints_calls (w : World) (A1 A2 : Option Addr) (L1 L2 : List Int) (n1 n2 c1 c2 : Nat) (r : Bool) (hn1 : Hid (n1 = L1.length)) (hn2 : Hid (n2 = L2.length)) (hl : Hid (L1.length < 1000000 ∧ L2.length < 1000000))
    (h1 : Hid (Rd w A1 (L1.map intCell))) (h2 : Hid (Rd w A2 (L2.map intCell))) (hr : Hid (decide (L1 = L2) = r)) :
    Calls Try.prog 59 #[.slice A1 n1 c1, .slice A2 n2 c2] w fun en w' => en = .returned (.bool r) ∧ Up w w' := by
  by_cases hne : (n1 : Int) = n2
  · have hnn : n2 = n1 := by omega
    subst hnn
    have HE := hid hne
    clear hne
    have START : Hid (Up w w ∧ L1.take 0 = L2.take 0) := hid ⟨Up.refl w, rfl⟩
    go_enter Try.func59, Try.ntmps59
    go_wp2
    go_loopw [13] (fun i wr => ∃ (k : Nat), k ≤ n2 ∧ i = .int .i64 k ∧ Hid (Up w wr ∧ L1.take k = L2.take k)) (fun i _ => n2 - (intOf i).toNat)
    case atStart => exact ⟨0, Nat.zero_le _, rfl, START⟩
    case round =>
      obtain ⟨k, hk, rfl, iv⟩ := hrel
      by_cases hlt : (k : Int) < n2
      · have hk1 : k < L1.length := by have := hn1.out; omega
        have hk2 : k < L2.length := by have := hn2.out; omega
        obtain ⟨u, he⟩ := iv.out
        obtain ⟨ba, oa, rfl, ra⟩ := (h1.out.grown u) k (intCell L1[k]) (by rw [List.getElem?_map, List.getElem?_eq_getElem hk1]; rfl)
        obtain ⟨bb, ob, rfl, rb⟩ := (h2.out.grown u) k (intCell L2[k]) (by rw [List.getElem?_map, List.getElem?_eq_getElem hk2]; rfl)
        have hs := same_step hk1 hk2 he
        have HS : Hid (L1[k] = L2[k] ↔ (L1.take (k + 1) = L2.take (k + 1))) := hid hs.symm
        have hdif : Hid (L1[k] ≠ L2[k] → L1 ≠ L2) := hid (fun hd e => hd (by subst e; rfl))
        clear hs he
        unfold intCell at ra rb
        generalize L1[k] = p1 at *
        generalize L2[k] = p2 at *
        have HK := hid hk1
        have U := hid u
        have HL := hid hlt
        clear iv u hk1 hk2
        by_cases hp : p1 = p2
        · subst hp
          have HS2 := hid (HS.out.1 rfl)
          clear HS hdif
          go_wp2
          go_region_held3 (fun w' => w'.cell? ⟨ba, oa + k, none⟩ = some (.int .i64 p1) ∧ w'.cell? ⟨bb, ob + k, none⟩ = some (.int .i64 p1))
            (first | exact ⟨ra, rb⟩)
            (fail)
          go_wp2
          go_roundw
          case rel => exact ⟨k + 1, by have := HK.out; have := hn1.out; omega, (by have := hl.out; have := HK.out; rw [show wrap64 ((k : Int) + 1) = ((k + 1 : Nat) : Int) by unfold wrap64; omega]), hid ⟨U.out.t (Up.drew wr), HS2.out⟩⟩
          case measure => have := hl.out; have := HK.out; have := hn1.out; rw [show wrap64 ((k : Int) + 1) = ((k + 1 : Nat) : Int) by unfold wrap64; omega]; simp only [intOf]; omega
        · have hf : r = false := by rw [← hr.out]; exact decide_eq_false (hdif.out hp)
          subst hf
          clear HS hdif
          go_wp2
          go_region_held3 (fun w' => w'.cell? ⟨ba, oa + k, none⟩ = some (.int .i64 p1) ∧ w'.cell? ⟨bb, ob + k, none⟩ = some (.int .i64 p2))
            (first | exact ⟨ra, rb⟩)
            (fail)
          go_wp2
          go_ret
          exact ⟨rfl, U.out.t (Up.drew wr)⟩
      · have hkk : k = n2 := by omega
        have ht : r = true := by
          obtain ⟨u, he⟩ := iv.out
          rw [List.take_of_length_le (by rw [← hn1.out]; omega), List.take_of_length_le (by rw [← hn2.out]; omega)] at he
          rw [← hr.out]; exact decide_eq_true he
        have U := hid iv.out.1
        clear iv hkk
        subst ht
        go_wp2
        go_ret
        exact ⟨rfl, U.out⟩
  · have hf : r = false := by
      rw [← hr.out]
      refine decide_eq_false (fun e => hne ?_)
      rw [hn1.out, hn2.out, e]
    subst hf
    go_enter Try.func59, Try.ntmps59
    go_wp2
    go_ret
    exact ⟨rfl, Up.refl w⟩
end Go.Proofs.Ytlikggeceeennaa
