/- THE WALKS of the laws SumOf and SumPieces. -/
import Derived.Test.YtlmlplpbgkbhdaaDoorSum2
set_option linter.unusedVariables false
set_option linter.unusedSimpArgs false
namespace Go.Proofs.YtlmlplpbgkbhdaaDoor
open Go.RowKit Hach Hach.Crc

set_option maxRecDepth 100000 in
set_option maxHeartbeats 400000 in
theorem sumOf_walk (w : World) (ht : Hid (TabOk w)) (A B : Option Addr) (xs ys : List UInt8) (ca cb : Nat) (s : W) (la : xs.length ≤ 9223372036854775807) (lb : ys.length ≤ 9223372036854775807)
    (ha : Hid (Bytes w A xs)) (hb : Hid (Bytes w B ys)) :
    Calls Tryd.prog 4 #[.slice A xs.length ca, .slice B ys.length cb, .int .u32 (n32 s)] w fun e w' => e = .returned (.bool true) ∧ Below w.heap.size w w' := by
  by_cases c1 : (2000 : Int) < xs.length
  · go_enter Tryd.func4, Tryd.ntmps4
    go_wp2_with fail
    refine (lives03_calls _ ht).mono ?_
    rintro e w' ⟨rfl, hw⟩
    go_wp2
    go_ret
    exact ⟨rfl, hw⟩
  by_cases c2 : (2000 : Int) < ys.length
  · go_enter Tryd.func4, Tryd.ntmps4
    go_wp2_with fail
    refine (lives03_calls _ ht).mono ?_
    rintro e w' ⟨rfl, hw⟩
    go_wp2
    go_ret
    exact ⟨rfl, hw⟩
  have hj := join_of (ofF xs) ys
  go_enter Tryd.func4, Tryd.ntmps4
  go_wp2_with fail
  refine (of_calls _ ht _ _ _ la ha).mono ?_
  rintro e w' ⟨rfl, rfl⟩
  go_wp2_with fail
  refine (of_calls _ ht _ _ _ lb hb).mono ?_
  rintro e w' ⟨rfl, rfl⟩
  go_wp2_with fail
  refine (refOf_calls _ _ _ _ la ha).mono ?_
  rintro e w' ⟨rfl, rfl⟩
  go_wp2_with fail
  refine (add_calls s _ ht _ _ _ lb hb).mono ?_
  rintro e w' ⟨rfl, rfl⟩
  go_wp2_with fail
  refine (refAdd_calls s _ _ _ _ lb hb).mono ?_
  rintro e w' ⟨rfl, rfl⟩
  go_wp2_with fail
  refine (join_calls _ _ ys.length (by omega) _).mono ?_
  rintro e w' ⟨rfl, rfl⟩
  go_wp2_with fail
  refine (refJoin_calls _ _ _ _ _ lb hb).mono ?_
  rintro e w' ⟨rfl, rfl⟩
  go_wp2_with fail
  refine (lives03_calls _ ht).mono ?_
  rintro e w' ⟨rfl, hw⟩
  go_wp2
  go_ret
  exact ⟨rfl, hw⟩

theorem elemB : Elem Tryd.prog 22 5 (.int .u8 0) 1 1 := ⟨Tryd.underlying22, by kernel_rfl, rfl, by decide⟩

set_option maxRecDepth 100000 in
set_option maxHeartbeats 400000 in
theorem sumPieces_long (w : World) (ht : Hid (TabOk w)) (A B C : Option Addr) (a b c : Nat) (ca cb cc : Nat) (la : a ≤ 9223372036854775807) (lb : b ≤ 9223372036854775807) (lc : c ≤ 9223372036854775807)
    (h : (1000 : Int) < a ∨ (1000 : Int) < b ∨ (1000 : Int) < c) :
    Calls Tryd.prog 5 #[.slice A a ca, .slice B b cb, .slice C c cc] w fun e w' => e = .returned (.bool true) ∧ Below w.heap.size w w' := by
  have H := hid h
  clear h
  by_cases c1 : (1000 : Int) < a
  · go_enter Tryd.func5, Tryd.ntmps5
    go_wp2_with fail
    refine (lives03_calls _ ht).mono ?_
    rintro e w' ⟨rfl, hw⟩
    go_wp2
    go_ret
    exact ⟨rfl, hw⟩
  by_cases c2 : (1000 : Int) < b
  · go_enter Tryd.func5, Tryd.ntmps5
    go_wp2_with fail
    refine (lives03_calls _ ht).mono ?_
    rintro e w' ⟨rfl, hw⟩
    go_wp2
    go_ret
    exact ⟨rfl, hw⟩
  have c3 : (1000 : Int) < c := by rcases H.out with h | h | h <;> omega
  go_enter Tryd.func5, Tryd.ntmps5
  go_wp2_with fail
  refine (lives03_calls _ ht).mono ?_
  rintro e w' ⟨rfl, hw⟩
  go_wp2
  go_ret
  exact ⟨rfl, hw⟩

set_option maxRecDepth 100000 in
set_option maxHeartbeats 1000000 in
theorem sumPieces_walk (w : World) (ht : Hid (TabOk w)) (A B C : Option Addr) (xs ys zs : List UInt8) (ca cb cc : Nat) (la : xs.length ≤ 9223372036854775807) (lb : ys.length ≤ 9223372036854775807) (lc : zs.length ≤ 9223372036854775807)
    (ha : Hid (Bytes w A xs)) (hb : Hid (Bytes w B ys)) (hc : Hid (Bytes w C zs)) :
    Calls Tryd.prog 5 #[.slice A xs.length ca, .slice B ys.length cb, .slice C zs.length cc] w fun e w' => e = .returned (.bool true) ∧ Below w.heap.size w w' := by
  by_cases hl : (1000 : Int) < xs.length ∨ (1000 : Int) < ys.length ∨ (1000 : Int) < zs.length
  · exact sumPieces_long w ht A B C _ _ _ ca cb cc la lb lc hl
  have c1 : ¬ (1000 : Int) < xs.length := fun h => hl (.inl h)
  have c2 : ¬ (1000 : Int) < ys.length := fun h => hl (.inr (.inl h))
  have c3 : ¬ (1000 : Int) < zs.length := fun h => hl (.inr (.inr h))
  clear hl
  go_enter Tryd.func5, Tryd.ntmps5
  go_wp2_with (at_builtin; refine hold ?_)
  have b1 : Below w.heap.size w (w.alloc (.cells #[] 5)) := (Below.refl _ _).alloc (Nat.le_refl _) _
  refine hid (wl_append elemB rfl (.tmp 27) (.tmp 28) rfl rfl (own_lit w w.heap.size 5 0 [] (Nat.le_refl _) (by decide) rfl) rfl ((ha.out.grown b1).rd) (by simp) (byteCells_one _) (by simp only [maxLen]; omega) (by omega) (by simp) ?_)
  intro A1 k1 w1 o1 g1 _
  have b2 := below_append b1 (Nat.le_refl _) (by simp) (own_lit w w.heap.size 5 0 [] (Nat.le_refl _) (by decide) rfl) g1
  clear b1 g1
  simp only [Nat.zero_add, List.nil_append] at o1
  rw [Nat.zero_add]
  go_wp2_with (at_builtin; refine hold ?_)
  refine hid (wl_append elemB rfl (.tmp 29) (.tmp 30) rfl rfl o1 rfl ((hb.out.grown b2).rd) (by simp) (byteCells_one _) (by simp only [maxLen]; omega) (by omega) b2.size ?_)
  intro A2 k2 w2 o2 g2 _
  have b3 := below_append b2 (Nat.le_refl _) b2.size o1 g2
  clear b2 g2 o1
  go_wp2_with (at_builtin; refine hold ?_)
  refine hid (wl_append elemB rfl (.tmp 31) (.tmp 32) rfl rfl o2 rfl ((hc.out.grown b3).rd) (by simp) (byteCells_one _) (by simp only [maxLen]; omega) (by omega) b3.size ?_)
  intro A3 k3 w3 o3 g3 _
  have b4 := below_append b3 (Nat.le_refl _) b3.size o2 g3
  clear b3 g3 o2
  have t4 := hid (ht.out.below b4 ht.out.lt)
  have ha4 := hid (ha.out.grown b4)
  have hb4 := hid (hb.out.grown b4)
  have hc4 := hid (hc.out.grown b4)
  have B4 := hid b4
  have hall : Bytes w3 A3 (xs ++ ys ++ zs) := Rd.bytes (by simpa using Rd.own o3)
  have Hall := hid hall
  have e1 := hid (addF_append (ofF xs) ys zs)
  have e2 := hid (join_of (ofF xs) ys)
  clear b4 o3 hall ha hb hc ht
  go_wp2_with fail
  refine (of_calls' _ t4 A3 (xs ++ ys ++ zs) _ _ (by simp [Nat.add_assoc]) (by simp; omega) Hall).mono ?_
  rintro e w' ⟨rfl, rfl⟩
  go_wp2_with fail
  refine (of_calls _ t4 _ _ _ la ha4).mono ?_
  rintro e w' ⟨rfl, rfl⟩
  go_wp2_with fail
  refine (of_calls _ t4 _ _ _ lb hb4).mono ?_
  rintro e w' ⟨rfl, rfl⟩
  go_wp2_with fail
  refine (of_calls _ t4 _ _ _ lc hc4).mono ?_
  rintro e w' ⟨rfl, rfl⟩
  go_wp2_with fail
  refine (join_calls _ _ ys.length (by omega) _).mono ?_
  rintro e w' ⟨rfl, rfl⟩
  go_wp2_with fail
  refine (join_calls _ _ zs.length (by omega) _).mono ?_
  rintro e w' ⟨rfl, rfl⟩
  go_wp2_with fail
  refine (join_calls _ _ zs.length (by omega) _).mono ?_
  rintro e w' ⟨rfl, rfl⟩
  go_wp2_with fail
  refine (join_calls _ _ (ys.length + zs.length) (by omega) _).mono ?_
  rintro e w' ⟨rfl, rfl⟩
  go_wp2_with fail
  refine (add_calls _ _ t4 _ _ _ lb hb4).mono ?_
  rintro e w' ⟨rfl, rfl⟩
  go_wp2_with fail
  refine (add_calls _ _ t4 _ _ _ lc hc4).mono ?_
  rintro e w' ⟨rfl, rfl⟩
  have q1 : addF (addF (ofF xs) ys) zs = ofF (xs ++ ys ++ zs) := by rw [addF_append, ofF_append, ofF_append, addF_append]
  have q2 : join (join (ofF xs) (ofF ys) ys.length) (ofF zs) zs.length = ofF (xs ++ ys ++ zs) := by rw [join_of, join_of, q1]
  have q3 : join (ofF xs) (join (ofF ys) (ofF zs) zs.length) (ys.length + zs.length) = ofF (xs ++ ys ++ zs) := by rw [join_join, q2]
  go_wp2_with fail
  refine (join_calls_neg _ _ _ (by omega) _).mono ?_
  rintro e w' ⟨rfl, rfl⟩
  go_wp2_with fail
  refine (join_calls _ _ 0 (by omega) _).mono ?_
  rintro e w' ⟨rfl, rfl⟩
  go_wp2_with fail
  refine (lives03_calls _ t4).mono ?_
  rintro e w' ⟨rfl, hw⟩
  go_wp2
  go_ret
  exact ⟨rfl, B4.out.trans (hw.mono B4.out.size)⟩
end Go.Proofs.YtlmlplpbgkbhdaaDoor
