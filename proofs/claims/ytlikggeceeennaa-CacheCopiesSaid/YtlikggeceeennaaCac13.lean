/- THE WALK of lives. -/
import Derived.Test.YtlikggeceeennaaCac12
set_option linter.unusedVariables false
set_option linter.unusedSimpArgs false
namespace Go.Proofs.Ytlikggeceeennaa
open Go Go.RowKit Hach

def PageRet (w : World) (D : List UInt8) (en : Ending) (w' : World) : Prop := ∃ A c, en = .returned (.slice A 512 c) ∧ Hid (Bytes w' A D) ∧ Up w w'
theorem pageX_calls (w : World) (s : UInt8) (v : Int) (hv : v = n8 s) : Calls Try.prog 18 #[.int .u8 v] w (PageRet w (pageD s)) := by
  subst hv
  refine (page_calls w s).mono ?_
  rintro en w' ⟨A, c, D, rfl, hd, hb, hu⟩
  rw [hd.out] at hb
  exact ⟨A, c, rfl, hb, hu⟩
theorem intsX (w : World) (vs : List Value) (L : List Int) (h : vs = L.map intCell) (t : TypeId) : Rd (w.alloc (.cells vs.toArray t)) (some ⟨w.heap.size, 0, none⟩) (L.map intCell) := by rw [← h]; exact Rd.new w t (0, 0) vs

set_option maxRecDepth 100000 in
set_option maxHeartbeats 1000000 in
theorem lives_calls (w : World) : Calls Try.prog 15 #[] w fun en w' => en = .returned (.bool true) ∧ Up w w' := by
  obtain ⟨V1, hV1⟩ : ∃ V, V = evictV 2 1 [] ([] ++ [(1, pageD 1, 0, false)]) := ⟨_, rfl⟩
  obtain ⟨V2, hV2⟩ : ∃ V, V = evictV 2 2 [] (V1 ++ [(2, pageD 2, 0, false)]) := ⟨_, rfl⟩
  have e2 : V2 = [] ++ (1, pageD 1, 0, false) :: [(2, pageD 2, 0, false)] := by subst hV1; exact hV2.trans (by simp [evictV, goesV])
  obtain ⟨V3, hV3⟩ : ∃ V, V = ([] ++ [(2, pageD 2, 0, false)] : List Vis) ++ [(1, pageD 1, 0, false)] := ⟨_, rfl⟩
  obtain ⟨V4, hV4⟩ : ∃ V, V = evictV 2 3 [] (V3 ++ [(3, pageD 3, 0, false)]) := ⟨_, rfl⟩
  have e4 : V4.map (·.1) = [1, 3] := by subst hV3; rw [hV4]; simp [evictV, goesV]
  have n1 : Hid ((1 : Int) ∉ ([] : List Vis).map (·.1)) := hid (by simp)
  have n2 : Hid ((2 : Int) ∉ V1.map (·.1)) := hid (by rw [hV1]; simp [evictV, goesV])
  have n4 : Hid ((3 : Int) ∉ V3.map (·.1)) := hid (by rw [hV3]; simp)
  have l1 : Hid (([] : List Vis).length < 1000000) := hid (by decide)
  have l2 : Hid (V1.length < 1000000) := hid (by rw [hV1]; simp [evictV, goesV])
  have l4 : Hid (V3.length < 1000000) := hid (by rw [hV3]; simp)
  have l5 : Hid (V4.length < 1000000) := hid (by rw [← List.length_map (f := (·.1)), e4]; decide)
  have HV1 := hid hV1
  have HV2 := hid hV2
  have HV3 := hid hV3
  have HV4 := hid hV4
  have E2 := hid e2
  have E4 := hid e4
  clear hV1 hV2 hV3 hV4 e2 e4
  go_enter Try.func15, Try.ntmps15
  go_wp2_with fail
  refine (new_calls w 2 (by decide) (by decide)).mono ?_
  rintro en w1 ⟨g, mp, r, rfl, h1⟩
  have C1 : Hid (CacheV w1 w.heap.size g 2 0 0 []) := hid ⟨mp, r, [], h1.out.1, rfl⟩
  have B1 := hid h1.out.2
  clear h1
  unfold ptr
  go_wp2_with fail
  refine (pageX_calls w1 1 _ rfl).mono ?_
  rintro en w2 ⟨A2, c2, rfl, y2, u2⟩
  have C2 := hid (C1.out.up u2)
  have B2 := hid (B1.out.trans (u2.mono B1.out.size))
  clear u2 B1 C1
  go_wp2_with fail
  refine (putNewV_calls w2 w.heap.size g 2 0 0 [] 1 A2 c2 (pageD 1) C2 (by decide) (hid (by decide)) n1 (hid (pageD_length 1)) y2 l1).mono ?_
  rintro en w3 ⟨rfl, h3⟩
  have C3 : Hid (CacheV w3 w.heap.size g 2 0 0 V1) := by rw [HV1.out]; exact hid h3.out.1
  have B3 := hid (B2.out.trans h3.out.2)
  clear h3 y2 B2 C2
  go_wp2_with fail
  refine (pageX_calls w3 2 _ rfl).mono ?_
  rintro en w4 ⟨A4, c4, rfl, y4, u4⟩
  have C4 := hid (C3.out.up u4)
  have B4 := hid (B3.out.trans (u4.mono B3.out.size))
  clear u4 B3 C3
  go_wp2_with fail
  refine (putNewV_calls w4 w.heap.size g 2 0 0 V1 2 A4 c4 (pageD 2) C4 (by decide) (hid (by decide)) n2 (hid (pageD_length 2)) y4 l2).mono ?_
  rintro en w5 ⟨rfl, h5⟩
  have C5 : Hid (CacheV w5 w.heap.size g 2 0 0 ([] ++ (1, pageD 1, 0, false) :: [(2, pageD 2, 0, false)])) := by rw [← E2.out, HV2.out]; exact hid h5.out.1
  have B5 := hid (B4.out.trans h5.out.2)
  clear h5 y4 B4 C4
  go_wp2_with fail
  refine (getHitV_calls w5 w.heap.size g 2 0 0 [] [(2, pageD 2, 0, false)] (1, pageD 1, 0, false) C5 (by decide)).mono ?_
  rintro en w6 ⟨A6, c6, rfl, h6⟩
  have C6 : Hid (CacheV w6 w.heap.size g 2 (0 + 1) 0 V3) := by rw [HV3.out]; exact hid h6.out.2.2.1
  have B6 := hid (B5.out.trans h6.out.2.2.2)
  clear h6 B5 C5
  go_wp2_with fail
  refine (pageX_calls w6 3 _ rfl).mono ?_
  rintro en w7 ⟨A7, c7, rfl, y7, u7⟩
  have C7 := hid (C6.out.up u7)
  have B7 := hid (B6.out.trans (u7.mono B6.out.size))
  clear u7 B6 C6
  go_wp2_with fail
  refine (putNewV_calls w7 w.heap.size g 2 (0 + 1) 0 V3 3 A7 c7 (pageD 3) C7 (by decide) (hid (by decide)) n4 (hid (pageD_length 3)) y7 l4).mono ?_
  rintro en w8 ⟨rfl, h8⟩
  have C8 : Hid (CacheV w8 w.heap.size g 2 (0 + 1) 0 V4) := by rw [HV4.out]; exact hid h8.out.1
  have B8 := hid (B7.out.trans h8.out.2)
  clear h8 y7 B7 C7
  go_wp2_with fail
  refine (orderV_calls w8 w.heap.size g 2 (0 + 1) 0 V4 C8 l5).mono ?_
  rintro en w9 ⟨A9, c9, n9, rfl, h9⟩
  rw [E4.out] at h9
  obtain ⟨hn9, ho9, hu9⟩ := h9.out
  have R9 := hid (Rd.own ho9)
  have HN9 := hid hn9
  have B9 := hid (B8.out.trans (hu9.mono B8.out.size))
  clear h9 hn9 ho9 hu9 B8 C8
  go_wp2_with fail
  have BA : Below w9.heap.size w9 (w9.alloc (.cells #[.int .i64 1, .int .i64 3] 3)) := (Below.refl _ _).alloc (Nat.le_refl _) _
  refine (ints_calls (w9.alloc (.cells #[.int .i64 1, .int .i64 3] 3)) A9 (some ⟨w9.heap.size, 0, none⟩) [1, 3] [1, 3] n9 2 c9 2 true HN9 (hid rfl) (hid (by decide)) (hid (R9.out.grown BA)) (hid (intsX w9 [.int .i64 1, .int .i64 3] [1, 3] rfl 3)) (hid (by decide))).mono ?_
  rintro en w10 ⟨rfl, u10⟩
  have B10 := hid (B9.out.trans ((BA.mono B9.out.size).trans (u10.mono (Nat.le_trans B9.out.size BA.size))))
  clear BA u10 R9 HN9 B9
  go_wp2
  go_ret
  exact ⟨rfl, B10.out⟩
end Go.Proofs.Ytlikggeceeennaa
