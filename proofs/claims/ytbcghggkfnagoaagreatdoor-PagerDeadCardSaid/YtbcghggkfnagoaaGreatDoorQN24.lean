/- PARTS OF A PROOF, one behind the other: slices.Sorted(maps.Keys(m)) at the map of changed pages, by the kit's contracts; the pager's Changed. CONDITIONS: none of this text's own. -/
import Derived.Test.YtbcghggkfnagoaaGreatDoorQN17
import Derived.Test.YtbcghggkfnagoaaGreatDoorQN12
import Derived.Shelf.SlIterI.Nil
set_option linter.unusedVariables false
set_option linter.unusedSimpArgs false
namespace Go.Proofs.YtbcghggkfnagoaaGreatDoor
open Go.Shelf
def keysPy_ren : Go.Shelf.Ren := ⟨fun | 7 => 102 | 10 => 150 | n => n, fun | 23 => 128 | 26 => 3 | 3 => 64 | 28 => 154 | 0 => 0 | 27 => 153 | 33 => 158 | 4 => 4 | n => n, fun | n => n⟩
theorem keysPy : Go.Proofs.SlLaysZI.n7 Tryz.prog keysPy_ren := {
  mixed := by kernel_rfl
  f7 := ⟨Tryz.f102.name, by decide, Tryz.func102.trans (congrArg some (by kernel_rfl))⟩
  f10 := ⟨Tryz.f150.name, by decide, Tryz.func150.trans (congrArg some (by kernel_rfl))⟩
  t0 := Tryz.underlying0
  a0 := Tryz.isAgg0
  z0 := Tryz.sizeOf0
  v0 := Tryz.zeroValue0
  t4 := Tryz.underlying4
  a4 := Tryz.isAgg4
  z4 := Tryz.sizeOf4
  v4 := Tryz.zeroValue4
  t23 := Tryz.underlying128
  a23 := Tryz.isAgg128
  z23 := Tryz.sizeOf128
  v23 := Tryz.zeroValue128
  t26 := Tryz.underlying3
  a26 := Tryz.isAgg3
  z26 := Tryz.sizeOf3
  v26 := Tryz.zeroValue3
  t27 := Tryz.underlying153
  a27 := Tryz.isAgg153
  z27 := Tryz.sizeOf153
  v27 := Tryz.zeroValue153
  t28 := Tryz.underlying154
  a28 := Tryz.isAgg154
  z28 := Tryz.sizeOf154
  v28 := Tryz.zeroValue154
  t33 := Tryz.underlying158
  a33 := Tryz.isAgg158
  z33 := Tryz.sizeOf158
  v33 := Tryz.zeroValue158 }
def sortedPy_ren : Go.Shelf.Ren := ⟨fun | 6 => 101 | 8 => 149 | 9 => 128 | 11 => 183 | 13 => 160 | 12 => 159 | 23 => 194 | 24 => 195 | 14 => 185 | 15 => 186 | 16 => 187 | 17 => 188 | 18 => 189 | 19 => 190 | 20 => 191 | 21 => 192 | 22 => 193 | 25 => 200 | 26 => 201 | 27 => 202 | 28 => 203 | 29 => 204 | 30 => 205 | 31 => 208 | n => n, fun | 26 => 3 | 28 => 154 | 24 => 30 | 0 => 0 | 3 => 3 | 37 => 116 | 48 => 209 | 50 => 142 | 4 => 4 | 40 => 242 | 39 => 241 | 45 => 174 | 5 => 5 | 9 => 9 | 51 => 256 | 55 => 260 | 57 => 265 | 58 => 135 | 33 => 158 | n => n, fun | n => n⟩
theorem sortedPy : Go.Proofs.SlLaysZI.n6 Tryz.prog sortedPy_ren := {
  mixed := by kernel_rfl
  f6 := ⟨Tryz.f101.name, by decide, Tryz.func101.trans (congrArg some (by kernel_rfl))⟩
  f8 := ⟨Tryz.f149.name, by decide, Tryz.func149.trans (congrArg some (by kernel_rfl))⟩
  f11 := ⟨Tryz.f183.name, by decide, Tryz.func183.trans (congrArg some (by kernel_rfl))⟩
  t0 := Tryz.underlying0
  a0 := Tryz.isAgg0
  z0 := Tryz.sizeOf0
  v0 := Tryz.zeroValue0
  t24 := Tryz.underlying30
  a24 := Tryz.isAgg30
  z24 := Tryz.sizeOf30
  v24 := Tryz.zeroValue30
  t26 := Tryz.underlying3
  a26 := Tryz.isAgg3
  z26 := Tryz.sizeOf3
  v26 := Tryz.zeroValue3
  t28 := Tryz.underlying154
  a28 := Tryz.isAgg154
  z28 := Tryz.sizeOf154
  v28 := Tryz.zeroValue154
  i26 := by kernel_rfl }

end Go.Proofs.YtbcghggkfnagoaaGreatDoor
namespace Go.Proofs.YtbcghggkfnagoaaGreatDoor
open Go Go.RowKit Go.Maps Go.Sort Go.Shelf Hach

theorem sortsPin (m : Nat) : AnyZI.SortsIn Tryz.prog sortedPy_ren Fence.wide m :=
  ⟨fun blk off cap ss W hH hblk hsz => callsIn_wide.2 (AnyM.slices_Sort_int sortLy blk off cap ss W hH hblk hsz),
   fun p cap W => callsIn_wide.2 (AnyM.slices_Sort_int_none sortLy p cap W)⟩
def keysPT : TypeId := keysPy_ren.t 23
theorem keysP_calls (w : World) (m : Nat) : Calls Tryz.prog 102 #[.map (some m)] w fun e w' => e = .returned (.func (.func 150) #[] #[.pointer (some ⟨w.heap.size, 0, none⟩)]) ∧ w' = w.alloc (.cells #[.map (some m)] keysPT) :=
  (callsIn_wide (n := 6)).1 (AnyZI.keys_in keysPy Fence.wide 6 trivial rfl (some m) w)
/-- The keys, in their order. -/
def KeysP (w : World) (L : PgL) (en : Ending) (w' : World) : Prop := ∃ A c, en = .returned (.slice A L.length c) ∧ Hid (w'.ownsRow w.heap.size 3 1 (.slice A L.length c) L.length (L.map fun p => .int .i64 p.1) ∧ Up w w')
theorem sortedP_calls (w : World) (m b : Nat) (L : PgL) (hm : Hid (MapP w m L)) (hl : Hid (L.length < 1000000)) (hr : Hid ((L.map (·.1)).Pairwise (· < ·))) (hb : Hid (w.heap[b]? = some (.cells #[.map (some m)] keysPT (0, 0)))) :
    Calls Tryz.prog 101 #[.func (.func 150) #[] #[.pointer (some ⟨b, 0, none⟩)]] w (KeysP w L) := by
  refine (callsIn_wide (n := 6)).1 ?_
  have hc : w.cell? ⟨b, 0, none⟩ = some (.map (some m)) := by rw [cell_of_row w b _ _ _ _ hb.out]; rfl
  have hf : w.frozen? ⟨b, 0, none⟩ = false := by unfold World.frozen?; rw [show (⟨b, 0, none⟩ : Addr).block = b from rfl, hb.out]; simp
  obtain ⟨O, hO⟩ : ∃ O : Olds, (L.map fun y => (y.1, encX y.2)) = O := ⟨_, rfl⟩
  have hOl : O.length = L.length := by rw [← hO, List.length_map]
  have hOk : O.map (·.1) = L.map (·.1) := by rw [← hO, List.map_map]; rfl
  have hown : w.ownsMap Tryz.prog 3 pgElem m O.length (datL O) := by rw [hOl, ← hO]; exact hm.out
  have hseq := AnyZI.keys_gives (ρ := keysPy_ren) { keysPy with } Fence.wide 3 trivial rfl (by omega) b m O.length (datL O) w (Array.getElem?_eq_some_iff.1 hb.out).1 hc hown
  have cS := AnyZI.sorted_in sortedPy Fence.wide 6 trivial trivial trivial trivial rfl (by omega) (sortsPin _) (enters_of Tryz.func128 (by kernel_rfl) rfl) 150 #[.pointer (some ⟨b, 0, none⟩)] trivial (enters_of Tryz.func150 (by kernel_rfl) rfl) _ _ (by rw [sizeL_dat]; have := hl.out; simp only [maxLen]; omega) (by rw [sizeL_dat]; have := hl.out; omega) w hseq
  refine cS.mono ?_
  rintro e w' ⟨v, ss, rfl, hp, hrow, hnil, hbe⟩
  have hks : ss.mergeSort (fun x y => decide (x ≤ y)) = L.map (·.1) := mergeSort_rising hr.out (by rw [← hOk, ← keysL_dat O]; exact hp)
  have hlen : ss.length = L.length := by have := congrArg List.length hks; rwa [List.length_mergeSort, List.length_map] at this
  rw [hks, hlen] at hrow
  obtain ⟨A, c, rfl, _⟩ := own_form hrow
  refine ⟨A, c, rfl, hid ⟨?_, hbe⟩⟩
  rw [List.map_map] at hrow
  exact hrow
section
variable (w : World) (p t m : Nat) (q : PgN) (mv : Value) (last : Int) (n : Nat) (L : PgL)
set_option maxRecDepth 100000 in
set_option maxHeartbeats 1000000 in
theorem pchanged_calls (h : Hid (TranAt w p q t m mv last n L)) (hl : Hid (L.length < 1000000)) (hr : Hid ((L.map (·.1)).Pairwise (· < ·))) :
    Calls Tryz.prog 27 #[.pointer (some ⟨p, 0, none⟩)] w (KeysP w L) := by
  obtain ⟨_, _, _, e3, _⟩ := h.out.own.cells
  obtain ⟨f0, f1, _⟩ := h.out.cells
  have H := h
  go_enter Tryz.func27, Tryz.ntmps27
  go_wp2_with (first
    | (go_at_call 25; refine (pbusy_calls w p t m q mv last n L H).mono ?_; rintro e w' ⟨rfl, hw⟩; obtain rfl := hw.symm)
    | (go_at_call 102; refine (keysP_calls _ m).mono ?_; rintro e w' ⟨rfl, hw⟩; have hw := hid hw))
  obtain rfl := hw.out
  have u1 : Up w (w.alloc (.cells #[.map (some m)] keysPT)) := upAlD (Up.refl w) _
  refine (sortedP_calls _ m w.heap.size L (hid (h.out.map.up u1)) hl hr (hid (heap_alloc_new w _))).mono ?_
  rintro e w2 ⟨A, c, rfl, hk⟩
  have RES : Hid (w2.ownsRow w.heap.size 3 1 (.slice A L.length c) L.length (L.map fun p => .int .i64 p.1) ∧ Up w w2) := hid ⟨own_base hk.out.1 u1.size, u1.t hk.out.2⟩
  clear hk
  go_wp2
  go_ret
  exact ⟨A, c, rfl, RES⟩
end
end Go.Proofs.YtbcghggkfnagoaaGreatDoor
