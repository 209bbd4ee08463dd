/- slices.Sorted(maps.Keys(m)) at a map of sectors, by the kit's contracts. -/
import Derived.Test.YtbcghggkfnagoaaGreatDoorDskF
import Derived.Test.YtbcghggkfnagoaaGreatDoorSrt
import Derived.Shelf.SlIterI.Nil
set_option linter.unusedVariables false
set_option linter.unusedSimpArgs false
namespace Go.Proofs.YtbcghggkfnagoaaGreatDoor
open Go.Shelf
def keysLy_ren : Go.Shelf.Ren := ⟨fun | 7 => 113 | 10 => 155 | n => n, fun | 23 => 82 | 26 => 3 | 3 => 173 | 28 => 154 | 0 => 0 | 27 => 153 | 33 => 158 | 4 => 4 | n => n, fun | n => n⟩
theorem keysLy : Go.Proofs.SlLaysZI.n7 Tryz.prog keysLy_ren := {
  mixed := by kernel_rfl
  f7 := ⟨Tryz.f113.name, by decide, Tryz.func113.trans (congrArg some (by kernel_rfl))⟩
  f10 := ⟨Tryz.f155.name, by decide, Tryz.func155.trans (congrArg some (by kernel_rfl))⟩
  t0 := Tryz.underlying0
  a0 := Tryz.isAgg0
  z0 := Tryz.sizeOf0
  v0 := Tryz.zeroValue0
  t4 := Tryz.underlying4
  a4 := Tryz.isAgg4
  z4 := Tryz.sizeOf4
  v4 := Tryz.zeroValue4
  t23 := Tryz.underlying82
  a23 := Tryz.isAgg82
  z23 := Tryz.sizeOf82
  v23 := Tryz.zeroValue82
  t26 := Tryz.underlying3
  a26 := Tryz.isAgg3
  z26 := Tryz.sizeOf3
  v26 := Tryz.zeroValue3
  t27 := Tryz.underlying153
  a27 := Tryz.isAgg153
  z27 := Tryz.sizeOf153
  v27 := Tryz.zeroValue153
  t28 := Tryz.underlying154
  a28 := Tryz.isAgg154
  z28 := Tryz.sizeOf154
  v28 := Tryz.zeroValue154
  t33 := Tryz.underlying158
  a33 := Tryz.isAgg158
  z33 := Tryz.sizeOf158
  v33 := Tryz.zeroValue158 }
def sortedLy_ren : Go.Shelf.Ren := ⟨fun | 6 => 101 | 8 => 149 | 9 => 128 | 11 => 183 | 13 => 160 | 12 => 159 | 23 => 194 | 24 => 195 | 14 => 185 | 15 => 186 | 16 => 187 | 17 => 188 | 18 => 189 | 19 => 190 | 20 => 191 | 21 => 192 | 22 => 193 | 25 => 200 | 26 => 201 | 27 => 202 | 28 => 203 | 29 => 204 | 30 => 205 | 31 => 208 | n => n, fun | 26 => 3 | 28 => 154 | 24 => 30 | 0 => 0 | 3 => 3 | 37 => 116 | 48 => 209 | 50 => 142 | 4 => 4 | 40 => 242 | 39 => 241 | 45 => 174 | 5 => 5 | 9 => 9 | 51 => 256 | 55 => 260 | 57 => 265 | 58 => 135 | 33 => 158 | n => n, fun | n => n⟩
theorem sortedLy : Go.Proofs.SlLaysZI.n6 Tryz.prog sortedLy_ren := {
  mixed := by kernel_rfl
  f6 := ⟨Tryz.f101.name, by decide, Tryz.func101.trans (congrArg some (by kernel_rfl))⟩
  f8 := ⟨Tryz.f149.name, by decide, Tryz.func149.trans (congrArg some (by kernel_rfl))⟩
  f11 := ⟨Tryz.f183.name, by decide, Tryz.func183.trans (congrArg some (by kernel_rfl))⟩
  t0 := Tryz.underlying0
  a0 := Tryz.isAgg0
  z0 := Tryz.sizeOf0
  v0 := Tryz.zeroValue0
  t24 := Tryz.underlying30
  a24 := Tryz.isAgg30
  z24 := Tryz.sizeOf30
  v24 := Tryz.zeroValue30
  t26 := Tryz.underlying3
  a26 := Tryz.isAgg3
  z26 := Tryz.sizeOf3
  v26 := Tryz.zeroValue3
  t28 := Tryz.underlying154
  a28 := Tryz.isAgg154
  z28 := Tryz.sizeOf154
  v28 := Tryz.zeroValue154
  i26 := by kernel_rfl }

end Go.Proofs.YtbcghggkfnagoaaGreatDoor
namespace Go.Proofs.YtbcghggkfnagoaaGreatDoor
open Go Go.RowKit Go.Maps Go.Sort Go.Shelf Hach

theorem sortsIn (m : Nat) : AnyZI.SortsIn Tryz.prog sortedLy_ren Fence.wide m :=
  ⟨fun blk off cap ss W hH hblk hsz => callsIn_wide.2 (AnyM.slices_Sort_int sortLy blk off cap ss W hH hblk hsz),
   fun p cap W => callsIn_wide.2 (AnyM.slices_Sort_int_none sortLy p cap W)⟩
/-- maps.Keys. -/
def keysT : TypeId := keysLy_ren.t 23
theorem keys_calls (w : World) (m : Nat) : Calls Tryz.prog 113 #[.map (some m)] w fun e w' => e = .returned (.func (.func 155) #[] #[.pointer (some ⟨w.heap.size, 0, none⟩)]) ∧ w' = w.alloc (.cells #[.map (some m)] keysT) :=
  (callsIn_wide (n := 6)).1 (AnyZI.keys_in keysLy Fence.wide 6 trivial rfl (some m) w)
def KeysRet (w : World) (L : Olds) (en : Ending) (w' : World) : Prop := ∃ A c, en = .returned (.slice A L.length c) ∧ Hid (w'.ownsRow w.heap.size 3 1 (.slice A L.length c) L.length (L.map fun p => .int .i64 p.1) ∧ Up w w')
theorem sorted_calls (w : World) (m b : Nat) (L : Olds) (hm : Hid (MapS w m L)) (hl : Hid (L.length < 1000000)) (hr : Hid ((L.map (·.1)).Pairwise (· < ·))) (hb : Hid (w.heap[b]? = some (.cells #[.map (some m)] keysT (0, 0)))) :
    Calls Tryz.prog 101 #[.func (.func 155) #[] #[.pointer (some ⟨b, 0, none⟩)]] w (KeysRet w L) := by
  refine (callsIn_wide (n := 6)).1 ?_
  have hc : w.cell? ⟨b, 0, none⟩ = some (.map (some m)) := by rw [cell_of_row w b _ _ _ _ hb.out]; rfl
  have hf : w.frozen? ⟨b, 0, none⟩ = false := by unfold World.frozen?; rw [show (⟨b, 0, none⟩ : Addr).block = b from rfl, hb.out]; simp
  have hown : w.ownsMap Tryz.prog 3 secElem m L.length (datL L) := hm.out
  have hseq := AnyZI.keys_gives (ρ := keysLy_ren) { keysLy with } Fence.wide 3 trivial rfl (by omega) b m L.length (datL L) w (Array.getElem?_eq_some_iff.1 hb.out).1 hc hown
  have cS := AnyZI.sorted_in sortedLy Fence.wide 6 trivial trivial trivial trivial rfl (by omega) (sortsIn _) (enters_of Tryz.func128 (by kernel_rfl) rfl) 155 #[.pointer (some ⟨b, 0, none⟩)] trivial (enters_of Tryz.func155 (by kernel_rfl) rfl) _ _ (by rw [sizeL_dat]; have := hl.out; simp only [maxLen]; omega) (by rw [sizeL_dat]; have := hl.out; omega) w hseq
  refine cS.mono ?_
  rintro e w' ⟨v, ss, rfl, hp, hrow, hnil, hbe⟩
  have hks : ss.mergeSort (fun x y => decide (x ≤ y)) = L.map (·.1) := mergeSort_rising hr.out (by rw [← keysL_dat L]; exact hp)
  have hlen : ss.length = L.length := by have := congrArg List.length hks; rwa [List.length_mergeSort, List.length_map] at this
  rw [hks, hlen] at hrow
  obtain ⟨A, c, rfl, _⟩ := own_form hrow
  refine ⟨A, c, rfl, hid ⟨?_, hbe⟩⟩
  rw [List.map_map] at hrow
  exact hrow
end Go.Proofs.YtbcghggkfnagoaaGreatDoor
