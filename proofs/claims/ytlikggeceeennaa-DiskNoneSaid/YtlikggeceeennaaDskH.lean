/- slices.Sorted(maps.Keys(m)) at a map of sectors, by the kit's contracts. -/
import Derived.Test.YtlikggeceeennaaDskG
import Derived.Test.YtlikggeceeennaaSrt
import Derived.Shelf.SlIterI.Nil
set_option linter.unusedVariables false
set_option linter.unusedSimpArgs false
namespace Go.Proofs.Ytlikggeceeennaa
open Go.Shelf
def keysLy_ren : Go.Shelf.Ren := ⟨fun | 7 => 111 | 10 => 137 | n => n, fun | 23 => 93 | 26 => 3 | 3 => 137 | 28 => 143 | 0 => 0 | 27 => 142 | 33 => 24 | 4 => 4 | n => n, fun | n => n⟩
theorem keysLy : Go.Proofs.SlLaysZI.n7 Try.prog keysLy_ren := {
  mixed := by kernel_rfl
  f7 := ⟨Try.f111.name, by decide, Try.func111.trans (congrArg some (by kernel_rfl))⟩
  f10 := ⟨Try.f137.name, by decide, Try.func137.trans (congrArg some (by kernel_rfl))⟩
  t0 := Try.underlying0
  a0 := Try.isAgg0
  z0 := Try.sizeOf0
  v0 := Try.zeroValue0
  t4 := Try.underlying4
  a4 := Try.isAgg4
  z4 := Try.sizeOf4
  v4 := Try.zeroValue4
  t23 := Try.underlying93
  a23 := Try.isAgg93
  z23 := Try.sizeOf93
  v23 := Try.zeroValue93
  t26 := Try.underlying3
  a26 := Try.isAgg3
  z26 := Try.sizeOf3
  v26 := Try.zeroValue3
  t27 := Try.underlying142
  a27 := Try.isAgg142
  z27 := Try.sizeOf142
  v27 := Try.zeroValue142
  t28 := Try.underlying143
  a28 := Try.isAgg143
  z28 := Try.sizeOf143
  v28 := Try.zeroValue143
  t33 := Try.underlying24
  a33 := Try.isAgg24
  z33 := Try.sizeOf24
  v33 := Try.zeroValue24 }
def sortedLy_ren : Go.Shelf.Ren := ⟨fun | 6 => 110 | 8 => 136 | 9 => 79 | 11 => 154 | 13 => 132 | 12 => 131 | 23 => 152 | 24 => 153 | 14 => 143 | 15 => 144 | 16 => 145 | 17 => 146 | 18 => 147 | 19 => 148 | 20 => 149 | 21 => 150 | 22 => 151 | 25 => 157 | 26 => 158 | 27 => 159 | 28 => 160 | 29 => 161 | 30 => 162 | 31 => 165 | n => n, fun | 26 => 3 | 28 => 143 | 24 => 44 | 0 => 0 | 3 => 3 | 37 => 172 | 48 => 190 | 50 => 114 | 4 => 4 | 40 => 184 | 39 => 183 | 45 => 145 | 5 => 5 | 9 => 9 | 51 => 193 | 55 => 197 | 57 => 200 | 58 => 69 | 33 => 24 | n => n, fun | n => n⟩
theorem sortedLy : Go.Proofs.SlLaysZI.n6 Try.prog sortedLy_ren := {
  mixed := by kernel_rfl
  f6 := ⟨Try.f110.name, by decide, Try.func110.trans (congrArg some (by kernel_rfl))⟩
  f8 := ⟨Try.f136.name, by decide, Try.func136.trans (congrArg some (by kernel_rfl))⟩
  f11 := ⟨Try.f154.name, by decide, Try.func154.trans (congrArg some (by kernel_rfl))⟩
  t0 := Try.underlying0
  a0 := Try.isAgg0
  z0 := Try.sizeOf0
  v0 := Try.zeroValue0
  t24 := Try.underlying44
  a24 := Try.isAgg44
  z24 := Try.sizeOf44
  v24 := Try.zeroValue44
  t26 := Try.underlying3
  a26 := Try.isAgg3
  z26 := Try.sizeOf3
  v26 := Try.zeroValue3
  t28 := Try.underlying143
  a28 := Try.isAgg143
  z28 := Try.sizeOf143
  v28 := Try.zeroValue143
  i26 := by kernel_rfl }

end Go.Proofs.Ytlikggeceeennaa
namespace Go.Proofs.Ytlikggeceeennaa
open Go Go.RowKit Go.Maps Go.Sort Go.Shelf Hach

theorem sortsIn (m : Nat) : AnyZI.SortsIn Try.prog sortedLy_ren Fence.wide m :=
  ⟨fun blk off cap ss W hH hblk hsz => callsIn_wide.2 (AnyM.slices_Sort_int sortLy blk off cap ss W hH hblk hsz),
   fun p cap W => callsIn_wide.2 (AnyM.slices_Sort_int_none sortLy p cap W)⟩
/-- maps.Keys. -/
def keysT : TypeId := keysLy_ren.t 23
theorem keys_calls (w : World) (m : Nat) : Calls Try.prog 111 #[.map (some m)] w fun e w' => e = .returned (.func (.func 137) #[] #[.pointer (some ⟨w.heap.size, 0, none⟩)]) ∧ w' = w.alloc (.cells #[.map (some m)] keysT) :=
  (callsIn_wide (n := 6)).1 (AnyZI.keys_in keysLy Fence.wide 6 trivial rfl (some m) w)
def KeysRet (w : World) (L : Olds) (en : Ending) (w' : World) : Prop := ∃ A c, en = .returned (.slice A L.length c) ∧ Hid (w'.ownsRow w.heap.size 3 1 (.slice A L.length c) L.length (L.map fun p => .int .i64 p.1) ∧ Up w w')
theorem sorted_calls (w : World) (m b : Nat) (L : Olds) (hm : Hid (MapS w m L)) (hl : Hid (L.length < 1000000)) (hr : Hid ((L.map (·.1)).Pairwise (· < ·))) (hb : Hid (w.heap[b]? = some (.cells #[.map (some m)] keysT (0, 0)))) :
    Calls Try.prog 110 #[.func (.func 137) #[] #[.pointer (some ⟨b, 0, none⟩)]] w (KeysRet w L) := by
  refine (callsIn_wide (n := 6)).1 ?_
  have hc : w.cell? ⟨b, 0, none⟩ = some (.map (some m)) := by rw [cell_of_row w b _ _ _ _ hb.out]; rfl
  have hf : w.frozen? ⟨b, 0, none⟩ = false := by unfold World.frozen?; rw [show (⟨b, 0, none⟩ : Addr).block = b from rfl, hb.out]; simp
  have hown : w.ownsMap Try.prog 3 secElem m L.length (datL L) := hm.out
  have hseq := AnyZI.keys_gives (ρ := keysLy_ren) { keysLy with } Fence.wide 3 trivial rfl (by omega) b m L.length (datL L) w (Array.getElem?_eq_some_iff.1 hb.out).1 hc hown
  have cS := AnyZI.sorted_in sortedLy Fence.wide 6 trivial trivial trivial trivial rfl (by omega) (sortsIn _) (enters_of Try.func79 (by kernel_rfl) rfl) 137 #[.pointer (some ⟨b, 0, none⟩)] trivial (enters_of Try.func137 (by kernel_rfl) rfl) _ _ (by rw [sizeL_dat]; have := hl.out; simp only [maxLen]; omega) (by rw [sizeL_dat]; have := hl.out; omega) w hseq
  refine cS.mono ?_
  rintro e w' ⟨v, ss, rfl, hp, hrow, hnil, hbe⟩
  have hks : ss.mergeSort (fun x y => decide (x ≤ y)) = L.map (·.1) := mergeSort_rising hr.out (by rw [← keysL_dat L]; exact hp)
  have hlen : ss.length = L.length := by have := congrArg List.length hks; rwa [List.length_mergeSort, List.length_map] at this
  rw [hks, hlen] at hrow
  obtain ⟨A, c, rfl, _⟩ := own_form hrow
  refine ⟨A, c, rfl, hid ⟨?_, hbe⟩⟩
  rw [List.map_map] at hrow
  exact hrow
end Go.Proofs.Ytlikggeceeennaa
