/- PARTS OF A PROOF, one behind the other: slices.Sort of integers, by the kit's contract: a row of the call's own is sorted where it lies. CONDITIONS: none of this text's own. -/
import Derived.Test.YtbcghggkfnagoaaGreatDoorQS3
import Derived.Sort.OwnSortedInts
import Derived.Shelf.SortM.Plain
import Derived.Shelf.SortM.SortNone
import Derived.Test.YtbcghggkfnagoaaGreatDoorProg
import Derived.Test.YtbcghggkfnagoaaGreatDoorChecked
set_option linter.unusedVariables false
set_option linter.unusedSimpArgs false
namespace Go.Proofs.YtbcghggkfnagoaaGreatDoor
open Go.Shelf
def sortLy_ren : Go.Shelf.Ren := ⟨fun | 5 => 128 | 8 => 160 | 7 => 159 | 19 => 194 | 20 => 195 | 10 => 185 | 11 => 186 | 12 => 187 | 13 => 188 | 14 => 189 | 15 => 190 | 16 => 191 | 17 => 192 | 18 => 193 | 30 => 200 | 31 => 201 | 32 => 202 | 33 => 203 | 34 => 204 | 35 => 205 | 40 => 208 | n => n, fun | 23 => 30 | 25 => 3 | 3 => 3 | 32 => 116 | 22 => 30 | 0 => 0 | 44 => 209 | 46 => 142 | 4 => 4 | 36 => 242 | 35 => 241 | 41 => 174 | 5 => 5 | 9 => 9 | 53 => 256 | 57 => 260 | 63 => 265 | 64 => 135 | n => n, fun | n => n⟩
theorem sortLy : Go.Proofs.SlLaysM.n5 Tryz.prog sortLy_ren := {
  mixed := by kernel_rfl
  f5 := ⟨Tryz.f128.name, by decide, Tryz.func128.trans (congrArg some (by kernel_rfl))⟩
  f7 := ⟨Tryz.f159.name, by decide, Tryz.func159.trans (congrArg some (by kernel_rfl))⟩
  f8 := Tryz.func160.trans (congrArg some (by kernel_rfl))
  f10 := ⟨Tryz.f185.name, by decide, Tryz.func185.trans (congrArg some (by kernel_rfl))⟩
  f11 := ⟨Tryz.f186.name, by decide, Tryz.func186.trans (congrArg some (by kernel_rfl))⟩
  f12 := ⟨Tryz.f187.name, by decide, Tryz.func187.trans (congrArg some (by kernel_rfl))⟩
  f13 := ⟨Tryz.f188.name, by decide, Tryz.func188.trans (congrArg some (by kernel_rfl))⟩
  f14 := ⟨Tryz.f189.name, by decide, Tryz.func189.trans (congrArg some (by kernel_rfl))⟩
  f15 := ⟨Tryz.f190.name, by decide, Tryz.func190.trans (congrArg some (by kernel_rfl))⟩
  f16 := ⟨Tryz.f191.name, by decide, Tryz.func191.trans (congrArg some (by kernel_rfl))⟩
  f17 := ⟨Tryz.f192.name, by decide, Tryz.func192.trans (congrArg some (by kernel_rfl))⟩
  f18 := ⟨Tryz.f193.name, by decide, Tryz.func193.trans (congrArg some (by kernel_rfl))⟩
  f19 := Tryz.func194.trans (congrArg some (by kernel_rfl))
  f20 := Tryz.func195.trans (congrArg some (by kernel_rfl))
  f30 := ⟨Tryz.f200.name, by decide, Tryz.func200.trans (congrArg some (by kernel_rfl))⟩
  f31 := Tryz.func201.trans (congrArg some (by kernel_rfl))
  f32 := Tryz.func202.trans (congrArg some (by kernel_rfl))
  f33 := ⟨Tryz.f203.name, by decide, Tryz.func203.trans (congrArg some (by kernel_rfl))⟩
  f34 := ⟨Tryz.f204.name, by decide, Tryz.func204.trans (congrArg some (by kernel_rfl))⟩
  f35 := ⟨Tryz.f205.name, by decide, Tryz.func205.trans (congrArg some (by kernel_rfl))⟩
  f40 := ⟨Tryz.f208.name, by decide, Tryz.func208.trans (congrArg some (by kernel_rfl))⟩
  t0 := Tryz.underlying0
  a0 := Tryz.isAgg0
  z0 := Tryz.sizeOf0
  v0 := Tryz.zeroValue0
  t3 := Tryz.underlying3
  a3 := Tryz.isAgg3
  z3 := Tryz.sizeOf3
  v3 := Tryz.zeroValue3
  t4 := Tryz.underlying4
  a4 := Tryz.isAgg4
  z4 := Tryz.sizeOf4
  v4 := Tryz.zeroValue4
  t5 := Tryz.underlying5
  a5 := Tryz.isAgg5
  z5 := Tryz.sizeOf5
  v5 := Tryz.zeroValue5
  t9 := Tryz.underlying9
  a9 := Tryz.isAgg9
  z9 := Tryz.sizeOf9
  v9 := Tryz.zeroValue9
  t22 := Tryz.underlying30
  a22 := Tryz.isAgg30
  z22 := Tryz.sizeOf30
  v22 := Tryz.zeroValue30
  t23 := Tryz.underlying30
  a23 := Tryz.isAgg30
  z23 := Tryz.sizeOf30
  v23 := Tryz.zeroValue30
  t25 := Tryz.underlying3
  a25 := Tryz.isAgg3
  z25 := Tryz.sizeOf3
  v25 := Tryz.zeroValue3
  t32 := Tryz.underlying116
  a32 := Tryz.isAgg116
  z32 := Tryz.sizeOf116
  v32 := Tryz.zeroValue116
  t35 := Tryz.underlying241
  a35 := Tryz.isAgg241
  z35 := Tryz.sizeOf241
  v35 := Tryz.zeroValue241
  t36 := Tryz.underlying242
  a36 := Tryz.isAgg242
  z36 := Tryz.sizeOf242
  v36 := Tryz.zeroValue242
  t41 := Tryz.underlying174
  a41 := Tryz.isAgg174
  z41 := Tryz.sizeOf174
  v41 := Tryz.zeroValue174
  t44 := Tryz.underlying209
  a44 := Tryz.isAgg209
  z44 := Tryz.sizeOf209
  v44 := Tryz.zeroValue209
  t46 := Tryz.underlying142
  a46 := Tryz.isAgg142
  z46 := Tryz.sizeOf142
  v46 := Tryz.zeroValue142
  t53 := Tryz.underlying256
  a53 := Tryz.isAgg256
  z53 := Tryz.sizeOf256
  v53 := Tryz.zeroValue256
  t57 := Tryz.underlying260
  a57 := Tryz.isAgg260
  z57 := Tryz.sizeOf260
  v57 := Tryz.zeroValue260
  t63 := Tryz.underlying265
  a63 := Tryz.isAgg265
  z63 := Tryz.sizeOf265
  v63 := Tryz.zeroValue265
  t64 := Tryz.underlying135
  a64 := Tryz.isAgg135
  z64 := Tryz.sizeOf135
  v64 := Tryz.zeroValue135 }

end Go.Proofs.YtbcghggkfnagoaaGreatDoor
namespace Go.Proofs.YtbcghggkfnagoaaGreatDoor
open Go Go.RowKit Hach

def rising (L : List Int) : List Int := L.mergeSort fun x y => decide (x ≤ y)
theorem rising_length (L : List Int) : (rising L).length = L.length := List.length_mergeSort L
theorem sort_calls (w : World) (base n c : Nat) (A : Option Addr) (L : List Int) (hn : Hid (n = L.length)) (ho : Hid (w.ownsRow base 3 1 (.slice A n c) n (L.map (Value.int .i64)))) (hs : Hid (n < 4611686018427387904)) :
    Calls Tryz.prog 128 #[.slice A n c] w fun e w' => e = .returned (.tuple #[]) ∧ Hid (w'.ownsRow base 3 1 (.slice A n c) n ((rising L).map (Value.int .i64)) ∧ w.grownBy w' (Value.slice A n c).ownBlock) := by
  obtain rfl := hn.out
  rcases ho.out.2 with ⟨hv, h0⟩ | ⟨g, cap, cur, hv, hb, hgg, h1, h2, h3, h4⟩
  · injection hv with e1 e2 e3
    subst e1
    have hL : L = [] := List.eq_nil_of_length_eq_zero h0
    subst hL
    refine (AnyM.slices_Sort_int_none sortLy none c w).mono ?_
    rintro e w' ⟨rfl, rfl⟩
    exact ⟨rfl, hid ⟨by simpa [rising] using ho.out, World.grownBy.refl _ _⟩⟩
  · injection hv with e1 e2 e3
    subst e1; subst e3
    rw [Nat.mul_one] at h4
    refine (AnyM.slices_Sort_int sortLy g 0 c L w (holds_of_blockI hgg h4) (Array.getElem?_eq_some_iff.1 hgg).1 hs.out).mono ?_
    rintro e w' ⟨rfl, k, os, rfl⟩
    exact ⟨rfl, hid ⟨ownsRow_sortedI (rising_length L) hb hgg h1 h2 h3, grownBy_sortedI _⟩⟩
end Go.Proofs.YtbcghggkfnagoaaGreatDoor
