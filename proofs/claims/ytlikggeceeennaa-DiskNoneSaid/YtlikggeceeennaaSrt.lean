/- slices.Sort of integers, by the kit's contract: a row of the call's own is sorted where it lies. -/
import Derived.Test.YtlikggeceeennaaK1
import Derived.Sort.OwnSortedInts
import Derived.Shelf.SortM.Plain
import Derived.Shelf.SortM.SortNone
import Derived.Test.YtlikggeceeennaaProg
import Derived.Test.YtlikggeceeennaaChecked
set_option linter.unusedVariables false
set_option linter.unusedSimpArgs false
namespace Go.Proofs.Ytlikggeceeennaa
open Go.Shelf
def sortLy_ren : Go.Shelf.Ren := ⟨fun | 5 => 79 | 8 => 132 | 7 => 131 | 19 => 152 | 20 => 153 | 10 => 143 | 11 => 144 | 12 => 145 | 13 => 146 | 14 => 147 | 15 => 148 | 16 => 149 | 17 => 150 | 18 => 151 | 30 => 157 | 31 => 158 | 32 => 159 | 33 => 160 | 34 => 161 | 35 => 162 | 40 => 165 | n => n, fun | 23 => 44 | 25 => 3 | 3 => 3 | 32 => 172 | 22 => 44 | 0 => 0 | 44 => 190 | 46 => 114 | 4 => 4 | 36 => 184 | 35 => 183 | 41 => 145 | 5 => 5 | 9 => 9 | 53 => 193 | 57 => 197 | 63 => 200 | 64 => 69 | n => n, fun | n => n⟩
theorem sortLy : Go.Proofs.SlLaysM.n5 Try.prog sortLy_ren := {
  mixed := by kernel_rfl
  f5 := ⟨Try.f79.name, by decide, Try.func79.trans (congrArg some (by kernel_rfl))⟩
  f7 := ⟨Try.f131.name, by decide, Try.func131.trans (congrArg some (by kernel_rfl))⟩
  f8 := Try.func132.trans (congrArg some (by kernel_rfl))
  f10 := ⟨Try.f143.name, by decide, Try.func143.trans (congrArg some (by kernel_rfl))⟩
  f11 := ⟨Try.f144.name, by decide, Try.func144.trans (congrArg some (by kernel_rfl))⟩
  f12 := ⟨Try.f145.name, by decide, Try.func145.trans (congrArg some (by kernel_rfl))⟩
  f13 := ⟨Try.f146.name, by decide, Try.func146.trans (congrArg some (by kernel_rfl))⟩
  f14 := ⟨Try.f147.name, by decide, Try.func147.trans (congrArg some (by kernel_rfl))⟩
  f15 := ⟨Try.f148.name, by decide, Try.func148.trans (congrArg some (by kernel_rfl))⟩
  f16 := ⟨Try.f149.name, by decide, Try.func149.trans (congrArg some (by kernel_rfl))⟩
  f17 := ⟨Try.f150.name, by decide, Try.func150.trans (congrArg some (by kernel_rfl))⟩
  f18 := ⟨Try.f151.name, by decide, Try.func151.trans (congrArg some (by kernel_rfl))⟩
  f19 := Try.func152.trans (congrArg some (by kernel_rfl))
  f20 := Try.func153.trans (congrArg some (by kernel_rfl))
  f30 := ⟨Try.f157.name, by decide, Try.func157.trans (congrArg some (by kernel_rfl))⟩
  f31 := Try.func158.trans (congrArg some (by kernel_rfl))
  f32 := Try.func159.trans (congrArg some (by kernel_rfl))
  f33 := ⟨Try.f160.name, by decide, Try.func160.trans (congrArg some (by kernel_rfl))⟩
  f34 := ⟨Try.f161.name, by decide, Try.func161.trans (congrArg some (by kernel_rfl))⟩
  f35 := ⟨Try.f162.name, by decide, Try.func162.trans (congrArg some (by kernel_rfl))⟩
  f40 := ⟨Try.f165.name, by decide, Try.func165.trans (congrArg some (by kernel_rfl))⟩
  t0 := Try.underlying0
  a0 := Try.isAgg0
  z0 := Try.sizeOf0
  v0 := Try.zeroValue0
  t3 := Try.underlying3
  a3 := Try.isAgg3
  z3 := Try.sizeOf3
  v3 := Try.zeroValue3
  t4 := Try.underlying4
  a4 := Try.isAgg4
  z4 := Try.sizeOf4
  v4 := Try.zeroValue4
  t5 := Try.underlying5
  a5 := Try.isAgg5
  z5 := Try.sizeOf5
  v5 := Try.zeroValue5
  t9 := Try.underlying9
  a9 := Try.isAgg9
  z9 := Try.sizeOf9
  v9 := Try.zeroValue9
  t22 := Try.underlying44
  a22 := Try.isAgg44
  z22 := Try.sizeOf44
  v22 := Try.zeroValue44
  t23 := Try.underlying44
  a23 := Try.isAgg44
  z23 := Try.sizeOf44
  v23 := Try.zeroValue44
  t25 := Try.underlying3
  a25 := Try.isAgg3
  z25 := Try.sizeOf3
  v25 := Try.zeroValue3
  t32 := Try.underlying172
  a32 := Try.isAgg172
  z32 := Try.sizeOf172
  v32 := Try.zeroValue172
  t35 := Try.underlying183
  a35 := Try.isAgg183
  z35 := Try.sizeOf183
  v35 := Try.zeroValue183
  t36 := Try.underlying184
  a36 := Try.isAgg184
  z36 := Try.sizeOf184
  v36 := Try.zeroValue184
  t41 := Try.underlying145
  a41 := Try.isAgg145
  z41 := Try.sizeOf145
  v41 := Try.zeroValue145
  t44 := Try.underlying190
  a44 := Try.isAgg190
  z44 := Try.sizeOf190
  v44 := Try.zeroValue190
  t46 := Try.underlying114
  a46 := Try.isAgg114
  z46 := Try.sizeOf114
  v46 := Try.zeroValue114
  t53 := Try.underlying193
  a53 := Try.isAgg193
  z53 := Try.sizeOf193
  v53 := Try.zeroValue193
  t57 := Try.underlying197
  a57 := Try.isAgg197
  z57 := Try.sizeOf197
  v57 := Try.zeroValue197
  t63 := Try.underlying200
  a63 := Try.isAgg200
  z63 := Try.sizeOf200
  v63 := Try.zeroValue200
  t64 := Try.underlying69
  a64 := Try.isAgg69
  z64 := Try.sizeOf69
  v64 := Try.zeroValue69 }

end Go.Proofs.Ytlikggeceeennaa
namespace Go.Proofs.Ytlikggeceeennaa
open Go Go.RowKit Hach

def rising (L : List Int) : List Int := L.mergeSort fun x y => decide (x ≤ y)
theorem rising_length (L : List Int) : (rising L).length = L.length := List.length_mergeSort L
theorem sort_calls (w : World) (base n c : Nat) (A : Option Addr) (L : List Int) (hn : Hid (n = L.length)) (ho : Hid (w.ownsRow base 3 1 (.slice A n c) n (L.map (Value.int .i64)))) (hs : Hid (n < 4611686018427387904)) :
    Calls Try.prog 79 #[.slice A n c] w fun e w' => e = .returned (.tuple #[]) ∧ Hid (w'.ownsRow base 3 1 (.slice A n c) n ((rising L).map (Value.int .i64)) ∧ w.grownBy w' (Value.slice A n c).ownBlock) := by
  obtain rfl := hn.out
  rcases ho.out.2 with ⟨hv, h0⟩ | ⟨g, cap, cur, hv, hb, hgg, h1, h2, h3, h4⟩
  · injection hv with e1 e2 e3
    subst e1
    have hL : L = [] := List.eq_nil_of_length_eq_zero h0
    subst hL
    refine (AnyM.slices_Sort_int_none sortLy none c w).mono ?_
    rintro e w' ⟨rfl, rfl⟩
    exact ⟨rfl, hid ⟨by simpa [rising] using ho.out, World.grownBy.refl _ _⟩⟩
  · injection hv with e1 e2 e3
    subst e1; subst e3
    rw [Nat.mul_one] at h4
    refine (AnyM.slices_Sort_int sortLy g 0 c L w (holds_of_blockI hgg h4) (Array.getElem?_eq_some_iff.1 hgg).1 hs.out).mono ?_
    rintro e w' ⟨rfl, k, os, rfl⟩
    exact ⟨rfl, hid ⟨ownsRow_sortedI (rising_length L) hb hgg h1 h2 h3, grownBy_sortedI _⟩⟩
end Go.Proofs.Ytlikggeceeennaa
