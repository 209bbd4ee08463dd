/- maps.Clone at a map of sectors, by the kit's contract. -/
import Derived.Test.YtlikggeceeennaaDskT
import Derived.Shelf.SlMaps.Clone
set_option linter.unusedVariables false
set_option linter.unusedSimpArgs false
namespace Go.Proofs.Ytlikggeceeennaa
open Go.Shelf
def mcloneLy_ren : Go.Shelf.Ren := ⟨fun | 5 => 109 | 7 => 135 | n => n, fun | 23 => 93 | 25 => 3 | 3 => 137 | 4 => 4 | 20 => 20 | n => n, fun | n => n⟩
theorem mcloneLy : Go.Proofs.SlLaysW.n5 Try.prog mcloneLy_ren := {
  mixed := by kernel_rfl
  f5 := ⟨Try.f109.name, by decide, Try.func109.trans (congrArg some (by kernel_rfl))⟩
  f7 := Try.func135.trans (congrArg some (by kernel_rfl))
  t4 := Try.underlying4
  a4 := Try.isAgg4
  z4 := Try.sizeOf4
  v4 := Try.zeroValue4
  t20 := Try.underlying20
  a20 := Try.isAgg20
  z20 := Try.sizeOf20
  v20 := Try.zeroValue20
  t23 := Try.underlying93
  a23 := Try.isAgg93
  z23 := Try.sizeOf93
  v23 := Try.zeroValue93 }

end Go.Proofs.Ytlikggeceeennaa
