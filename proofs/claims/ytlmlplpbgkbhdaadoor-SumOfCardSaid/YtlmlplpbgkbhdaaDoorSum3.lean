/- THE WALKS of the laws SumOf and SumPieces. -/
import Derived.Test.YtlmlplpbgkbhdaaDoorSum2
namespace Go.Proofs.YtlmlplpbgkbhdaaDoor
open Go.RowKit Hach Hach.Crc

set_option maxRecDepth 100000 in
set_option maxHeartbeats 400000 in
theorem sumOf_walk (w : World) (ht : Hid (TabOk w)) (A B : Option Addr) (xs ys : List UInt8) (ca cb : Nat) (s : W) (la : xs.length ≤ 9223372036854775807) (lb : ys.length ≤ 9223372036854775807)
    (ha : Hid (Bytes w A xs)) (hb : Hid (Bytes w B ys)) :
    Calls Tryd.prog 4 #[.slice A xs.length ca, .slice B ys.length cb, .int .u32 (n32 s)] w fun e w' => e = .returned (.bool true) ∧ Below w.heap.size w w' := by
  by_cases c1 : (2000 : Int) < xs.length
  · go_enter Tryd.func4, Tryd.ntmps4
    go_wp2_with fail
    refine (lives03_calls _ ht).mono ?_
    rintro e w' ⟨rfl, hw⟩
    go_wp2
    go_ret
    exact ⟨rfl, hw⟩
  by_cases c2 : (2000 : Int) < ys.length
  · go_enter Tryd.func4, Tryd.ntmps4
    go_wp2_with fail
    refine (lives03_calls _ ht).mono ?_
    rintro e w' ⟨rfl, hw⟩
    go_wp2
    go_ret
    exact ⟨rfl, hw⟩
  have hj := join_of (ofF xs) ys
  go_enter Tryd.func4, Tryd.ntmps4
  go_wp2_with fail
  refine (of_calls _ ht _ _ _ la ha).mono ?_
  rintro e w' ⟨rfl, rfl⟩
  go_wp2_with fail
  refine (of_calls _ ht _ _ _ lb hb).mono ?_
  rintro e w' ⟨rfl, rfl⟩
  go_wp2_with fail
  refine (refOf_calls _ _ _ _ la ha).mono ?_
  rintro e w' ⟨rfl, rfl⟩
  go_wp2_with fail
  refine (add_calls s _ ht _ _ _ lb hb).mono ?_
  rintro e w' ⟨rfl, rfl⟩
  go_wp2_with fail
  refine (refAdd_calls s _ _ _ _ lb hb).mono ?_
  rintro e w' ⟨rfl, rfl⟩
  go_wp2_with fail
  refine (join_calls _ _ ys.length (by omega) _).mono ?_
  rintro e w' ⟨rfl, rfl⟩
  go_wp2_with fail
  refine (refJoin_calls _ _ _ _ _ lb hb).mono ?_
  rintro e w' ⟨rfl, rfl⟩
  go_wp2_with fail
  refine (lives03_calls _ ht).mono ?_
  rintro e w' ⟨rfl, hw⟩
  go_wp2
  go_ret
  exact ⟨rfl, hw⟩
end Go.Proofs.YtlmlplpbgkbhdaaDoor
