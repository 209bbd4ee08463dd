/- K4's laws where the region writes: S is 'Up wb' of an elder world wb throughout. No program in sight. -/
import Derived.Test.YtbcghggkfnagoaaGreatDoorK4
set_option linter.unusedVariables false
set_option linter.unusedSimpArgs false
namespace Hach
open Go Go.RowKit
section
variable {P : Program} {ops : Array Oper} {Q : Exit → Act → World → Prop} {md : Region.Mode}
theorem anyb_start {id : Nat} {a : Act} {w : World} (wb : World) (hm : P.follows .mixedOrders = true)
    (h : wpAnyH P .any ops (NoPanic Q) (Up wb) ops.size (Array.replicate ops.size false) a w.drew) : (Code.region id ops true).wp P Q a w :=
  wp_region_noPanic (wp_region_held hm h)
theorem anyb_take (i : Nat) (d : Option Tmp) {oi : Oper} {v : Value} {fuel : Nat} {listed : Array Bool} {a : Act} {wb w : World} (hu : Up wb w) (hi : ops[i]? = some oi) (hd : oi.dst = d)
    (hs : Region.noSelect ops = true) (hf : Region.free md ops listed i = true) (hr : (Region.ready md ops listed).contains i = true)
    (hQ : ∀ c a w, Q (.panic c) (a.put d v) w → Q (.panic c) a w) (hw : Region.wanted oi (yielded ops a.tmps) = true)
    (hy : ∀ w', Up wb w' → (execOp a.eval oi).run P w' = .ok (.value v) w')
    (h : wpAnyH P md ops Q (Up wb) fuel (listed.setIfInBounds i true) (a.put d v) w) : wpAnyH P md ops Q (Up wb) (fuel + 1) listed a w := by
  subst hd
  exact wpAnyH_take hi hs hf hr hQ (.inl ⟨hw, hy⟩) hu h
theorem any_two (i j : Nat) {o o2 : Oper} {fuel : Nat} {listed : Array Bool} {a : Act} {wb w : World} (hr : Region.ready md ops listed = [i, j]) (hi : ops[i]? = some o) (hj : ops[j]? = some o2)
    (hw : Region.wanted o (yielded ops a.tmps) = true) (hw2 : Region.wanted o2 (yielded ops a.tmps) = true)
    (h : ∀ K' : Act → World → Prop, Shut (∀ a' w', Up wb w' → wpAnyH P md ops Q (Up wb) fuel (listed.setIfInBounds i true) a' w' → K' a' w') → Oper.wp P o a w K' Q)
    (h2 : ∀ K' : Act → World → Prop, Shut (∀ a' w', Up wb w' → wpAnyH P md ops Q (Up wb) fuel (listed.setIfInBounds j true) a' w' → K' a' w') → Oper.wp P o2 a w K' Q) : wpAnyH P md ops Q (Up wb) (fuel + 1) listed a w := by
  refine wpAnyH_all hr (by simp) fun k hk => ?_
  rcases List.mem_cons.1 hk with rfl | hk
  · refine wpOp_step hi fun K' hK => ?_
    rw [if_pos hw]
    exact h K' fun a' w' hu hh => hK a' w' ⟨hu, hh⟩
  · obtain rfl : k = j := by simpa using hk
    refine wpOp_step hj fun K' hK => ?_
    rw [if_pos hw2]
    exact h2 K' fun a' w' hu hh => hK a' w' ⟨hu, hh⟩
end
end Hach
