/- PARTS OF A PROOF, one behind the other: THE WALKS of cache's made, out, last, on cells alone. CONDITIONS: none of this text's own. -/
import Derived.Test.YtbcghggkfnagoaaGreatDoorQS6
import Derived.WalkKit
import Derived.Test.YtbcghggkfnagoaaGreatDoorProg
import Derived.Test.YtbcghggkfnagoaaGreatDoorChecked
set_option linter.unusedVariables false
set_option linter.unusedSimpArgs false
namespace Go.Proofs.YtbcghggkfnagoaaGreatDoor
open Go Go.RowKit Hach

def ptr (b : Nat) : Value := .pointer (some ⟨b, 0, none⟩)

theorem made_calls (w : World) (g r : Nat) (h : w.cell? ⟨g, 2, none⟩ = some (ptr r)) :
    Calls Tryz.prog 158 #[ptr g] w fun e w' => e = .returned (.bool true) ∧ w = w' := by
  unfold ptr at *
  go_enter Tryz.func158, Tryz.ntmps158
  go_wp2
  go_ret
  exact ⟨rfl, rfl⟩

def OutRet (w : World) (p q : Nat) (en : Ending) (w' : World) : Prop := en = .returned (.tuple #[]) ∧ w' = ((w.setCell ⟨p, 4, none⟩ (ptr q)).setCell ⟨q, 5, none⟩ (ptr p)).drew

set_option maxHeartbeats 1000000 in
theorem out_calls (w : World) (e p q : Nat) (u v : Value) (h4 : w.cell? ⟨e, 4, none⟩ = some (ptr q)) (h5 : w.cell? ⟨e, 5, none⟩ = some (ptr p))
    (hp : w.cell? ⟨p, 4, none⟩ = some u) (fp : w.frozen? ⟨p, 4, none⟩ = false) (hq : w.cell? ⟨q, 5, none⟩ = some v) (fq : w.frozen? ⟨q, 5, none⟩ = false) (np : p ≠ e) (nq : q ≠ e) :
    Calls Tryz.prog 179 #[ptr e] w (OutRet w p q) := by
  unfold OutRet
  unfold ptr at *
  have hq' : (w.setCell ⟨p, 4, none⟩ (.pointer (some ⟨q, 0, none⟩))).cell? ⟨q, 5, none⟩ = some v := by
    rw [World.cell?_setCell_other _ _ _ _ (fun e => by injection e with _ e2; cases e2)]; exact hq
  go_enter Tryz.func179, Tryz.ntmps179
  go_wp2
  go_region_held3 (fun w' => w'.cell? ⟨e, 4, none⟩ = some (.pointer (some ⟨q, 0, none⟩)) ∧ w'.cell? ⟨e, 5, none⟩ = some (.pointer (some ⟨p, 0, none⟩)))
    (first | exact ⟨h4, h5⟩ | go_keep)
    (fail)
  go_wp2
  go_end0
  exact ⟨rfl, rfl⟩

def LastRet (w : World) (e p r : Nat) (en : Ending) (w' : World) : Prop :=
  en = .returned (.tuple #[]) ∧ w' = ((((w.setCell ⟨e, 4, none⟩ (ptr r)).setCell ⟨e, 5, none⟩ (ptr p)).setCell ⟨p, 4, none⟩ (ptr e)).setCell ⟨r, 5, none⟩ (ptr e)).drew.drew

set_option maxHeartbeats 1000000 in
theorem last_calls (w : World) (g e p r : Nat) (u1 u2 u3 : Value) (hg : w.cell? ⟨g, 2, none⟩ = some (ptr r)) (hr : w.cell? ⟨r, 5, none⟩ = some (ptr p)) (fr : w.frozen? ⟨r, 5, none⟩ = false)
    (he4 : w.cell? ⟨e, 4, none⟩ = some u1) (fe4 : w.frozen? ⟨e, 4, none⟩ = false) (he5 : w.cell? ⟨e, 5, none⟩ = some u2) (fe5 : w.frozen? ⟨e, 5, none⟩ = false)
    (hp4 : w.cell? ⟨p, 4, none⟩ = some u3) (fp4 : w.frozen? ⟨p, 4, none⟩ = false) (ne : e ≠ g) (nr : e ≠ r) (nep : e ≠ p) (npg : p ≠ g) (nrg : r ≠ g) :
    Calls Tryz.prog 180 #[ptr g, ptr e] w (LastRet w e p r) := by
  unfold LastRet
  unfold ptr at *
  go_enter Tryz.func180, Tryz.ntmps180
  go_wp2
  go_region_held3 (fun w' => w'.cell? ⟨g, 2, none⟩ = some (.pointer (some ⟨r, 0, none⟩)) ∧ w'.cell? ⟨r, 5, none⟩ = some (.pointer (some ⟨p, 0, none⟩)))
    (first | exact ⟨hg, hr⟩ | go_keep)
    (fail)
  go_wp2
  have g2 : ((w.setCell ⟨e, 4, none⟩ (.pointer (some ⟨r, 0, none⟩))).setCell ⟨e, 5, none⟩ (.pointer (some ⟨p, 0, none⟩))).drew.cell? ⟨g, 2, none⟩ = some (.pointer (some ⟨r, 0, none⟩)) := by go_simp
  have e5 : ((w.setCell ⟨e, 4, none⟩ (.pointer (some ⟨r, 0, none⟩))).setCell ⟨e, 5, none⟩ (.pointer (some ⟨p, 0, none⟩))).drew.cell? ⟨e, 5, none⟩ = some (.pointer (some ⟨p, 0, none⟩)) := by
    have : (w.setCell ⟨e, 4, none⟩ (.pointer (some ⟨r, 0, none⟩))).cell? ⟨e, 5, none⟩ = some u2 := by rw [World.cell?_setCell_other _ _ _ _ (fun e => by injection e with _ e2; cases e2)]; exact he5
    exact World.cell?_setCell_same _ _ _ this
  have p4 : ((w.setCell ⟨e, 4, none⟩ (.pointer (some ⟨r, 0, none⟩))).setCell ⟨e, 5, none⟩ (.pointer (some ⟨p, 0, none⟩))).drew.cell? ⟨p, 4, none⟩ = some u3 := by go_simp
  have r5 : ((w.setCell ⟨e, 4, none⟩ (.pointer (some ⟨r, 0, none⟩))).setCell ⟨e, 5, none⟩ (.pointer (some ⟨p, 0, none⟩))).drew.cell? ⟨r, 5, none⟩ = some (.pointer (some ⟨p, 0, none⟩)) := by go_simp
  have fp4' : ((w.setCell ⟨e, 4, none⟩ (.pointer (some ⟨r, 0, none⟩))).setCell ⟨e, 5, none⟩ (.pointer (some ⟨p, 0, none⟩))).drew.frozen? ⟨p, 4, none⟩ = false := by go_simp
  have fr5' : ((w.setCell ⟨e, 4, none⟩ (.pointer (some ⟨r, 0, none⟩))).setCell ⟨e, 5, none⟩ (.pointer (some ⟨p, 0, none⟩))).drew.frozen? ⟨r, 5, none⟩ = false := by go_simp
  have hpr : ⟨p, 4, none⟩ ≠ (⟨r, 5, none⟩ : Addr) := fun e => by injection e with _ e2; cases e2
  generalize hW1 : ((w.setCell ⟨e, 4, none⟩ (.pointer (some ⟨r, 0, none⟩))).setCell ⟨e, 5, none⟩ (.pointer (some ⟨p, 0, none⟩))).drew = W1 at *
  have r5' : (W1.setCell ⟨p, 4, none⟩ (.pointer (some ⟨e, 0, none⟩))).cell? ⟨r, 5, none⟩ = some (.pointer (some ⟨p, 0, none⟩)) := by
    rw [World.cell?_setCell_other _ _ _ _ hpr]; exact r5
  have HW := hid hW1
  have npe : p ≠ e := fun h => nep h.symm
  have nre : r ≠ e := fun h => nr h.symm
  have nge : g ≠ e := fun h => ne h.symm
  clear hW1 hg hr fr he4 fe4 he5 fe5 hp4 fp4
  go_region_held3 (fun w' => w'.cell? ⟨g, 2, none⟩ = some (.pointer (some ⟨r, 0, none⟩)) ∧ w'.cell? ⟨e, 5, none⟩ = some (.pointer (some ⟨p, 0, none⟩)))
    (first | exact ⟨g2, e5⟩ | go_keep)
    (fail)
  go_wp2
  go_end0
  exact ⟨rfl, by rw [← HW.out]; rfl⟩
end Go.Proofs.YtbcghggkfnagoaaGreatDoor
