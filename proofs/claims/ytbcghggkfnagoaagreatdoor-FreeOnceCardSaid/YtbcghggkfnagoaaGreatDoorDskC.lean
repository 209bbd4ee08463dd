/- THE WALK of a file's settle. -/
import Derived.Test.YtbcghggkfnagoaaGreatDoorDskB
set_option linter.unusedVariables false
set_option linter.unusedSimpArgs false
namespace Go.Proofs.YtbcghggkfnagoaaGreatDoor
open Go Go.RowKit Go.Maps Hach

def settleF (f : FileV) : FileV := { f with old := [], sure := f.now.length }
def SettleRet (w : World) (base d : Nat) (cs : Array Value) (t : TypeId) (o : Nat) (A : Option Addr) (c m : Nat) (f : FileV) (en : Ending) (w' : World) : Prop :=
  en = .returned (.tuple #[]) ∧ Hid (FileAt w' base d (cs.setIfInBounds (o + 2) (.int .i64 f.now.length)) t o A c m (settleF f) ∧ Below base w w' ∧ Fr (fun k => k = d ∨ k = m) w w')
theorem FileAt.settled {w w1 : World} {base d o m c : Nat} {cs : Array Value} {t : TypeId} {A : Option Addr} {f : FileV} (h : FileAt w base d cs t o A c m f) (hm : MapS w1 m []) (hg : w.grownBy w1 (some m)) {n : Nat} (hn : f.now.length = n) :
    FileAt (w1.setCell ⟨d, o + 2, none⟩ (.int .i64 n)) base d (cs.setIfInBounds (o + 2) (.int .i64 f.now.length)) t o A c m (settleF f) ∧ Below base w (w1.setCell ⟨d, o + 2, none⟩ (.int .i64 n)) ∧ Fr (fun k => k = d ∨ k = m) w (w1.setCell ⟨d, o + 2, none⟩ (.int .i64 n)) := by
  subst hn
  obtain ⟨h1, b1, r1⟩ := h.marked hm hg
  have f2 : Fr (fun k => k = d) w1 (w1.setCell ⟨d, o + 2, none⟩ (.int .i64 f.now.length)) := (Fr.refl (fun k => k = d) w1).setCell (p := ⟨d, o + 2, none⟩) (fun _ => rfl) _
  have ne := h1.ne
  refine ⟨⟨heap_setCell_same w1 d (o + 2) cs t _ h1.own, ?_, ?_, ?_, f2.own h1.row (fun k hk e => (ne.2 k hk).1 e), h1.map.kept f2 (fun e => ne.1 e.symm), h.len, h.low, h.ty⟩, b1.setCell (p := ⟨d, o + 2, none⟩) h.low.1 _, (r1.mono (fun k hk => .inr hk)).trans f2 (fun _ _ e => .inl e)⟩
  · rw [Array.getElem?_setIfInBounds_ne (by omega)]; exact h.c0
  · rw [Array.getElem?_setIfInBounds_ne (by omega)]; exact h.c1
  · have := (Array.getElem?_eq_some_iff.1 h.c2).1; simp [this, settleF]
theorem settle_calls (w : World) (base d : Nat) (cs : Array Value) (t : TypeId) (o : Nat) (A : Option Addr) (c m : Nat) (f : FileV) (h : Hid (FileAt w base d cs t o A c m f)) :
    Calls Tryz.prog 115 #[.pointer (some ⟨d, o, none⟩)] w (SettleRet w base d cs t o A c m f) := by
  obtain ⟨k0, k1, k2⟩ := h.out.cell0
  obtain ⟨w1, hclr, m1, g1⟩ := h.out.map.clear 0
  have hclr : ∀ ty, (Builtin.clear_ #[82] ty #[.map (some m)]).run Tryz.prog w = .ok (.tuple #[]) w1 := fun ty => hclr
  obtain ⟨h1, _, _⟩ := h.out.marked m1 g1
  obtain ⟨j0, j1, j2⟩ := h1.cell0
  have jf := h1.free (o + 2)
  have RES := hid (h.out.settled m1 g1 rfl)
  have j0 : w1.cell? ⟨d, o, none⟩ = some (.slice A f.now.length c) := j0
  clear h1 m1 g1
  go_enter Tryz.func115, Tryz.ntmps115
  go_wp2
  go_end0
  exact ⟨rfl, RES⟩
end Go.Proofs.YtbcghggkfnagoaaGreatDoor
