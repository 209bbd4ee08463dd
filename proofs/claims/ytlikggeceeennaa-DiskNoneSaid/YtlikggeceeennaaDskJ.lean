/- WHAT A CRASH LEAVES, in plain; a file cut short. -/
import Derived.Test.YtlikggeceeennaaDskI
set_option linter.unusedVariables false
set_option linter.unusedSimpArgs false
namespace Go.Proofs.Ytlikggeceeennaa
open Go Go.RowKit Go.Maps Hach

structure CSt where
  now : List Sec
  last : Nat
  n : Nat
  wh : Bool
def crashStep (keep : List Bool) (torn : Int) (s : CSt) (p : Int × Sec) : CSt :=
  ⟨crashSec s.now p.1.toNat (staysV keep torn s.n s.wh).1 p.2, if 0 < (staysV keep torn s.n s.wh).1 then max s.last (p.1.toNat + 1) else s.last, s.n + 1, s.wh && !(staysV keep torn s.n s.wh).2⟩
def crashRow (keep : List Bool) (torn : Int) (s : CSt) (L : Olds) : CSt := L.foldl (crashStep keep torn) s
def crashFile (keep : List Bool) (torn : Int) (f : FileV) (n : Nat) (wh : Bool) : CSt := crashRow keep torn ⟨f.now, f.sure, n, wh⟩ f.old
def fileOf (s : CSt) : FileV := ⟨s.now.take s.last, [], s.last⟩
def crash1 (keep : List Bool) (torn : Int) (b : Bool) (S : DiskV × Nat × Bool) : DiskV × Nat × Bool :=
  (S.1.setF b (fileOf (crashFile keep torn (S.1.fl b) S.2.1 S.2.2)), (crashFile keep torn (S.1.fl b) S.2.1 S.2.2).n, (crashFile keep torn (S.1.fl b) S.2.1 S.2.2).wh)
def crashOff (D : DiskV) : DiskV := { D with on := false, armed := 0 }
/-- The stages of a crash: no file is done, one, both. -/
def stage (keep : List Bool) (torn : Int) (D : DiskV) : Nat → DiskV × Nat × Bool
  | 0 => (crashOff D, 0, true)
  | 1 => crash1 keep torn false (crashOff D, 0, true)
  | _ => crash1 keep torn true (crash1 keep torn false (crashOff D, 0, true))
def crashV (keep : List Bool) (torn : Int) (D : DiskV) : DiskV := (stage keep torn D 2).1
theorem clampT_le (t : Int) : clampT t ≤ 128 := by
  unfold clampT
  split
  · omega
  · split <;> omega
theorem staysV_le (keep : List Bool) (torn : Int) (n : Nat) (t : Bool) : (staysV keep torn n t).1 ≤ 128 := by
  unfold staysV
  split
  · exact Nat.le_refl _
  · split
    · exact clampT_le _
    · exact Nat.zero_le _
/-- What a crash's row keeps. -/
structure CStOk (z : Nat) (s : CSt) : Prop where
  whole : Whole s.now
  len : s.now.length = z
  last : s.last ≤ z
theorem CStOk.step {len : Nat} {s : CSt} (h : CStOk len s) (keep : List Bool) (torn : Int) {p : Int × Sec} (hp : 0 ≤ p.1 ∧ p.1 < (len : Int)) (ho : p.2.length = 128) : CStOk len (crashStep keep torn s p) := by
  have hi : p.1.toNat < s.now.length := by rw [h.len]; omega
  refine ⟨crashSec_whole h.whole hi (staysV_le _ _ _ _) ho, by unfold crashStep; rw [crashSec_length]; exact h.len, ?_⟩
  unfold crashStep
  simp only
  have := h.last
  split <;> omega
theorem CStOk.row {len : Nat} (keep : List Bool) (torn : Int) {L : Olds} {s : CSt} (h : CStOk len s) (hL : ∀ p ∈ L, (0 ≤ p.1 ∧ p.1 < (len : Int)) ∧ p.2.length = 128) : CStOk len (crashRow keep torn s L) := by
  induction L generalizing s with
  | nil => exact h
  | cons p L ih =>
    exact ih (h.step keep torn (hL p List.mem_cons_self).1 (hL p List.mem_cons_self).2) (fun q hq => hL q (List.mem_cons_of_mem _ hq))
theorem crashRow_n (keep : List Bool) (torn : Int) (L : Olds) (s : CSt) : (crashRow keep torn s L).n = s.n + L.length := by
  induction L generalizing s with
  | nil => rfl
  | cons p L ih => show (crashRow keep torn (crashStep keep torn s p) L).n = _; rw [ih]; show s.n + 1 + _ = _; rw [List.length_cons]; omega
theorem crashRow_take (keep : List Bool) (torn : Int) (L : Olds) (s : CSt) {j : Nat} (hj : j < L.length) : crashRow keep torn s (L.take (j + 1)) = crashStep keep torn (crashRow keep torn s (L.take j)) L[j] := by
  unfold crashRow
  rw [List.take_succ_eq_append_getElem hj, List.foldl_append]; rfl
theorem olds_le {L : Olds} {n : Nat} (hk : (L.map (·.1)).Pairwise (· < ·)) (hr : ∀ p ∈ L, 0 ≤ p.1 ∧ p.1 < (n : Int)) : L.length ≤ n := by
  have key : ∀ (l : List Int) (a : Int), l.Pairwise (· < ·) → (∀ x ∈ l, a ≤ x ∧ x < (n : Int)) → a ≤ (n : Int) → (l.length : Int) ≤ (n : Int) - a := by
    intro l
    induction l with
    | nil => intro a _ _ h; simp; omega
    | cons x r ih =>
      intro a hp hx ha
      rw [List.pairwise_cons] at hp
      have h0 := hx x List.mem_cons_self
      have := ih (x + 1) hp.2 (fun y hy => ⟨by have := hp.1 y hy; omega, (hx y (List.mem_cons_of_mem _ hy)).2⟩) (by omega)
      rw [List.length_cons]; omega
  have := key (L.map (·.1)) 0 hk (fun x hx => by obtain ⟨p, hp, rfl⟩ := List.mem_map.1 hx; exact hr p hp) (by omega)
  rw [List.length_map] at this
  omega
theorem FileOk.olds {f : FileV} (h : FileOk f) : f.old.length ≤ f.now.length := olds_le h.keys h.rng
theorem FileOk.cst {f : FileV} (h : FileOk f) (n : Nat) (wh : Bool) : CStOk f.now.length ⟨f.now, f.sure, n, wh⟩ := ⟨h.now, rfl, h.sure⟩
theorem FileOk.crashed {f : FileV} (h : FileOk f) (keep : List Bool) (torn : Int) (n : Nat) (wh : Bool) : CStOk f.now.length (crashFile keep torn f n wh) :=
  (h.cst n wh).row keep torn (fun p hp => ⟨h.rng p hp, h.old p hp⟩)
theorem FileOk.ofCrash {f : FileV} (h : FileOk f) (keep : List Bool) (torn : Int) (n : Nat) (wh : Bool) : FileOk (fileOf (crashFile keep torn f n wh)) := by
  have k := h.crashed keep torn n wh
  refine ⟨fun s hs => k.whole s (List.mem_of_mem_take hs), by simp [fileOf], by simp [fileOf], by simp [fileOf], ?_⟩
  show _ ≤ (List.take _ _).length
  rw [List.length_take, k.len]
  have := k.last
  show (crashFile keep torn f n wh).last ≤ _
  omega

/-! ### a file cut short -/
theorem own_shorter {w : World} {base : Nat} {e : TypeId} {size n c : Nat} {A : Option Addr} {xs : List Value} (h : w.ownsRow base e size (.slice A n c) n xs) {k : Nat} (hk : k ≤ n) : w.ownsRow base e size (.slice A k c) k (xs.take (k * size)) := by
  have hm : k * size ≤ n * size := Nat.mul_le_mul_right _ hk
  refine ⟨by rw [List.length_take, h.1]; omega, ?_⟩
  rcases h.2 with ⟨hv, h0⟩ | ⟨g, cap, cur, hv, hb, hg, hnc, hcm, hcs, ht⟩
  · injection hv with e1 e2 e3
    left
    subst e1; subst e3
    obtain rfl : k = 0 := by omega
    exact ⟨rfl, rfl⟩
  · injection hv with e1 e2 e3
    subst e1; subst e3
    refine .inr ⟨g, c, cur, rfl, hb, hg, by omega, hcm, hcs, ?_⟩
    rw [← ht, List.take_take, Nat.min_eq_left hm]
theorem flatS_take {l : List Sec} (h : Whole l) (k : Nat) (hk : k ≤ l.length) : (l.flatMap secC).take (k * 128) = (l.take k).flatMap secC := by
  have hl : ((l.take k).flatMap secC).length = k * 128 := by
    rw [flatS_length (fun s hs => h s (List.mem_of_mem_take hs)), List.length_take, Nat.min_eq_left hk]
  conv => lhs; rw [← List.take_append_drop k l, List.flatMap_append]
  rw [← hl, List.take_left]
theorem ownBlock_len (A : Option Addr) (n c n' c' : Nat) : (Value.slice A n c).ownBlock = (Value.slice A n' c').ownBlock := by cases A <;> rfl
theorem FileAt.short {w : World} {base d o m c : Nat} {cs : Array Value} {t : TypeId} {A : Option Addr} {f : FileV} (h : FileAt w base d cs t o A c m f) {k n : Nat} (hk : k ≤ f.now.length) (hn : (f.now.take k).length = n) :
    FileAt (w.setCell ⟨d, o, none⟩ (.slice A n c)) base d (cs.setIfInBounds o (.slice A n c)) t o A c m { f with now := f.now.take k } ∧ Fr (fun k => k = d) w (w.setCell ⟨d, o, none⟩ (.slice A n c)) := by
  have hkn : n = k := by rw [← hn, List.length_take]; omega
  subst hkn
  have f2 : Fr (fun k => k = d) w (w.setCell ⟨d, o, none⟩ (.slice A n c)) := (Fr.refl (fun k => k = d) w).setCell (p := ⟨d, o, none⟩) (fun _ => rfl) _
  have ne := h.ne
  have hr := f2.own (own_shorter h.row hk) (fun k9 hk9 e => (ne.2 k9 ((ownBlock_len A _ _ _ _).trans hk9)).1 e)
  rw [flatS_take h.len _ hk] at hr
  have hlt := (Array.getElem?_eq_some_iff.1 h.c0).1
  refine ⟨⟨heap_setCell_same w d o cs t _ h.own, ?_, ?_, ?_, ?_, h.map.kept f2 (fun e => ne.1 e.symm), fun s hs => h.len s (List.mem_of_mem_take hs), h.low, h.ty⟩, f2⟩
  · rw [hn]; simp [hlt]
  · rw [Array.getElem?_setIfInBounds_ne (by omega)]; exact h.c1
  · rw [Array.getElem?_setIfInBounds_ne (by omega)]; exact h.c2
  · rw [hn]; exact hr
end Go.Proofs.Ytlikggeceeennaa
