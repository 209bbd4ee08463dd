/- THE WALK of a file's settle. THE DISK's files by their number; the blocks of a disk; what a step leaves. -/
import Derived.Test.YtbcghggkfnagoaaGreatDoorDskB
set_option linter.unusedVariables false
set_option linter.unusedSimpArgs false
namespace Go.Proofs.YtbcghggkfnagoaaGreatDoor
open Go Go.RowKit Go.Maps Hach

def settleF (f : FileV) : FileV := { f with old := [], sure := f.now.length }
def SettleRet (w : World) (base d : Nat) (cs : Array Value) (t : TypeId) (o : Nat) (A : Option Addr) (c m : Nat) (f : FileV) (en : Ending) (w' : World) : Prop :=
  en = .returned (.tuple #[]) ∧ Hid (FileAt w' base d (cs.setIfInBounds (o + 2) (.int .i64 f.now.length)) t o A c m (settleF f) ∧ Below base w w' ∧ Fr (fun k => k = d ∨ k = m) w w')
theorem FileAt.settled {w w1 : World} {base d o m c : Nat} {cs : Array Value} {t : TypeId} {A : Option Addr} {f : FileV} (h : FileAt w base d cs t o A c m f) (hm : MapS w1 m []) (hg : w.grownBy w1 (some m)) {n : Nat} (hn : f.now.length = n) :
    FileAt (w1.setCell ⟨d, o + 2, none⟩ (.int .i64 n)) base d (cs.setIfInBounds (o + 2) (.int .i64 f.now.length)) t o A c m (settleF f) ∧ Below base w (w1.setCell ⟨d, o + 2, none⟩ (.int .i64 n)) ∧ Fr (fun k => k = d ∨ k = m) w (w1.setCell ⟨d, o + 2, none⟩ (.int .i64 n)) := by
  subst hn
  obtain ⟨h1, b1, r1⟩ := h.marked hm hg
  have f2 : Fr (fun k => k = d) w1 (w1.setCell ⟨d, o + 2, none⟩ (.int .i64 f.now.length)) := (Fr.refl (fun k => k = d) w1).setCell (p := ⟨d, o + 2, none⟩) (fun _ => rfl) _
  have ne := h1.ne
  refine ⟨⟨heap_setCell_same w1 d (o + 2) cs t _ h1.own, ?_, ?_, ?_, f2.own h1.row (fun k hk e => (ne.2 k hk).1 e), h1.map.kept f2 (fun e => ne.1 e.symm), h.len, h.low, h.ty⟩, b1.setCell (p := ⟨d, o + 2, none⟩) h.low.1 _, (r1.mono (fun k hk => .inr hk)).trans f2 (fun _ _ e => .inl e)⟩
  · rw [Array.getElem?_setIfInBounds_ne (by omega)]; exact h.c0
  · rw [Array.getElem?_setIfInBounds_ne (by omega)]; exact h.c1
  · have := (Array.getElem?_eq_some_iff.1 h.c2).1; simp [this, settleF]
theorem settle_calls (w : World) (base d : Nat) (cs : Array Value) (t : TypeId) (o : Nat) (A : Option Addr) (c m : Nat) (f : FileV) (h : Hid (FileAt w base d cs t o A c m f)) :
    Calls Tryz.prog 115 #[.pointer (some ⟨d, o, none⟩)] w (SettleRet w base d cs t o A c m f) := by
  obtain ⟨k0, k1, k2⟩ := h.out.cell0
  obtain ⟨w1, hclr, m1, g1⟩ := h.out.map.clear 0
  have hclr : ∀ ty, (Builtin.clear_ #[82] ty #[.map (some m)]).run Tryz.prog w = .ok (.tuple #[]) w1 := fun ty => hclr
  obtain ⟨h1, _, _⟩ := h.out.marked m1 g1
  obtain ⟨j0, j1, j2⟩ := h1.cell0
  have jf := h1.free (o + 2)
  have RES := hid (h.out.settled m1 g1 rfl)
  have j0 : w1.cell? ⟨d, o, none⟩ = some (.slice A f.now.length c) := j0
  clear h1 m1 g1
  go_enter Tryz.func115, Tryz.ntmps115
  go_wp2
  go_end0
  exact ⟨rfl, RES⟩
end Go.Proofs.YtbcghggkfnagoaaGreatDoor

namespace Go.Proofs.YtbcghggkfnagoaaGreatDoor
open Go Go.RowKit Go.Maps Hach

def off : Bool → Nat | false => 1 | true => 4
def idx : Bool → Int | false => 0 | true => 1
def DiskV.fl (D : DiskV) : Bool → FileV | false => D.f0 | true => D.f1
def DiskV.setF (D : DiskV) (b : Bool) (f : FileV) : DiskV := match b with | false => { D with f0 := f } | true => { D with f1 := f }
def DiskP.rA (p : DiskP) : Bool → Option Addr | false => p.A0 | true => p.A1
def DiskP.rc (p : DiskP) : Bool → Nat | false => p.c0 | true => p.c1
def DiskP.mm (p : DiskP) : Bool → Nat | false => p.m0 | true => p.m1
def DiskP.setR (p : DiskP) (b : Bool) (A : Option Addr) (c : Nat) : DiskP := match b with | false => { p with A0 := A, c0 := c } | true => { p with A1 := A, c1 := c }
section
variable {w w' : World} {base d : Nat} {p : DiskP} {D : DiskV} {f : FileV}
theorem DiskAt.fileB (h : DiskAt w base d p D) (b : Bool) : FileAt w base d (diskCs p D) 87 (off b) (p.rA b) (p.rc b) (p.mm b) (D.fl b) := by
  cases b
  · exact h.file0
  · exact h.file1
theorem DiskAt.okB (h : DiskAt w base d p D) (b : Bool) : FileOk (D.fl b) := by
  cases b
  · exact h.ok0
  · exact h.ok1
theorem fileB_calls (w : World) (base d : Nat) (D : DiskV) (b : Bool) (h : Hid (DiskM w base d D)) (ho : D.on = true) : Calls Tryz.prog 161 #[.pointer (some ⟨d, 0, none⟩), .int .i64 (idx b)] w fun en w' => en = .returned (.tuple #[.pointer (some ⟨d, off b, none⟩), .int .i64 0]) ∧ w' = w := by
  cases b
  · exact file0_calls w base d D h ho
  · exact file1_calls w base d D h ho
/-- The blocks of a disk that its steps may write. -/
def foot (d : Nat) (p : DiskP) (D : DiskV) (k : Nat) : Prop := k = d ∨ k = p.m0 ∨ k = p.m1 ∨ (Value.slice p.A0 D.f0.now.length p.c0).ownBlock = some k ∨ (Value.slice p.A1 D.f1.now.length p.c1).ownBlock = some k
def DiskF (w : World) (F : Nat → Prop) (base d : Nat) (D : DiskV) : Prop := ∃ p, DiskAt w base d p D ∧ ∀ k, foot d p D k → F k
/-- What is new, too. -/
def plus (F : Nat → Prop) (w : World) (k : Nat) : Prop := F k ∨ w.heap.size ≤ k
theorem DiskF.m {F : Nat → Prop} (h : DiskF w F base d D) : DiskM w base d D := by obtain ⟨p, h, _⟩ := h; exact ⟨p, h⟩
theorem DiskM.ff (h : DiskM w base d D) : DiskF w (fun k => base ≤ k) base d D := by
  obtain ⟨p, h⟩ := h
  refine ⟨p, h, ?_⟩
  rintro k (e | e | e | e | e)
  · subst e; exact h.low.1
  · subst e; exact h.low.2.1
  · subst e; exact h.low.2.2
  · exact (own_block h.row0 k e).1
  · exact (own_block h.row1 k e).1
theorem DiskF.mono {F G : Nat → Prop} (h : DiskF w F base d D) (hG : ∀ k, F k → G k) : DiskF w G base d D := by
  obtain ⟨p, h, hf⟩ := h; exact ⟨p, h, fun k hk => hG k (hf k hk)⟩
theorem foot_lt (h : DiskAt w base d p D) {k : Nat} (hk : foot d p D k) : k < w.heap.size := by
  rcases hk with e | e | e | e | e
  · subst e; exact (Array.getElem?_eq_some_iff.1 h.own).1
  · subst e; exact h.map0.lt
  · subst e; exact h.map1.lt
  · exact (own_block h.row0 k e).2
  · exact (own_block h.row1 k e).2
theorem DiskF.cut {F : Nat → Prop} (h : DiskF w F base d D) : DiskF w (fun k => F k ∧ k < w.heap.size) base d D := by
  obtain ⟨p, h, hf⟩ := h; exact ⟨p, h, fun k hk => ⟨hf k hk, foot_lt h hk⟩⟩
theorem row_map {n c m : Nat} {A : Option Addr} {e : TypeId} {b size : Nat} {xs : List Value} {L : Olds} (ho : w.ownsRow b e size (.slice A n c) n xs) (hm : MapS w m L) : (Value.slice A n c).ownBlock ≠ some m := by
  intro hk
  obtain ⟨es, clock, hb⟩ := hm.isMap
  rcases ho.2 with ⟨hv, _⟩ | ⟨g, cap, cur, hv, _, hg, _⟩
  · rw [hv] at hk; cases hk
  · rw [hv] at hk
    obtain rfl : g = m := by simpa [Value.ownBlock] using hk
    rw [hb] at hg; cases hg
theorem row_row {n c n' c' : Nat} {A A' : Option Addr} {e e' : TypeId} {b b' size size' : Nat} {xs xs' : List Value} (ho : w.ownsRow b e size (.slice A n c) n xs) (ho' : w.ownsRow b' e' size' (.slice A' n' c') n' xs') (hne : e ≠ e') {k : Nat}
    (h1 : (Value.slice A n c).ownBlock = some k) (h2 : (Value.slice A' n' c').ownBlock = some k) : False := by
  rcases ho'.2 with ⟨hv, _⟩ | ⟨g, cap, cur, hv, _, hg, _⟩
  · rw [hv] at h2; cases h2
  · rw [hv] at h2
    obtain rfl : g = k := by simpa [Value.ownBlock] using h2
    exact row_blk ho hg hne g h1 rfl
/-- A disk stands behind what writes elsewhere, at blocks that are not its own. -/
theorem DiskAt.keep {S : Nat → Prop} (h : DiskAt w base d p D) (hf : Fr S w w') (hS : ∀ k, foot d p D k → ¬ S k) (hK : ∀ k, (Value.slice p.KA D.keep.length p.kc).ownBlock = some k → ¬ S k) : DiskAt w' base d p D :=
  ⟨(hf.block d (Array.getElem?_eq_some_iff.1 h.own).1 (hS d (.inl rfl))).trans h.own, hf.own h.row0 (fun k hk => hS k (.inr (.inr (.inr (.inl hk))))), hf.own h.row1 (fun k hk => hS k (.inr (.inr (.inr (.inr hk))))),
    h.map0.kept hf (hS _ (.inr (.inl rfl))), h.map1.kept hf (hS _ (.inr (.inr (.inl rfl)))), h.maps, h.rows, hf.own h.keepR hK, h.ok0, h.ok1, h.low, h.room⟩
/-- No disk writes bools. -/
theorem keep_apart {b' d' : Nat} {p' : DiskP} {D' : DiskV} (h : DiskAt w base d p D) (h' : DiskAt w b' d' p' D') : ∀ k, (Value.slice p.KA D.keep.length p.kc).ownBlock = some k → ¬ foot d' p' D' k := by
  rintro k hk (e | e | e | e | e)
  · exact row_blk h.keepR h'.own (by decide) k hk e
  · subst e; exact row_map h.keepR h'.map0 hk
  · subst e; exact row_map h.keepR h'.map1 hk
  · exact row_row h.keepR h'.row0 (by decide) hk e
  · exact row_row h.keepR h'.row1 (by decide) hk e
end
/-- What a step of the disk leaves. -/
def Goes (w : World) (F : Nat → Prop) (base d : Nat) (D : DiskV) (w' : World) : Prop := DiskF w' (plus F w) base d D ∧ Fr F w w'
def StepF (w : World) (F : Nat → Prop) (base d : Nat) (D : DiskV) (v : Value) (en : Ending) (w' : World) : Prop := en = .returned v ∧ Hid (Goes w F base d D w')
section
variable {w w1 w2 w' : World} {base d : Nat} {p : DiskP} {D D1 D2 : DiskV} {f : FileV} {F : Nat → Prop}
theorem plus_mono (hs : w.heap.size ≤ w1.heap.size) : ∀ k, plus F w1 k → plus F w k := by
  rintro k (e | e)
  · exact .inl e
  · exact .inr (by omega)
theorem Goes.trans (h1 : Goes w F base d D1 w1) (h2 : Goes w1 (plus F w) base d D2 w2) : Goes w F base d D2 w2 :=
  ⟨h2.1.mono (fun k hk => by
    rcases hk with hk | hk
    · exact hk
    · exact .inr (Nat.le_trans h1.2.size hk)), h1.2.trans h2.2 (fun i hi hk => by
    rcases hk with hk | hk
    · exact hk
    · omega)⟩
theorem Goes.pre {w0 : World} (hu : Up w0 w) (h : Goes w F base d D w') : Goes w0 F base d D w' := ⟨h.1.mono (plus_mono hu.size), ((Fr.of_below hu).mono (fun _ e => e.elim)).trans' h.2⟩
theorem DiskF.up (h : DiskF w F base d D) (hu : Up w w') : DiskF w' F base d D := by obtain ⟨p, h, hf⟩ := h; exact ⟨p, h.up hu, hf⟩
theorem Goes.up (h : DiskF w F base d D) (hu : Up w w') : Goes w F base d D w' := ⟨(h.up hu).mono (fun _ e => .inl e), (Fr.of_below hu).mono (fun _ e => e.elim)⟩
theorem Goes.below (h : Goes w F base d D w') (hF : ∀ k, F k → base ≤ k) (hb : base ≤ w.heap.size) : Below base w w' := h.2.below hb (fun k hk e => by have := hF k e; omega)
/-- One file is another; all else of the disk is as it was. -/
theorem DiskAt.back {b : Bool} {cs : Array Value} {A : Option Addr} {c : Nat} {n : Nat} (h : DiskAt w base d p D) (hk : FileAt w' base d cs 87 (off b) A c (p.mm b) f) (hcs : cs = diskCs (p.setR b A c) (D.setF b f))
    (hf : Fr (fun k => k = d ∨ k = p.mm b ∨ (Value.slice (p.rA b) (D.fl b).now.length (p.rc b)).ownBlock = some k) w w')
    (ho : (Value.slice A f.now.length c).ownBlock = (Value.slice (p.rA b) (D.fl b).now.length (p.rc b)).ownBlock ∨ (Value.slice A f.now.length c).ownBlock = none ∨ ∃ k, w.heap.size ≤ k ∧ (Value.slice A f.now.length c).ownBlock = some k) (hok : FileOk f) :
    DiskAt w' base d (p.setR b A c) (D.setF b f) ∧ ∀ k, foot d (p.setR b A c) (D.setF b f) k → foot d p D k ∨ w.heap.size ≤ k := by
  subst hcs
  have n0 := h.file0.ne
  have n1 := h.file1.ne
  cases b
  · have r1 : ∀ k, (Value.slice p.A1 D.f1.now.length p.c1).ownBlock = some k → ¬ (k = d ∨ k = p.m0 ∨ (Value.slice p.A0 D.f0.now.length p.c0).ownBlock = some k) := by
      rintro k hk (e | e | e)
      · exact (n1.2 k hk).1 e
      · subst e; exact row_map h.row1 h.map0 hk
      · exact h.rows k e hk
    have k1 : ∀ k, (Value.slice p.KA D.keep.length p.kc).ownBlock = some k → ¬ (k = d ∨ k = p.m0 ∨ (Value.slice p.A0 D.f0.now.length p.c0).ownBlock = some k) := by
      rintro k hk (e | e | e)
      · exact row_blk h.keepR h.own (by decide) k hk e
      · subst e; exact row_map h.keepR h.map0 hk
      · exact row_row h.keepR h.row0 (by decide) hk e
    refine ⟨⟨hk.own, hk.row, hf.own h.row1 r1, hk.map, h.map1.kept hf ?_, h.maps, ?_, hf.own h.keepR k1, hok, h.ok1, h.low, h.room⟩, ?_⟩
    · rintro (e | e | e)
      · exact n1.1 e.symm
      · exact h.maps e.symm
      · exact row_map h.row0 h.map1 e
    · intro k hk hk1
      rcases ho with e | e | ⟨k', hk', e⟩
      · exact h.rows k (by rw [← show _ = (Value.slice p.A0 D.f0.now.length p.c0).ownBlock from e]; exact hk) hk1
      · have : (none : Option Nat) = some k := e.symm.trans hk
        cases this
      · have : k = k' := Option.some.inj (hk.symm.trans e)
        have := (own_block h.row1 k hk1).2
        omega
    · rintro k (e | e | e | e | e)
      · exact .inl (.inl e)
      · exact .inl (.inr (.inl e))
      · exact .inl (.inr (.inr (.inl e)))
      · rcases ho with e' | e' | ⟨k', hk', e'⟩
        · exact .inl (.inr (.inr (.inr (.inl (e'.symm.trans e)))))
        · have : (none : Option Nat) = some k := e'.symm.trans e
          cases this
        · have : k' = k := Option.some.inj (e'.symm.trans e)
          exact .inr (by omega)
      · exact .inl (.inr (.inr (.inr (.inr e))))
  · have r1 : ∀ k, (Value.slice p.A0 D.f0.now.length p.c0).ownBlock = some k → ¬ (k = d ∨ k = p.m1 ∨ (Value.slice p.A1 D.f1.now.length p.c1).ownBlock = some k) := by
      rintro k hk (e | e | e)
      · exact (n0.2 k hk).1 e
      · subst e; exact row_map h.row0 h.map1 hk
      · exact h.rows k hk e
    have k1 : ∀ k, (Value.slice p.KA D.keep.length p.kc).ownBlock = some k → ¬ (k = d ∨ k = p.m1 ∨ (Value.slice p.A1 D.f1.now.length p.c1).ownBlock = some k) := by
      rintro k hk (e | e | e)
      · exact row_blk h.keepR h.own (by decide) k hk e
      · subst e; exact row_map h.keepR h.map1 hk
      · exact row_row h.keepR h.row1 (by decide) hk e
    refine ⟨⟨hk.own, hf.own h.row0 r1, hk.row, h.map0.kept hf ?_, hk.map, h.maps, ?_, hf.own h.keepR k1, h.ok0, hok, h.low, h.room⟩, ?_⟩
    · rintro (e | e | e)
      · exact n0.1 e.symm
      · exact h.maps e
      · exact row_map h.row1 h.map0 e
    · intro k hk1 hk
      rcases ho with e | e | ⟨k', hk', e⟩
      · exact h.rows k hk1 (by rw [← show _ = (Value.slice p.A1 D.f1.now.length p.c1).ownBlock from e]; exact hk)
      · have : (none : Option Nat) = some k := e.symm.trans hk
        cases this
      · have : k = k' := Option.some.inj (hk.symm.trans e)
        have := (own_block h.row0 k hk1).2
        omega
    · rintro k (e | e | e | e | e)
      · exact .inl (.inl e)
      · exact .inl (.inr (.inl e))
      · exact .inl (.inr (.inr (.inl e)))
      · exact .inl (.inr (.inr (.inr (.inl e))))
      · rcases ho with e' | e' | ⟨k', hk', e'⟩
        · exact .inl (.inr (.inr (.inr (.inr (e'.symm.trans e)))))
        · have : (none : Option Nat) = some k := e'.symm.trans e
          cases this
        · have : k' = k := Option.some.inj (e'.symm.trans e)
          exact .inr (by omega)
theorem foot_own (b : Bool) {k : Nat} (hk : k = d ∨ k = p.mm b ∨ (Value.slice (p.rA b) (D.fl b).now.length (p.rc b)).ownBlock = some k) : foot d p D k := by
  cases b
  · rcases hk with e | e | e
    · exact .inl e
    · exact .inr (.inl e)
    · exact .inr (.inr (.inr (.inl e)))
  · rcases hk with e | e | e
    · exact .inl e
    · exact .inr (.inr (.inl e))
    · exact .inr (.inr (.inr (.inr e)))
/-- Two disks: a step of the one leaves the other. -/
def Two (w : World) (base d b2 e : Nat) (D E : DiskV) : Prop := ∃ p q, DiskAt w base d p D ∧ DiskAt w b2 e q E ∧ ∀ k, foot d p D k → ¬ foot e q E k
theorem two_left {b2 e : Nat} {E : DiskV} {p q : DiskP} (h : DiskAt w base d p D) (h2 : DiskAt w b2 e q E) (hd : ∀ k, foot d p D k → ¬ foot e q E k) (hg : Goes w (foot d p D) base d D1 w') : Two w' base d b2 e D1 E := by
  obtain ⟨⟨p', h', hp'⟩, hf⟩ := hg
  refine ⟨p', q, h', h2.keep hf (fun k hk e => hd k e hk) (keep_apart h2 h), fun k hk e => ?_⟩
  rcases hp' k hk with hk | hk
  · exact hd k hk e
  · have := foot_lt h2 e; omega
theorem Two.swap {b2 e : Nat} {E : DiskV} (h : Two w base d b2 e D E) : Two w b2 e base d E D := by obtain ⟨p, q, h1, h2, h3⟩ := h; exact ⟨q, p, h2, h1, fun k hk e => h3 k e hk⟩
theorem Two.up {b2 e : Nat} {E : DiskV} (h : Two w base d b2 e D E) (hu : Up w w') : Two w' base d b2 e D E := by obtain ⟨p, q, h1, h2, h3⟩ := h; exact ⟨p, q, h1.up hu, h2.up hu, h3⟩
theorem Two.m1 {b2 e : Nat} {E : DiskV} (h : Two w base d b2 e D E) : DiskM w base d D := by obtain ⟨p, q, h1, h2, h3⟩ := h; exact ⟨p, h1⟩
theorem Two.m2 {b2 e : Nat} {E : DiskV} (h : Two w base d b2 e D E) : DiskM w b2 e E := h.swap.m1
end
end Go.Proofs.YtbcghggkfnagoaaGreatDoor
