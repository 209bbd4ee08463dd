/- THE WALK of the document's Put. -/
import Derived.Test.YtlikggeceeennaaRf6
import Derived.Deep.LoopGhost
import Derived.Deep.CutBlock
import Derived.Deep.DeepCutAuto
set_option linter.unusedVariables false
set_option linter.unusedSimpArgs false
namespace Go.Proofs.Ytlikggeceeennaa
open Go Go.RowKit Hach

theorem evictV_small {room p : Int} {done rest : List Vis} (h : ¬ room < ((done ++ rest).length : Int)) : evictV room p done rest = done ++ rest := by
  cases rest with
  | nil => rw [List.append_nil]; rfl
  | cons x rest =>
    have hg : ¬ goesV room p (done ++ x :: rest).length x = true := by unfold goesV; rw [decide_eq_false h]; simp
    rw [evictV, if_neg hg, if_neg h]
theorem evictV_step {room p : Int} {done rest : List Vis} {x : Vis} (h : room < ((done ++ x :: rest).length : Int)) (hp : x.1 ≠ p) :
    evictV room p done (x :: rest) = if (x.2.2.1 == 0 && !x.2.2.2) = true then evictV room p done rest else evictV room p (done ++ [x]) rest := by
  have hg : goesV room p (done ++ x :: rest).length x = (x.2.2.1 == 0 && !x.2.2.2) := by unfold goesV; rw [decide_eq_true h, decide_eq_true hp]; rfl
  rw [evictV, hg]
  split
  · split
    · rfl
    · rename_i h2; rw [evictV_small h2]
  · first | rfl | rw [if_pos h]
theorem evictV_last {room p : Int} {done : List Vis} {x : Vis} (hp : x.1 = p) : evictV room p done [x] = done ++ [x] := by
  have hg : ¬ goesV room p (done ++ [x]).length x = true := by unfold goesV; simp [hp]
  rw [evictV, if_neg hg]
  split <;> rfl

theorem RefAt.keep2 {w w' : World} {base b : Nat} {room hit miss : Int} {A : Option Addr} {c : Nat} {R : List RowR} (h : RefAt w base b room hit miss A c R) {S : Nat → Prop} (hf : Fr S w w') (hb : ¬ S b) (hA : ∀ k, (Value.slice A R.length c).ownBlock = some k → ¬ S k)
    (hS : ∀ k, S k → k < w.heap.size → ∀ cs fr, w.heap[k]? ≠ some (.cells cs 5 fr)) : RefAt w' base b room hit miss A c R := by
  refine ⟨(hf.block b h.lt hb).trans h.own, hf.own h.rows hA, fun x hx => hf.own (h.data x hx) (fun k hk hs => ?_), h.low⟩
  rcases (h.data x hx).2 with ⟨hv, _⟩ | ⟨g, cap, cur, hv, _, hg, _⟩
  · rw [hv] at hk; cases hk
  · rw [hv] at hk
    obtain rfl : g = k := by simpa [Value.ownBlock] using hk
    exact hS g hs (Array.getElem?_eq_some_iff.1 hg).1 _ _ hg

theorem put_end (base b : Nat) (room hit miss : Int) (w W7 w9 : World) (A4 : Option Addr) (c4 : Nat) (RR : List RowR) (x : RowR) (A9 : Option Addr) (k9 m : Nat) (h : RefAt W7 base b room hit miss A4 c4 RR) (hm : RR.length = m)
    (hx : W7.ownsRow 0 5 1 (.slice x.A 512 x.c) 512 (x.data.map byteCell)) (hu : Up W7 w9) (ho : w9.ownsRow W7.heap.size 174 4 (.slice A9 (m + 1) k9) (m + 1) (RR.flatMap rowC ++ rowC x)) (hb : Below base w W7) (hf : Fr (RefS w b) w W7) :
    RefAt (w9.setCell ⟨b, 1, none⟩ (.slice A9 (m + 1) k9)) base b room hit miss A9 k9 (RR ++ [x]) ∧ Below base w (w9.setCell ⟨b, 1, none⟩ (.slice A9 (m + 1) k9)) ∧ Fr (RefS w b) w (w9.setCell ⟨b, 1, none⟩ (.slice A9 (m + 1) k9)) := by
  have h9 := h.up hu
  have f9 : Fr (fun k => k = b) w9 (w9.setCell ⟨b, 1, none⟩ (.slice A9 (m + 1) k9)) := (Fr.refl (fun k => k = b) w9).setCell (p := ⟨b, 1, none⟩) (fun _ => rfl) _
  have e : (RR ++ [x]).length = m + 1 := by rw [List.length_append, hm]; rfl
  refine ⟨⟨?_, ?_, fun y hy => ?_, h.low⟩, Below.setCell (hb.trans (hu.mono h.bs)) (p := ⟨b, 1, none⟩) h.low _, frR_trans hf (frR_trans (frR_up hu) (frR_b f9))⟩
  · rw [heap_setCell_same w9 b 1 _ _ _ h9.own, e]; rfl
  · rw [e, List.flatMap_append]
    have := f9.own (own_base ho h.bs) (fun k hk e => own_ne ho h9.own (by decide) (by rw [hk, e]))
    simpa using this
  · have key : w9.ownsRow 0 5 1 (.slice y.A 512 y.c) 512 (y.data.map byteCell) := by
      rcases List.mem_append.1 hy with hy | hy
      · exact h9.data y hy
      · rw [List.mem_singleton.1 hy]; exact Fr.own (Fr.of_below hu) hx (fun _ _ => id)
    exact f9.own key (fun k hk e => own_ne key h9.own (by decide) (by rw [hk, e]))
/-- Put's loop: what was looked at, what was not. -/
def PutL (w wr : World) (base b : Nat) (room hit miss p : Int) (done rest : List RowR) (A : Option Addr) (c : Nat) (x : RowR) (RES : List Vis) : Prop :=
  RefAt wr base b room hit miss A c (done ++ rest ++ [x]) ∧ evictV room p (done.map visR) ((rest ++ [x]).map visR) = RES ∧ (∀ y ∈ rest, y.page ≠ p) ∧ Below base w wr ∧ Fr (RefS w b) w wr ∧ (done ++ rest).length < 999999
/-- What Put leaves of the rows, and what the page had. -/
def Put0 (R : List RowR) (p : Int) (RR : List RowR) (q : Int) (d : Bool) : Prop :=
  (p ∉ R.map RowR.page ∧ RR = R ∧ q = 0 ∧ d = false) ∨ ∃ R1 x R2, R = R1 ++ x :: R2 ∧ x.page = p ∧ x.page ∉ R1.map RowR.page ∧ RR = R1 ++ R2 ∧ q = x.pins ∧ d = x.dirty

def PutC (w wx : World) (base b : Nat) (room hit miss p q : Int) (d : Bool) (RR : List RowR) (A : Option Addr) (c : Nat) (D : List UInt8) : Prop :=
  ∃ A4 c4 u, RefAt wx base b room hit miss A4 c4 RR ∧ wx.heap[w.heap.size]? = some (.cells #[.int .i64 p, u, .int .i64 q, .bool d] 174 (0, 0)) ∧ u.oneCell' = true ∧
    (Value.slice A4 RR.length c4).ownBlock ≠ some w.heap.size ∧ wx.ownsRow 0 5 1 (.slice A 512 c) 512 (D.map byteCell) ∧ Below base w wx ∧ Fr (RefS w b) w wx

set_option maxRecDepth 100000 in
set_option maxHeartbeats 2000000 in
theorem rput_calls (w : World) (base b : Nat) (room hit miss : Int) (A0 : Option Addr) (c0 : Nat) (R RR : List RowR) (p q : Int) (d : Bool) (A : Option Addr) (c : Nat) (D : List UInt8) (h : Hid (RefAt w base b room hit miss A0 c0 R)) (hl : Hid (R.length < 1000000))
    (hp : 1 ≤ p) (hput : Hid (Put0 R p RR q d)) (hlr : Hid (RR.length < 999999)) (hno : Hid (p ∉ RR.map RowR.page)) (ho : Hid (w.ownsRow 0 5 1 (.slice A 512 c) 512 (D.map byteCell))) :
    Calls Try.prog 83 #[ptr b, .int .i64 p, .slice A 512 c] w (StepR w base b room hit miss (evictV room p [] (RR.map visR ++ [(p, D, q, d)])) (.int .i64 0)) := by
  obtain ⟨RES, hR⟩ : ∃ z, evictV room p [] (RR.map visR ++ [(p, D, q, d)]) = z := ⟨_, rfl⟩
  rw [hR]
  have HR := hid hR
  clear hR
  have p1 : ¬ p < 1 := by omega
  have u0 : Up w (w.alloc (.cells #[.int .i64 p, .slice none 0 0, .int .i64 0, .bool false] 174)) := (Below.refl _ _).alloc (Nat.le_refl _) _
  have H1 := hid (h.out.up u0)
  have hrb := heap_alloc_new w (.cells #[.int .i64 p, .slice none 0 0, .int .i64 0, .bool false] 174 (0, 0))
  have U0 := hid u0
  have HRB := hid hrb
  clear hp u0 hrb
  unfold ptr
  go_enter Try.func83, Try.ntmps83
  go_wp2_with fail
  generalize hW0 : w.alloc (.cells #[.int .i64 p, .slice none 0 0, .int .i64 0, .bool false] 174) = W0 at *
  have HW0 := hid hW0
  clear hW0
  refine (find_calls W0 base b room hit miss A0 c0 R p H1 hl).mono ?_
  rintro en w1 ⟨rfl, u1⟩
  have H2 := hid (H1.out.up u1)
  have HRB1 : Hid (w1.heap[w.heap.size]? = some (.cells #[.int .i64 p, .slice none 0 0, .int .i64 0, .bool false] 174 (0, 0))) := hid ((u1.block _ (Array.getElem?_eq_some_iff.1 HRB.out).1).trans HRB.out)
  have HU := hid (And.intro (U0.out.t u1) ho.out)
  clear u1
  generalize hfi : findI p 0 R = fi
  have HFI := hid hfi
  clear hfi
  go_upto_if 23 with fail
  go_cut [] (fun wx => Hid (PutC w wx base b room hit miss p q d RR A c D))
  case first =>
    rcases hput.out with ⟨hm, rfl, rfl, rfl⟩ | ⟨R1, x, R2, rfl, hx, hx1, rfl, rfl, rfl⟩
    · have hf := HFI.out
      rw [findI_miss 0 hm] at hf
      subst hf
      have REL : Hid (PutC w w1 base b room hit miss p 0 false RR A c D) := hid ⟨A0, c0, _, H2.out, HRB1.out, rfl, fun e => by have := (own_block h.out.rows _ e).2; omega, Fr.own (Fr.of_below HU.out.1) HU.out.2 (fun _ _ => id), HU.out.1.mono h.out.bs, frR_up HU.out.1⟩
      go_wp2_with fail
      go_meet
      case rel => exact REL
    · have hf := HFI.out
      rw [← hx, findI_hit 0 hx1, Nat.zero_add] at hf
      subst hf
      have c1 := H2.out.c1
      obtain ⟨g, rfl, hlt, _, q0, q1, q2, q3, qf⟩ := H2.out.at0 (Up.refl _)
      have i1 : (0 : Int) ≤ (R1.length : Int) := by omega
      have i2 : (R1.length : Int) < ((R1 ++ x :: R2).length : Int) := by simp; omega
      have i3 : ¬ ((R1.length : Int) < 0) := by omega
      have z0 : w1.cell? ⟨w.heap.size, 0, none⟩ = some (.int .i64 p) := by unfold World.cell?; rw [show (⟨w.heap.size, 0, none⟩ : Addr).block = w.heap.size from rfl, HRB1.out]; rfl
      have z1 : w1.cell? ⟨w.heap.size, 1, none⟩ = some (.slice none 0 0) := by unfold World.cell?; rw [show (⟨w.heap.size, 1, none⟩ : Addr).block = w.heap.size from rfl, HRB1.out]; rfl
      have z2 : w1.cell? ⟨w.heap.size, 2, none⟩ = some (.int .i64 0) := by unfold World.cell?; rw [show (⟨w.heap.size, 2, none⟩ : Addr).block = w.heap.size from rfl, HRB1.out]; rfl
      have z3 : w1.cell? ⟨w.heap.size, 3, none⟩ = some (.bool false) := by unfold World.cell?; rw [show (⟨w.heap.size, 3, none⟩ : Addr).block = w.heap.size from rfl, HRB1.out]; rfl
      have zf : ∀ i, w1.frozen? ⟨w.heap.size, i, none⟩ = false := fun i => by unfold World.frozen?; rw [show (⟨w.heap.size, i, none⟩ : Addr).block = w.heap.size from rfl, HRB1.out]; simp
      have zf0 := zf 0
      have zf1 := zf 1
      have zf2 := zf 2
      have zf3 := zf 3
      clear zf
      have NB : Hid (∀ k, (Value.slice (some ⟨g, 0, none⟩) (R1 ++ x :: R2).length c0).ownBlock = some k → ¬ k = w.heap.size) := hid (fun k hk e => by have := (own_block h.out.rows k hk).2; omega)
      have NBB : Hid (¬ b = w.heap.size) := hid (by have := h.out.lt; omega)
      have HL' := hl
      obtain ⟨n, hn⟩ : ∃ n, (R1 ++ x :: R2).length = n := ⟨_, rfl⟩
      rw [hn] at c1 i2
      have HN := hid hn
      clear hn
      go_wp2_with fail
      have W5F : ∀ W5, W5 = ((((w1.setCell ⟨w.heap.size, 0, none⟩ (.int .i64 p)).setCell ⟨w.heap.size, 1, none⟩ (.slice x.A 512 x.c)).setCell ⟨w.heap.size, 2, none⟩ (.int .i64 x.pins)).setCell ⟨w.heap.size, 3, none⟩ (.bool x.dirty)) →
          Fr (fun k => k = w.heap.size) w1 W5 ∧ W5.heap[w.heap.size]? = some (.cells #[.int .i64 p, .slice x.A 512 x.c, .int .i64 x.pins, .bool x.dirty] 174 (0, 0)) := by
        rintro W5 rfl
        refine ⟨((((Fr.refl (fun k => k = w.heap.size) w1).setCell (p := ⟨w.heap.size, 0, none⟩) (fun _ => rfl) _).setCell (p := ⟨w.heap.size, 1, none⟩) (fun _ => rfl) _).setCell (p := ⟨w.heap.size, 2, none⟩) (fun _ => rfl) _).setCell (p := ⟨w.heap.size, 3, none⟩) (fun _ => rfl) _, ?_⟩
        rw [heap_setCell_same _ w.heap.size 3 _ _ _ (heap_setCell_same _ w.heap.size 2 _ _ _ (heap_setCell_same _ w.heap.size 1 _ _ _ (heap_setCell_same _ w.heap.size 0 _ _ _ HRB1.out)))]
        rfl
      obtain ⟨W5, hW5⟩ : ∃ W5, W5 = ((((w1.setCell ⟨w.heap.size, 0, none⟩ (.int .i64 p)).setCell ⟨w.heap.size, 1, none⟩ (.slice x.A 512 x.c)).setCell ⟨w.heap.size, 2, none⟩ (.int .i64 x.pins)).setCell ⟨w.heap.size, 3, none⟩ (.bool x.dirty)) := ⟨_, rfl⟩
      rw [← hW5]
      obtain ⟨f5, k5⟩ := W5F W5 hW5
      have no8 : ∀ k, k = w.heap.size → k < w1.heap.size → ∀ cs fr, w1.heap[k]? ≠ some (.cells cs 5 fr) := fun k e _ cs fr h9 => by
        subst e
        rw [HRB1.out] at h9
        injection h9 with h9; injection h9 with _ h9 _
        revert h9; decide
      have R5 := hid (H2.out.keep2 f5 NBB.out NB.out no8)
      have o1 : w1.ownsRow 0 5 1 (.slice A 512 c) 512 (D.map byteCell) := Fr.own (Fr.of_below HU.out.1) HU.out.2 (fun _ _ => id)
      have o5 := Fr.own f5 o1 (fun k hk e => own_ne o1 HRB1.out (by decide) (by rw [hk, e]))
      have F5 := hid (show Fr (RefS w b) w W5 from (frR_up HU.out.1).trans f5 (fun i hi e => by omega))
      have B5 := hid (show Below base w W5 from by
        rw [hW5]
        have hle := h.out.bs
        exact ((((HU.out.1.mono hle).setCell (p := ⟨w.heap.size, 0, none⟩) hle _).setCell (p := ⟨w.heap.size, 1, none⟩) hle _).setCell (p := ⟨w.heap.size, 2, none⟩) hle _).setCell (p := ⟨w.heap.size, 3, none⟩) hle _)
      have K5 := hid k5
      have O5 := hid o5
      have LT5 := hid (show w.heap.size < W5.heap.size from (Array.getElem?_eq_some_iff.1 k5).1)
      clear W5F hW5 f5 k5 no8 o1 o5 c1 q0 q1 q2 q3 z0 z1 z2 z3 zf0 zf1 zf2 zf3
      refine (rout_split W5 base b room hit miss (some ⟨g, 0, none⟩) c0 R1 R2 x R5 HL').mono ?_
      rintro en W6 ⟨rfl, hh⟩
      obtain ⟨A6, c6, ra6, b6, f6, n6⟩ := hh.out
      have REL : Hid (PutC w W6 base b room hit miss p x.pins x.dirty (R1 ++ R2) A c D) := hid ⟨A6, c6, _, ra6, (f6.block _ LT5.out (fun e => NBB.out e.symm)).trans K5.out, rfl, fun e => by have := n6 _ e; have := LT5.out; omega, Fr.own f6 O5.out (fun k hk e => own_ne O5.out R5.out.own (by decide) (by rw [hk, e])), B5.out.trans b6, frR_trans F5.out (frR_b f6)⟩
      clear ra6 b6 f6 n6 hh
      go_wp2_with fail
      go_meet
      case rel => exact REL
  case rest =>
    obtain ⟨A4, c4, u, ra4, k4, ou, nb4, oa4, b4, f4⟩ := hcut.out
    have z1 : wc.cell? ⟨w.heap.size, 1, none⟩ = some u := by unfold World.cell?; rw [show (⟨w.heap.size, 1, none⟩ : Addr).block = w.heap.size from rfl, k4]; rfl
    have zf1 : wc.frozen? ⟨w.heap.size, 1, none⟩ = false := by unfold World.frozen?; rw [show (⟨w.heap.size, 1, none⟩ : Addr).block = w.heap.size from rfl, k4]; simp
    have RA4 := hid ra4
    have K4 := hid (And.intro k4 (And.intro nb4 (And.intro b4 f4)))
    have OA4 := hid oa4
    have BSW := hid (show base ≤ w.heap.size from h.out.bs)
    clear ra4 k4 nb4 oa4 b4 f4 hcut H1 H2 HRB HRB1 HU hput
    have u5 : Up wc (wc.alloc (.cells #[] 5)) := (Below.refl _ _).alloc (Nat.le_refl _) _
    have U5 := hid u5
    clear u5
    go_wp2_with (at_builtin; refine hold ?_)
    have O1 := own_lit0 wc wc.heap.size 5 1 (Nat.le_refl _)
    refine hid (wl_append elemB rfl (.tmp 34) (.tmp 35) rfl rfl O1 rfl ((Rd.own OA4.out).grown U5.out) (by have := OA4.out.1; simpa using this) (byteCells_one _) (by simp only [maxLen]; omega) (by omega) U5.out.size ?_)
    intro A5 k5 w5 o5 g5 _
    have u6 : Up wc w5 := below_append U5.out (Nat.le_refl _) U5.out.size O1 g5
    simp only [Nat.zero_add, List.nil_append] at o5
    rw [Nat.zero_add]
    have O5 := hid o5
    have U6 := hid u6
    have z15 := u6.c z1
    have zf15 : w5.frozen? ⟨w.heap.size, 1, none⟩ = false := by unfold World.frozen?; rw [show (⟨w.heap.size, 1, none⟩ : Addr).block = w.heap.size from rfl, u6.block _ (Array.getElem?_eq_some_iff.1 K4.out.1).1, K4.out.1]; simp
    clear o5 g5 O1 u6 z1 zf1
    go_upto_region 9 with fail
    have HW7 : ∀ W7, W7 = w5.setCell ⟨w.heap.size, 1, none⟩ (.slice A5 512 k5) → RefAt W7 base b room hit miss A4 c4 RR ∧ RowAt W7 w.heap.size ⟨p, A5, k5, D, q, d⟩ ∧ W7.ownsRow 0 5 1 (.slice A5 512 k5) 512 (D.map byteCell) ∧ Below base w W7 ∧ Fr (RefS w b) w W7 := by
      rintro W7 rfl
      have f7 : Fr (fun k => k = w.heap.size) w5 (w5.setCell ⟨w.heap.size, 1, none⟩ (.slice A5 512 k5)) := (Fr.refl (fun k => k = w.heap.size) w5).setCell (p := ⟨w.heap.size, 1, none⟩) (fun _ => rfl) _
      have kk5 : w5.heap[w.heap.size]? = _ := (U6.out.block _ (Array.getElem?_eq_some_iff.1 K4.out.1).1).trans K4.out.1
      have o5 : w5.ownsRow 0 5 1 (.slice A5 512 k5) 512 (D.map byteCell) := own_base O5.out (Nat.zero_le _)
      have lt : ¬ b = w.heap.size := by have := h.out.lt; omega
      refine ⟨(RA4.out.up U6.out).keep2 f7 lt (fun k hk e => K4.out.2.1 (by rw [hk, e])) (fun k e _ cs fr h9 => ?_), ⟨?_, ?_, ?_, ?_⟩, f7.own o5 (fun k hk e => own_ne o5 kk5 (by decide) (by rw [hk, e])), ?_, ?_⟩
      · subst e
        rw [kk5] at h9
        injection h9 with h9; injection h9 with _ h9 _
        revert h9; decide
      · refine set_far ?_ (fun e => by cases e.2)
        unfold World.cell?; rw [show (⟨w.heap.size, 0, none⟩ : Addr).block = w.heap.size from rfl, kk5]; rfl
      · exact set_near z15
      · refine set_far ?_ (fun e => by cases e.2)
        unfold World.cell?; rw [show (⟨w.heap.size, 2, none⟩ : Addr).block = w.heap.size from rfl, kk5]; rfl
      · refine set_far ?_ (fun e => by cases e.2)
        unfold World.cell?; rw [show (⟨w.heap.size, 3, none⟩ : Addr).block = w.heap.size from rfl, kk5]; rfl
      · exact (K4.out.2.2.1.trans (U6.out.mono (Nat.le_trans BSW.out K4.out.2.2.1.size))).setCell (p := ⟨w.heap.size, 1, none⟩) BSW.out _
      · exact (frR_trans K4.out.2.2.2 (frR_up U6.out)).trans f7 (fun i hi e => by omega)
    obtain ⟨W7, hW7⟩ : ∃ W7, W7 = w5.setCell ⟨w.heap.size, 1, none⟩ (.slice A5 512 k5) := ⟨_, rfl⟩
    rw [← hW7]
    obtain ⟨ra7, r7, d7, b7, f7⟩ := HW7 W7 hW7
    have c17 := ra7.c1
    obtain ⟨m, hm⟩ : ∃ m, RR.length = m := ⟨_, rfl⟩
    rw [hm] at c17
    have HM := hid hm
    have BM : Hid (m < 1000000) := hid (by have := hlr.out; omega)
    have RD7 := hid (show Rd W7 A4 (RR.flatMap rowC) from Rd.own ra7.rows)
    have RA7 := hid ra7
    have R7 := hid r7
    have D7 := hid d7
    have BF7 := hid (And.intro b7 f7)
    clear HW7 hW7 ra7 r7 d7 b7 f7 hm z15 zf15 U6 O5 K4 OA4 RA4 U5
    go_cut [] (fun wx => ∃ A9 c9, Hid (RefAt wx base b room hit miss A9 c9 (RR ++ [⟨p, A5, k5, D, q, d⟩]) ∧ Below base w wx ∧ Fr (RefS w b) w wx))
    case first =>
      have US : Up W7 W7.drew := Up.drew W7
      have HFL : Hid ((RR.flatMap rowC).length = m * 4) := hid (by rw [flat_length rowC_length, HM.out])
--REG9
      refine t_start (Up W7) 12 (by kernel_rfl) ?_
      refine t_take 0 (some 38) (v := ?_) US rfl rfl (by kernel_rfl) (by kernel_rfl) (by kernel_rfl) (by kernel_rfl) (fun _ _ _ h => h) (by rfl) (fun w9 hS => ?_) ?_
      rotate_left
      · go_simp <;> with_reducible rfl
      try simp only [Act.put, List.setIfInBounds_toArray, List.set_cons_zero, List.set_cons_succ]
      refine t_take 2 (some 40) (v := ?_) US rfl rfl (by kernel_rfl) (by kernel_rfl) (by kernel_rfl) (by kernel_rfl) (fun _ _ _ h => h) (by rfl) (fun w9 hS => ?_) ?_
      rotate_left
      · go_simp <;> with_reducible rfl
      try simp only [Act.put, List.setIfInBounds_toArray, List.set_cons_zero, List.set_cons_succ]
      refine t_take 3 (some 41) (v := ?_) US rfl rfl (by kernel_rfl) (by kernel_rfl) (by kernel_rfl) (by kernel_rfl) (fun _ _ _ h => h) (by rfl) (fun w9 hS => ?_) ?_
      rotate_left
      · go_simp <;> with_reducible rfl
      try simp only [Act.put, List.setIfInBounds_toArray, List.set_cons_zero, List.set_cons_succ]
      refine t_take 4 (some 42) (v := ?_) US rfl rfl (by kernel_rfl) (by kernel_rfl) (by kernel_rfl) (by kernel_rfl) (fun _ _ _ h => h) (by rfl) (fun w9 hS => ?_) ?_
      rotate_left
      · go_simp <;> with_reducible rfl
      try simp only [Act.put, List.setIfInBounds_toArray, List.set_cons_zero, List.set_cons_succ]
      refine t_take 5 (some 43) (v := ?_) US rfl rfl (by kernel_rfl) (by kernel_rfl) (by kernel_rfl) (by kernel_rfl) (fun _ _ _ h => h) (by rfl) (fun w9 hS => ?_) ?_
      rotate_left
      · have e0 := hS.c c17; go_simp <;> with_reducible rfl
      try simp only [Act.put, List.setIfInBounds_toArray, List.set_cons_zero, List.set_cons_succ]
      refine t_take 7 (some 45) (v := ?_) US rfl rfl (by kernel_rfl) (by kernel_rfl) (by kernel_rfl) (by kernel_rfl) (fun _ _ _ h => h) (by rfl) (fun w9 hS => ?_) ?_
      rotate_left
      · obtain ⟨e0, e1, e2, e3⟩ := R7.out.up hS; go_simp <;> with_reducible rfl
      try simp only [Act.put, List.setIfInBounds_toArray, List.set_cons_zero, List.set_cons_succ]
      refine t_two 1 8 (by kernel_rfl) rfl rfl (by rfl) (by rfl) (fun K9 hK9 => ?_) (fun K9 hK9 => ?_)
      · go_simp
        replace US : Up W7 ((W7.alloc (.cells #[] 174)).drew) := Below.drew (upAl (Up.refl W7) (.cells #[] 174))
        have O1 := hid (show ((W7.alloc (.cells #[] 174)).drew).ownsRow W7.heap.size 174 4 (.slice (some ⟨W7.heap.size, 0, none⟩) 0 0) 0 [] from own_lit0 W7 W7.heap.size 174 4 (Nat.le_refl _))
        refine hK9.out _ _ US ?_
        clear hK9 K9
        try simp only [Act.put, List.setIfInBounds_toArray, List.set_cons_zero, List.set_cons_succ]
        refine t_two 6 8 (by kernel_rfl) rfl rfl (by rfl) (by rfl) (fun K9 hK9 => ?_) (fun K9 hK9 => ?_)
        · refine wp_append elemRow (.tmp 39) (.tmp 43) rfl rfl O1.out rfl (RD7.out.grown US) HFL.out (flat_one rowC_one _) (by have := BM.out; simp only [maxLen]; omega) (by have := BM.out; omega) US.size ?_
          intro A6 k6 w6 o6 g6 d6
          replace US : Up W7 w6 := below_append US (Nat.le_refl _) US.size O1.out g6
          simp only [Nat.zero_add, List.nil_append] at o6
          have O2 := hid o6
          clear o6 g6 d6
          rw [Nat.zero_add]
          refine hK9.out _ _ US ?_
          clear hK9 K9
          try simp only [Act.put, List.setIfInBounds_toArray, List.set_cons_zero, List.set_cons_succ]
          refine t_op 8 (by kernel_rfl) rfl (by rfl) (fun K9 hK9 => ?_)
          go_simp
          replace US : Up W7 (w6.alloc (.cells #[.int .i64 p, .slice A5 512 k5, .int .i64 q, .bool d] 174)) := upAl US _
          have O3 := hid (Fr.own ((Fr.refl No w6).alloc (.cells #[.int .i64 p, .slice A5 512 k5, .int .i64 q, .bool d] 174)) O2.out (fun _ _ => id))
          have RN := hid (show Rd (w6.alloc (.cells #[.int .i64 p, .slice A5 512 k5, .int .i64 q, .bool d] 174)) (some ⟨w6.heap.size, 0, none⟩) (rowC (⟨p, A5, k5, D, q, d⟩ : RowR)) from Rd.new w6 174 (0, 0) (rowC (⟨p, A5, k5, D, q, d⟩ : RowR)))
          refine hK9.out _ _ US ?_
          clear hK9 K9
          try simp only [Act.put, List.setIfInBounds_toArray, List.set_cons_zero, List.set_cons_succ]
          refine t_op 9 (by kernel_rfl) rfl (by rfl) (fun K9 hK9 => ?_)
          refine wp_append (news := rowC (⟨p, A5, k5, D, q, d⟩ : RowR)) elemRow (.tmp 44) (.tmp 46) rfl rfl O3.out rfl RN.out rfl (rowC_one _) (by have := BM.out; simp only [maxLen]; omega) (by have := BM.out; omega) US.size ?_
          intro A9 k9 w9 o9 g9 d9
          replace US : Up W7 w9 := below_append US (Nat.le_refl _) US.size O3.out g9
          have O9 := hid o9
          have c19 := US.c c17
          have fz9 : w9.frozen? ⟨b, 1, none⟩ = false := (RA7.out.up US).fz 1
          clear o9 g9 d9
          refine hK9.out _ _ US ?_
          clear hK9 K9
          try simp only [Act.put, List.setIfInBounds_toArray, List.set_cons_zero, List.set_cons_succ]
          refine t_op 10 (by kernel_rfl) rfl (by rfl) (fun K9 hK9 => ?_)
          go_simp
          refine hK9.out _ _ US ?_
          clear hK9 K9
          try simp only [Act.put, List.setIfInBounds_toArray, List.set_cons_zero, List.set_cons_succ]
          refine t_take 11 (some 49) (v := ?_) US rfl rfl (by kernel_rfl) (by kernel_rfl) (by kernel_rfl) (by kernel_rfl) (fun _ _ _ h => h) (by rfl) (fun w9 hS => ?_) ?_
          rotate_left
          · go_simp <;> with_reducible rfl
          try simp only [Act.put, List.setIfInBounds_toArray, List.set_cons_zero, List.set_cons_succ]
          refine t_last (by kernel_rfl) rfl (by rfl) (fun K9 hK9 => ?_)
          go_simp
          refine hK9.out _ _ ?_
          clear hK9 K9
          try simp only [Act.put, List.setIfInBounds_toArray, List.set_cons_zero, List.set_cons_succ]
          refine t_done (by kernel_rfl) ?_
          have FIN := hid (put_end base b room hit miss w W7 w9 A4 c4 RR (⟨p, A5, k5, D, q, d⟩ : RowR) A9 k9 m RA7.out HM.out D7.out US O9.out BF7.out.1 BF7.out.2)
          clear O9 c19 fz9 US
          go_wp2_with fail
          go_meet
          case rel => exact ⟨_, _, FIN⟩
        · go_simp
          replace US : Up W7 (((W7.alloc (.cells #[] 174)).alloc (.cells #[.int .i64 p, .slice A5 512 k5, .int .i64 q, .bool d] 174)).drew) := Below.drew (upAl (upAl (Up.refl W7) (.cells #[] 174)) (.cells #[.int .i64 p, .slice A5 512 k5, .int .i64 q, .bool d] 174))
          replace O1 := hid (show (((W7.alloc (.cells #[] 174)).alloc (.cells #[.int .i64 p, .slice A5 512 k5, .int .i64 q, .bool d] 174)).drew).ownsRow W7.heap.size 174 4 (.slice (some ⟨W7.heap.size, 0, none⟩) 0 0) 0 [] from Fr.own ((Fr.refl No (W7.alloc (.cells #[] 174))).alloc (.cells #[.int .i64 p, .slice A5 512 k5, .int .i64 q, .bool d] 174)) (own_lit0 W7 W7.heap.size 174 4 (Nat.le_refl _)) (fun _ _ => id))
          have RN := hid (show Rd (((W7.alloc (.cells #[] 174)).alloc (.cells #[.int .i64 p, .slice A5 512 k5, .int .i64 q, .bool d] 174)).drew) (some ⟨W7.heap.size + 1, 0, none⟩) (rowC (⟨p, A5, k5, D, q, d⟩ : RowR)) from by (have h9 : Rd ((W7.alloc (.cells #[] 174)).alloc (.cells #[.int .i64 p, .slice A5 512 k5, .int .i64 q, .bool d] 174)) (some ⟨W7.heap.size + 1, 0, none⟩) (rowC (⟨p, A5, k5, D, q, d⟩ : RowR)) := (by have := Rd.new (W7.alloc (.cells #[] 174)) 174 (0, 0) (rowC (⟨p, A5, k5, D, q, d⟩ : RowR)); simpa [rowC] using this); exact h9))
          refine hK9.out _ _ US ?_
          clear hK9 K9
          try simp only [Act.put, List.setIfInBounds_toArray, List.set_cons_zero, List.set_cons_succ]
          refine t_op 6 (by kernel_rfl) rfl (by rfl) (fun K9 hK9 => ?_)
          refine wp_append elemRow (.tmp 39) (.tmp 43) rfl rfl O1.out rfl (RD7.out.grown US) HFL.out (flat_one rowC_one _) (by have := BM.out; simp only [maxLen]; omega) (by have := BM.out; omega) US.size ?_
          intro A6 k6 w6 o6 g6 d6
          have RN2 := hid (RN.out.fr (Fr.of_grown g6) (fun bb oo e9 e8 => by injection e9 with e9; injection e9 with e9 _ _; have e7 : bb = W7.heap.size := Option.some.inj e8; rw [e7] at e9; have e9 : W7.heap.size + 1 = W7.heap.size := e9; omega))
          replace US : Up W7 w6 := below_append US (Nat.le_refl _) US.size O1.out g6
          simp only [Nat.zero_add, List.nil_append] at o6
          have O2 := hid o6
          clear o6 g6 d6
          rw [Nat.zero_add]
          refine hK9.out _ _ US ?_
          clear hK9 K9
          try simp only [Act.put, List.setIfInBounds_toArray, List.set_cons_zero, List.set_cons_succ]
          refine t_op 9 (by kernel_rfl) rfl (by rfl) (fun K9 hK9 => ?_)
          refine wp_append (news := rowC (⟨p, A5, k5, D, q, d⟩ : RowR)) elemRow (.tmp 44) (.tmp 46) rfl rfl O2.out rfl RN2.out rfl (rowC_one _) (by have := BM.out; simp only [maxLen]; omega) (by have := BM.out; omega) US.size ?_
          intro A9 k9 w9 o9 g9 d9
          replace US : Up W7 w9 := below_append US (Nat.le_refl _) US.size O2.out g9
          have O9 := hid o9
          have c19 := US.c c17
          have fz9 : w9.frozen? ⟨b, 1, none⟩ = false := (RA7.out.up US).fz 1
          clear o9 g9 d9
          refine hK9.out _ _ US ?_
          clear hK9 K9
          try simp only [Act.put, List.setIfInBounds_toArray, List.set_cons_zero, List.set_cons_succ]
          refine t_op 10 (by kernel_rfl) rfl (by rfl) (fun K9 hK9 => ?_)
          go_simp
          refine hK9.out _ _ US ?_
          clear hK9 K9
          try simp only [Act.put, List.setIfInBounds_toArray, List.set_cons_zero, List.set_cons_succ]
          refine t_take 11 (some 49) (v := ?_) US rfl rfl (by kernel_rfl) (by kernel_rfl) (by kernel_rfl) (by kernel_rfl) (fun _ _ _ h => h) (by rfl) (fun w9 hS => ?_) ?_
          rotate_left
          · go_simp <;> with_reducible rfl
          try simp only [Act.put, List.setIfInBounds_toArray, List.set_cons_zero, List.set_cons_succ]
          refine t_last (by kernel_rfl) rfl (by rfl) (fun K9 hK9 => ?_)
          go_simp
          refine hK9.out _ _ ?_
          clear hK9 K9
          try simp only [Act.put, List.setIfInBounds_toArray, List.set_cons_zero, List.set_cons_succ]
          refine t_done (by kernel_rfl) ?_
          have FIN := hid (put_end base b room hit miss w W7 w9 A4 c4 RR (⟨p, A5, k5, D, q, d⟩ : RowR) A9 k9 m RA7.out HM.out D7.out US O9.out BF7.out.1 BF7.out.2)
          clear O9 c19 fz9 US
          go_wp2_with fail
          go_meet
          case rel => exact ⟨_, _, FIN⟩
      · go_simp
        replace US : Up W7 ((W7.alloc (.cells #[.int .i64 p, .slice A5 512 k5, .int .i64 q, .bool d] 174)).drew) := Below.drew (upAl (Up.refl W7) (.cells #[.int .i64 p, .slice A5 512 k5, .int .i64 q, .bool d] 174))
        have RN0 := hid (show Rd ((W7.alloc (.cells #[.int .i64 p, .slice A5 512 k5, .int .i64 q, .bool d] 174)).drew) (some ⟨W7.heap.size, 0, none⟩) (rowC (⟨p, A5, k5, D, q, d⟩ : RowR)) from Rd.new W7 174 (0, 0) (rowC (⟨p, A5, k5, D, q, d⟩ : RowR)))
        refine hK9.out _ _ US ?_
        clear hK9 K9
        try simp only [Act.put, List.setIfInBounds_toArray, List.set_cons_zero, List.set_cons_succ]
        refine t_op 1 (by kernel_rfl) rfl (by rfl) (fun K9 hK9 => ?_)
        go_simp
        replace US : Up W7 (((W7.alloc (.cells #[.int .i64 p, .slice A5 512 k5, .int .i64 q, .bool d] 174)).alloc (.cells #[] 174)).drew) := Below.drew (upAl (upAl (Up.refl W7) (.cells #[.int .i64 p, .slice A5 512 k5, .int .i64 q, .bool d] 174)) (.cells #[] 174))
        have O1 := hid (show (((W7.alloc (.cells #[.int .i64 p, .slice A5 512 k5, .int .i64 q, .bool d] 174)).alloc (.cells #[] 174)).drew).ownsRow W7.heap.size 174 4 (.slice (some ⟨W7.heap.size + 1, 0, none⟩) 0 0) 0 [] from by (have h9 : ((W7.alloc (.cells #[.int .i64 p, .slice A5 512 k5, .int .i64 q, .bool d] 174)).alloc (.cells #[] 174)).ownsRow W7.heap.size 174 4 (.slice (some ⟨W7.heap.size + 1, 0, none⟩) 0 0) 0 [] := (by have := own_lit0 (W7.alloc (.cells #[.int .i64 p, .slice A5 512 k5, .int .i64 q, .bool d] 174)) W7.heap.size 174 4 (by simp); simpa using this); exact h9))
        have RN := hid (show Rd (((W7.alloc (.cells #[.int .i64 p, .slice A5 512 k5, .int .i64 q, .bool d] 174)).alloc (.cells #[] 174)).drew) (some ⟨W7.heap.size, 0, none⟩) (rowC (⟨p, A5, k5, D, q, d⟩ : RowR)) from Rd.grown (w := (W7.alloc (.cells #[.int .i64 p, .slice A5 512 k5, .int .i64 q, .bool d] 174))) RN0.out (Below.drew (upAl (Up.refl (W7.alloc (.cells #[.int .i64 p, .slice A5 512 k5, .int .i64 q, .bool d] 174))) (.cells #[] 174))))
        refine hK9.out _ _ US ?_
        clear hK9 K9
        try simp only [Act.put, List.setIfInBounds_toArray, List.set_cons_zero, List.set_cons_succ]
        refine t_op 6 (by kernel_rfl) rfl (by rfl) (fun K9 hK9 => ?_)
        refine wp_append elemRow (.tmp 39) (.tmp 43) rfl rfl O1.out rfl (RD7.out.grown US) HFL.out (flat_one rowC_one _) (by have := BM.out; simp only [maxLen]; omega) (by have := BM.out; omega) US.size ?_
        intro A6 k6 w6 o6 g6 d6
        have RN2 := hid (RN.out.fr (Fr.of_grown g6) (fun bb oo e9 e8 => by injection e9 with e9; injection e9 with e9 _ _; have e7 : bb = W7.heap.size + 1 := Option.some.inj e8; rw [e7] at e9; have e9 : W7.heap.size = W7.heap.size + 1 := e9; omega))
        replace US : Up W7 w6 := below_append US (Nat.le_refl _) US.size O1.out g6
        simp only [Nat.zero_add, List.nil_append] at o6
        have O2 := hid o6
        clear o6 g6 d6
        rw [Nat.zero_add]
        refine hK9.out _ _ US ?_
        clear hK9 K9
        try simp only [Act.put, List.setIfInBounds_toArray, List.set_cons_zero, List.set_cons_succ]
        refine t_op 9 (by kernel_rfl) rfl (by rfl) (fun K9 hK9 => ?_)
        refine wp_append (news := rowC (⟨p, A5, k5, D, q, d⟩ : RowR)) elemRow (.tmp 44) (.tmp 46) rfl rfl O2.out rfl RN2.out rfl (rowC_one _) (by have := BM.out; simp only [maxLen]; omega) (by have := BM.out; omega) US.size ?_
        intro A9 k9 w9 o9 g9 d9
        replace US : Up W7 w9 := below_append US (Nat.le_refl _) US.size O2.out g9
        have O9 := hid o9
        have c19 := US.c c17
        have fz9 : w9.frozen? ⟨b, 1, none⟩ = false := (RA7.out.up US).fz 1
        clear o9 g9 d9
        refine hK9.out _ _ US ?_
        clear hK9 K9
        try simp only [Act.put, List.setIfInBounds_toArray, List.set_cons_zero, List.set_cons_succ]
        refine t_op 10 (by kernel_rfl) rfl (by rfl) (fun K9 hK9 => ?_)
        go_simp
        refine hK9.out _ _ US ?_
        clear hK9 K9
        try simp only [Act.put, List.setIfInBounds_toArray, List.set_cons_zero, List.set_cons_succ]
        refine t_take 11 (some 49) (v := ?_) US rfl rfl (by kernel_rfl) (by kernel_rfl) (by kernel_rfl) (by kernel_rfl) (fun _ _ _ h => h) (by rfl) (fun w9 hS => ?_) ?_
        rotate_left
        · go_simp <;> with_reducible rfl
        try simp only [Act.put, List.setIfInBounds_toArray, List.set_cons_zero, List.set_cons_succ]
        refine t_last (by kernel_rfl) rfl (by rfl) (fun K9 hK9 => ?_)
        go_simp
        refine hK9.out _ _ ?_
        clear hK9 K9
        try simp only [Act.put, List.setIfInBounds_toArray, List.set_cons_zero, List.set_cons_succ]
        refine t_done (by kernel_rfl) ?_
        have FIN := hid (put_end base b room hit miss w W7 w9 A4 c4 RR (⟨p, A5, k5, D, q, d⟩ : RowR) A9 k9 m RA7.out HM.out D7.out US O9.out BF7.out.1 BF7.out.2)
        clear O9 c19 fz9 US
        go_wp2_with fail
        go_meet
        case rel => exact ⟨_, _, FIN⟩
--REG9END
    case rest =>
      obtain ⟨A9, c9, hc⟩ := hcut
      obtain ⟨x', hx'⟩ : ∃ x : RowR, x = ⟨p, A5, k5, D, q, d⟩ := ⟨_, rfl⟩
      rw [← hx'] at hc
      have hxp : x'.page = p := by rw [hx']
      have START : Hid (PutL w wc base b room hit miss p [] RR A9 c9 x' RES) := hid ⟨hc.out.1, by rw [List.map_append, ← HR.out, hx']; rfl, fun y hy e => hno.out (by rw [← e]; exact List.mem_map.2 ⟨y, hy, rfl⟩), hc.out.2.1, hc.out.2.2, hlr.out⟩
      have HX := hid hxp
      clear hx' hc hxp RA7 R7 D7 BF7 RD7
      go_wp2
      go_loopg [9] RR.length (fun k i wr => ∃ done rest A c, rest.length = k ∧ i = .int .i64 (done.length : Int) ∧ Hid (PutL w wr base b room hit miss p done rest A c x' RES))
      case atStart => exact ⟨[], RR, A9, c9, rfl, rfl, START⟩
      case round =>
        obtain ⟨done, rest, A, c, hk, rfl, iv⟩ := hrel
        obtain ⟨ra, ev, np, bl, fr, len⟩ := iv.out
        have c1 := ra.c1
        have c0 := ra.c0
        obtain ⟨n, hn⟩ : ∃ n, (done ++ rest ++ [x']).length = n := ⟨_, rfl⟩
        have hn2 : n = done.length + rest.length + 1 := by rw [← hn]; simp; omega
        have hn3 : n < 2000000 := by simp at len; omega
        rw [hn] at c1
        have C1 : ∀ w', Up wr w' → w'.cell? ⟨b, 1, none⟩ = some (.slice A n c) := fun _ u => u.c c1
        have C0 : ∀ w', Up wr w' → w'.cell? ⟨b, 0, none⟩ = some (.int .i64 room) := fun _ u => u.c c0
        have HC1 := hid C1
        have HC0 := hid C0
        have HN := hid (And.intro hn (And.intro hn2 hn3))
        have hw : IntKind.i64.wrap ((n : Int) - 1) = (n : Int) - 1 := by rw [IntKind.wrap_i64]; omega
        have GK := hid hk
        have I := iv
        clear C1 C0 iv ra ev np bl fr len hn hk
        cases rest with
        | nil =>
          have d1 : decide ((done.length : Int) < (n : Int) - 1) = false := decide_eq_false (by simp at hn2; omega)
          clear hn2 hn3
          go_wp2
          refine any_start (by kernel_rfl) ?_
          refine any_take 0 (some 50) (v := ?_) rfl rfl (by kernel_rfl) (by kernel_rfl) (by kernel_rfl) (fun _ _ _ h => h) (by rfl) (fun w9 hS => ?_) ?_
          rotate_left
          · go_simp <;> with_reducible rfl
          try simp only [Act.put, List.setIfInBounds_toArray, List.set_cons_zero, List.set_cons_succ]
          refine any_take 1 (some 51) (v := ?_) rfl rfl (by kernel_rfl) (by kernel_rfl) (by kernel_rfl) (fun _ _ _ h => h) (by rfl) (fun w9 hS => ?_) ?_
          rotate_left
          · go_simp <;> with_reducible rfl
          try simp only [Act.put, List.setIfInBounds_toArray, List.set_cons_zero, List.set_cons_succ]
          refine any_take 2 (some 52) (v := ?_) rfl rfl (by kernel_rfl) (by kernel_rfl) (by kernel_rfl) (fun _ _ _ h => h) (by rfl) (fun w9 hS => ?_) ?_
          rotate_left
          · go_simp <;> with_reducible rfl
          try simp only [Act.put, List.setIfInBounds_toArray, List.set_cons_zero, List.set_cons_succ]
          refine any_take 3 (some 53) (v := ?_) rfl rfl (by kernel_rfl) (by kernel_rfl) (by kernel_rfl) (fun _ _ _ h => h) (by rfl) (fun w9 hS => ?_) ?_
          rotate_left
          · go_simp <;> with_reducible rfl
          try simp only [Act.put, List.setIfInBounds_toArray, List.set_cons_zero, List.set_cons_succ]
          refine any_take 4 (some 54) (v := ?_) rfl rfl (by kernel_rfl) (by kernel_rfl) (by kernel_rfl) (fun _ _ _ h => h) (by rfl) (fun w9 hS => ?_) ?_
          rotate_left
          · have e0 := HC1.out w9 ((Up.drew wr).t hS); go_simp <;> with_reducible rfl
          try simp only [Act.put, List.setIfInBounds_toArray, List.set_cons_zero, List.set_cons_succ]
          refine any_take 5 (some 55) (v := ?_) rfl rfl (by kernel_rfl) (by kernel_rfl) (by kernel_rfl) (fun _ _ _ h => h) (by rfl) (fun w9 hS => ?_) ?_
          rotate_left
          · go_simp <;> with_reducible rfl
          try simp only [Act.put, List.setIfInBounds_toArray, List.set_cons_zero, List.set_cons_succ]
          refine any_take 6 (some 56) (v := ?_) rfl rfl (by kernel_rfl) (by kernel_rfl) (by kernel_rfl) (fun _ _ _ h => h) (by rfl) (fun w9 hS => ?_) ?_
          rotate_left
          · go_simp <;> with_reducible rfl
          try simp only [Act.put, List.setIfInBounds_toArray, List.set_cons_zero, List.set_cons_succ]
          refine any_take 7 (some 57) (v := ?_) rfl rfl (by kernel_rfl) (by kernel_rfl) (by kernel_rfl) (fun _ _ _ h => h) (by rfl) (fun w9 hS => ?_) ?_
          rotate_left
          · go_simp <;> with_reducible rfl
          try simp only [Act.put, List.setIfInBounds_toArray, List.set_cons_zero, List.set_cons_succ]
          refine any_take 8 (some 58) (v := ?_) rfl rfl (by kernel_rfl) (by kernel_rfl) (by kernel_rfl) (fun _ _ _ h => h) (by rfl) (fun w9 hS => ?_) ?_
          rotate_left
          · go_simp <;> with_reducible rfl
          try simp only [Act.put, List.setIfInBounds_toArray, List.set_cons_zero, List.set_cons_succ]
          refine any_skip 9 (some 59) rfl rfl (by kernel_rfl) (by kernel_rfl) (by kernel_rfl) (fun _ _ _ h => h) (by rfl) ?_
          try simp only [Act.put, List.setIfInBounds_toArray, List.set_cons_zero, List.set_cons_succ]
          refine any_skip 10 (some 60) rfl rfl (by kernel_rfl) (by kernel_rfl) (by kernel_rfl) (fun _ _ _ h => h) (by rfl) ?_
          try simp only [Act.put, List.setIfInBounds_toArray, List.set_cons_zero, List.set_cons_succ]
          refine any_skip 11 (some 61) rfl rfl (by kernel_rfl) (by kernel_rfl) (by kernel_rfl) (fun _ _ _ h => h) (by rfl) ?_
          try simp only [Act.put, List.setIfInBounds_toArray, List.set_cons_zero, List.set_cons_succ]
          refine any_skip 12 (some 62) rfl rfl (by kernel_rfl) (by kernel_rfl) (by kernel_rfl) (fun _ _ _ h => h) (by rfl) ?_
          try simp only [Act.put, List.setIfInBounds_toArray, List.set_cons_zero, List.set_cons_succ]
          refine any_skip 13 (some 63) rfl rfl (by kernel_rfl) (by kernel_rfl) (by kernel_rfl) (fun _ _ _ h => h) (by rfl) ?_
          try simp only [Act.put, List.setIfInBounds_toArray, List.set_cons_zero, List.set_cons_succ]
          refine any_skip 14 (some 64) rfl rfl (by kernel_rfl) (by kernel_rfl) (by kernel_rfl) (fun _ _ _ h => h) (by rfl) ?_
          try simp only [Act.put, List.setIfInBounds_toArray, List.set_cons_zero, List.set_cons_succ]
          refine any_skip 15 (some 65) rfl rfl (by kernel_rfl) (by kernel_rfl) (by kernel_rfl) (fun _ _ _ h => h) (by rfl) ?_
          try simp only [Act.put, List.setIfInBounds_toArray, List.set_cons_zero, List.set_cons_succ]
          refine any_skip 16 (some 66) rfl rfl (by kernel_rfl) (by kernel_rfl) (by kernel_rfl) (fun _ _ _ h => h) (by rfl) ?_
          try simp only [Act.put, List.setIfInBounds_toArray, List.set_cons_zero, List.set_cons_succ]
          refine any_skip 17 (some 67) rfl rfl (by kernel_rfl) (by kernel_rfl) (by kernel_rfl) (fun _ _ _ h => h) (by rfl) ?_
          try simp only [Act.put, List.setIfInBounds_toArray, List.set_cons_zero, List.set_cons_succ]
          refine any_skip 18 (some 68) rfl rfl (by kernel_rfl) (by kernel_rfl) (by kernel_rfl) (fun _ _ _ h => h) (by rfl) ?_
          try simp only [Act.put, List.setIfInBounds_toArray, List.set_cons_zero, List.set_cons_succ]
          refine any_take 19 (some 69) (v := ?_) rfl rfl (by kernel_rfl) (by kernel_rfl) (by kernel_rfl) (fun _ _ _ h => h) (by rfl) (fun w9 hS => ?_) ?_
          rotate_left
          · go_simp <;> with_reducible rfl
          try simp only [Act.put, List.setIfInBounds_toArray, List.set_cons_zero, List.set_cons_succ]
          refine any_done (by kernel_rfl) ?_
          rename_i K1 h1
          refine h1 _ _ ?_
          clear h1 K1
          go_wp2
          go_ret
          obtain ⟨ra, ev, np, bl, fr, len⟩ := I.out
          exact ⟨rfl, hid ⟨⟨A, c, _, ra.up (Up.drew wr), by rw [← ev, List.append_nil, List.nil_append, List.map_append, List.map_cons, List.map_nil, evictV_last (x := visR x') HX.out]⟩, bl.drew, frR_trans fr (frR_up (Up.drew wr))⟩⟩
        | cons y rest =>
          have d1 : decide ((done.length : Int) < (n : Int) - 1) = true := decide_eq_true (by simp at hn2; omega)
          have d3 : (done.length : Int) < (n : Int) - 1 := by simp at hn2; omega
          by_cases hroom : room < (n : Int)
          · have d2 : decide (room < (n : Int)) = true := decide_eq_true hroom
            have HRM := hid hroom
            have DD := hid d3
            clear hn2 hn3 hroom d3
            go_wp2
            refine any_start (by kernel_rfl) ?_
            refine any_take 0 (some 50) (v := ?_) rfl rfl (by kernel_rfl) (by kernel_rfl) (by kernel_rfl) (fun _ _ _ h => h) (by rfl) (fun w9 hS => ?_) ?_
            rotate_left
            · go_simp <;> with_reducible rfl
            try simp only [Act.put, List.setIfInBounds_toArray, List.set_cons_zero, List.set_cons_succ]
            refine any_take 1 (some 51) (v := ?_) rfl rfl (by kernel_rfl) (by kernel_rfl) (by kernel_rfl) (fun _ _ _ h => h) (by rfl) (fun w9 hS => ?_) ?_
            rotate_left
            · go_simp <;> with_reducible rfl
            try simp only [Act.put, List.setIfInBounds_toArray, List.set_cons_zero, List.set_cons_succ]
            refine any_take 2 (some 52) (v := ?_) rfl rfl (by kernel_rfl) (by kernel_rfl) (by kernel_rfl) (fun _ _ _ h => h) (by rfl) (fun w9 hS => ?_) ?_
            rotate_left
            · go_simp <;> with_reducible rfl
            try simp only [Act.put, List.setIfInBounds_toArray, List.set_cons_zero, List.set_cons_succ]
            refine any_take 3 (some 53) (v := ?_) rfl rfl (by kernel_rfl) (by kernel_rfl) (by kernel_rfl) (fun _ _ _ h => h) (by rfl) (fun w9 hS => ?_) ?_
            rotate_left
            · go_simp <;> with_reducible rfl
            try simp only [Act.put, List.setIfInBounds_toArray, List.set_cons_zero, List.set_cons_succ]
            refine any_take 4 (some 54) (v := ?_) rfl rfl (by kernel_rfl) (by kernel_rfl) (by kernel_rfl) (fun _ _ _ h => h) (by rfl) (fun w9 hS => ?_) ?_
            rotate_left
            · have e0 := HC1.out w9 ((Up.drew wr).t hS); go_simp <;> with_reducible rfl
            try simp only [Act.put, List.setIfInBounds_toArray, List.set_cons_zero, List.set_cons_succ]
            refine any_take 5 (some 55) (v := ?_) rfl rfl (by kernel_rfl) (by kernel_rfl) (by kernel_rfl) (fun _ _ _ h => h) (by rfl) (fun w9 hS => ?_) ?_
            rotate_left
            · go_simp <;> with_reducible rfl
            try simp only [Act.put, List.setIfInBounds_toArray, List.set_cons_zero, List.set_cons_succ]
            refine any_take 6 (some 56) (v := ?_) rfl rfl (by kernel_rfl) (by kernel_rfl) (by kernel_rfl) (fun _ _ _ h => h) (by rfl) (fun w9 hS => ?_) ?_
            rotate_left
            · go_simp <;> with_reducible rfl
            try simp only [Act.put, List.setIfInBounds_toArray, List.set_cons_zero, List.set_cons_succ]
            refine any_take 7 (some 57) (v := ?_) rfl rfl (by kernel_rfl) (by kernel_rfl) (by kernel_rfl) (fun _ _ _ h => h) (by rfl) (fun w9 hS => ?_) ?_
            rotate_left
            · go_simp <;> with_reducible rfl
            try simp only [Act.put, List.setIfInBounds_toArray, List.set_cons_zero, List.set_cons_succ]
            refine any_take 8 (some 58) (v := ?_) rfl rfl (by kernel_rfl) (by kernel_rfl) (by kernel_rfl) (fun _ _ _ h => h) (by rfl) (fun w9 hS => ?_) ?_
            rotate_left
            · go_simp <;> with_reducible rfl
            try simp only [Act.put, List.setIfInBounds_toArray, List.set_cons_zero, List.set_cons_succ]
            refine any_take 9 (some 59) (v := ?_) rfl rfl (by kernel_rfl) (by kernel_rfl) (by kernel_rfl) (fun _ _ _ h => h) (by rfl) (fun w9 hS => ?_) ?_
            rotate_left
            · go_simp <;> with_reducible rfl
            try simp only [Act.put, List.setIfInBounds_toArray, List.set_cons_zero, List.set_cons_succ]
            refine any_take 10 (some 60) (v := ?_) rfl rfl (by kernel_rfl) (by kernel_rfl) (by kernel_rfl) (fun _ _ _ h => h) (by rfl) (fun w9 hS => ?_) ?_
            rotate_left
            · go_simp <;> with_reducible rfl
            try simp only [Act.put, List.setIfInBounds_toArray, List.set_cons_zero, List.set_cons_succ]
            refine any_take 11 (some 61) (v := ?_) rfl rfl (by kernel_rfl) (by kernel_rfl) (by kernel_rfl) (fun _ _ _ h => h) (by rfl) (fun w9 hS => ?_) ?_
            rotate_left
            · go_simp <;> with_reducible rfl
            try simp only [Act.put, List.setIfInBounds_toArray, List.set_cons_zero, List.set_cons_succ]
            refine any_take 12 (some 62) (v := ?_) rfl rfl (by kernel_rfl) (by kernel_rfl) (by kernel_rfl) (fun _ _ _ h => h) (by rfl) (fun w9 hS => ?_) ?_
            rotate_left
            · have e0 := HC1.out w9 ((Up.drew wr).t hS); go_simp <;> with_reducible rfl
            try simp only [Act.put, List.setIfInBounds_toArray, List.set_cons_zero, List.set_cons_succ]
            refine any_take 13 (some 63) (v := ?_) rfl rfl (by kernel_rfl) (by kernel_rfl) (by kernel_rfl) (fun _ _ _ h => h) (by rfl) (fun w9 hS => ?_) ?_
            rotate_left
            · go_simp <;> with_reducible rfl
            try simp only [Act.put, List.setIfInBounds_toArray, List.set_cons_zero, List.set_cons_succ]
            refine any_take 14 (some 64) (v := ?_) rfl rfl (by kernel_rfl) (by kernel_rfl) (by kernel_rfl) (fun _ _ _ h => h) (by rfl) (fun w9 hS => ?_) ?_
            rotate_left
            · go_simp <;> with_reducible rfl
            try simp only [Act.put, List.setIfInBounds_toArray, List.set_cons_zero, List.set_cons_succ]
            refine any_take 15 (some 65) (v := ?_) rfl rfl (by kernel_rfl) (by kernel_rfl) (by kernel_rfl) (fun _ _ _ h => h) (by rfl) (fun w9 hS => ?_) ?_
            rotate_left
            · go_simp <;> with_reducible rfl
            try simp only [Act.put, List.setIfInBounds_toArray, List.set_cons_zero, List.set_cons_succ]
            refine any_take 16 (some 66) (v := ?_) rfl rfl (by kernel_rfl) (by kernel_rfl) (by kernel_rfl) (fun _ _ _ h => h) (by rfl) (fun w9 hS => ?_) ?_
            rotate_left
            · go_simp <;> with_reducible rfl
            try simp only [Act.put, List.setIfInBounds_toArray, List.set_cons_zero, List.set_cons_succ]
            refine any_take 17 (some 67) (v := ?_) rfl rfl (by kernel_rfl) (by kernel_rfl) (by kernel_rfl) (fun _ _ _ h => h) (by rfl) (fun w9 hS => ?_) ?_
            rotate_left
            · have e0 := HC0.out w9 ((Up.drew wr).t hS); go_simp <;> with_reducible rfl
            try simp only [Act.put, List.setIfInBounds_toArray, List.set_cons_zero, List.set_cons_succ]
            refine any_take 18 (some 68) (v := ?_) rfl rfl (by kernel_rfl) (by kernel_rfl) (by kernel_rfl) (fun _ _ _ h => h) (by rfl) (fun w9 hS => ?_) ?_
            rotate_left
            · go_simp <;> with_reducible rfl
            try simp only [Act.put, List.setIfInBounds_toArray, List.set_cons_zero, List.set_cons_succ]
            refine any_take 19 (some 69) (v := ?_) rfl rfl (by kernel_rfl) (by kernel_rfl) (by kernel_rfl) (fun _ _ _ h => h) (by rfl) (fun w9 hS => ?_) ?_
            rotate_left
            · go_simp <;> with_reducible rfl
            try simp only [Act.put, List.setIfInBounds_toArray, List.set_cons_zero, List.set_cons_succ]
            refine any_done (by kernel_rfl) ?_
            rename_i K1 h1
            refine h1 _ _ ?_
            clear h1 K1 d1 d2
            obtain ⟨ra, ev, np, bl, fr, len⟩ := I.out
            have e1 : done ++ y :: rest ++ [x'] = done ++ y :: (rest ++ [x']) := by rw [List.append_assoc, List.cons_append]
            rw [e1] at ra
            have ra2 := ra.up (Up.drew wr)
            have EV : Hid ((if (y.pins == 0 && !y.dirty) = true then evictV room p (done.map visR) ((rest ++ [x']).map visR) else evictV room p (done.map visR ++ [visR y]) ((rest ++ [x']).map visR)) = RES) := by
              refine hid ?_
              rw [← ev, List.cons_append, List.map_cons, evictV_step (x := visR y)]
              · rfl
              · have := HRM.out
                rw [← List.map_cons, ← List.map_append, List.length_map, ← e1, HN.out.1]; exact this
              · exact np y (by simp)
            have LEN : Hid ((done ++ y :: (rest ++ [x'])).length < 1000000) := hid (by rw [← e1]; simp at len ⊢; omega)
            have BF := hid (And.intro bl.drew (frR_trans fr (frR_up (Up.drew wr))))
            have NP := hid np
            have LN := hid len
            have RA2 := hid ra2
            have c12 := ra2.c1
            obtain ⟨g, rfl, hlt, _, q0, q1, q2, q3, qf⟩ := ra2.at0 (Up.refl _)
            have hn5 : (done ++ y :: (rest ++ [x'])).length = n := by rw [← e1]; exact HN.out.1
            rw [hn5] at c12
            have i1 : (0 : Int) ≤ (done.length : Int) := by omega
            have i2 : (done.length : Int) < (n : Int) := by have := DD.out; omega
            have iw : IntKind.i64.wrap ((done.length : Int) + 1) = (done.length : Int) + 1 := by rw [IntKind.wrap_i64]; have := HN.out.2.2; omega
            have HE1 := hid e1
            have HGK := GK
            clear ra ra2 ev np bl fr len hlt q0 q1 qf hn5 e1 I
            generalize wr.drew = W2 at *
            cases hz : (y.pins == 0) with
            | true =>
              cases hd : y.dirty with
              | false =>
                have HZ := hid (And.intro hz hd)
                rw [hd] at q3
                clear hd
                go_wp2_with fail
                refine (rout_split W2 base b room hit miss (some ⟨g, 0, none⟩) c done (rest ++ [x']) y RA2 LEN).mono ?_
                rintro en W4 ⟨rfl, hh⟩
                obtain ⟨A4, c4, ra4, b4, f4, _⟩ := hh.out
                have NI : Hid (PutL w W4 base b room hit miss p done rest A4 c4 x' RES) := by
                  refine hid ⟨by rw [List.append_assoc]; exact ra4, ?_, fun z hz => NP.out z (List.mem_cons_of_mem _ hz), BF.out.1.trans b4, frR_trans BF.out.2 (frR_b f4), by have := LN.out; simp at this ⊢; omega⟩
                  have := EV.out
                  rwa [if_pos (by rw [HZ.out.1, HZ.out.2]; rfl)] at this
                clear ra4 b4 f4 hh q2 q3 hz
                go_wp2
                go_roundg rest.length
                case measure => have := GK.out; rw [← this]; exact Nat.lt_succ_self _
                case rel => exact ⟨done, rest, A4, c4, rfl, rfl, NI⟩
              | true =>
                have HZ := hid (And.intro hz hd)
                rw [hd] at q3
                have NI : Hid (PutL w W2 base b room hit miss p (done ++ [y]) rest (some ⟨g, 0, none⟩) c x' RES) := by
                  refine hid ⟨by rw [List.append_assoc, List.append_assoc]; exact RA2.out, ?_, fun z hz => NP.out z (List.mem_cons_of_mem _ hz), BF.out.1, BF.out.2, by have := LN.out; simp at this ⊢; omega⟩
                  have := EV.out
                  rw [if_neg (by rw [HZ.out.1, HZ.out.2]; decide)] at this
                  rw [List.map_append]; exact this
                clear hd
                go_wp2
                go_roundg rest.length
                case measure => have := GK.out; rw [← this]; exact Nat.lt_succ_self _
                case rel => exact ⟨done ++ [y], rest, _, c, rfl, by rw [List.length_append]; rfl, NI⟩
            | false =>
              have HZ := hid hz
              have NI : Hid (PutL w W2 base b room hit miss p (done ++ [y]) rest (some ⟨g, 0, none⟩) c x' RES) := by
                refine hid ⟨by rw [List.append_assoc, List.append_assoc]; exact RA2.out, ?_, fun z hz => NP.out z (List.mem_cons_of_mem _ hz), BF.out.1, BF.out.2, by have := LN.out; simp at this ⊢; omega⟩
                have := EV.out
                rw [if_neg (by rw [HZ.out]; simp)] at this
                rw [List.map_append]; exact this
              go_wp2
              go_roundg rest.length
              case measure => have := GK.out; rw [← this]; exact Nat.lt_succ_self _
              case rel => exact ⟨done ++ [y], rest, _, c, rfl, by rw [List.length_append]; rfl, NI⟩
          · have d2 : decide (room < (n : Int)) = false := decide_eq_false hroom
            have HRM := hid hroom
            clear hn2 hn3 hroom d3
            go_wp2
            refine any_start (by kernel_rfl) ?_
            refine any_take 0 (some 50) (v := ?_) rfl rfl (by kernel_rfl) (by kernel_rfl) (by kernel_rfl) (fun _ _ _ h => h) (by rfl) (fun w9 hS => ?_) ?_
            rotate_left
            · go_simp <;> with_reducible rfl
            try simp only [Act.put, List.setIfInBounds_toArray, List.set_cons_zero, List.set_cons_succ]
            refine any_take 1 (some 51) (v := ?_) rfl rfl (by kernel_rfl) (by kernel_rfl) (by kernel_rfl) (fun _ _ _ h => h) (by rfl) (fun w9 hS => ?_) ?_
            rotate_left
            · go_simp <;> with_reducible rfl
            try simp only [Act.put, List.setIfInBounds_toArray, List.set_cons_zero, List.set_cons_succ]
            refine any_take 2 (some 52) (v := ?_) rfl rfl (by kernel_rfl) (by kernel_rfl) (by kernel_rfl) (fun _ _ _ h => h) (by rfl) (fun w9 hS => ?_) ?_
            rotate_left
            · go_simp <;> with_reducible rfl
            try simp only [Act.put, List.setIfInBounds_toArray, List.set_cons_zero, List.set_cons_succ]
            refine any_take 3 (some 53) (v := ?_) rfl rfl (by kernel_rfl) (by kernel_rfl) (by kernel_rfl) (fun _ _ _ h => h) (by rfl) (fun w9 hS => ?_) ?_
            rotate_left
            · go_simp <;> with_reducible rfl
            try simp only [Act.put, List.setIfInBounds_toArray, List.set_cons_zero, List.set_cons_succ]
            refine any_take 4 (some 54) (v := ?_) rfl rfl (by kernel_rfl) (by kernel_rfl) (by kernel_rfl) (fun _ _ _ h => h) (by rfl) (fun w9 hS => ?_) ?_
            rotate_left
            · have e0 := HC1.out w9 ((Up.drew wr).t hS); go_simp <;> with_reducible rfl
            try simp only [Act.put, List.setIfInBounds_toArray, List.set_cons_zero, List.set_cons_succ]
            refine any_take 5 (some 55) (v := ?_) rfl rfl (by kernel_rfl) (by kernel_rfl) (by kernel_rfl) (fun _ _ _ h => h) (by rfl) (fun w9 hS => ?_) ?_
            rotate_left
            · go_simp <;> with_reducible rfl
            try simp only [Act.put, List.setIfInBounds_toArray, List.set_cons_zero, List.set_cons_succ]
            refine any_take 6 (some 56) (v := ?_) rfl rfl (by kernel_rfl) (by kernel_rfl) (by kernel_rfl) (fun _ _ _ h => h) (by rfl) (fun w9 hS => ?_) ?_
            rotate_left
            · go_simp <;> with_reducible rfl
            try simp only [Act.put, List.setIfInBounds_toArray, List.set_cons_zero, List.set_cons_succ]
            refine any_take 7 (some 57) (v := ?_) rfl rfl (by kernel_rfl) (by kernel_rfl) (by kernel_rfl) (fun _ _ _ h => h) (by rfl) (fun w9 hS => ?_) ?_
            rotate_left
            · go_simp <;> with_reducible rfl
            try simp only [Act.put, List.setIfInBounds_toArray, List.set_cons_zero, List.set_cons_succ]
            refine any_take 8 (some 58) (v := ?_) rfl rfl (by kernel_rfl) (by kernel_rfl) (by kernel_rfl) (fun _ _ _ h => h) (by rfl) (fun w9 hS => ?_) ?_
            rotate_left
            · go_simp <;> with_reducible rfl
            try simp only [Act.put, List.setIfInBounds_toArray, List.set_cons_zero, List.set_cons_succ]
            refine any_take 9 (some 59) (v := ?_) rfl rfl (by kernel_rfl) (by kernel_rfl) (by kernel_rfl) (fun _ _ _ h => h) (by rfl) (fun w9 hS => ?_) ?_
            rotate_left
            · go_simp <;> with_reducible rfl
            try simp only [Act.put, List.setIfInBounds_toArray, List.set_cons_zero, List.set_cons_succ]
            refine any_take 10 (some 60) (v := ?_) rfl rfl (by kernel_rfl) (by kernel_rfl) (by kernel_rfl) (fun _ _ _ h => h) (by rfl) (fun w9 hS => ?_) ?_
            rotate_left
            · go_simp <;> with_reducible rfl
            try simp only [Act.put, List.setIfInBounds_toArray, List.set_cons_zero, List.set_cons_succ]
            refine any_take 11 (some 61) (v := ?_) rfl rfl (by kernel_rfl) (by kernel_rfl) (by kernel_rfl) (fun _ _ _ h => h) (by rfl) (fun w9 hS => ?_) ?_
            rotate_left
            · go_simp <;> with_reducible rfl
            try simp only [Act.put, List.setIfInBounds_toArray, List.set_cons_zero, List.set_cons_succ]
            refine any_take 12 (some 62) (v := ?_) rfl rfl (by kernel_rfl) (by kernel_rfl) (by kernel_rfl) (fun _ _ _ h => h) (by rfl) (fun w9 hS => ?_) ?_
            rotate_left
            · have e0 := HC1.out w9 ((Up.drew wr).t hS); go_simp <;> with_reducible rfl
            try simp only [Act.put, List.setIfInBounds_toArray, List.set_cons_zero, List.set_cons_succ]
            refine any_take 13 (some 63) (v := ?_) rfl rfl (by kernel_rfl) (by kernel_rfl) (by kernel_rfl) (fun _ _ _ h => h) (by rfl) (fun w9 hS => ?_) ?_
            rotate_left
            · go_simp <;> with_reducible rfl
            try simp only [Act.put, List.setIfInBounds_toArray, List.set_cons_zero, List.set_cons_succ]
            refine any_take 14 (some 64) (v := ?_) rfl rfl (by kernel_rfl) (by kernel_rfl) (by kernel_rfl) (fun _ _ _ h => h) (by rfl) (fun w9 hS => ?_) ?_
            rotate_left
            · go_simp <;> with_reducible rfl
            try simp only [Act.put, List.setIfInBounds_toArray, List.set_cons_zero, List.set_cons_succ]
            refine any_take 15 (some 65) (v := ?_) rfl rfl (by kernel_rfl) (by kernel_rfl) (by kernel_rfl) (fun _ _ _ h => h) (by rfl) (fun w9 hS => ?_) ?_
            rotate_left
            · go_simp <;> with_reducible rfl
            try simp only [Act.put, List.setIfInBounds_toArray, List.set_cons_zero, List.set_cons_succ]
            refine any_take 16 (some 66) (v := ?_) rfl rfl (by kernel_rfl) (by kernel_rfl) (by kernel_rfl) (fun _ _ _ h => h) (by rfl) (fun w9 hS => ?_) ?_
            rotate_left
            · go_simp <;> with_reducible rfl
            try simp only [Act.put, List.setIfInBounds_toArray, List.set_cons_zero, List.set_cons_succ]
            refine any_take 17 (some 67) (v := ?_) rfl rfl (by kernel_rfl) (by kernel_rfl) (by kernel_rfl) (fun _ _ _ h => h) (by rfl) (fun w9 hS => ?_) ?_
            rotate_left
            · have e0 := HC0.out w9 ((Up.drew wr).t hS); go_simp <;> with_reducible rfl
            try simp only [Act.put, List.setIfInBounds_toArray, List.set_cons_zero, List.set_cons_succ]
            refine any_take 18 (some 68) (v := ?_) rfl rfl (by kernel_rfl) (by kernel_rfl) (by kernel_rfl) (fun _ _ _ h => h) (by rfl) (fun w9 hS => ?_) ?_
            rotate_left
            · go_simp <;> with_reducible rfl
            try simp only [Act.put, List.setIfInBounds_toArray, List.set_cons_zero, List.set_cons_succ]
            refine any_take 19 (some 69) (v := ?_) rfl rfl (by kernel_rfl) (by kernel_rfl) (by kernel_rfl) (fun _ _ _ h => h) (by rfl) (fun w9 hS => ?_) ?_
            rotate_left
            · go_simp <;> with_reducible rfl
            try simp only [Act.put, List.setIfInBounds_toArray, List.set_cons_zero, List.set_cons_succ]
            refine any_done (by kernel_rfl) ?_
            rename_i K1 h1
            refine h1 _ _ ?_
            clear h1 K1
            go_wp2
            go_ret
            obtain ⟨ra, ev, np, bl, fr, len⟩ := I.out
            refine ⟨rfl, hid ⟨⟨A, c, _, ra.up (Up.drew wr), ?_⟩, bl.drew, frR_trans fr (frR_up (Up.drew wr))⟩⟩
            rw [← ev, evictV_small]
            · rw [List.append_assoc, List.map_append]
            · have := HN.out.1; have := HRM.out
              rw [← List.map_append, List.length_map, ← List.append_assoc, HN.out.1]; omega
end Go.Proofs.Ytlikggeceeennaa
