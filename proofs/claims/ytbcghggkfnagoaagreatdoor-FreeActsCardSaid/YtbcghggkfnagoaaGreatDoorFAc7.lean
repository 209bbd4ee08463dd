/- ACT, whatever it is; a row of acts as an argument. THE WALK of the document's Ints. ARGUMENTS, opened: a row of acts of layer 8. -/
import Derived.Test.YtbcghggkfnagoaaGreatDoorFAc5
import Derived.Test.YtbcghggkfnagoaaGreatDoorK6
import Derived.Test.YtbcghggkfnagoaaGreatDoorFreD
set_option linter.unusedVariables false
set_option linter.unusedSimpArgs false
namespace Go.Proofs.YtbcghggkfnagoaaGreatDoor
open Go Go.RowKit Go.Maps Hach

structure ActV8 where
  a : Int
  b : Int
  c : Int
def actC8 (x : ActV8) : List Value := [.int .i64 x.a, .int .i64 x.b, .int .i64 x.c]
def ActWf8 (x : ActV8) : Prop := (Lit.int .i64 x.b).wf = true ∧ (Lit.int .i64 x.c).wf = true
theorem actC8_len (x : ActV8) : (actC8 x).length = 3 := rfl
theorem act_calls (w : World) (X : HpX) (base m n : Nat) (T : List Trk) (W : Nat → Int) (l : List Nat) (A : Option Addr) (k c : Nat) (x : ActV8) (h : Hid (ActI w X base m n T W l A k c)) (hn : Hid (n < 3000)) (hx : Hid (ActWf8 x)) :
    Calls Tryz.prog 55 #[.pointer (some ⟨X.h, 0, none⟩), .pointer (some ⟨m, 0, none⟩), .slice A k c, .agg #[.int .i64 x.a, .int .i64 x.b, .int .i64 x.c]] w (ActRet w X base m n) := by
  obtain ⟨a, b, d⟩ := x
  by_cases h0 : a = 0
  · subst h0; exact act0_calls w X base m n T W l A k c b d h hn
  by_cases h1 : a = 1
  · subst h1; exact act1_calls w X base m n T W l A k c b d h hn (hid hx.out.1)
  by_cases h2 : a = 2
  · subst h2; exact act2_calls w X base m n T W l A k c b d h hn (hid hx.out.2)
  by_cases h3 : a = 3
  · subst h3; exact act3_calls w X base m n T W l A k c b d h hn
  by_cases h4 : a = 4
  · subst h4; exact act4_calls w X base m n T W l A k c b d h hn
  · exact act5_calls w X base m n T W l A k c a b d h hn (hid ⟨h0, h1, h2, h3, h4⟩)
end Go.Proofs.YtbcghggkfnagoaaGreatDoor

namespace Go.Proofs.YtbcghggkfnagoaaGreatDoor
open Go Go.RowKit Hach

def iCell (x : Int) : Value := .int .i64 x
theorem same_stepI {L1 L2 : List Int} {k : Nat} (h1 : k < L1.length) (h2 : k < L2.length) (he : L1.take k = L2.take k) : (L1.take (k + 1) = L2.take (k + 1)) ↔ L1[k] = L2[k] := by
  rw [List.take_succ_eq_append_getElem h1, List.take_succ_eq_append_getElem h2, he]
  constructor
  · intro h; have := List.append_cancel_left h; injection this
  · intro h; rw [h]

set_option maxRecDepth 100000 in
set_option maxHeartbeats 1000000 in
theorem intsI_calls (w : World) (A1 A2 : Option Addr) (L1 L2 : List Int) (n1 n2 c1 c2 : Nat) (r : Bool) (hn1 : Hid (n1 = L1.length)) (hn2 : Hid (n2 = L2.length)) (hl : Hid (L1.length < 1000000 ∧ L2.length < 1000000))
    (h1 : Hid (Rd w A1 (L1.map iCell))) (h2 : Hid (Rd w A2 (L2.map iCell))) (hr : Hid (decide (L1 = L2) = r)) :
    Calls Tryz.prog 26 #[.slice A1 n1 c1, .slice A2 n2 c2] w fun en w' => en = .returned (.bool r) ∧ Up w w' := by
  by_cases hne : (n1 : Int) = n2
  · have hnn : n2 = n1 := by omega
    subst hnn
    have HE := hid hne
    clear hne
    have START : Hid (Up w w ∧ L1.take 0 = L2.take 0) := hid ⟨Up.refl w, rfl⟩
    go_enter Tryz.func26, Tryz.ntmps26
    go_wp2
    go_loopw [13] (fun i wr => ∃ (k : Nat), k ≤ n2 ∧ i = .int .i64 k ∧ Hid (Up w wr ∧ L1.take k = L2.take k)) (fun i _ => n2 - (intOf i).toNat)
    case atStart => exact ⟨0, Nat.zero_le _, rfl, START⟩
    case round =>
      obtain ⟨k, hk, rfl, iv⟩ := hrel
      by_cases hlt : (k : Int) < n2
      · have hk1 : k < L1.length := by have := hn1.out; omega
        have hk2 : k < L2.length := by have := hn2.out; omega
        obtain ⟨u, he⟩ := iv.out
        obtain ⟨ba, oa, rfl, ra⟩ := (h1.out.grown u) k (iCell L1[k]) (by rw [List.getElem?_map, List.getElem?_eq_getElem hk1]; rfl)
        obtain ⟨bb, ob, rfl, rb⟩ := (h2.out.grown u) k (iCell L2[k]) (by rw [List.getElem?_map, List.getElem?_eq_getElem hk2]; rfl)
        have hs := same_stepI hk1 hk2 he
        have HS : Hid (L1[k] = L2[k] ↔ (L1.take (k + 1) = L2.take (k + 1))) := hid hs.symm
        have hdif : Hid (L1[k] ≠ L2[k] → L1 ≠ L2) := hid (fun hd e => hd (by subst e; rfl))
        clear hs he
        unfold iCell at ra rb
        generalize L1[k] = p1 at *
        generalize L2[k] = p2 at *
        have HK := hid hk1
        have U := hid u
        have HL := hid hlt
        clear iv u hk1 hk2
        by_cases hp : p1 = p2
        · subst hp
          have HS2 := hid (HS.out.1 rfl)
          clear HS hdif
          go_wp2
          go_region_held3 (fun w' => w'.cell? ⟨ba, oa + k, none⟩ = some (.int .i64 p1) ∧ w'.cell? ⟨bb, ob + k, none⟩ = some (.int .i64 p1))
            (first | exact ⟨ra, rb⟩)
            (fail)
          go_wp2
          go_roundw
          case rel => exact ⟨k + 1, by have := HK.out; have := hn1.out; omega, (by have := hl.out; have := HK.out; rw [show wrap64 ((k : Int) + 1) = ((k + 1 : Nat) : Int) by unfold wrap64; omega]), hid ⟨U.out.t (Up.drew wr), HS2.out⟩⟩
          case measure => have := hl.out; have := HK.out; have := hn1.out; rw [show wrap64 ((k : Int) + 1) = ((k + 1 : Nat) : Int) by unfold wrap64; omega]; simp only [intOf]; omega
        · have hf : r = false := by rw [← hr.out]; exact decide_eq_false (hdif.out hp)
          subst hf
          clear HS hdif
          go_wp2
          go_region_held3 (fun w' => w'.cell? ⟨ba, oa + k, none⟩ = some (.int .i64 p1) ∧ w'.cell? ⟨bb, ob + k, none⟩ = some (.int .i64 p2))
            (first | exact ⟨ra, rb⟩)
            (fail)
          go_wp2
          go_ret
          exact ⟨rfl, U.out.t (Up.drew wr)⟩
      · have hkk : k = n2 := by omega
        have ht : r = true := by
          obtain ⟨u, he⟩ := iv.out
          rw [List.take_of_length_le (by rw [← hn1.out]; omega), List.take_of_length_le (by rw [← hn2.out]; omega)] at he
          rw [← hr.out]; exact decide_eq_true he
        have U := hid iv.out.1
        clear iv hkk
        subst ht
        go_wp2
        go_ret
        exact ⟨rfl, U.out⟩
  · have hf : r = false := by
      rw [← hr.out]
      refine decide_eq_false (fun e => hne ?_)
      rw [hn1.out, hn2.out, e]
    subst hf
    go_enter Tryz.func26, Tryz.ntmps26
    go_wp2
    go_ret
    exact ⟨rfl, Up.refl w⟩
theorem intsN_calls (w : World) (A1 A2 : Option Addr) (L : List Nat) (n1 n2 c1 c2 : Nat) (hn1 : Hid (n1 = L.length)) (hn2 : Hid (n2 = L.length)) (hl : Hid (L.length < 1000000)) (h1 : Hid (Rd w A1 (L.map natCell))) (h2 : Hid (Rd w A2 (L.map natCell))) :
    Calls Tryz.prog 26 #[.slice A1 n1 c1, .slice A2 n2 c2] w fun en w' => en = .returned (.bool true) ∧ Up w w' := by
  have e : L.map natCell = (L.map fun x : Nat => (x : Int)).map iCell := by rw [List.map_map]; rfl
  rw [e] at h1 h2
  exact intsI_calls w A1 A2 _ _ n1 n2 c1 c2 true (hid (by rw [List.length_map]; exact hn1.out)) (hid (by rw [List.length_map]; exact hn2.out)) (hid (by rw [List.length_map]; exact ⟨hl.out, hl.out⟩)) h1 h2 (hid (decide_eq_true rfl))
end Go.Proofs.YtbcghggkfnagoaaGreatDoor

namespace Go.Proofs.YtbcghggkfnagoaaGreatDoor
open Go Go.RowKit Go.ChangeShapes Go.WideShapes Go.ChangeAt Go.Deep Go.Joins Hach

theorem c8i_int : Tryz.prog.cellsOf 3 = 1 := by kernel_rfl
theorem c8i_act : Tryz.prog.cellsOf 101 = 3 := by kernel_rfl
section
variable {H : Type} {enc : TypeId × Value → H} {W : World} {base : Nat} {sp : Nat → Bool} {held : Bool}
theorem trod_three {t : TypeId} {f0 f1 f2 : Field} {fuel : Nat} {cs : List Value} {x : DataW H × List MemPlace} (ht : Tryz.prog.underlying t = some (.struct #[f0, f1, f2])) (h : DataW.trod enc Tryz.prog W base sp held fuel t cs = some x) :
    ∃ y0 y1 y2 n, cs.length = Tryz.prog.cellsOf t ∧ DataW.trod enc Tryz.prog W base sp held n f0.type ((cs.drop f0.offset).take (Tryz.prog.cellsOf f0.type)) = some y0 ∧ DataW.trod enc Tryz.prog W base sp held n f1.type ((cs.drop f1.offset).take (Tryz.prog.cellsOf f1.type)) = some y1 ∧ DataW.trod enc Tryz.prog W base sp held n f2.type ((cs.drop f2.offset).take (Tryz.prog.cellsOf f2.type)) = some y2 := by
  obtain ⟨xs, n, _, rfl, hl, hlen, hf⟩ := DataW.trod_struct ht h
  match xs, hlen with
  | [y0, y1, y2], _ => exact ⟨y0, y1, y2, n, hl, by simpa using hf 0 f0 rfl, by simpa using hf 1 f1 rfl, by simpa using hf 2 f2 rfl⟩
set_option maxRecDepth 100000 in
theorem trod_acts8 {fuel : Nat} {cs : List Value} {x : DataW H × List MemPlace} (h : DataW.trod enc Tryz.prog W base sp held fuel 101 cs = some x) : ∃ a : ActV8, cs = actC8 a ∧ ActWf8 a := by
  obtain ⟨y0, y1, y2, n, hl, h0, h1, h2⟩ := trod_three Tryz.underlying101 h
  rw [c8i_act] at hl
  match cs, hl with
  | [a, b, c], _ =>
    simp only [c8i_int, List.drop_zero, List.take_succ_cons, List.take_zero, List.drop_succ_cons] at h0 h1 h2
    obtain ⟨p0, e0, _, w0⟩ := DataW.trod_int Tryz.underlying3 h0
    obtain ⟨p1, e1, _, w1⟩ := DataW.trod_int Tryz.underlying3 h1
    obtain ⟨p2, e2, _, w2⟩ := DataW.trod_int Tryz.underlying3 h2
    injection e0 with e0; injection e1 with e1; injection e2 with e2
    subst e0; subst e1; subst e2
    exact ⟨⟨p0, p1, p2⟩, rfl, w1, w2⟩
set_option maxRecDepth 100000 in
theorem open_acts8 {b0 : Nat} {v : Value} {d : DataW H} {ps : List MemPlace} (hok : Value.okWide Tryz.prog W .any b0 94 v) (h : DataW.Trod enc Tryz.prog W base sp held 94 v d ps) :
    ∃ (A : Option Addr) (l : List ActV8) (c : Nat), v = .slice A l.length c ∧ l.length ≤ 9223372036854775807 ∧ Rd W A (l.flatMap actC8) ∧ l.length ≤ c ∧ ∀ a ∈ l, ActWf8 a :=
  open_rows actC8 ActWf8 3 actC8_len (by decide) Tryz.underlying94 c8i_act (fun h => trod_acts8 h) hok h
end
end Go.Proofs.YtbcghggkfnagoaaGreatDoor
