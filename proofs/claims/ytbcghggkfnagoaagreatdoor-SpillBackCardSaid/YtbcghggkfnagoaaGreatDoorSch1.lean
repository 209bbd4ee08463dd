/- THE CONTRACT of spill.chain's iterator: a chain of pages, one by one. -/
import Derived.Test.YtbcghggkfnagoaaGreatDoorFreE
import Derived.Test.YtbcghggkfnagoaaGreatDoorRgW
import Derived.RangeFuncNested
import Derived.RangeFuncBound
import Derived.RangeFuncCalls
import Derived.RangeFuncLeaves
import Derived.RangeFuncBox
import Derived.Shelf.Abstract
import Derived.Shelf.RegionOpen
import Derived.WalkKit
import Derived.OwnWalkIn
import Derived.TacticsInMore
import Derived.LoopNIn
import Derived.LoopIn
import Derived.Sort.QuietTacIn
set_option linter.unusedVariables false
set_option linter.unusedSimpArgs false
namespace Go.Proofs.YtbcghggkfnagoaaGreatDoor
open Go Go.RowKit Go.Shelf Go.Maps Hach

attribute [local go_sem] Oper.semAt_some
theorem bx_cell {w : World} {b : Nat} {v : Value} {t : TypeId} (h : w.heap[b]? = some (.cells #[v] t (0, 0))) : w.cell? ⟨b, 0, none⟩ = some v := by rw [cell_of_row _ _ _ _ _ _ h]; rfl
theorem w64q {k : Int} (h : 0 ≤ k ∧ k < 9223372036854775808) : wrap64 k = k := by unfold wrap64; omega
/-- The number of the next page, as a page of a chain bears it. -/
def nextP (b : List UInt8) : Int := (Oct.val (b.take 4) : Int)
/-- The pages of a chain, up to most of them: number, bytes, error. -/
def chainE (n : Nat) (B : Nat → List UInt8) : Nat → Int → List (Int × List UInt8 × Int)
  | 0, _ => []
  | k + 1, p => if p = 0 then [] else if p ≤ 1 ∨ (n : Int) < p then [(0, [], 9)] else (p, B p.toNat, 0) :: chainE n B k (nextP (B p.toNat))
/-- A link, as the iterator hands it over. -/
structure Lk where
  page : Int
  A : Option Addr
  len : Nat
  cap : Nat
  e : Int
  bs : List UInt8
def Lk.key (x : Lk) : Int × List UInt8 × Int := (x.page, x.bs, x.e)
def Lk.cs (x : Lk) : List Value := [.int .i64 x.page, .slice x.A x.len x.cap, .int .i64 x.e]
def Lk.v (x : Lk) : Value := .agg #[.int .i64 x.page, .slice x.A x.len x.cap, .int .i64 x.e]
def LkRow (base : Nat) (x : Lk) (W : World) : Prop := (x.e = 9 ∧ x.A = none ∧ x.len = 0 ∧ x.cap = 0 ∧ x.bs = []) ∨ (x.e = 0 ∧ x.len = 512 ∧ x.bs.length = 512 ∧ OwnB W base x.A x.cap x.bs)
/-- What the iterator tells a round, and wants to find again. -/
def ChG (w0 : World) (h hb z M : Nat) (E : List (Int × List UInt8 × Int)) (pre : List Lk) (x : Lk) (W : World) : Prop :=
  Up w0 W ∧ W.heap[hb]? = some (.cells #[.pointer (some ⟨h, 0, none⟩)] 26 (0, 0)) ∧ W.heap[z]? = some (.cells #[.int .i64 ((M - pre.length : Nat) : Int)] 3 (0, 0)) ∧ pre.length < M ∧ (∃ rest, E = pre.map Lk.key ++ x.key :: rest) ∧ LkRow w0.heap.size x W
/-- Between two rounds. -/
def ChI (w0 : World) (h hb z M n : Nat) (B : Nat → List UInt8) (E : List (Int × List UInt8 × Int)) (p : Int) (pre : List Lk) (W : World) : Prop :=
  Up w0 W ∧ W.heap[hb]? = some (.cells #[.pointer (some ⟨h, 0, none⟩)] 26 (0, 0)) ∧ W.heap[z]? = some (.cells #[.int .i64 ((M - pre.length : Nat) : Int)] 3 (0, 0)) ∧ pre.length ≤ M ∧ E = pre.map Lk.key ++ chainE n B (M - pre.length) p
set_option maxRecDepth 100000 in
set_option maxHeartbeats 4000000 in
theorem chain1_in (n l : Nat) (hn : 2 ≤ n) (w0 : World) (h p t m : Nat) (q : PgN) (mv : Value) (last : Int) (nP : Nat) (L : PgL) (hh : Hid (HeapP w0 h p q t m mv last nP L)) (hnp : Hid (1 ≤ nP ∧ nP ≤ 4000))
    (B : Nat → List UInt8) (hB : Hid (∀ i, 2 ≤ i → i ≤ nP → ∃ x, gget L (i : Nat) = some x ∧ x.bs = B i)) (bp z hb M : Nat) (hz : Hid (w0.heap.size ≤ z ∧ z ≠ hb)) (hM : Hid (M < 100000)) (page : Int) (E : List (Int × List UInt8 × Int))
    (J Jx : List Lk → World → Prop) (hJu : ∀ pre W1 W2, J pre W1 → Up W1 W2 → J pre W2) (hJz : ∀ pre W1 v, J pre W1 → J pre (W1.setCell ⟨z, 0, none⟩ v))
    (hY : ∀ pre x W1, J pre W1 → ChG w0 h hb z M E pre x W1 → YieldAt Fence.wide (n - 1) Tryz.prog l #[x.v] W1 fun e W' =>
      (e = .returned (.bool true) ∧ J (pre ++ [x]) W' ∧ ChG w0 h hb z M E pre x W') ∨ (e = .returned (.bool false) ∧ Jx (pre ++ [x]) W'))
    (W : World) (hW : ChI w0 h hb z M nP B E page [] W) (hp : W.cell? ⟨bp, 0, none⟩ = some (.int .i64 page)) (h0 : J [] W) :
    CallsIn Fence.wide n Tryz.prog 184 #[.func (.yield l) #[] #[], .pointer (some ⟨bp, 0, none⟩), .pointer (some ⟨z, 0, none⟩), .pointer (some ⟨hb, 0, none⟩)] W fun e W' => (∃ v, e = .returned v) ∧
      ((∃ xs, xs.map Lk.key = E ∧ J xs W') ∨ (∃ pre, Jx pre W')) := by
  have hn1 : 1 ≤ n := by omega
  refine callsIn_of_wp Tryz.func184 rfl trivial ?_ rfl
  simp only [Tryz.ntmps184, List.size_toArray, List.length_cons, List.length_nil, Nat.reduceAdd, Nat.reduceSub, Array.replicate_succ, Array.replicate_zero, List.push_toArray, List.append_toArray, List.nil_append, List.cons_append]
  gi_wp2
  gi_loopw [5] (fun i wr => ∃ (pre : List Lk) (p9 : Int), i = .int .i64 p9 ∧ ChI w0 h hb z M nP B E p9 pre wr ∧ J pre wr)
    (fun _ wr => (numV ((wr.cell? ⟨z, 0, none⟩).getD undef)).toNat)
  case atStart => exact ⟨[], page, rfl, hW, h0⟩
  case round =>
    obtain ⟨pre, p9, rfl, ⟨hu, hhb, hzb, hlen, hE⟩, hJ⟩ := hrel
    have chb := bx_cell hhb
    have czb := bx_cell hzb
    have HUP := hid hu
    have HP0 := hid (hh.out.up hu)
    have HHB := hid hhb
    have HZB := hid hzb
    have HJ := hid hJ
    have HE := hid hE
    have fz : wr.frozen? ⟨z, 0, none⟩ = false := by unfold World.frozen?; rw [show (⟨z, 0, none⟩ : Addr).block = z from rfl, hzb]; simp
    obtain ⟨k, hk⟩ : ∃ k, M - pre.length = k := ⟨_, rfl⟩
    have HK := hid hk
    rw [hk] at czb hE
    clear hu hhb hzb hJ hk
    have ENDS : chainE nP B k p9 = [] → Hid (∃ xs, xs.map Lk.key = E ∧ J xs wr) := fun e => hid ⟨pre, by rw [hE, e, List.append_nil], HJ.out⟩
    by_cases hp0 : p9 = 0
    · subst hp0
      have RES := ENDS (by cases k <;> rfl)
      clear ENDS hE
      gi_wp2
      go_end0
      exact ⟨⟨_, rfl⟩, .inl RES.out⟩
    by_cases hk0 : k = 0
    · subst hk0
      have RES := ENDS rfl
      clear ENDS hE
      gi_wp2
      go_end0
      exact ⟨⟨_, rfl⟩, .inl RES.out⟩
    clear ENDS
    have hk1 : (0 : Int) < (k : Int) := by omega
    obtain ⟨k2, rfl⟩ : ∃ k2, k = k2 + 1 := ⟨k - 1, by omega⟩
    have hlt : pre.length < M := by have := HK.out; omega
    unfold chainE at hE
    rw [if_neg hp0] at hE
    by_cases hbad : p9 ≤ 1 ∨ (nP : Int) < p9
    · rw [if_pos hbad] at hE
      have HG := hid (show ChG w0 h hb z M E pre ⟨0, none, 0, 0, 9, []⟩ wr from ⟨HUP.out, HHB.out, HZB.out, hlt, ⟨[], hE⟩, .inl ⟨rfl, rfl, rfl, rfl, rfl⟩⟩)
      have HE2 := hid (show (pre ++ [(⟨0, none, 0, 0, 9, []⟩ : Lk)]).map Lk.key = E by rw [List.map_append, hE]; rfl)
      clear hE
      obtain ⟨fn, tmps, assign, body, hy, hR⟩ := hY pre _ wr HJ.out HG.out
      unfold Lk.v at hy
      simp only at hy
      by_cases hb1 : p9 ≤ 1
      · clear hbad
        gi_wp2
        refine ⟨trivial, ?_⟩
        gi_wp2
        refine ⟨trivial, ?_⟩
        gi_wp2
        refine hR.mono ?_
        clear hR hy
        rintro e W3 (⟨rfl, hJ3, hk3⟩ | ⟨rfl, hJx3⟩)
        · gi_wp2
          refine bodyPost_ret (results_none rfl _ _ _) rfl ?_
          exact ⟨⟨_, rfl⟩, .inl ⟨_, HE2.out, hJ3⟩⟩
        · gi_wp2
          refine bodyPost_ret (results_none rfl _ _ _) rfl ?_
          exact ⟨⟨_, rfl⟩, .inr ⟨_, hJx3⟩⟩
      · have hb2 : (nP : Int) < p9 := hbad.resolve_left hb1
        clear hbad
        gi_wp2_with (refine ⟨trivial, ?_⟩; first | (gi_at_call 37; refine (callsIn_wide.2 (hpager_calls wr h p t m q mv last nP L HP0)).mono ?_; rintro e w' ⟨rfl, hw⟩; obtain rfl := hw.symm) | (gi_at_call 18; refine (callsIn_wide.2 (ppages_calls wr p t m q mv last nP L (hid HP0.out.tran))).mono ?_; rintro e w' ⟨rfl, hw⟩; obtain rfl := hw.symm))
        refine hR.mono ?_
        clear hR hy
        rintro e W3 (⟨rfl, hJ3, hk3⟩ | ⟨rfl, hJx3⟩)
        · gi_wp2
          refine bodyPost_ret (results_none rfl _ _ _) rfl ?_
          exact ⟨⟨_, rfl⟩, .inl ⟨_, HE2.out, hJ3⟩⟩
        · gi_wp2
          refine bodyPost_ret (results_none rfl _ _ _) rfl ?_
          exact ⟨⟨_, rfl⟩, .inr ⟨_, hJx3⟩⟩
    · rw [if_neg hbad] at hE
      have hb1 : ¬ p9 ≤ 1 := fun e => hbad (.inl e)
      have hb2 : ¬ (nP : Int) < p9 := fun e => hbad (.inr e)
      clear hbad
      obtain ⟨i, rfl⟩ : ∃ i : Nat, p9 = (i : Int) := ⟨p9.toNat, by omega⟩
      rw [Int.toNat_natCast] at hE
      have hi := hid (show 1 ≤ i ∧ i ≤ nP ∧ nP < 1000000 by have := hnp.out; omega)
      obtain ⟨x, hx, hxB⟩ := hB.out i (by omega) (by omega)
      have HX := hid hx
      have HXB := hid hxB
      have HE3 := hid hE
      have HLT := hid hlt
      clear hE hx hxB hlt
      gi_wp2_with (refine ⟨trivial, ?_⟩; first | (gi_at_call 37; refine (callsIn_wide.2 (hpager_calls wr h p t m q mv last nP L HP0)).mono ?_; rintro e w' ⟨rfl, hw⟩; obtain rfl := hw.symm) | (gi_at_call 18; refine (callsIn_wide.2 (ppages_calls wr p t m q mv last nP L (hid HP0.out.tran))).mono ?_; rintro e w' ⟨rfl, hw⟩; obtain rfl := hw.symm) | (gi_at_call 44; refine (callsIn_wide.2 (pgetR_calls wr p t m q mv last nP L (hid HP0.out.tran) i hi x HX)).mono ?_; rintro e w3 ⟨g, c, rfl, hr⟩))
      have UR := hid hr.out.2.1
      obtain ⟨bs, hbs⟩ : ∃ bs, x.bs = bs := ⟨_, rfl⟩
      rw [hbs] at hr
      have HBS := hid (hbs.symm.trans HXB.out)
      have HPz := hid hh.out.own
      have HZ3 := hid ((UR.out.block z (Array.getElem?_eq_some_iff.1 HZB.out).1).trans HZB.out)
      have HH3 := hid ((UR.out.block hb (Array.getElem?_eq_some_iff.1 HHB.out).1).trans HHB.out)
      have HU3 := hid (HUP.out.t UR.out)
      have HJ3 := hid (hJu _ _ _ HJ.out UR.out)
      have hrow : OwnB w3 w0.heap.size (some ⟨g, 0, none⟩) c bs := (own_base hr.out.1 HUP.out.size)
      have HG := hid (show ChG w0 h hb z M E pre ⟨i, some ⟨g, 0, none⟩, 512, c, 0, bs⟩ w3 from ⟨HU3.out, HH3.out, HZ3.out, HLT.out, ⟨chainE nP B k2 (nextP (B i)), by rw [HE3.out, ← HBS.out]; rfl⟩, .inr ⟨rfl, rfl, hr.out.2.2.1, hrow⟩⟩)
      obtain ⟨fn, tmps, assign, body, hy, hR⟩ := hY pre _ w3 HJ3.out HG.out
      unfold Lk.v at hy
      simp only at hy
      have HBL := hid hr.out.2.2.1
      clear hrow hr hbs HG HJ3 HU3 HH3 HZ3 HPz UR chb czb fz
      rw [hy]
      gi_wp2
      refine hR.mono ?_
      clear hR hy
      rintro e W3 (⟨rfl, hJ4, hG4⟩ | ⟨rfl, hJx4⟩)
      · have HJ4 := hid hJ4
        have HG4 := hid hG4
        obtain ⟨a1, a2, a3, a4, a5, a6⟩ := hG4
        have hrow : OwnB W3 w0.heap.size (some ⟨g, 0, none⟩) c bs := by
          rcases a6 with ⟨e9, _⟩ | ⟨_, _, _, r⟩
          · exact absurd e9 (by show ¬ (0 : Int) = 9; decide)
          · exact r
        obtain ⟨p4, hp4⟩ : ∃ v, Oct.val (bs.take 4) = v := ⟨_, rfl⟩
        have hb4 := Oct.val_lt (bs.take 4)
        rw [List.length_take, HBL.out, hp4, show min 4 512 = 4 from rfl, p256] at hb4
        have HP4 := hid hp4
        have H4 := hid hb4
        have CG := get_callsX W3 (some ⟨g, 0, none⟩) bs c 4 p4 4 rfl (hid hp4) (by decide) (by decide) (by rw [HBL.out]; decide) (by rw [HBL.out]; decide) (hid hrow.bytes)
        rw [HBL.out] at CG
        have czb := bx_cell a3
        have fz : W3.frozen? ⟨z, 0, none⟩ = false := by unfold World.frozen?; rw [show (⟨z, 0, none⟩ : Addr).block = z from rfl, a3]; simp
        rw [HK.out] at czb
        clear hJ4 a1 a2 a3 a4 a5 a6 hrow
        gi_wp2_with (refine ⟨trivial, ?_⟩; gi_at_call 129; refine (callsIn_wide.2 CG).mono ?_; rintro e w' ⟨rfl, hw⟩; obtain rfl := hw)
        rw [w64q (k := (k2 : Int)) (by have := HK.out; have := hM.out; omega)]
        obtain ⟨a1, a2, a3, a4, a5, a6⟩ := HG4.out
        have hzz := (Array.getElem?_eq_some_iff.1 a3).1
        have hg := grownBy_setCell' W3 z (.int .i64 (k2 : Int))
        have e3 : (W3.setCell ⟨z, 0, none⟩ (.int .i64 (k2 : Int))).heap[z]? = some (.cells #[.int .i64 (k2 : Int)] 3 (0, 0)) := heap_setCell_same _ z 0 _ _ _ a3
        have el : (pre ++ [(⟨i, some ⟨g, 0, none⟩, 512, c, 0, bs⟩ : Lk)]).length = pre.length + 1 := by rw [List.length_append]; rfl
        refine ⟨⟨pre ++ [⟨i, some ⟨g, 0, none⟩, 512, c, 0, bs⟩], p4, rfl, ⟨?_, ?_, ?_, ?_, ?_⟩, hJz _ _ _ HJ4.out⟩, ?_⟩
        · exact ⟨a1.os.trans rfl, a1.tape, a1.output, Nat.le_trans a1.size hg.size, fun k hk => (hg.block k (by have := a1.size; omega) (fun e => by have := Option.some.inj e; have := hz.out.1; omega)).trans (a1.block k hk)⟩
        · exact (hg.block hb (Array.getElem?_eq_some_iff.1 a2).1 (fun e => hz.out.2 (Option.some.inj e).symm)).trans a2
        · rw [e3, el, show M - (pre.length + 1) = k2 by have := HK.out; omega]
        · rw [el]; exact HLT.out
        · rw [el, show M - (pre.length + 1) = k2 by have := HK.out; omega, HE3.out, List.map_append, List.append_assoc, ← HBS.out]
          unfold nextP
          rw [HP4.out]
          rfl
        · rw [bx_cell e3, bx_cell HZB.out, HK.out]
          simp only [Option.getD_some, numV]
          omega
      · gi_wp2
        refine bodyPost_ret (results_none rfl _ _ _) rfl ?_
        exact ⟨⟨_, rfl⟩, .inr ⟨_, hJx4⟩⟩
end Go.Proofs.YtbcghggkfnagoaaGreatDoor
