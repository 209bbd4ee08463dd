/- THE CONTRACT of slices.Chunk's iterator, at bytes in pieces of 128. -/
import Derived.Test.YtlikggeceeennaaDskP
import Derived.RangeFuncNested
import Derived.RangeFuncBound
import Derived.RangeFuncCalls
import Derived.RangeFuncLeaves
import Derived.RangeFuncBox
import Derived.Shelf.Abstract
import Derived.Shelf.RegionOpen
import Derived.WalkKit
import Derived.OwnWalkIn
import Derived.TacticsInMore
import Derived.LoopNIn
import Derived.LoopIn
import Derived.Sort.QuietTacIn
set_option linter.unusedVariables false
set_option linter.unusedSimpArgs false
namespace Go.Proofs.Ytlikggeceeennaa
open Go Go.RowKit Go.Shelf Hach

attribute [local go_sem] Oper.semAt_some
/-- What the iterator reads between two rounds: its two boxes. -/
def ChK (Bs Bn : Nat) (W W' : World) : Prop := (∀ v, W.cell? ⟨Bs, 0, none⟩ = some v → W'.cell? ⟨Bs, 0, none⟩ = some v) ∧ (∀ v, W.cell? ⟨Bn, 0, none⟩ = some v → W'.cell? ⟨Bn, 0, none⟩ = some v)
theorem ChK.t {Bs Bn : Nat} {A B C : World} (h : ChK Bs Bn A B) (k : ChK Bs Bn B C) : ChK Bs Bn A C := ⟨fun v hv => k.1 v (h.1 v hv), fun v hv => k.2 v (h.2 v hv)⟩
theorem ChK.refl (Bs Bn : Nat) (W : World) : ChK Bs Bn W W := ⟨fun _ h => h, fun _ h => h⟩
theorem finRange_succ {m k : Nat} (h : k < m) : (List.finRange m).take (k + 1) = (List.finRange m).take k ++ [⟨k, h⟩] := by
  rw [List.take_succ_eq_append_getElem (by rw [List.length_finRange]; exact h), List.getElem_finRange]; rfl
/-- The j-th piece. -/
def chV (bb bp j : Nat) : Value := .slice (some ⟨bb, bp + j * 128, none⟩) 128 128
set_option maxRecDepth 100000 in
set_option maxHeartbeats 4000000 in
theorem chunk1_in (n : Nat) (hn : 1 ≤ n) (l Bs Bn bb bp m cap : Nat) (hm : Hid (m < 100000)) (hcap : Hid (m * 128 ≤ cap)) (J Jx : List (Fin m) → World → Prop)
    (hY : ∀ pre x W, J pre W → pre.length < m → YieldAt Fence.wide (n - 1) Try.prog l #[chV bb bp x.1] W fun e W' =>
      (e = .returned (.bool true) ∧ J (pre ++ [x]) W' ∧ ChK Bs Bn W W') ∨ (e = .returned (.bool false) ∧ Jx (pre ++ [x]) W'))
    (hJd : ∀ pre W q, J pre W → J pre (W.drewN q))
    (W : World) (hBs : W.cell? ⟨Bs, 0, none⟩ = some (.slice (some ⟨bb, bp, none⟩) (m * 128) cap)) (hBn : W.cell? ⟨Bn, 0, none⟩ = some (.int .i64 128)) (h0 : J [] W) :
    CallsIn Fence.wide n Try.prog 125 #[.func (.yield l) #[] #[], .pointer (some ⟨Bs, 0, none⟩), .pointer (some ⟨Bn, 0, none⟩)] W fun e W' => (∃ v, e = .returned v) ∧
      ((∃ ys, ys = List.finRange m ∧ J ys W') ∨ (∃ pre, True ∧ Jx pre W')) := by
  refine callsIn_of_wp Try.func125 rfl trivial ?_ rfl
  simp only [Try.ntmps125, List.size_toArray, List.length_cons, List.length_nil, Nat.reduceAdd, Nat.reduceSub, Array.replicate_succ, Array.replicate_zero, List.push_toArray, List.append_toArray, List.nil_append, List.cons_append]
  gi_wp2
  gi_loopw [4] (fun i wr => ∃ k : Nat, k ≤ m ∧ i = .int .i64 ((k * 128 : Nat) : Int) ∧ J ((List.finRange m).take k) wr ∧ ChK Bs Bn W wr)
    (fun i _ => m * 128 - (numV i).toNat)
  case atStart => exact ⟨0, Nat.zero_le _, rfl, by rw [List.take_zero]; exact h0, ChK.refl _ _ _⟩
  case round =>
    obtain ⟨k, hk, rfl, hJs, hnx⟩ := hrel
    have cs := hnx.1 _ hBs
    have cn := hnx.2 _ hBn
    obtain ⟨L, hL⟩ : ∃ L, m * 128 = L := ⟨_, rfl⟩
    obtain ⟨i, hi⟩ : ∃ i, k * 128 = i := ⟨_, rfl⟩
    have HL := hid hL
    have HI := hid hi
    rw [hL] at cs
    rw [hi]
    have hic : Hid (i ≤ L ∧ L ≤ cap) := hid ⟨by rw [← hL, ← hi]; omega, by rw [← hL]; exact hcap.out⟩
    by_cases hlt : i < L
    · have hmin : min (128 : Int) ((L - i : Nat) : Int) = 128 := by rw [← hL, ← hi] at hlt ⊢; omega
      have hca : ¬ cap = i := by have := hic.out; omega
      have hil : i ≤ L := by omega
      obtain ⟨e, hw1, he⟩ : ∃ e : Nat, wrap64 ((i : Int) + 128) = (e : Int) ∧ e = i + 128 := ⟨i + 128, by have h1 := hic.out; have h2 := hm.out; rw [← hL] at h1; unfold wrap64; omega, rfl⟩
      have he1 : e - i = 128 := by omega
      have he2 : (i : Int) ≤ (e : Int) := by omega
      have he3 : (e : Int) ≤ (cap : Int) := by have := hic.out; rw [← hL, ← hi] at hlt; rw [← hL, ← hi] at this; rw [he, ← hi]; omega
      have HE := hid he
      have HW := hid hw1
      clear he hL hi
      gi_wp2
      have HKM : Hid (k < m) := hid (by have h1 := HL.out; have h2 := HI.out; omega)
      gi_quiet_th (fail)
      obtain ⟨fn, tmps, assign, body, hy, hR⟩ := hY _ ⟨k, HKM.out⟩ (wr.drewN nq) (hJd _ _ _ hJs) (by rw [List.length_take, List.length_finRange]; have := HKM.out; omega)
      unfold chV at hy
      rw [HI.out] at hy
      have ds : (wr.drewN nq).cell? ⟨Bs, 0, none⟩ = some (.slice (some ⟨bb, bp, none⟩) L cap) := cs
      have dn : (wr.drewN nq).cell? ⟨Bn, 0, none⟩ = some (.int .i64 128) := cn
      clear cs cn
      gi_wp2
      refine hR.mono ?_
      clear hR hy
      rintro e W3 (⟨rfl, hJ3, hk3⟩ | ⟨rfl, hJx3⟩)
      · have cn3 := hk3.2 _ dn
        clear dn ds
        gi_wp2
        go_roundw
        case rel => exact ⟨k + 1, by have h1 := HL.out; have h2 := HI.out; omega, by refine congrArg (Value.int .i64) ?_; have h1 := HL.out; have h2 := HI.out; have h3 := HE.out; (first | rw [HW.out] | skip); omega, by rw [finRange_succ HKM.out]; exact hJ3, hnx.t hk3⟩
        case measure => have h1 := HL.out; have h3 := HE.out; (first | rw [HW.out] | skip); simp only [numV]; rw [h1]; omega
      · gi_wp2
        refine bodyPost_ret (results_none rfl _ _ _) rfl ?_
        exact ⟨⟨_, rfl⟩, .inr ⟨_, trivial, hJx3⟩⟩
    · gi_wp2
      go_end0
      obtain rfl : k = m := by have h1 := HL.out; have h2 := HI.out; omega
      exact ⟨⟨_, rfl⟩, .inl ⟨_, rfl, by rwa [List.take_of_length_le (by rw [List.length_finRange]; exact Nat.le_refl _)] at hJs⟩⟩
/-- slices.Chunk: the two arguments are boxed. -/
theorem chunk_calls (w : World) (A : Option Addr) (len cap : Nat) : Calls Try.prog 70 #[.slice A len cap, .int .i64 128] w fun e w' => e = .returned (.func (.func 125) #[] #[.pointer (some ⟨w.heap.size, 0, none⟩), .pointer (some ⟨w.heap.size + 1, 0, none⟩)]) ∧ w' = (w.alloc (.cells #[.slice A len cap] 25)).alloc (.cells #[.int .i64 128] 3) := by
  go_enter Try.func70, Try.ntmps70
  go_wp2
  go_ret
  exact ⟨rfl, rfl⟩
theorem chunk_stops (n : Nat) (hn : 1 ≤ n) (Bs Bn bb bp m cap : Nat) (hm : Hid (m < 100000)) (hcap : Hid (m * 128 ≤ cap)) (w : World) (hs : w.cell? ⟨Bs, 0, none⟩ = some (.slice (some ⟨bb, bp, none⟩) (m * 128) cap)) (hB : w.cell? ⟨Bn, 0, none⟩ = some (.int .i64 128)) :
    SeqStopsK Fence.wide n Try.prog 125 #[.pointer (some ⟨Bs, 0, none⟩), .pointer (some ⟨Bn, 0, none⟩)] (fun x : Fin m => #[chV bb bp x.1]) (ChK Bs Bn) (fun ys => ys = List.finRange m) (fun _ => True) m w := fun l J Jx W hW hJ _ hY h0 =>
  chunk1_in n hn l Bs Bn bb bp m cap hm hcap J Jx hY (fun pre W q h => hJ pre W (W.drewN q) none h ((Fr.refl (fun k => some k = none) W).drewN q).grownBy (fun r e => by cases e)) W
    ((hW.cell (p := ⟨Bs, 0, none⟩) (World.block_lt_of_cell? _ _ hs)).trans hs) ((hW.cell (p := ⟨Bn, 0, none⟩) (World.block_lt_of_cell? _ _ hB)).trans hB) h0
end Go.Proofs.Ytlikggeceeennaa
