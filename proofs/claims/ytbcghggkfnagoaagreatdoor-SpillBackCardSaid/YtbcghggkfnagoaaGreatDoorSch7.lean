/- THE CONTRACT of slices.Chunk's iterator, at bytes in pieces of 508, the last one shorter. THE CONTRACT of spill.Write, where no page is free. -/
import Derived.Test.YtbcghggkfnagoaaGreatDoorSpp
import Derived.RangeFuncNested
import Derived.RangeFuncBound
import Derived.RangeFuncCalls
import Derived.RangeFuncLeaves
import Derived.RangeFuncBox
import Derived.Shelf.Abstract
import Derived.Shelf.RegionOpen
import Derived.WalkKit
import Derived.OwnWalkIn
import Derived.TacticsInMore
import Derived.LoopNIn
import Derived.LoopIn
import Derived.Sort.QuietTacIn
import Derived.Test.YtbcghggkfnagoaaGreatDoorSch4
import Derived.Test.YtbcghggkfnagoaaGreatDoorK3
set_option linter.unusedVariables false
set_option linter.unusedSimpArgs false
namespace Go.Proofs.YtbcghggkfnagoaaGreatDoor
open Go Go.RowKit Go.Shelf Hach

attribute [local go_sem] Oper.semAt_some
/-- What the iterator reads between two rounds: its two boxes. -/
def CpK (Bs Bn : Nat) (W W' : World) : Prop := (∀ v, W.cell? ⟨Bs, 0, none⟩ = some v → W'.cell? ⟨Bs, 0, none⟩ = some v) ∧ (∀ v, W.cell? ⟨Bn, 0, none⟩ = some v → W'.cell? ⟨Bn, 0, none⟩ = some v)
theorem CpK.t {Bs Bn : Nat} {A B C : World} (h : CpK Bs Bn A B) (k : CpK Bs Bn B C) : CpK Bs Bn A C := ⟨fun v hv => k.1 v (h.1 v hv), fun v hv => k.2 v (h.2 v hv)⟩
theorem CpK.refl (Bs Bn : Nat) (W : World) : CpK Bs Bn W W := ⟨fun _ h => h, fun _ h => h⟩
theorem finRange_next {m k : Nat} (h : k < m) : (List.finRange m).take (k + 1) = (List.finRange m).take k ++ [⟨k, h⟩] := by
  rw [List.take_succ_eq_append_getElem (by rw [List.length_finRange]; exact h), List.getElem_finRange]; rfl
/-- The j-th piece's length, and the piece. -/
def cpL (L j : Nat) : Nat := min 508 (L - j * 508)
def cpV (bb bp L j : Nat) : Value := .slice (some ⟨bb, bp + j * 508, none⟩) (cpL L j) (cpL L j)
set_option maxRecDepth 100000 in
set_option maxHeartbeats 4000000 in
theorem piece1_in (n : Nat) (hn : 1 ≤ n) (l Bs Bn bb bp m L cap : Nat) (hm : Hid (1 ≤ m ∧ m < 100000 ∧ (m - 1) * 508 < L ∧ L ≤ m * 508)) (hcap : Hid (L ≤ cap)) (J Jx : List (Fin m) → World → Prop)
    (hY : ∀ pre x W, J pre W → pre.length < m → YieldAt Fence.wide (n - 1) Tryz.prog l #[cpV bb bp L x.1] W fun e W' =>
      (e = .returned (.bool true) ∧ J (pre ++ [x]) W' ∧ CpK Bs Bn W W') ∨ (e = .returned (.bool false) ∧ Jx (pre ++ [x]) W'))
    (hJd : ∀ pre W q, J pre W → J pre (W.drewN q))
    (W : World) (hBs : W.cell? ⟨Bs, 0, none⟩ = some (.slice (some ⟨bb, bp, none⟩) L cap)) (hBn : W.cell? ⟨Bn, 0, none⟩ = some (.int .i64 508)) (h0 : J [] W) :
    CallsIn Fence.wide n Tryz.prog 151 #[.func (.yield l) #[] #[], .pointer (some ⟨Bs, 0, none⟩), .pointer (some ⟨Bn, 0, none⟩)] W fun e W' => (∃ v, e = .returned v) ∧
      ((∃ ys, ys = List.finRange m ∧ J ys W') ∨ (∃ pre, True ∧ Jx pre W')) := by
  refine callsIn_of_wp Tryz.func151 rfl trivial ?_ rfl
  simp only [Tryz.ntmps151, List.size_toArray, List.length_cons, List.length_nil, Nat.reduceAdd, Nat.reduceSub, Array.replicate_succ, Array.replicate_zero, List.push_toArray, List.append_toArray, List.nil_append, List.cons_append]
  gi_wp2
  gi_loopw [4] (fun i wr => ∃ k : Nat, k ≤ m ∧ i = .int .i64 ((k * 508 : Nat) : Int) ∧ J ((List.finRange m).take k) wr ∧ CpK Bs Bn W wr)
    (fun i _ => L - (numV i).toNat)
  case atStart => exact ⟨0, Nat.zero_le _, rfl, by rw [List.take_zero]; exact h0, CpK.refl _ _ _⟩
  case round =>
    obtain ⟨k, hk, rfl, hJs, hnx⟩ := hrel
    have cs := hnx.1 _ hBs
    have cn := hnx.2 _ hBn
    obtain ⟨i, hi⟩ : ∃ i, k * 508 = i := ⟨_, rfl⟩
    have HI := hid hi
    rw [hi]
    by_cases hlt : i < L
    · have hic : Hid (i ≤ L ∧ L ≤ cap) := hid ⟨by omega, hcap.out⟩
      obtain ⟨c, hc⟩ : ∃ c, cpL L k = c := ⟨_, rfl⟩
      have hik : i = k * 508 := hi.symm
      have w5 : Hid (wrap64 ((i : Int) + 508) = (((k + 1) * 508 : Nat) : Int)) := hid (by have h1 := hic.out; have h2 := hm.out; unfold wrap64; omega)
      have hmin : min (508 : Int) ((L - i : Nat) : Int) = (c : Int) := by rw [← hc, hik]; unfold cpL; omega
      have hcp : 0 < c ∧ c ≤ L - i := by rw [← hc, hik]; unfold cpL; omega
      have hca : ¬ cap = i := by have := hic.out; omega
      have hil : i ≤ L := by omega
      obtain ⟨e, hw1, he⟩ : ∃ e : Nat, wrap64 ((i : Int) + (c : Int)) = (e : Int) ∧ e = i + c := ⟨i + c, by have h1 := hic.out; have h2 := hm.out; unfold wrap64; omega, rfl⟩
      have he1 : e - i = c := by omega
      have he2 : (i : Int) ≤ (e : Int) := by omega
      have he3 : (e : Int) ≤ (cap : Int) := by have := hic.out; omega
      have HE := hid he
      have HW := hid hw1
      have HC := hid hc
      have HCP := hid hcp
      have HIK := hid hik
      clear he hi hc hcp hik
      gi_wp2
      have HKM : Hid (k < m) := hid (by have h1 := HI.out; have h2 := hm.out; omega)
      gi_quiet_th (fail)
      obtain ⟨fn, tmps, assign, body, hy, hR⟩ := hY _ ⟨k, HKM.out⟩ (wr.drewN nq) (hJd _ _ _ hJs) (by rw [List.length_take, List.length_finRange]; have := HKM.out; omega)
      unfold cpV at hy
      simp only at hy
      rw [HC.out, ← HIK.out] at hy
      have ds : (wr.drewN nq).cell? ⟨Bs, 0, none⟩ = some (.slice (some ⟨bb, bp, none⟩) L cap) := cs
      have dn : (wr.drewN nq).cell? ⟨Bn, 0, none⟩ = some (.int .i64 508) := cn
      clear cs cn
      gi_wp2
      refine hR.mono ?_
      clear hR hy
      rintro e W3 (⟨rfl, hJ3, hk3⟩ | ⟨rfl, hJx3⟩)
      · have cn3 := hk3.2 _ dn
        clear dn ds
        gi_wp2
        go_roundw
        case rel => exact ⟨k + 1, by have := HKM.out; omega, by rw [w5.out], by rw [finRange_next HKM.out]; exact hJ3, hnx.t hk3⟩
        case measure => rw [w5.out]; have h1 := HIK.out; have h2 := hm.out; have h3 := hlt; simp only [numV]; omega
      · gi_wp2
        refine bodyPost_ret (results_none rfl _ _ _) rfl ?_
        exact ⟨⟨_, rfl⟩, .inr ⟨_, trivial, hJx3⟩⟩
    · gi_wp2
      go_end0
      obtain rfl : k = m := by have h1 := hm.out; have h2 := HI.out; omega
      exact ⟨⟨_, rfl⟩, .inl ⟨_, rfl, by rwa [List.take_of_length_le (by rw [List.length_finRange]; exact Nat.le_refl _)] at hJs⟩⟩
/-- slices.Chunk: the two arguments are boxed. -/
theorem piece_calls (w : World) (A : Option Addr) (len cap : Nat) : Calls Tryz.prog 105 #[.slice A len cap, .int .i64 508] w fun e w' => e = .returned (.func (.func 151) #[] #[.pointer (some ⟨w.heap.size, 0, none⟩), .pointer (some ⟨w.heap.size + 1, 0, none⟩)]) ∧ w' = (w.alloc (.cells #[.slice A len cap] 64)).alloc (.cells #[.int .i64 508] 3) := by
  go_enter Tryz.func105, Tryz.ntmps105
  go_wp2
  go_ret
  exact ⟨rfl, rfl⟩
theorem piece_stops (n : Nat) (hn : 1 ≤ n) (Bs Bn bb bp m L cap : Nat) (hm : Hid (1 ≤ m ∧ m < 100000 ∧ (m - 1) * 508 < L ∧ L ≤ m * 508)) (hcap : Hid (L ≤ cap)) (w : World) (hs : w.cell? ⟨Bs, 0, none⟩ = some (.slice (some ⟨bb, bp, none⟩) L cap)) (hB : w.cell? ⟨Bn, 0, none⟩ = some (.int .i64 508)) :
    SeqStopsK Fence.wide n Tryz.prog 151 #[.pointer (some ⟨Bs, 0, none⟩), .pointer (some ⟨Bn, 0, none⟩)] (fun x : Fin m => #[cpV bb bp L x.1]) (CpK Bs Bn) (fun ys => ys = List.finRange m) (fun _ => True) m w := fun l J Jx W hW hJ _ hY h0 =>
  piece1_in n hn l Bs Bn bb bp m L cap hm hcap J Jx hY (fun pre W q h => hJ pre W (W.drewN q) none h ((Fr.refl (fun k => some k = none) W).drewN q).grownBy (fun r e => by cases e)) W
    ((hW.cell (p := ⟨Bs, 0, none⟩) (World.block_lt_of_cell? _ _ hs)).trans hs) ((hW.cell (p := ⟨Bn, 0, none⟩) (World.block_lt_of_cell? _ _ hB)).trans hB) h0
end Go.Proofs.YtbcghggkfnagoaaGreatDoor

namespace Go.Proofs.YtbcghggkfnagoaaGreatDoor
open Go Go.RowKit Go.Shelf Go.Maps Hach

attribute [local go_sem] Oper.semAt_some
theorem piece1_ent (args : Array Value) (w : World) : (callFunc 151 args).run Tryz.prog w = .ok (.enter 151 args) w := by go_simp
/-- The boxes of Write (h, the two results, the pages), and the heap. -/
structure PutI (w : World) (X : HpX) (n j : Nat) (Wd : Nat → Int) (U : Nat → List UInt8) (P : (Nat → List UInt8) → Prop) (l : List Nat) (A1 : Option Addr) (c1 : Nat) (W : World) : Prop where
  fr : Fr (HpS X) w W
  heap : ∃ U', HeapW W X j [] Wd U' ∧ (∀ i, i ≤ n → U' i = U i) ∧ P U'
  hb : W.heap[w.heap.size]? = some (.cells #[.pointer (some ⟨X.h, 0, none⟩)] 26 (0, 0))
  rb : W.heap[w.heap.size + 1]? = some (.cells #[.int .i64 0] 3 (0, 0))
  eb : W.heap[w.heap.size + 1 + 1]? = some (.cells #[.int .i64 0] 31 (0, 0))
  pb : W.heap[w.heap.size + 1 + 1 + 1]? = some (.cells #[.slice A1 l.length c1] 30 (0, 0))
  row : W.ownsRow (w.heap.size + 1 + 1 + 1 + 1) 3 1 (.slice A1 l.length c1) l.length (l.map natCell)
def putRow (n j : Nat) : List Nat := (List.range j).map (fun i => n + 1 + i)
theorem putRow_len (n j : Nat) : (putRow n j).length = j := by unfold putRow; rw [List.length_map, List.length_range]
theorem putRow_snoc (n j : Nat) : putRow n (j + 1) = putRow n j ++ [n + 1 + j] := by unfold putRow; rw [List.range_succ, List.map_append]; rfl
theorem putRow_at {n j i : Nat} (h : i < j) : (putRow n j)[i]? = some (n + 1 + i) := by unfold putRow; rw [List.getElem?_map, List.getElem?_range h]; rfl
theorem HpS.low {w : World} {X : HpX} {n : Nat} {T : List Trk} {W : Nat → Int} {U : Nat → List UInt8} (h : HeapW w X n T W U) : ∀ k, HpS X k → k < w.heap.size := by
  obtain ⟨L, hp, _⟩ := h
  have h1 := (Array.getElem?_eq_some_iff.1 hp.tran.tran).1
  have h2 := hp.tran.map.lt
  rintro k (e | e) <;> omega
/-- A block that can be none of a heap's, by what it is. -/
def Alien (w : World) (m k : Nat) : Prop := ∃ o : Obj, w.heap[k]? = some o ∧ (∀ cs t fr, o = .cells cs t fr → t ≠ 110 ∧ t ≠ 80 ∧ t ≠ 131 ∧ t ≠ 5) ∧ ((∀ es cl, o ≠ .map es cl) ∨ k ≠ m)
theorem Alien.cells {w : World} {m k : Nat} {cs : Array Value} {t : TypeId} {fr : Nat × Nat} (h : w.heap[k]? = some (.cells cs t fr)) (h1 : t ≠ 110) (h2 : t ≠ 80) (h3 : t ≠ 131) (h4 : t ≠ 5) : Alien w m k :=
  ⟨_, h, fun cs' t' fr' e => by injection e with _ e _; subst e; exact ⟨h1, h2, h3, h4⟩, .inl (fun es cl e => by cases e)⟩
theorem Alien.own {w : World} {m base n k : Nat} {t : TypeId} {size : Nat} {v : Value} {ys : List Value} (h : w.ownsRow base t size v n ys) (hk : v.ownBlock = some k) (h1 : t ≠ 110) (h2 : t ≠ 80) (h3 : t ≠ 131) (h4 : t ≠ 5) : Alien w m k := by
  obtain ⟨cs, fr, e⟩ := own_obj h hk
  exact Alien.cells e h1 h2 h3 h4
theorem HeapW.frA {S : Nat → Prop} {w w' : World} {X : HpX} {n : Nat} {T : List Trk} {W : Nat → Int} {U : Nat → List UInt8} (h : HeapW w X n T W U) (hf : Fr S w w') (hS : ∀ k, k < w.heap.size → S k → Alien w X.m k) : HeapW w' X n T W U := by
  obtain ⟨L, hp, hs⟩ := h
  refine ⟨L, ?_, hs⟩
  have h1 := hp.own
  have h2 := hp.tran.tran
  have h3 : w.heap[X.p]? = some (.cells (pagerCs X.q (.pointer (some ⟨X.t, 0, none⟩)) false) 80 (0, 0)) := hp.tran.own
  obtain ⟨es, cl, hm⟩ := hp.tran.map.isMap
  have lt : ∀ {k o}, w.heap[k]? = some o → k < w.heap.size := fun e => (Array.getElem?_eq_some_iff.1 e).1
  have e1 : ¬ S X.h := fun hs => by
    obtain ⟨o, e, k1, _⟩ := hS _ (lt h1) hs
    rw [h1] at e; injection e with e; exact (k1 _ _ _ e.symm).1 rfl
  have e2 : ¬ S X.t := fun hs => by
    obtain ⟨o, e, k1, _⟩ := hS _ (lt h2) hs
    rw [h2] at e; injection e with e; exact (k1 _ _ _ e.symm).2.2.1 rfl
  have e3 : ¬ S X.p := fun hs => by
    obtain ⟨o, e, k1, _⟩ := hS _ (lt h3) hs
    rw [h3] at e; injection e with e; exact (k1 _ _ _ e.symm).2.1 rfl
  have e4 : ¬ S X.m := fun hs => by
    obtain ⟨o, e, _, k1⟩ := hS _ (lt hm) hs
    rw [hm] at e; injection e with e; exact k1.elim (fun k1 => k1 _ _ e.symm) (fun k1 => k1 rfl)
  refine ⟨(hf.block X.h (lt h1) e1).trans h1, hp.tran.own.fr hf e3, (hf.block X.t (lt h2) e2).trans h2, hp.tran.map.kept hf e4, fun y hy => ?_⟩
  have hr := hp.tran.rows y hy
  obtain ⟨cs, fr, hb⟩ := hr.row.1
  refine hr.fr hf (fun hs => ?_)
  obtain ⟨o, e, k1, _⟩ := hS _ (lt hb) hs
  rw [hb] at e; injection e with e; exact (k1 _ _ _ e.symm).2.2.2 rfl
theorem al4 (w : World) (o1 o2 o3 o4 : Obj) : Up w ((((w.alloc o1).alloc o2).alloc o3).alloc o4) ∧ ((((w.alloc o1).alloc o2).alloc o3).alloc o4).heap.size = w.heap.size + 1 + 1 + 1 + 1 ∧
    ((((w.alloc o1).alloc o2).alloc o3).alloc o4).heap[w.heap.size]? = some o1 ∧ ((((w.alloc o1).alloc o2).alloc o3).alloc o4).heap[w.heap.size + 1]? = some o2 ∧
    ((((w.alloc o1).alloc o2).alloc o3).alloc o4).heap[w.heap.size + 1 + 1]? = some o3 ∧ ((((w.alloc o1).alloc o2).alloc o3).alloc o4).heap[w.heap.size + 1 + 1 + 1]? = some o4 := by
  have sz : ∀ (W : World) (o : Obj), (W.alloc o).heap.size = W.heap.size + 1 := fun W o => by simp
  have old : ∀ {W : World} {o : Obj} {k : Nat} {ob : Obj}, W.heap[k]? = some ob → (W.alloc o).heap[k]? = some ob := fun h => (Below.heap_alloc _ _ _ (Array.getElem?_eq_some_iff.1 h).1).trans h
  have n1 := heap_alloc_new w o1
  have n2 := heap_alloc_new (w.alloc o1) o2
  have n3 := heap_alloc_new ((w.alloc o1).alloc o2) o3
  have n4 := heap_alloc_new (((w.alloc o1).alloc o2).alloc o3) o4
  simp only [sz] at n1 n2 n3 n4
  exact ⟨upAlD (upAlD (upAlD (upAlD (Up.refl w) _) _) _) _, by simp only [sz], old (old (old n1)), old (old n2), old n3, n4⟩
theorem cell_box {W : World} {k : Nat} {v : Value} {t : TypeId} (h : W.heap[k]? = some (.cells #[v] t (0, 0))) : W.cell? ⟨k, 0, none⟩ = some v ∧ W.frozen? ⟨k, 0, none⟩ = false :=
  ⟨bx_cell h, by unfold World.frozen?; rw [show (⟨k, 0, none⟩ : Addr).block = k from rfl, h]; simp⟩
/-- A page has been taken and written down. -/
theorem PutI.take {w W w5 w6 : World} {X : HpX} {n j : Nat} {Wd : Nat → Int} {U : Nat → List UInt8} {A1 A6 : Option Addr} {c1 c6 : Nat} (h : PutI w X n (n + j) Wd U (fun _ => True) (putRow n j) A1 c1 W) (h0 : HeapW w X n [] Wd U)
    {U1 : Nat → List UInt8} (q2 : ∀ i, i ≤ n → U1 i = U i) (q5 : HeapW w5 X (n + j + 1) [] Wd (upd U1 (n + j + 1) noPage)) (f5 : Fr (HpS X) W w5) {ob : Obj} (g6 : (w5.alloc ob).grownBy w6 (Value.slice A1 j c1).ownBlock)
    (o6 : w6.ownsRow (w.heap.size + 1 + 1 + 1 + 1) 3 1 (.slice A6 (j + 1) c6) (j + 1) ((putRow n j).map natCell ++ [.int .i64 ((n + j + 1 : Nat) : Int)])) :
    w6.heap[w.heap.size + 1 + 1 + 1]? = some (.cells #[.slice A1 j c1] 30 (0, 0)) ∧ PutI w X n (n + (j + 1)) Wd U (fun _ => True) (putRow n (j + 1)) A6 c6 (w6.setCell ⟨w.heap.size + 1 + 1 + 1, 0, none⟩ (.slice A6 (j + 1) c6)) := by
  have hlow := HpS.low h0
  have hrow := own_block h.row
  have hlen := putRow_len n j
  rw [hlen] at hrow
  have hnb : ∀ k, w.heap.size ≤ k → ¬ HpS X k := fun k hk e => by have := hlow k e; omega
  have f6 : Fr (fun k => some k = (Value.slice A1 j c1).ownBlock) w5 w6 := ((Fr.of_below (upAlD (Up.refl w5) ob)).mono (fun _ e => e.elim)).trans' (Fr.of_grown g6)
  have f7 : Fr (fun k => k = w.heap.size + 1 + 1 + 1) w6 (w6.setCell ⟨w.heap.size + 1 + 1 + 1, 0, none⟩ (.slice A6 (j + 1) c6)) := (Fr.refl (fun k => k = w.heap.size + 1 + 1 + 1) w6).setCell (p := ⟨w.heap.size + 1 + 1 + 1, 0, none⟩) (fun _ => rfl) _
  have k6 : ∀ {k : Nat} {o : Obj}, W.heap[k]? = some o → w.heap.size ≤ k → k < w.heap.size + 1 + 1 + 1 + 1 → w6.heap[k]? = some o := fun hk h1 h2 =>
    (f6.block _ (by have := (Array.getElem?_eq_some_iff.1 hk).1; have := f5.size; omega) (fun e => by have := (hrow _ e.symm).1; omega)).trans ((f5.block _ (Array.getElem?_eq_some_iff.1 hk).1 (hnb _ h1)).trans hk)
  have k7 : ∀ {k : Nat} {o : Obj}, W.heap[k]? = some o → w.heap.size ≤ k → k < w.heap.size + 1 + 1 + 1 → (w6.setCell ⟨w.heap.size + 1 + 1 + 1, 0, none⟩ (.slice A6 (j + 1) c6)).heap[k]? = some o := fun hk h1 h2 =>
    (f7.block _ (Array.getElem?_eq_some_iff.1 (k6 hk h1 (by omega))).1 (by omega)).trans (k6 hk h1 (by omega))
  have pb := h.pb
  rw [hlen] at pb
  have pb6 := k6 pb (by omega) (by omega)
  refine ⟨pb6, ⟨?_, ⟨upd U1 (n + j + 1) noPage, ?_, ?_, trivial⟩, k7 h.hb (Nat.le_refl _) (by omega), k7 h.rb (by omega) (by omega), k7 h.eb (by omega) (by omega), ?_, ?_⟩⟩
  · refine h.fr.trans ((f5.mono (T := fun k => HpS X k ∨ w.heap.size ≤ k) (fun k e => .inl e)).trans' ((f6.mono (fun k e => .inr (by have := (hrow _ e.symm).1; omega))).trans' (f7.mono (fun k e => .inr (by omega))))) (fun i hi e => e.elim id (fun e => by omega))
  · rw [show n + (j + 1) = n + j + 1 by omega]
    refine (q5.frA f6 (fun k _ e => ?_)).frA f7 (fun k _ e => ?_)
    · exact Alien.own (f5.own h.row (fun k hk => hnb _ (by have := (own_block h.row _ hk).1; omega))) (by rw [hlen]; exact e.symm) (by decide) (by decide) (by decide) (by decide)
    · subst e
      exact Alien.cells pb6 (by decide) (by decide) (by decide) (by decide)
  · intro i hi
    show upd U1 (n + j + 1) noPage i = _
    unfold upd
    rw [if_neg (by omega)]
    exact q2 i hi
  · rw [putRow_len]; exact heap_setCell_same w6 _ 0 _ _ _ pb6
  · rw [putRow_len, putRow_snoc, List.map_append]
    refine f7.own ?_ (fun k hk e => by have := (own_block o6 k hk).1; omega)
    rw [show n + 1 + j = n + j + 1 by omega]
    exact o6
theorem PutI.keep {w W w5 : World} {X : HpX} {n j : Nat} {Wd : Nat → Int} {U : Nat → List UInt8} {P : (Nat → List UInt8) → Prop} {l : List Nat} {A1 : Option Addr} {c1 : Nat} (h : PutI w X n j Wd U P l A1 c1 W) (h0 : HeapW w X n [] Wd U) (f5 : Fr (HpS X) W w5) {k : Nat} {o : Obj} (hk : W.heap[k]? = some o) (hw : w.heap.size ≤ k) : w5.heap[k]? = some o :=
  (f5.block k (Array.getElem?_eq_some_iff.1 hk).1 (fun e => by have := HpS.low h0 k e; omega)).trans hk
theorem PutI.more {w W W' : World} {X : HpX} {n j : Nat} {Wd : Nat → Int} {U : Nat → List UInt8} {P : (Nat → List UInt8) → Prop} {l : List Nat} {A1 : Option Addr} {c1 : Nat} {S : Nat → Prop} (h : PutI w X n j Wd U P l A1 c1 W) (hf : Fr S W W')
    (hS : ∀ k, S k → w.heap.size + 1 + 1 + 1 + 1 ≤ k ∧ (k < W.heap.size → Alien W X.m k)) (hrow : ∀ k, (Value.slice A1 l.length c1).ownBlock = some k → ¬ S k) : PutI w X n j Wd U P l A1 c1 W' := by
  have kp : ∀ {k : Nat} {o : Obj}, W.heap[k]? = some o → k < w.heap.size + 1 + 1 + 1 + 1 → W'.heap[k]? = some o := fun hk h1 => (hf.block _ (Array.getElem?_eq_some_iff.1 hk).1 (fun e => by have := (hS _ e).1; omega)).trans hk
  obtain ⟨U', q1, q2, q3⟩ := h.heap
  exact ⟨h.fr.trans hf (fun i hi e => by have := (hS i e).1; omega), ⟨U', q1.frA hf (fun k hk e => (hS k e).2 hk), q2, q3⟩, kp h.hb (by omega), kp h.rb (by omega), kp h.eb (by omega), kp h.pb (by omega), hf.own h.row (fun k hk e => hrow k hk e)⟩
theorem putH_calls (w : World) (X : HpX) (n : Nat) (T : List Trk) (W : Nat → Int) (U : Nat → List UInt8) (hh : Hid (HeapW w X n T W U)) (i : Nat) (hi : Hid (2 ≤ i ∧ i ≤ n ∧ i ∉ allT T ∧ n ≤ 4000)) (A : Option Addr) (xs : List UInt8) (c : Nat) (hxs : Hid (xs.length = 512)) (hb : Hid (Bytes w A xs)) :
    Calls Tryz.prog 48 #[.pointer (some ⟨X.p, 0, none⟩), .int .i64 i, .slice A 512 c] w fun en w' => en = .returned (.int .i64 0) ∧ Hid (HeapW w' X n T W (upd U i xs) ∧ Fr (HpS X) w w') := by
  obtain ⟨L, hp, hs⟩ := hh.out
  have hlen := hs.keys.len
  obtain ⟨h2, hin, hT, h4⟩ := hi.out
  refine (pput_calls w X.p X.t X.m X.q X.mv X.last n L (hid hp.tran) i (hid ⟨by omega, hin, by omega⟩) (hid (by omega)) A xs c hxs hb).mono ?_
  rintro en w' ⟨rfl, g, c', hr⟩
  have hf : Fr (HpS X) w w' := hr.out.2.1.mono (fun k e => .inr e)
  exact ⟨rfl, hid ⟨⟨_, hp.step hr.out.1 hf, hs.put h2 hin hT hxs.out⟩, hf⟩⟩
/-- What has been put so far. -/
def PutSo (n C : Nat) (xs : List UInt8) (pre : List (Fin C)) (U' : Nat → List UInt8) : Prop := ∀ (p : Nat) (x : Fin C), pre[p]? = some x → U' (n + 1 + p) = Oct.be (spNext (n + 1) C p) 4 ++ spBody xs x.1
structure WrJ (w : World) (X : HpX) (n C : Nat) (Wd : Nat → Int) (U : Nat → List UInt8) (xs : List UInt8) (A1 : Option Addr) (c1 zi : Nat) (pre : List (Fin C)) (W : World) : Prop where
  put : PutI w X n (n + C) Wd U (PutSo n C xs pre) (putRow n C) A1 c1 W
  ib : W.heap[zi]? = some (.cells #[.int .i64 (pre.length : Nat)] 3 (0, 0))
  low : w.heap.size + 1 + 1 + 1 + 1 ≤ zi
  row : ∀ k, (Value.slice A1 C c1).ownBlock = some k → k < zi
theorem WrJ.odd {w W W' : World} {X : HpX} {n C : Nat} {Wd : Nat → Int} {U : Nat → List UInt8} {xs : List UInt8} {A1 : Option Addr} {c1 zi bz : Nat} {pre : List (Fin C)} {S : Nat → Prop} (h : WrJ w X n C Wd U xs A1 c1 zi pre W) (h0 : HeapW w X n [] Wd U) (ho : Odd bz W S) (hf : Fr S W W') (hb : zi < bz) : WrJ w X n C Wd U xs A1 c1 zi pre W' := by
  have hl := h.low
  refine ⟨h.put.more hf (fun k hk => ?_) (fun k hk e => ?_), ho.keep hf h.ib, h.low, h.row⟩
  · obtain ⟨h1, o, h2, h3⟩ := ho k hk
    exact ⟨by omega, fun _ => ⟨o, h2, fun cs t fr e => (by subst e; cases h3), .inr (by have := HpS.low h0 X.m (.inr rfl); omega)⟩⟩
  · have := (ho k e).1
    have := h.row k (by rw [putRow_len] at hk; exact hk)
    omega
theorem spBody_full {xs : List UInt8} {t : Nat} (h : 508 ≤ xs.length - t * 508) : spBody xs t = (xs.drop (t * 508)).take 508 := by
  unfold spBody
  rw [show 508 - (xs.length - t * 508) = 0 by omega, List.replicate_zero, List.append_nil]
theorem piece_len (xs : List UInt8) (t : Nat) : ((xs.drop (t * 508)).take 508).length = cpL xs.length t := by
  unfold cpL; rw [List.length_take, List.length_drop]
theorem WrJ.step {w W w5 w6 : World} {X : HpX} {n C : Nat} {Wd : Nat → Int} {U : Nat → List UInt8} {xs : List UInt8} {A1 : Option Addr} {c1 zi bz : Nat} {pre : List (Fin C)} {x : Fin C} {U1 : Nat → List UInt8} (h : WrJ w X n C Wd U xs A1 c1 zi pre W) (h0 : HeapW w X n [] Wd U) (hb : zi < bz) (hp : pre.length < C)
    (q2 : ∀ i, i ≤ n → U1 i = U i) (q3 : PutSo n C xs pre U1) (u5 : Up W w5) (h6 : HeapW w6 X (n + C) [] Wd (upd U1 (n + 1 + pre.length) (Oct.be (spNext (n + 1) C pre.length) 4 ++ spBody xs x.1))) (f6 : Fr (HpS X) w5 w6) :
    w6.heap[zi]? = some (.cells #[.int .i64 (pre.length : Nat)] 3 (0, 0)) ∧ KeepsFrom bz W (w6.setCell ⟨zi, 0, none⟩ (.int .i64 ((pre.length + 1 : Nat) : Int))) ∧
      (∀ (k : Nat) (o : Obj), zi < k → W.heap[k]? = some o → (w6.setCell ⟨zi, 0, none⟩ (.int .i64 ((pre.length + 1 : Nat) : Int))).heap[k]? = some o) ∧ WrJ w X n C Wd U xs A1 c1 zi (pre ++ [x]) (w6.setCell ⟨zi, 0, none⟩ (.int .i64 ((pre.length + 1 : Nat) : Int))) := by
  have hl := h.low
  have hlow := HpS.low h0
  have f56 : Fr (HpS X) W w6 := ((Fr.of_below u5).mono (fun _ e => e.elim)).trans' f6
  have i6 : w6.heap[zi]? = some (.cells #[.int .i64 (pre.length : Nat)] 3 (0, 0)) := (f56.block zi (Array.getElem?_eq_some_iff.1 h.ib).1 (fun e => by have := hlow _ e; omega)).trans h.ib
  have f7 : Fr (fun k => k = zi) w6 (w6.setCell ⟨zi, 0, none⟩ (.int .i64 ((pre.length + 1 : Nat) : Int))) := (Fr.refl (fun k => k = zi) w6).setCell (p := ⟨zi, 0, none⟩) (fun _ => rfl) _
  have hf : Fr (fun k => HpS X k ∨ k = zi) W (w6.setCell ⟨zi, 0, none⟩ (.int .i64 ((pre.length + 1 : Nat) : Int))) := (f56.mono (fun k e => .inl e)).trans' (f7.mono (fun k e => .inr e))
  have k6 : ∀ {k : Nat} {o : Obj}, W.heap[k]? = some o → w.heap.size ≤ k → w6.heap[k]? = some o := fun hk h1 => (f56.block _ (Array.getElem?_eq_some_iff.1 hk).1 (fun e => by have := hlow _ e; omega)).trans hk
  have p6 : PutI w X n (n + C) Wd U (PutSo n C xs (pre ++ [x])) (putRow n C) A1 c1 w6 := by
    refine ⟨h.put.fr.trans' f56, ⟨_, h6, fun i hi => ?_, fun p y hy => ?_⟩, k6 h.put.hb (Nat.le_refl _), k6 h.put.rb (by omega), k6 h.put.eb (by omega), k6 h.put.pb (by omega), f56.own h.put.row (fun k hk e => by have := hlow k e; have := (own_block h.put.row k hk).1; omega)⟩
    · unfold upd; rw [if_neg (by omega)]; exact q2 i hi
    · unfold upd
      by_cases e : p = pre.length
      · subst e
        rw [if_pos rfl]
        rw [List.getElem?_append_right (Nat.le_refl _), Nat.sub_self] at hy
        obtain rfl := Option.some.inj hy
        rfl
      · rw [if_neg (by omega)]
        have hlt := (List.getElem?_eq_some_iff.1 hy).1
        rw [List.length_append, List.length_singleton] at hlt
        rw [List.getElem?_append_left (by omega)] at hy
        exact q3 p y hy
  refine ⟨i6, Keeps.of_fr hf (fun k e => ?_), fun k o h1 h2 => ?_, ⟨p6.more f7 (fun k e => ?_) (fun k hk e => ?_), ?_, h.low, h.row⟩⟩
  · rcases e with e | e
    · exact .inl (by have := hlow k e; omega)
    · exact .inl (by omega)
  · exact (hf.block k (Array.getElem?_eq_some_iff.1 h2).1 (fun e => by rcases e with e | e; have := hlow k e; omega; omega)).trans h2
  · subst e
    exact ⟨h.low, fun _ => Alien.cells i6 (by decide) (by decide) (by decide) (by decide)⟩
  · have := h.row k (by rw [putRow_len] at hk; exact hk); omega
  · rw [List.length_append]; exact heap_setCell_same w6 zi 0 _ _ _ i6
theorem PutI.imp {w W : World} {X : HpX} {n j : Nat} {Wd : Nat → Int} {U : Nat → List UInt8} {P P' : (Nat → List UInt8) → Prop} {l : List Nat} {A1 : Option Addr} {c1 : Nat} (h : PutI w X n j Wd U P l A1 c1 W) (hP : ∀ U', P U' → P' U') : PutI w X n j Wd U P' l A1 c1 W := by
  obtain ⟨U', q1, q2, q3⟩ := h.heap
  exact ⟨h.fr, ⟨U', q1, q2, hP _ q3⟩, h.hb, h.rb, h.eb, h.pb, h.row⟩
theorem al3 (w : World) (o1 o2 o3 : Obj) : Up w (((w.alloc o1).alloc o2).alloc o3) ∧ (((w.alloc o1).alloc o2).alloc o3).heap.size = w.heap.size + 1 + 1 + 1 ∧
    (((w.alloc o1).alloc o2).alloc o3).heap[w.heap.size]? = some o1 ∧ (((w.alloc o1).alloc o2).alloc o3).heap[w.heap.size + 1]? = some o2 ∧
    (((w.alloc o1).alloc o2).alloc o3).heap[w.heap.size + 1 + 1]? = some o3 := by
  have sz : ∀ (W : World) (o : Obj), (W.alloc o).heap.size = W.heap.size + 1 := fun W o => by simp
  have old : ∀ {W : World} {o : Obj} {k : Nat} {ob : Obj}, W.heap[k]? = some ob → (W.alloc o).heap[k]? = some ob := fun h => (Below.heap_alloc _ _ _ (Array.getElem?_eq_some_iff.1 h).1).trans h
  have n1 := heap_alloc_new w o1
  have n2 := heap_alloc_new (w.alloc o1) o2
  have n3 := heap_alloc_new ((w.alloc o1).alloc o2) o3
  simp only [sz] at n1 n2 n3
  exact ⟨upAlD (upAlD (upAlD (Up.refl w) _) _) _, by simp only [sz], old (old n1), old n2, n3⟩
theorem own_addr {w : World} {base n c : Nat} {e : TypeId} {size : Nat} {A : Option Addr} {ys : List Value} (h : w.ownsRow base e size (.slice A n c) n ys) (hn : 0 < n) : (∃ g, A = some ⟨g, 0, none⟩) ∧ n ≤ c := by
  rcases h.2 with ⟨_, h0⟩ | ⟨g, cap, cur, hv, _, _, hc, _⟩
  · omega
  · injection hv with e1 _ e3
    exact ⟨⟨g, e1⟩, by omega⟩
theorem zcB (m : Nat) : (Builtin.zeroCells (Value.int IntKind.u8 0).cells m).toList = (List.replicate m (0 : UInt8)).map byteCell := by
  rw [List.map_replicate]
  show (Builtin.zeroCells #[Value.int IntKind.u8 0] m).toList = List.replicate m (Value.int .u8 0)
  unfold Builtin.zeroCells
  apply List.ext_getElem?
  intro i
  by_cases hi : i < m
  · simp [hi, Nat.mod_one]
  · simp [hi]

theorem WrJ.finish {w W : World} {X : HpX} {n C : Nat} {Wd : Nat → Int} {U : Nat → List UInt8} {xs : List UInt8} {A1 : Option Addr} {c1 zi D : Nat} (h : WrJ w X n C Wd U xs A1 c1 zi (List.finRange C) W) (h0 : HeapW w X n [] Wd U) (hC : cnt xs.length = C) (hD : zi < D) (hK : W.heap[D]? = some (.deferred (some []))) (v : Int) :
    ((W.setCell ⟨w.heap.size + 1, 0, none⟩ (.int .i64 v)).setCell ⟨w.heap.size + 1 + 1, 0, none⟩ (.int .i64 0)).heap[D]? = some (.deferred (some [])) ∧
    (((W.setCell ⟨w.heap.size + 1, 0, none⟩ (.int .i64 v)).setCell ⟨w.heap.size + 1 + 1, 0, none⟩ (.int .i64 0)).putObj D (.deferred none)).cell? ⟨w.heap.size + 1, 0, none⟩ = some (.int .i64 v) ∧
    (((W.setCell ⟨w.heap.size + 1, 0, none⟩ (.int .i64 v)).setCell ⟨w.heap.size + 1 + 1, 0, none⟩ (.int .i64 0)).putObj D (.deferred none)).cell? ⟨w.heap.size + 1 + 1, 0, none⟩ = some (.int .i64 0) ∧
    ∃ U', HeapW (((W.setCell ⟨w.heap.size + 1, 0, none⟩ (.int .i64 v)).setCell ⟨w.heap.size + 1 + 1, 0, none⟩ (.int .i64 0)).putObj D (.deferred none)) X (n + C) [] Wd U' ∧ Chained U' (n + 1) xs ∧ (∀ i, i ≤ n → U' i = U i) ∧ Fr (HpS X) w (((W.setCell ⟨w.heap.size + 1, 0, none⟩ (.int .i64 v)).setCell ⟨w.heap.size + 1 + 1, 0, none⟩ (.int .i64 0)).putObj D (.deferred none)) := by
  have hl := h.low
  have hlow := HpS.low h0
  obtain ⟨W1, hW1⟩ : ∃ W1, (W.setCell ⟨w.heap.size + 1, 0, none⟩ (.int .i64 v)).setCell ⟨w.heap.size + 1 + 1, 0, none⟩ (.int .i64 0) = W1 := ⟨_, rfl⟩
  have f1 : Fr (fun k => k = w.heap.size + 1 ∨ k = w.heap.size + 1 + 1) W W1 := by
    rw [← hW1]
    exact ((Fr.refl (fun k => k = w.heap.size + 1 ∨ k = w.heap.size + 1 + 1) W).setCell (p := ⟨w.heap.size + 1, 0, none⟩) (fun _ => .inl rfl) _).setCell (p := ⟨w.heap.size + 1 + 1, 0, none⟩) (fun _ => .inr rfl) _
  have k1 := heap_setCell_same W (w.heap.size + 1) 0 _ _ (.int .i64 v) h.put.rb
  have k2 : (W.setCell ⟨w.heap.size + 1, 0, none⟩ (.int .i64 v)).heap[w.heap.size + 1 + 1]? = some (.cells #[.int .i64 0] 31 (0, 0)) := (Below.heap_setCell _ _ _ _ (by simp)).trans h.put.eb
  have k3 := heap_setCell_same _ (w.heap.size + 1 + 1) 0 _ _ (.int .i64 0) k2
  have k4 : W1.heap[w.heap.size + 1]? = some (.cells #[.int .i64 v] 3 (0, 0)) := by rw [← hW1]; exact (Below.heap_setCell _ _ _ _ (by simp)).trans k1
  rw [hW1] at k3 ⊢
  have kD : W1.heap[D]? = some (.deferred (some [])) := (f1.block D (Array.getElem?_eq_some_iff.1 hK).1 (by omega)).trans hK
  have f2 : Fr (fun k => k = D) W1 (W1.putObj D (.deferred none)) := (Fr.of_grown (grownBy_putObj' W1 D (.deferred none))).mono (fun k e => Option.some.inj e)
  have hf : Fr (fun k => k = w.heap.size + 1 ∨ k = w.heap.size + 1 + 1 ∨ k = D) W (W1.putObj D (.deferred none)) := (f1.mono (fun k e => e.elim .inl (fun e => .inr (.inl e)))).trans' (f2.mono (fun k e => .inr (.inr e)))
  have cell1 : ∀ {k : Nat} {u : Value} {t : TypeId}, W1.heap[k]? = some (.cells #[u] t (0, 0)) → k ≠ D → (W1.putObj D (.deferred none)).cell? ⟨k, 0, none⟩ = some u := fun h hn => bx_cell ((f2.block _ (Array.getElem?_eq_some_iff.1 h).1 hn).trans h)
  obtain ⟨U', q1, q2, q3⟩ := h.put.heap
  refine ⟨kD, cell1 k4 (by omega), cell1 k3 (by omega), U', q1.frA hf (fun k hk e => ?_), fun t ht => ?_, q2, h.put.fr.trans hf (fun i hi e => by omega)⟩
  · rcases e with e | e | e
    · subst e; exact Alien.cells h.put.rb (by decide) (by decide) (by decide) (by decide)
    · subst e; exact Alien.cells h.put.eb (by decide) (by decide) (by decide) (by decide)
    · subst e
      exact ⟨_, hK, fun cs t fr e => (by cases e), .inl (fun es cl e => by cases e)⟩
  · rw [hC] at ht ⊢
    exact q3 t ⟨t, ht⟩ (by rw [List.getElem?_eq_getElem (by rw [List.length_finRange]; exact ht), List.getElem_finRange]; rfl)
end Go.Proofs.YtbcghggkfnagoaaGreatDoor
