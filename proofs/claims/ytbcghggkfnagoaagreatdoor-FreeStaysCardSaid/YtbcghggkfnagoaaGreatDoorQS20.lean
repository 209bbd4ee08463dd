/- PARTS OF A PROOF, one behind the other: THE CONTRACT of slices.Chunk's iterator, at bytes in pieces of 128. THE WALK of Write's closure. THE WALK of Write. THE WALK of Write, where it goes on. THE DISK's methods, each by one law, whatever the file, the power and the numbers. CONDITIONS: none of this text's own. -/
import Derived.Test.YtbcghggkfnagoaaGreatDoorQS19
import Derived.RangeFuncNested
import Derived.RangeFuncBound
import Derived.RangeFuncCalls
import Derived.RangeFuncLeaves
import Derived.RangeFuncBox
import Derived.Shelf.Abstract
import Derived.Shelf.RegionOpen
import Derived.WalkKit
import Derived.OwnWalkIn
import Derived.TacticsInMore
import Derived.LoopNIn
import Derived.LoopIn
import Derived.Sort.QuietTacIn
set_option linter.unusedVariables false
set_option linter.unusedSimpArgs false
namespace Go.Proofs.YtbcghggkfnagoaaGreatDoor
open Go Go.RowKit Go.Shelf Hach

attribute [local go_sem] Oper.semAt_some
def ChK (Bs Bn : Nat) (W W' : World) : Prop := (∀ v, W.cell? ⟨Bs, 0, none⟩ = some v → W'.cell? ⟨Bs, 0, none⟩ = some v) ∧ (∀ v, W.cell? ⟨Bn, 0, none⟩ = some v → W'.cell? ⟨Bn, 0, none⟩ = some v)
theorem ChK.t {Bs Bn : Nat} {A B C : World} (h : ChK Bs Bn A B) (k : ChK Bs Bn B C) : ChK Bs Bn A C := ⟨fun v hv => k.1 v (h.1 v hv), fun v hv => k.2 v (h.2 v hv)⟩
theorem ChK.refl (Bs Bn : Nat) (W : World) : ChK Bs Bn W W := ⟨fun _ h => h, fun _ h => h⟩
theorem finRange_succ {m k : Nat} (h : k < m) : (List.finRange m).take (k + 1) = (List.finRange m).take k ++ [⟨k, h⟩] := by
  rw [List.take_succ_eq_append_getElem (by rw [List.length_finRange]; exact h), List.getElem_finRange]; rfl
def chV (bb bp j : Nat) : Value := .slice (some ⟨bb, bp + j * 128, none⟩) 128 128
set_option maxRecDepth 100000 in
set_option maxHeartbeats 4000000 in
theorem chunk1_in (n : Nat) (hn : 1 ≤ n) (l Bs Bn bb bp m cap : Nat) (hm : Hid (m < 100000)) (hcap : Hid (m * 128 ≤ cap)) (J Jx : List (Fin m) → World → Prop)
    (hY : ∀ pre x W, J pre W → pre.length < m → YieldAt Fence.wide (n - 1) Tryz.prog l #[chV bb bp x.1] W fun e W' =>
      (e = .returned (.bool true) ∧ J (pre ++ [x]) W' ∧ ChK Bs Bn W W') ∨ (e = .returned (.bool false) ∧ Jx (pre ++ [x]) W'))
    (hJd : ∀ pre W q, J pre W → J pre (W.drewN q))
    (W : World) (hBs : W.cell? ⟨Bs, 0, none⟩ = some (.slice (some ⟨bb, bp, none⟩) (m * 128) cap)) (hBn : W.cell? ⟨Bn, 0, none⟩ = some (.int .i64 128)) (h0 : J [] W) :
    CallsIn Fence.wide n Tryz.prog 151 #[.func (.yield l) #[] #[], .pointer (some ⟨Bs, 0, none⟩), .pointer (some ⟨Bn, 0, none⟩)] W fun e W' => (∃ v, e = .returned v) ∧
      ((∃ ys, ys = List.finRange m ∧ J ys W') ∨ (∃ pre, True ∧ Jx pre W')) := by
  refine callsIn_of_wp Tryz.func151 rfl trivial ?_ rfl
  simp only [Tryz.ntmps151, List.size_toArray, List.length_cons, List.length_nil, Nat.reduceAdd, Nat.reduceSub, Array.replicate_succ, Array.replicate_zero, List.push_toArray, List.append_toArray, List.nil_append, List.cons_append]
  gi_wp2
  gi_loopw [4] (fun i wr => ∃ k : Nat, k ≤ m ∧ i = .int .i64 ((k * 128 : Nat) : Int) ∧ J ((List.finRange m).take k) wr ∧ ChK Bs Bn W wr)
    (fun i _ => m * 128 - (numV i).toNat)
  case atStart => exact ⟨0, Nat.zero_le _, rfl, by rw [List.take_zero]; exact h0, ChK.refl _ _ _⟩
  case round =>
    obtain ⟨k, hk, rfl, hJs, hnx⟩ := hrel
    have cs := hnx.1 _ hBs
    have cn := hnx.2 _ hBn
    obtain ⟨L, hL⟩ : ∃ L, m * 128 = L := ⟨_, rfl⟩
    obtain ⟨i, hi⟩ : ∃ i, k * 128 = i := ⟨_, rfl⟩
    have HL := hid hL
    have HI := hid hi
    rw [hL] at cs
    rw [hi]
    have hic : Hid (i ≤ L ∧ L ≤ cap) := hid ⟨by rw [← hL, ← hi]; omega, by rw [← hL]; exact hcap.out⟩
    by_cases hlt : i < L
    · have hmin : min (128 : Int) ((L - i : Nat) : Int) = 128 := by rw [← hL, ← hi] at hlt ⊢; omega
      have hca : ¬ cap = i := by have := hic.out; omega
      have hil : i ≤ L := by omega
      obtain ⟨e, hw1, he⟩ : ∃ e : Nat, wrap64 ((i : Int) + 128) = (e : Int) ∧ e = i + 128 := ⟨i + 128, by have h1 := hic.out; have h2 := hm.out; rw [← hL] at h1; unfold wrap64; omega, rfl⟩
      have he1 : e - i = 128 := by omega
      have he2 : (i : Int) ≤ (e : Int) := by omega
      have he3 : (e : Int) ≤ (cap : Int) := by have := hic.out; rw [← hL, ← hi] at hlt; rw [← hL, ← hi] at this; rw [he, ← hi]; omega
      have HE := hid he
      have HW := hid hw1
      clear he hL hi
      gi_wp2
      have HKM : Hid (k < m) := hid (by have h1 := HL.out; have h2 := HI.out; omega)
      gi_quiet_th (fail)
      obtain ⟨fn, tmps, assign, body, hy, hR⟩ := hY _ ⟨k, HKM.out⟩ (wr.drewN nq) (hJd _ _ _ hJs) (by rw [List.length_take, List.length_finRange]; have := HKM.out; omega)
      unfold chV at hy
      rw [HI.out] at hy
      have ds : (wr.drewN nq).cell? ⟨Bs, 0, none⟩ = some (.slice (some ⟨bb, bp, none⟩) L cap) := cs
      have dn : (wr.drewN nq).cell? ⟨Bn, 0, none⟩ = some (.int .i64 128) := cn
      clear cs cn
      gi_wp2
      refine hR.mono ?_
      clear hR hy
      rintro e W3 (⟨rfl, hJ3, hk3⟩ | ⟨rfl, hJx3⟩)
      · have cn3 := hk3.2 _ dn
        clear dn ds
        gi_wp2
        go_roundw
        case rel => exact ⟨k + 1, by have h1 := HL.out; have h2 := HI.out; omega, by refine congrArg (Value.int .i64) ?_; have h1 := HL.out; have h2 := HI.out; have h3 := HE.out; (first | rw [HW.out] | skip); omega, by rw [finRange_succ HKM.out]; exact hJ3, hnx.t hk3⟩
        case measure => have h1 := HL.out; have h3 := HE.out; (first | rw [HW.out] | skip); simp only [numV]; rw [h1]; omega
      · gi_wp2
        refine bodyPost_ret (results_none rfl _ _ _) rfl ?_
        exact ⟨⟨_, rfl⟩, .inr ⟨_, trivial, hJx3⟩⟩
    · gi_wp2
      go_end0
      obtain rfl : k = m := by have h1 := HL.out; have h2 := HI.out; omega
      exact ⟨⟨_, rfl⟩, .inl ⟨_, rfl, by rwa [List.take_of_length_le (by rw [List.length_finRange]; exact Nat.le_refl _)] at hJs⟩⟩
theorem chunk_calls (w : World) (A : Option Addr) (len cap : Nat) : Calls Tryz.prog 105 #[.slice A len cap, .int .i64 128] w fun e w' => e = .returned (.func (.func 151) #[] #[.pointer (some ⟨w.heap.size, 0, none⟩), .pointer (some ⟨w.heap.size + 1, 0, none⟩)]) ∧ w' = (w.alloc (.cells #[.slice A len cap] 64)).alloc (.cells #[.int .i64 128] 3) := by
  go_enter Tryz.func105, Tryz.ntmps105
  go_wp2
  go_ret
  exact ⟨rfl, rfl⟩
theorem chunk_stops (n : Nat) (hn : 1 ≤ n) (Bs Bn bb bp m cap : Nat) (hm : Hid (m < 100000)) (hcap : Hid (m * 128 ≤ cap)) (w : World) (hs : w.cell? ⟨Bs, 0, none⟩ = some (.slice (some ⟨bb, bp, none⟩) (m * 128) cap)) (hB : w.cell? ⟨Bn, 0, none⟩ = some (.int .i64 128)) :
    SeqStopsK Fence.wide n Tryz.prog 151 #[.pointer (some ⟨Bs, 0, none⟩), .pointer (some ⟨Bn, 0, none⟩)] (fun x : Fin m => #[chV bb bp x.1]) (ChK Bs Bn) (fun ys => ys = List.finRange m) (fun _ => True) m w := fun l J Jx W hW hJ _ hY h0 =>
  chunk1_in n hn l Bs Bn bb bp m cap hm hcap J Jx hY (fun pre W q h => hJ pre W (W.drewN q) none h ((Fr.refl (fun k => some k = none) W).drewN q).grownBy (fun r e => by cases e)) W
    ((hW.cell (p := ⟨Bs, 0, none⟩) (World.block_lt_of_cell? _ _ hs)).trans hs) ((hW.cell (p := ⟨Bn, 0, none⟩) (World.block_lt_of_cell? _ _ hB)).trans hB) h0
end Go.Proofs.YtbcghggkfnagoaaGreatDoor

namespace Go.Proofs.YtbcghggkfnagoaaGreatDoor
open Go Go.RowKit Go.Shelf Hach
attribute [local go_sem] Oper.semAt_some

def putsF (f : FileV) (i : Nat) : List Sec → FileV
  | [] => f
  | s :: r => putsF (putF f i s) (i + 1) r
theorem putsF_snoc (f : FileV) (i : Nat) (l : List Sec) (s : Sec) : putsF f i (l ++ [s]) = putF (putsF f i l) (i + l.length) s := by
  induction l generalizing f i with
  | nil => rfl
  | cons x l ih => show putsF (putF f i x) (i + 1) (l ++ [s]) = _; rw [ih, List.length_cons]; show putF _ (i + 1 + l.length) s = putF _ (i + (l.length + 1)) s; rw [show i + 1 + l.length = i + (l.length + 1) by omega]; rfl
theorem markF_len (f : FileV) (i : Nat) : (markF f i).now = f.now := by unfold markF; split <;> rfl
theorem putF_len {f : FileV} {i : Nat} (hi : i ≤ f.now.length) (s : Sec) : (putF f i s).now.length = max (i + 1) f.now.length := by
  unfold putF
  show (List.set _ _ _).length = _
  rw [List.length_set, markF_len]
  exact (growF_length hi).2
theorem putsF_len {f : FileV} {i : Nat} (hi : i ≤ f.now.length) (l : List Sec) : (putsF f i l).now.length = max (i + l.length) f.now.length := by
  induction l generalizing f i with
  | nil => show f.now.length = max (i + 0) f.now.length; omega
  | cons s l ih =>
    show (putsF (putF f i s) (i + 1) l).now.length = _
    rw [ih (by rw [putF_len hi]; omega), putF_len hi, List.length_cons]
    omega
theorem FileOk.puts {f : FileV} (h : FileOk f) {i : Nat} (hi : i ≤ f.now.length) {l : List Sec} (hl : Whole l) : FileOk (putsF f i l) := by
  induction l generalizing f i with
  | nil => exact h
  | cons s l ih => exact ih (h.put hi (hl s List.mem_cons_self)) (by rw [putF_len hi]; omega) hl.tail
theorem putF_sure (f : FileV) (i : Nat) (s : Sec) : (putF f i s).sure = f.sure := by
  unfold putF markF growF
  simp only
  split <;> split <;> rfl
theorem putsF_sure (f : FileV) (i : Nat) (l : List Sec) : (putsF f i l).sure = f.sure := by
  induction l generalizing f i with
  | nil => rfl
  | cons s l ih => show (putsF (putF f i s) (i + 1) l).sure = _; rw [ih, putF_sure]
def isFull (b : Bool) (a n : Nat) (D : DiskV) : Bool := decide (D.room - ((D.fl (!b)).now.length : Int) < (max (a + n) (D.fl b).now.length : Nat))
def jb : Bool → Nat | false => 1 | true => 0
theorem jb_off (b : Bool) : 1 + jb b * 3 = off (!b) ∧ jb b < 2 ∧ wrap64 (1 - idx b) = (jb b : Int) := by
  cases b
  · exact ⟨rfl, by decide, by show wrap64 ((1 : Int) - 0) = (1 : Int); unfold wrap64; rfl⟩
  · exact ⟨rfl, by decide, by show wrap64 ((1 : Int) - 1) = (0 : Int); unfold wrap64; rfl⟩
structure WBoxes (w : World) (d : Nat) (b : Bool) (a m cap bb bp bd bi ba bs bf : Nat) : Prop where
  bD : w.heap[bd]? = some (.cells #[.pointer (some ⟨d, 0, none⟩)] 40 (0, 0))
  bI : w.heap[bi]? = some (.cells #[.int .i64 (idx b)] 3 (0, 0))
  bA : w.heap[ba]? = some (.cells #[.int .i64 a] 3 (0, 0))
  bS : w.heap[bs]? = some (.cells #[.slice (some ⟨bb, bp, none⟩) (m * 128) cap] 64 (0, 0))
  bF : w.heap[bf]? = some (.cells #[.pointer (some ⟨d, off b, none⟩)] 156 (0, 0))
theorem box_cell {w : World} {b : Nat} {v : Value} {t : TypeId} (h : w.heap[b]? = some (.cells #[v] t (0, 0))) : w.cell? ⟨b, 0, none⟩ = some v := by rw [cell_of_row _ _ _ _ _ _ h]; rfl
theorem set_twice {cs : Array Value} {o : Nat} {u v : Value} : (cs.setIfInBounds o u).setIfInBounds o v = cs.setIfInBounds o v := by
  simp
def WrI (wL : World) (base d : Nat) (cs : Array Value) (o : Nat) (A : Option Addr) (c mm : Nat) (f : FileV) (a z : Nat) (pre : List Sec) (W : World) : Prop :=
  ∃ A' c', FileAt W base d (cs.setIfInBounds o (.slice A' (putsF f a pre).now.length c')) 87 o A' c' mm (putsF f a pre) ∧
    Fr (fun k => k = d ∨ k = mm ∨ (Value.slice A f.now.length c).ownBlock = some k ∨ k = z) wL W ∧
    ((Value.slice A' 0 0).ownBlock = (Value.slice A 0 0).ownBlock ∨ ∃ k, wL.heap.size ≤ k ∧ (Value.slice A' 0 0).ownBlock = some k) ∧
    W.heap[z]? = some (.cells #[.int .i64 ((a + pre.length : Nat) : Int)] 3 (0, 0))
theorem KeepsFrom.of_fr {B : Nat} {S : Nat → Prop} {W W' : World} (hf : Fr S W W') (hS : ∀ k, S k → k < B ∨ ∃ o : Obj, W.heap[k]? = some o ∧ o.isCells = true) : KeepsFrom B W W' :=
  ⟨hf.size, fun k o hB hk ho => by
    refine (hf.block k (Array.getElem?_eq_some_iff.1 hk).1 (fun hs => ?_)).trans hk
    rcases hS k hs with h | ⟨o', h1, h2⟩
    · omega
    · rw [hk] at h1; injection h1 with h1; rw [h1, h2] at ho; cases ho⟩
section
variable {wL W W3 : World} {base d o c mm a z : Nat} {cs : Array Value} {A : Option Addr} {f : FileV} {pre : List Sec}
theorem FileAt.cells {w : World} {t : TypeId} (h : FileAt w base d cs t o A c mm f) {n c' : Nat} : ∀ k, (Value.slice A n c').ownBlock = some k → ∃ ob : Obj, w.heap[k]? = some ob ∧ ob.isCells = true := by
  intro k hk
  have hk : (Value.slice A f.now.length c).ownBlock = some k := (ownBlock_len A _ _ _ _).trans hk
  rcases h.row.2 with ⟨hv, _⟩ | ⟨g, cap, cur, hv, _, hg, _⟩
  · rw [hv] at hk; cases hk
  · rw [hv] at hk
    obtain rfl : g = k := by simpa [Value.ownBlock] using hk
    exact ⟨_, hg, rfl⟩
theorem WrI.own (hd : d < wL.heap.size) (hm : mm < wL.heap.size) (hz : z < wL.heap.size) : OwnFrom wL.heap.size (WrI wL base d cs o A c mm f a z) := by
  intro pre W W' row hs hg hr
  obtain ⟨A', c', h1, h2, h3, h4⟩ := hs
  have hf := Fr.of_grown hg
  have hno : ∀ k, some k = row → k < wL.heap.size → False := fun k e hk => by have := (hr k e.symm).1; omega
  refine ⟨A', c', h1.keep hf (fun e => hno d e hd) (fun e => hno mm e hm) (fun k hk e => ?_), h2.trans hf (fun i hi e => (hno i e hi).elim), h3, (hf.block z (Array.getElem?_eq_some_iff.1 h4).1 (fun e => hno z e hz)).trans h4⟩
  obtain ⟨ob, h5, h6⟩ := h1.cells k hk
  obtain ⟨_, ob2, h7, h8⟩ := hr k e.symm
  rw [h5] at h7; injection h7 with h7; rw [h7, h8] at h6; cases h6
theorem WrI.step {i : Int} {f2 : FileV} (hI : WrI wL base d cs o A c mm f a z pre W) {A' : Option Addr} {c' : Nat} {s : Sec}
    (h1 : FileAt W base d (cs.setIfInBounds o (.slice A' (putsF f a pre).now.length c')) 87 o A' c' mm (putsF f a pre))
    (h2 : Fr (fun k => k = d ∨ k = mm ∨ (Value.slice A f.now.length c).ownBlock = some k ∨ k = z) wL W)
    (h3 : (Value.slice A' 0 0).ownBlock = (Value.slice A 0 0).ownBlock ∨ ∃ k, wL.heap.size ≤ k ∧ (Value.slice A' 0 0).ownBlock = some k)
    (h4 : W.heap[z]? = some (.cells #[.int .i64 ((a + pre.length : Nat) : Int)] 3 (0, 0)))
    (hp : PutRes W base d (cs.setIfInBounds o (.slice A' (putsF f a pre).now.length c')) 87 o A' c' mm (putsF f a pre) (putF (putsF f a pre) (a + pre.length) s) W3)
    (hzd : z ≠ d) (hzm : z ≠ mm) (hmm : mm < wL.heap.size) :
    W3.heap[z]? = some (.cells #[.int .i64 ((a + pre.length : Nat) : Int)] 3 (0, 0)) ∧
    (∀ i' : Int, i' = ((a + pre.length + 1 : Nat) : Int) → WrI wL base d cs o A c mm f a z (pre ++ [s]) (W3.setCell ⟨z, 0, none⟩ (.int .i64 i')) ∧ KeepsFrom wL.heap.size W (W3.setCell ⟨z, 0, none⟩ (.int .i64 i')) ∧
      ∀ q, q < wL.heap.size → ¬ (q = d ∨ q = mm ∨ (Value.slice A f.now.length c).ownBlock = some q ∨ q = z) → (W3.setCell ⟨z, 0, none⟩ (.int .i64 i')).heap[q]? = W.heap[q]?) := by
  obtain ⟨A3, c3, k1, _, k3, k4⟩ := hp
  have hzr : ∀ k, (Value.slice A' (putsF f a pre).now.length c').ownBlock = some k → z ≠ k := fun k hk e => by
    subst e
    exact row_blk h1.row h4 (by decide) z hk rfl
  have z3 := (k3.block z (Array.getElem?_eq_some_iff.1 h4).1 (by
    rintro (e | e | e)
    · exact hzd e
    · exact hzm e
    · exact hzr z e rfl)).trans h4
  refine ⟨z3, fun i' hi' => ?_⟩
  have hs : Fr (fun k => k = z) W3 (W3.setCell ⟨z, 0, none⟩ (.int .i64 i')) := (Fr.refl (fun k => k = z) W3).setCell (p := ⟨z, 0, none⟩) (fun _ => rfl) _
  have hrow : ∀ k, k < wL.heap.size → (Value.slice A' (putsF f a pre).now.length c').ownBlock = some k → (Value.slice A f.now.length c).ownBlock = some k := fun k hk e => by
    have e : (Value.slice A' 0 0).ownBlock = some k := (ownBlock_len A' _ _ _ _).trans e
    rcases h3 with h3 | ⟨k', h5, h6⟩
    · exact (ownBlock_len A _ _ _ _).trans (h3.symm.trans e)
    · have := Option.some.inj (e.symm.trans h6); omega
  have hz3 : ∀ k, (Value.slice A3 (putF (putsF f a pre) (a + pre.length) s).now.length c3).ownBlock = some k → ¬ k = z := fun k hk e => by
    subst e
    exact row_blk k1.row z3 (by decide) k hk rfl
  have kF := k1.keep hs (fun e => hzd e.symm) (fun e => hzm e.symm) hz3
  have FR : Fr (fun k => k = d ∨ k = mm ∨ (Value.slice A' (putsF f a pre).now.length c').ownBlock = some k ∨ k = z) W (W3.setCell ⟨z, 0, none⟩ (.int .i64 i')) :=
    (k3.mono (fun k e => by rcases e with e | e | e; exact .inl e; exact .inr (.inl e); exact .inr (.inr (.inl e)))).trans' (hs.mono (fun k e => .inr (.inr (.inr e))))
  refine ⟨⟨A3, c3, ?_, ?_, ?_, ?_⟩, ?_, ?_⟩
  · rw [putsF_snoc]
    rw [set_twice] at kF
    exact kF
  · refine h2.trans FR (fun k hk e => ?_)
    rcases e with e | e | e | e
    · exact .inl e
    · exact .inr (.inl e)
    · exact .inr (.inr (.inl (hrow k hk e)))
    · exact .inr (.inr (.inr e))
  · rcases k4 with e | ⟨k', h5, h6⟩
    · have e' : (Value.slice A3 0 0).ownBlock = (Value.slice A' 0 0).ownBlock := (ownBlock_len A3 _ _ _ _).trans (e.trans (ownBlock_len A' _ _ _ _))
      rw [e']; exact h3
    · exact .inr ⟨k', Nat.le_trans h2.size h5, (ownBlock_len A3 _ _ _ _).trans h6⟩
  · rw [heap_setCell_same W3 z 0 _ _ _ z3, List.length_append, hi']; rfl
  · refine KeepsFrom.of_fr FR (fun k e => ?_)
    rcases e with e | e | e | e
    · subst e; exact .inr ⟨_, h1.own, rfl⟩
    · subst e; exact .inl hmm
    · exact .inr (h1.cells k e)
    · subst e; exact .inr ⟨_, h4, rfl⟩
  · intro q hq hn
    exact FR.block q (Nat.lt_of_lt_of_le hq h2.size) (fun e => hn (by
      rcases e with e | e | e | e
      · exact .inl e
      · exact .inr (.inl e)
      · exact .inr (.inr (.inl (hrow q hq e)))
      · exact .inr (.inr (.inr e))))
end
theorem diskCs_row (p : DiskP) (D : DiskV) (b : Bool) (A : Option Addr) (c : Nat) (f : FileV) (hs : f.sure = (D.fl b).sure) : (diskCs p D).setIfInBounds (off b) (.slice A f.now.length c) = diskCs (p.setR b A c) (D.setF b f) := by
  cases b
  · have hs : f.sure = D.f0.sure := hs
    unfold diskCs DiskV.setF DiskP.setR; simp only [hs]; rfl
  · have hs : f.sure = D.f1.sure := hs
    unfold diskCs DiskV.setF DiskP.setR; simp only [hs]; rfl
theorem write1_ent (args : Array Value) (w : World) : (callFunc 172 args).run Tryz.prog w = .ok (.enter 172 args) w := by go_simp
set_option maxRecDepth 100000 in
set_option maxHeartbeats 4000000 in
theorem write1_in (w : World) (base d : Nat) (p : DiskP) (D : DiskV) (b : Bool) (a m cap bb bp bd bi ba bs bf : Nat) (ss : List Sec) (h : Hid (DiskAt w base d p D)) (hn : Hid (NumOk D)) (hb : Hid (WBoxes w d b a m cap bb bp bd bi ba bs bf)) (ha : Hid (a ≤ (D.fl b).now.length)) (hm : Hid (1 ≤ m ∧ m < 100000 ∧ m * 128 ≤ cap)) (hs : Hid (ss.length = m ∧ Whole ss ∧ ∀ j s, ss[j]? = some s → ByteAny w bb (bp + j * 128) s)) :
    CallsIn Fence.wide 20 Tryz.prog 172 #[.pointer (some ⟨bd, 0, none⟩), .pointer (some ⟨bi, 0, none⟩), .pointer (some ⟨ba, 0, none⟩), .pointer (some ⟨bs, 0, none⟩), .pointer (some ⟨bf, 0, none⟩)] w
      (StepF w (foot d p D) base d (if isFull b a m D then D else D.setF b (putsF (D.fl b) a ss)) (.int .i64 (if isFull b a m D then 3 else 0))) := by
  have F0 := h.out.fileB b
  have F1 := h.out.fileB (!b)
  have e0 := F0.cell0.1
  have e1 := F1.cell0.1
  have er := h.out.reads.1
  have bd0 := box_cell hb.out.bD
  have bi0 := box_cell hb.out.bI
  have ba0 := box_cell hb.out.bA
  have bs0 := box_cell hb.out.bS
  have bf0 := box_cell hb.out.bF
  obtain ⟨j1, j2, j3⟩ := jb_off b
  rw [← j1] at e1
  obtain ⟨o, hoo⟩ : ∃ o, off b = o := ⟨_, rfl⟩
  rw [hoo] at e0 bf0
  obtain ⟨L, hL⟩ : ∃ L, m * 128 = L := ⟨_, rfl⟩
  rw [hL] at bs0
  obtain ⟨len, hlen⟩ : ∃ z, (D.fl b).now.length = z := ⟨_, rfl⟩
  obtain ⟨len', hlen'⟩ : ∃ z, (D.fl (!b)).now.length = z := ⟨_, rfl⟩
  rw [hlen] at e0
  rw [hlen'] at e1
  have hq : (L : Int).tdiv 128 = (m : Int) := by rw [← hL]; exact congrArg Int.ofNat (Nat.mul_div_cancel m (by decide))
  have hj2 : ((jb b : Nat) : Int) < 2 := by omega
  have hsz : len + len' ≤ 32768 ∧ (len + len' : Int) ≤ D.room ∧ D.room ≤ 32768 := by
    have h1 := hn.out.size
    have h2 := h.out.room
    rw [← hlen, ← hlen']
    cases b
    · show D.f0.now.length + D.f1.now.length ≤ 32768 ∧ _
      refine ⟨by omega, h1, h2.2⟩
    · show D.f1.now.length + D.f0.now.length ≤ 32768 ∧ (D.f1.now.length + D.f0.now.length : Int) ≤ _ ∧ _
      refine ⟨by omega, by omega, h2.2⟩
  have haL : a ≤ len := by rw [← hlen]; exact ha.out
  obtain ⟨am, ham1, ham⟩ : ∃ z : Nat, wrap64 ((a : Int) + (m : Int)) = (z : Int) ∧ z = a + m := ⟨a + m, by have := hm.out; unfold wrap64; omega, rfl⟩
  obtain ⟨fr9, hfr1, hfr⟩ : ∃ z : Int, wrap64 (D.room - (len' : Int)) = z ∧ z = D.room - len' := ⟨D.room - len', by unfold wrap64; omega, rfl⟩
  have HJ := hid (And.intro j1 hj2)
  have HOO := hid hoo
  have HL := hid hL
  have HLEN := hid hlen
  have HLEN' := hid hlen'
  obtain ⟨room, hroom⟩ : ∃ z, D.room = z := ⟨_, rfl⟩
  have HROOM := hid hroom
  rw [hroom] at er hsz hfr1 hfr
  clear hroom
  have HSZ := hid hsz
  have HAM := hid ham
  have HFR := hid hfr
  obtain ⟨jj, hjj⟩ : ∃ z, jb b = z := ⟨_, rfl⟩
  rw [hjj] at e1 j3 hj2
  have hj2n : jj < 2 := by omega
  have j3' : IntKind.i64.wrap (1 - idx b) = (jj : Int) := (IntWalk.i64_left _).trans j3
  have ham1' : IntKind.i64.wrap ((a : Int) + (m : Int)) = (am : Int) := (IntWalk.i64_left _).trans ham1
  have hfr1' : IntKind.i64.wrap (room - (len' : Int)) = fr9 := (IntWalk.i64_left _).trans hfr1
  generalize idx b = ib at *
  clear F0 F1 j1 j2 hoo hL hlen hlen' hsz ham hfr hjj
  refine callsIn_of_wp_marks Tryz.func172 rfl trivial ?_ rfl
  simp only [Tryz.ntmps172, List.size_toArray, List.length_cons, List.length_nil, Nat.reduceAdd, Nat.reduceSub, Array.replicate_succ, Array.replicate_zero, List.push_toArray, List.append_toArray, List.nil_append, List.cons_append]
  obtain ⟨DN, hDN⟩ : ∃ X, (if isFull b a m D then D else D.setF b (putsF (D.fl b) a ss)) = X := ⟨_, rfl⟩
  obtain ⟨RN, hRN⟩ : ∃ X : Int, (if isFull b a m D then 3 else 0) = X := ⟨_, rfl⟩
  rw [hDN, hRN]
  have HDN := hid hDN
  have HRN := hid hRN
  clear hDN hRN
  have hmw : IntKind.i64.wrap (m : Int) = (m : Int) := by rw [IntWalk.i64_in _ (by have := hm.out; omega)]
  obtain ⟨mx, hmx, hmx2⟩ : ∃ z : Nat, max (am : Int) (len : Int) = (z : Int) ∧ z = max am len := ⟨max am len, by omega, rfl⟩
  have HMX := hid hmx2
  clear hmx2
  gi_wp2
  gi_quiet_th (fail)
  rename Nat => q0
  gi_wp2
  gi_quiet_th (fail)
  rename Nat => q1
  have UD : Hid (Up w ((w.drewN q0).drewN q1)) := hid (show Up w ((w.drewN q0).drewN q1) from ⟨rfl, rfl, rfl, Nat.le_refl _, fun _ _ => rfl⟩)
  generalize (w.drewN q0).drewN q1 = w2 at *
  have bs2 := UD.out.c bs0
  have ba2 := UD.out.c ba0
  have bf2 := UD.out.c bf0
  clear bd0 ba0 bf0 bs0 bi0 e0 e1 er j3 j3' ham1 ham1' hfr1 hfr1' hmw hq
  by_cases hful : fr9 < (mx : Int)
  · have FUL : isFull b a m D = true := by
      unfold isFull
      rw [HROOM.out, HLEN'.out, HLEN.out, ← HFR.out, ← HAM.out, ← HMX.out]
      exact decide_eq_true hful
    have RES : Hid (Goes w (foot d p D) base d DN w2) := hid (by
      have := HDN.out
      rw [if_pos FUL] at this
      rw [← this]
      exact Goes.up ⟨p, h.out, fun k hk => hk⟩ UD.out)
    have RN3 : Hid (3 = RN) := hid (by have := HRN.out; rwa [if_pos FUL] at this)
    clear FUL
    gi_wp2
    exact ⟨_, results_tmp rfl _ _ _, by rw [← RN3.out]; rfl, RES⟩
  · have UE := hid (upAlD (Up.refl w2) (.cells #[.int .i64 a] 3))
    have bs3 := UE.out.c bs2
    have BI := hid (heap_alloc_new w2 (.cells #[.int .i64 a] 3))
    gi_wp2_with (refine ⟨trivial, ?_⟩; gi_at_call 105; refine (callsIn_wide.2 (chunk_calls _ _ _ _)).mono ?_; rintro e w' ⟨rfl, rfl⟩)
    have UF : Up (w2.alloc (.cells #[.int .i64 a] 3)) ((w2.alloc (.cells #[.int .i64 a] 3)).alloc (.cells #[.slice (some ⟨bb, bp, none⟩) L cap] 64)) := upAlD (Up.refl _) _
    have UG : Up ((w2.alloc (.cells #[.int .i64 a] 3)).alloc (.cells #[.slice (some ⟨bb, bp, none⟩) L cap] 64)) (((w2.alloc (.cells #[.int .i64 a] 3)).alloc (.cells #[.slice (some ⟨bb, bp, none⟩) L cap] 64)).alloc (.cells #[.int .i64 128] 3)) := upAlD (Up.refl _) _
    have s1 : (w2.alloc (.cells #[.int .i64 a] 3)).heap.size = w2.heap.size + 1 := by simp
    have s2 : ((w2.alloc (.cells #[.int .i64 a] 3)).alloc (.cells #[.slice (some ⟨bb, bp, none⟩) L cap] 64)).heap.size = w2.heap.size + 1 + 1 := by simp
    have s3 : (((w2.alloc (.cells #[.int .i64 a] 3)).alloc (.cells #[.slice (some ⟨bb, bp, none⟩) L cap] 64)).alloc (.cells #[.int .i64 128] 3)).heap.size = w2.heap.size + 1 + 1 + 1 := by simp
    have BIL := (UG.block w2.heap.size (by omega)).trans ((UF.block w2.heap.size (by omega)).trans BI.out)
    have BSL0 := heap_alloc_new (w2.alloc (.cells #[.int .i64 a] 3)) (.cells #[.slice (some ⟨bb, bp, none⟩) L cap] 64)
    rw [s1] at BSL0
    have BSL := (UG.block (w2.heap.size + 1) (by omega)).trans BSL0
    clear BSL0
    have BNL := heap_alloc_new ((w2.alloc (.cells #[.int .i64 a] 3)).alloc (.cells #[.slice (some ⟨bb, bp, none⟩) L cap] 64)) (.cells #[.int .i64 128] 3)
    rw [s2] at BNL
    have UL : Up w (((w2.alloc (.cells #[.int .i64 a] 3)).alloc (.cells #[.slice (some ⟨bb, bp, none⟩) L cap] 64)).alloc (.cells #[.int .i64 128] 3)) := UD.out.t (UE.out.t (UF.t UG))
    have hwz := UD.out.size
    generalize ((w2.alloc (.cells #[.int .i64 a] 3)).alloc (.cells #[.slice (some ⟨bb, bp, none⟩) L cap] 64)).alloc (.cells #[.int .i64 128] 3) = wL at *
    generalize w2.heap.size = z at *
    clear UF UG s1 s2 bs3 BI UE UD
    have F0 := (h.out.up UL).fileB b
    rw [HOO.out] at F0
    have hdl := (Array.getElem?_eq_some_iff.1 F0.own).1
    have hdw := (Array.getElem?_eq_some_iff.1 h.out.own).1
    have hmw := (h.out.fileB b).map.lt
    have hbf0 : wL.heap[bf]? = some (.cells #[.pointer (some ⟨d, o, none⟩)] 156 (0, 0)) := by
      have := (UL.block bf (Array.getElem?_eq_some_iff.1 hb.out.bF).1).trans hb.out.bF
      rw [HOO.out] at this; exact this
    have hbfw := (Array.getElem?_eq_some_iff.1 hb.out.bF).1
    have nbf : ¬ (bf = d ∨ bf = p.mm b ∨ (Value.slice (p.rA b) (D.fl b).now.length (p.rc b)).ownBlock = some bf ∨ bf = z) := by
      rintro (e | e | e | e)
      · subst e
        have h2 := F0.own; rw [h2] at hbf0; injection hbf0 with hbf0; injection hbf0 with _ hbf0 _; revert hbf0; decide
      · subst e
        obtain ⟨es, clock, h2⟩ := F0.map.isMap
        rw [hbf0] at h2; cases h2
      · exact row_blk F0.row hbf0 (by decide) bf e rfl
      · omega
    have hzd : z ≠ d := by omega
    have hzm : z ≠ p.mm b := by omega
    have KB : ∀ (W : World) (l : Nat) (o9 o9' : Obj), wL.heap.size ≤ l → W.heap[l]? = some o9 → o9.isCells = false → o9.isWalk = false → ChK (z + 1) (z + 1 + 1) W (W.putObj l o9') := fun W l o9 o9' hl _ _ _ =>
      ⟨fun v hv => (grownBy_putObj' W l o9').cell hv (fun e => by have := Option.some.inj e; simp only at this; omega), fun v hv => (grownBy_putObj' W l o9').cell hv (fun e => by have := Option.some.inj e; simp only at this; omega)⟩
    have I0 : WrI wL base d (diskCs p D) o (p.rA b) (p.rc b) (p.mm b) (D.fl b) a z [] wL :=
      ⟨p.rA b, p.rc b, by show FileAt wL base d ((diskCs p D).setIfInBounds o (.slice (p.rA b) (D.fl b).now.length (p.rc b))) _ _ _ _ _ _; rw [set_same F0.c0]; exact F0, Fr.refl _ _, .inl rfl, BIL⟩
    have HSEQ := chunk_stops 19 (by decide) (z + 1) (z + 1 + 1) bb bp m cap (hid hm.out.2.1) (hid hm.out.2.2) wL (by rw [HL.out]; exact box_cell BSL) (box_cell BNL)
    have hmz : p.mm b < wL.heap.size := by omega
    have hzz : z < wL.heap.size := by omega
    refine wpIn_rangeFunc_ownG rfl (by decide) (gf := 151) (lb := #[.pointer (some ⟨z + 1, 0, none⟩), .pointer (some ⟨z + 1 + 1, 0, none⟩)]) rfl trivial (enters_of Tryz.func151 (by kernel_rfl) rfl)
      HSEQ (fun h k => h.t k) KB (Below.refl _ _) (fun _ => rfl)
      (fun pre W => WrI wL base d (diskCs p D) o (p.rA b) (p.rc b) (p.mm b) (D.fl b) a z (pre.map fun x : Fin m => ss[x.1]?.getD zeroS) W) (fun _ _ _ => False)
      (fun s W W' row hs hg hr => WrI.own hdl hmz hzz _ W W' row hs hg hr) (fun _ _ _ _ _ hs _ _ => hs) I0
      (fun x => { tmps := #[Value.pointer (some { block := bd, off := 0 }), Value.pointer (some { block := bi, off := 0 }),
          Value.pointer (some { block := ba, off := 0 }), Value.pointer (some { block := bs, off := 0 }),
          Value.pointer (some { block := bf, off := 0 }), Value.int IntKind.i64 0, Value.int IntKind.i64 len',
          Value.pointer (some { block := z, off := 0 }), chV bb bp x.1,
          Value.pointer (some { block := d, off := 0 }), Value.int IntKind.i64 ib, Value.int IntKind.i64 jj,
          Value.pointer (some { block := d, off := 0 }), Value.pointer (some { block := d, off := 1 }),
          Value.pointer (some { block := d, off := 1 + jj * 3 }),
          Value.pointer (some { block := d, off := 1 + jj * 3 }), Value.slice (p.rA !b) len' (p.rc !b),
          Value.int IntKind.i64 len', Value.int IntKind.i64 a, Value.slice (some { block := bb, off := bp }) L cap,
          Value.int IntKind.i64 L, Value.int IntKind.i64 m, Value.int IntKind.i64 am,
          Value.pointer (some { block := d, off := o }), Value.pointer (some { block := d, off := o }),
          Value.pointer (some { block := d, off := o }), Value.slice (p.rA b) len (p.rc b), Value.int IntKind.i64 len,
          Value.int IntKind.i64 mx, Value.pointer (some { block := d, off := 0 }),
          Value.pointer (some { block := d, off := 0 }), Value.pointer (some { block := d, off := 0 }),
          Value.int IntKind.i64 room, Value.int IntKind.i64 len', Value.int IntKind.i64 fr9,
          Value.bool (decide (fr9 < mx)), Value.int IntKind.i64 a,
          Value.slice (some { block := bb, off := bp }) L cap,
          Value.func (Fn.func 151) #[]
            #[Value.pointer (some { block := z + 1, off := 0 }),
              Value.pointer (some { block := z + 1 + 1, off := 0 })],
          chV bb bp x.1, undef, undef, undef, undef, undef, undef], defers := [] }) ?assign ?body ?done ?stop
    case assign =>
      intro l x W K hK
      gi_wp2
      exact hK
    case body =>
      rintro l pre x W hI hlt
      obtain ⟨A', c', h1, h2, h3, h4⟩ := hI
      rw [List.length_map] at h4
      have hbW : W.cell? ⟨bf, 0, none⟩ = some (.pointer (some ⟨d, o, none⟩)) := box_cell ((h2.block bf (by omega) nbf).trans hbf0)
      have hzW := box_cell h4
      have fzW : W.frozen? ⟨z, 0, none⟩ = false := by unfold World.frozen?; rw [show (⟨z, 0, none⟩ : Addr).block = z from rfl, h4]; simp
      have hx : x.1 < ss.length := by rw [hs.out.1]; exact x.2
      have hpl : (pre.map fun x : Fin m => ss[x.1]?.getD zeroS).length = pre.length := List.length_map _
      have hPL := hid hpl
      have hWH : Whole (pre.map fun x : Fin m => ss[x.1]?.getD zeroS) := fun s9 hs9 => by
        obtain ⟨y, _, rfl⟩ := List.mem_map.1 hs9
        have hy : y.1 < ss.length := by rw [hs.out.1]; exact y.2
        rw [List.getElem?_eq_getElem hy]
        exact hs.out.2.1 _ (List.getElem_mem hy)
      obtain ⟨PR, hPR⟩ : ∃ P, (pre.map fun x : Fin m => ss[x.1]?.getD zeroS) = P := ⟨_, rfl⟩
      rw [hPR] at h1 hpl hWH
      have HPR := hid hPR
      have OKP := hid ((h.out.okB b).puts ha.out hWH)
      have LENP := putsF_len ha.out PR
      rw [hpl] at LENP
      obtain ⟨s, hs9⟩ : ∃ s, ss[x.1]?.getD zeroS = s := ⟨_, rfl⟩
      have HS9 := hid hs9
      have hsx : ss[x.1]? = some s := by rw [List.getElem?_eq_getElem hx] at hs9 ⊢; exact congrArg some hs9
      have hs8 : s.length = 128 := hs.out.2.1 s (List.mem_of_getElem? hsx)
      have BR := hs.out.2.2 x.1 s hsx
      have BRL := BR.up UL
      have nbb : ¬ (bb = d ∨ bb = p.mm b ∨ (Value.slice (p.rA b) (D.fl b).now.length (p.rc b)).ownBlock = some bb ∨ bb = z) := by
        have := BRL.ne F0
        have h9 := BR.lt
        rintro (e | e | e | e)
        · exact this.1 e
        · exact this.2.1 e
        · exact this.2.2 e
        · omega
      have PC := dput_calls W base d ((diskCs p D).setIfInBounds o (.slice A' (putsF (D.fl b) a PR).now.length c')) 87 o A' c' (p.mm b) (putsF (D.fl b) a PR) (a + pre.length) s bb (bp + x.1 * 128) 128 (hid h1) OKP (hid (by
        have h5 := OKP.out.olds
        have h6 := HSZ.out
        have h7 := hm.out
        have h8 := HLEN.out
        omega)) (hid hs8) (hid (BRL.fr h2 nbb))
      obtain ⟨i9, hi9⟩ : ∃ i9, a + pre.length = i9 := ⟨_, rfl⟩
      have HI9 := hid hi9
      rw [hi9] at PC h4 hzW
      have STEP := fun (W3 : World) hp => WrI.step (i := 0) (f2 := D.fl b) (s := s) ⟨A', c', h1, h2, h3, by rw [hpl, hi9]; exact h4⟩ h1 h2 h3 (by rw [hpl, hi9]; exact h4) (W3 := W3) hp hzd hzm hmz
      rw [hpl, hi9] at STEP
      have STEP := hid STEP
      have PC := hid PC
      clear h1 h2 h3 h4 hx hpl hWH hPR OKP LENP hs9 hsx hs8 BR BRL nbb hi9
      unfold chV
      have fzb : ∀ (W9 : World) (v9 : Value), W9.heap[z]? = some (.cells #[v9] 3 (0, 0)) → W9.frozen? ⟨z, 0, none⟩ = false := fun W9 v9 h9 => by unfold World.frozen?; rw [show (⟨z, 0, none⟩ : Addr).block = z from rfl, h9]; simp
      have fzb := hid fzb
      clear fzW
      gi_wp2_with (refine ⟨trivial, ?_⟩; gi_at_call 173; refine (CallsIn.inRound l (callsIn_wide.2 PC.out)).mono ?_; rintro e W3 ⟨rfl, hp⟩; obtain ⟨z3, ST⟩ := STEP.out W3 hp.out; have zc := box_cell z3; have zf := fzb.out W3 _ z3; have ST := hid ST; clear STEP z3 hzW hp)
      obtain ⟨q1, q2, q3⟩ := ST.out (wrap64 ((i9 : Int) + 1)) (by have h5 := HI9.out; have h6 := hm.out; have h7 := HLEN.out; have h8 := HSZ.out; unfold wrap64; omega)
      refine ⟨q2, ⟨fun v hv => ?_, fun v hv => ?_⟩, by show WrI wL base d (diskCs p D) o (p.rA b) (p.rc b) (p.mm b) (D.fl b) a z (List.map (fun x : Fin m => ss[x.1]?.getD zeroS) (pre ++ [x])) _; rw [List.map_append, HPR.out, List.map_cons, List.map_nil, HS9.out]; exact q1⟩
      · exact (World.cell?_of_block (q3 (z + 1) (by omega) (by
          rintro (e | e | e | e)
          · omega
          · omega
          · have := (own_block (h.out.fileB b).row _ e).2; omega
          · omega))).trans hv
      · exact (World.cell?_of_block (q3 (z + 1 + 1) (by omega) (by
          rintro (e | e | e | e)
          · omega
          · omega
          · have := (own_block (h.out.fileB b).row _ e).2; omega
          · omega))).trans hv
    case done =>
      rintro D9 ys W hD rfl hI hK
      have hI2 := WrI.own (a := a) (cs := diskCs p D) (base := base) (o := o) (A := p.rA b) (c := p.rc b) (f := D.fl b) hdl hmz hzz _ W (W.putObj D9 (.deferred none)) (some D9) hI (grownBy_putObj' W D9 _) (fun r e => by cases e; exact ⟨hD, _, hK, rfl⟩)
      have hmap : ((List.finRange m).map fun x : Fin m => ss[x.1]?.getD zeroS) = ss := by
        refine List.ext_getElem (by rw [List.length_map, List.length_finRange, hs.out.1]) (fun i h1 h2 => ?_)
        rw [List.getElem_map, List.getElem_finRange]
        show ss[i]?.getD zeroS = ss[i]
        rw [List.getElem?_eq_getElem h2]; rfl
      rw [hmap] at hI2
      have RES : Hid (Goes w (foot d p D) base d DN (W.putObj D9 (.deferred none))) := by
        have NF : ¬ isFull b a m D = true := by
          unfold isFull
          rw [HROOM.out, HLEN'.out, HLEN.out, ← HFR.out, ← HAM.out, ← HMX.out]
          intro e
          have e := of_decide_eq_true e
          omega
        have e9 := HDN.out
        rw [if_neg NF] at e9
        obtain ⟨A', c', k1, k2, k3, _⟩ := hI2
        have hok := (h.out.okB b).puts ha.out hs.out.2.1
        rw [← e9]
        refine hid (h.out.goes (b := b) (by rw [HOO.out]; exact k1) (by rw [← HOO.out]; exact diskCs_row p D b A' c' _ (putsF_sure _ _ _)) ?_ ?_ hok)
        · exact ((Fr.of_below UL).mono (fun _ e => e.elim)).trans k2 (fun i hi e => by
            rcases e with e | e | e | e
            · exact .inl e
            · exact .inr (.inl e)
            · exact .inr (.inr e)
            · omega)
        · rcases k3 with e | ⟨k, h5, h6⟩
          · exact .inl ((ownBlock_len A' _ _ _ _).trans (e.trans (ownBlock_len (p.rA b) _ _ _ _)))
          · exact .inr (.inr ⟨k, by have := UL.size; omega, (ownBlock_len A' _ _ _ _).trans h6⟩)
      have RN0 : Hid (0 = RN) := hid (by
        have NF : ¬ isFull b a m D = true := by
          unfold isFull
          rw [HROOM.out, HLEN'.out, HLEN.out, ← HFR.out, ← HAM.out, ← HMX.out]
          intro e
          have e := of_decide_eq_true e
          omega
        have := HRN.out
        rwa [if_neg NF] at this)
      clear hI hI2 hmap
      gi_wp2
      refine ⟨by simp, .inl ⟨_, _, rfl, run_takeDeferred hK, ?_⟩⟩
      exact ⟨_, results_tmp rfl _ _ _, by rw [← RN0.out]; rfl, RES⟩
    case stop =>
      rintro D9 c9 pre W _ _ h9 _
      exact h9.elim
theorem write1_calls (w : World) (base d : Nat) (p : DiskP) (D : DiskV) (b : Bool) (a m cap bb bp bd bi ba bs bf : Nat) (ss : List Sec) (h : Hid (DiskAt w base d p D)) (hn : Hid (NumOk D)) (hb : Hid (WBoxes w d b a m cap bb bp bd bi ba bs bf)) (ha : Hid (a ≤ (D.fl b).now.length)) (hm : Hid (1 ≤ m ∧ m < 100000 ∧ m * 128 ≤ cap)) (hs : Hid (ss.length = m ∧ Whole ss ∧ ∀ j s, ss[j]? = some s → ByteAny w bb (bp + j * 128) s)) :
    Calls Tryz.prog 172 #[.pointer (some ⟨bd, 0, none⟩), .pointer (some ⟨bi, 0, none⟩), .pointer (some ⟨ba, 0, none⟩), .pointer (some ⟨bs, 0, none⟩), .pointer (some ⟨bf, 0, none⟩)] w
      (StepF w (foot d p D) base d (if isFull b a m D then D else D.setF b (putsF (D.fl b) a ss)) (.int .i64 (if isFull b a m D then 3 else 0))) :=
  (callsIn_wide (n := 20)).1 (write1_in w base d p D b a m cap bb bp bd bi ba bs bf ss h hn hb ha hm hs)
end Go.Proofs.YtbcghggkfnagoaaGreatDoor

namespace Go.Proofs.YtbcghggkfnagoaaGreatDoor
open Go Go.RowKit Go.Maps Hach

def wb1 (w : World) (d : Nat) : World := w.alloc (.cells #[.pointer (some ⟨d, 0, none⟩)] 40)
def wb2 (w : World) (d : Nat) (i : Int) : World := (wb1 w d).alloc (.cells #[.int .i64 i] 3)
def wb3 (w : World) (d : Nat) (i a : Int) : World := (wb2 w d i).alloc (.cells #[.int .i64 a] 3)
def wb4 (w : World) (d : Nat) (i a : Int) (v : Value) : World := (wb3 w d i a).alloc (.cells #[v] 64)
def wb5 (w : World) (d : Nat) (i a : Int) (v f : Value) : World := (wb4 w d i a v).alloc (.cells #[f] 156)
section
variable (w : World) (d : Nat) (i a : Int) (v f : Value)
theorem wb_sizes : (wb1 w d).heap.size = w.heap.size + 1 ∧ (wb2 w d i).heap.size = w.heap.size + 1 + 1 ∧ (wb3 w d i a).heap.size = w.heap.size + 1 + 1 + 1 ∧ (wb4 w d i a v).heap.size = w.heap.size + 1 + 1 + 1 + 1 ∧ (wb5 w d i a v f).heap.size = w.heap.size + 1 + 1 + 1 + 1 + 1 := by
  unfold wb5 wb4 wb3 wb2 wb1
  simp
theorem wb_up4 : Up w (wb4 w d i a v) := by
  have u1 : Up w (wb1 w d) := upAlD (Up.refl w) _
  have u2 : Up (wb1 w d) (wb2 w d i) := upAlD (Up.refl _) _
  have u3 : Up (wb2 w d i) (wb3 w d i a) := upAlD (Up.refl _) _
  have u4 : Up (wb3 w d i a) (wb4 w d i a v) := upAlD (Up.refl _) _
  exact ((u1.t u2).t u3).t u4
theorem wb_up5 : Up w (wb5 w d i a v f) := (wb_up4 w d i a v).t (upAlD (Up.refl _) _)
theorem wb_boxes : (wb5 w d i a v f).heap[w.heap.size]? = some (.cells #[.pointer (some ⟨d, 0, none⟩)] 40 (0, 0)) ∧ (wb5 w d i a v f).heap[w.heap.size + 1]? = some (.cells #[.int .i64 i] 3 (0, 0)) ∧
    (wb5 w d i a v f).heap[w.heap.size + 1 + 1]? = some (.cells #[.int .i64 a] 3 (0, 0)) ∧ (wb5 w d i a v f).heap[w.heap.size + 1 + 1 + 1]? = some (.cells #[v] 64 (0, 0)) ∧ (wb5 w d i a v f).heap[w.heap.size + 1 + 1 + 1 + 1]? = some (.cells #[f] 156 (0, 0)) := by
  obtain ⟨s1, s2, s3, s4, s5⟩ := wb_sizes w d i a v f
  have u2 : Up (wb1 w d) (wb2 w d i) := upAlD (Up.refl _) _
  have u3 : Up (wb2 w d i) (wb3 w d i a) := upAlD (Up.refl _) _
  have u4 : Up (wb3 w d i a) (wb4 w d i a v) := upAlD (Up.refl _) _
  have u5 : Up (wb4 w d i a v) (wb5 w d i a v f) := upAlD (Up.refl _) _
  have k1 : (wb1 w d).heap[w.heap.size]? = _ := heap_alloc_new w _
  have k2 : (wb2 w d i).heap[(wb1 w d).heap.size]? = _ := heap_alloc_new _ _
  have k3 : (wb3 w d i a).heap[(wb2 w d i).heap.size]? = _ := heap_alloc_new _ _
  have k4 : (wb4 w d i a v).heap[(wb3 w d i a).heap.size]? = _ := heap_alloc_new _ _
  have k5 : (wb5 w d i a v f).heap[(wb4 w d i a v).heap.size]? = _ := heap_alloc_new _ _
  rw [s1] at k2; rw [s2] at k3; rw [s3] at k4; rw [s4] at k5
  refine ⟨?_, ?_, ?_, ?_, k5⟩
  · exact (u5.block _ (by omega)).trans ((u4.block _ (by omega)).trans ((u3.block _ (by omega)).trans ((u2.block _ (by omega)).trans k1)))
  · exact (u5.block _ (by omega)).trans ((u4.block _ (by omega)).trans ((u3.block _ (by omega)).trans k2))
  · exact (u5.block _ (by omega)).trans ((u4.block _ (by omega)).trans k3)
  · exact (u5.block _ (by omega)).trans k4
end
set_option maxRecDepth 100000 in
set_option maxHeartbeats 2000000 in
theorem writeE_calls (w : World) (d : Nat) (i a : Int) (A : Option Addr) (n cap : Nat) (e : Int) (he : ¬ e = 0) (CF : Calls Tryz.prog 161 #[.pointer (some ⟨d, 0, none⟩), .int .i64 i] (wb4 w d i a (.slice A n cap)) fun en w' => en = .returned (.tuple #[.pointer none, .int .i64 e]) ∧ w' = wb4 w d i a (.slice A n cap)) :
    Calls Tryz.prog 139 #[.pointer (some ⟨d, 0, none⟩), .int .i64 i, .int .i64 a, .slice A n cap] w (fun en w' => en = .returned (.int .i64 e) ∧ Hid (Up w w')) := by
  have UU := hid (wb_up5 w d i a (.slice A n cap) (.pointer none))
  obtain ⟨b1, b2, b3, b4, b5⟩ := wb_boxes w d i a (.slice A n cap) (.pointer none)
  have c1 := (upAlD (Up.refl _) _ : Up (wb4 w d i a (.slice A n cap)) (wb5 w d i a (.slice A n cap) (.pointer none)))
  unfold wb4 wb3 wb2 wb1 at CF
  unfold wb5 wb4 wb3 wb2 wb1 at UU
  clear b1 b2 b3 b4 b5 c1
  go_enter Tryz.func139, Tryz.ntmps139
  go_wp2_with (go_at_call 161; refine CF.mono ?_; rintro e w' ⟨rfl, rfl⟩)
  go_ret
  exact ⟨rfl, UU⟩
set_option maxRecDepth 100000 in
set_option maxHeartbeats 2000000 in
theorem writeR_calls (w : World) (base d : Nat) (p : DiskP) (D : DiskV) (b : Bool) (a : Int) (A : Option Addr) (n cap : Nat) (h : Hid (DiskAt w base d p D)) (ho : Hid (D.on = true)) (hn : Hid (n < 100000000)) (r : Int)
    (hr : Hid ((a < 0 ∨ ((D.fl b).now.length : Int) < a) ∧ r = 11 ∨ ((0 ≤ a ∧ a ≤ ((D.fl b).now.length : Int)) ∧ n = 0 ∧ r = 2))) :
    Calls Tryz.prog 139 #[.pointer (some ⟨d, 0, none⟩), .int .i64 (idx b), .int .i64 a, .slice A n cap] w (fun en w' => en = .returned (.int .i64 r) ∧ Hid (Up w w')) := by
  obtain ⟨o, hoo⟩ : ∃ o, off b = o := ⟨_, rfl⟩
  have CF := fileB_calls (wb4 w d (idx b) a (.slice A n cap)) base d D b (hid ⟨p, h.out.up (wb_up4 w d (idx b) a (.slice A n cap))⟩) ho.out
  rw [hoo] at CF
  have F0 := (h.out.up (wb_up5 w d (idx b) a (.slice A n cap) (.pointer (some ⟨d, o, none⟩)))).fileB b
  rw [hoo] at F0
  have e0 := F0.cell0.1
  obtain ⟨len, hlen⟩ : ∃ z, (D.fl b).now.length = z := ⟨_, rfl⟩
  rw [hlen] at e0
  have HLEN := hid hlen
  obtain ⟨b1, b2, b3, b4, b5⟩ := wb_boxes w d (idx b) a (.slice A n cap) (.pointer (some ⟨d, o, none⟩))
  have a3 := box_cell b3
  have a4 := box_cell b4
  have a5 := box_cell b5
  have UU := hid (wb_up5 w d (idx b) a (.slice A n cap) (.pointer (some ⟨d, o, none⟩)))
  clear b1 b2 b3 b4 b5 F0 hoo hlen
  generalize idx b = ib at *
  have CF' := CF
  clear CF
  unfold wb4 wb3 wb2 wb1 at CF'
  have E0 := hid e0
  have A3 := hid a3
  have A4 := hid a4
  have A5 := hid a5
  clear e0 a3 a4 a5
  go_enter Tryz.func139, Tryz.ntmps139
  go_wp2_with (go_at_call 161; refine CF'.mono ?_; rintro e w' ⟨rfl, rfl⟩)
  clear CF'
  change Code.wp Tryz.prog _ _ _ (wb5 w d ib a (.slice A n cap) (.pointer (some ⟨d, o, none⟩)))
  have e0 := E0.out
  have a3 := A3.out
  have a4 := A4.out
  have a5 := A5.out
  generalize wb5 w d ib a (.slice A n cap) (.pointer (some ⟨d, o, none⟩)) = w5 at *
  generalize w.heap.size = z at *
  have e0' : w5.drew.cell? ⟨d, o, none⟩ = _ := e0
  have a3' : w5.drew.cell? ⟨z + 1 + 1, 0, none⟩ = _ := a3
  have a4' : w5.drew.cell? ⟨z + 1 + 1 + 1, 0, none⟩ = _ := a4
  have a5' : w5.drew.cell? ⟨z + 1 + 1 + 1 + 1, 0, none⟩ = _ := a5
  clear E0 A3 A4 A5
  have UF := hid (UU.out.t (Up.drew _))
  rcases hr.out with ⟨h1 | h1, rfl⟩ | ⟨⟨h1, h2⟩, rfl, rfl⟩
  · have t0 : a < 0 := h1
    go_region
    all_goals
      go_wp2
      go_ret
      exact ⟨rfl, UF⟩
  · rw [HLEN.out] at h1
    have t0 : ¬ a < 0 := by omega
    have t1 : (len : Int) < a := h1
    go_region
    all_goals
      go_wp2
      go_ret
      exact ⟨rfl, UF⟩
  · rw [HLEN.out] at h2
    have t0 : ¬ a < 0 := by omega
    have t1 : ¬ (len : Int) < a := by omega
    go_region
    all_goals
      go_wp2
      go_ret
      exact ⟨rfl, UF⟩
end Go.Proofs.YtbcghggkfnagoaaGreatDoor

namespace Go.Proofs.YtbcghggkfnagoaaGreatDoor
open Go Go.RowKit Go.Maps Hach

def writeV (b : Bool) (a : Nat) (ss : List Sec) (D : DiskV) : DiskV := if isFull b a ss.length D then D else D.setF b (putsF (D.fl b) a ss)
theorem tick_fl' (D : DiskV) (b : Bool) : ((tick D).fl b).now.length = (D.fl b).now.length := by rw [tick_fl]
theorem numTick {D : DiskV} (h : NumOk D) (hb : D.ops + 1 < 1000000000) : NumOk (tick D) :=
  ⟨⟨by show 0 ≤ D.ops + 1; have := h.ops; omega, hb⟩, by
    show 0 ≤ (if 0 < D.armed then D.armed - 1 else D.armed) ∧ (if 0 < D.armed then D.armed - 1 else D.armed) < 1000000000
    have := h.armed
    split <;> omega, h.size⟩
set_option maxRecDepth 100000 in
set_option maxHeartbeats 2000000 in
theorem writeO_calls (w : World) (base d : Nat) (p : DiskP) (D : DiskV) (b : Bool) (a m bb bp cap : Nat) (ss : List Sec) (h : Hid (DiskAt w base d p D)) (ho : Hid (D.on = true)) (hn : Hid (NumOk D ∧ D.ops + 1 < 1000000000)) (hkl : Hid (D.keep.length < 1000000)) (ha : Hid (a ≤ (D.fl b).now.length)) (hm : Hid (1 ≤ m ∧ m < 100000 ∧ m * 128 ≤ cap))
    (hs : Hid (ss.length = m ∧ Whole ss ∧ ∀ j s, ss[j]? = some s → ByteAny w bb (bp + j * 128) s)) :
    Calls Tryz.prog 139 #[.pointer (some ⟨d, 0, none⟩), .int .i64 (idx b), .int .i64 a, .slice (some ⟨bb, bp, none⟩) (m * 128) cap] w (StepF w (foot d p D) base d (opV D (writeV b a ss (tick D))) (.int .i64 (opR D (if isFull b a m (tick D) then 3 else 0)))) := by
  obtain ⟨o, hoo⟩ : ∃ o, off b = o := ⟨_, rfl⟩
  have CF := fileB_calls (wb4 w d (idx b) a (.slice (some ⟨bb, bp, none⟩) (m * 128) cap)) base d D b (hid ⟨p, h.out.up (wb_up4 w d (idx b) a (.slice (some ⟨bb, bp, none⟩) (m * 128) cap))⟩) ho.out
  rw [hoo] at CF
  have UC := (wb_up5 w d (idx b) a (.slice (some ⟨bb, bp, none⟩) (m * 128) cap) (.pointer (some ⟨d, o, none⟩))).t (Up.drew _)
  have F0 := (h.out.up UC).fileB b
  rw [hoo] at F0
  have e0 := F0.cell0.1
  obtain ⟨len, hlen⟩ : ∃ z, (D.fl b).now.length = z := ⟨_, rfl⟩
  rw [hlen] at e0
  obtain ⟨s1, s2, s3, s4, s5⟩ := wb_sizes w d (idx b) a (.slice (some ⟨bb, bp, none⟩) (m * 128) cap) (.pointer (some ⟨d, o, none⟩))
  obtain ⟨b1, b2, b3, b4, b5⟩ := wb_boxes w d (idx b) a (.slice (some ⟨bb, bp, none⟩) (m * 128) cap) (.pointer (some ⟨d, o, none⟩))
  have a1 := box_cell b1
  have a3 := box_cell b3
  have a4 := box_cell b4
  have a5 := box_cell b5
  have hdw := (Array.getElem?_eq_some_iff.1 h.out.own).1
  have OP := op_calls (wb5 w d (idx b) a (.slice (some ⟨bb, bp, none⟩) (m * 128) cap) (.pointer (some ⟨d, o, none⟩))).drew base d p D (hid (h.out.up UC)) ho (hid hn.out.1) hkl 172 #[.pointer (some ⟨w.heap.size, 0, none⟩), .pointer (some ⟨w.heap.size + 1, 0, none⟩), .pointer (some ⟨w.heap.size + 1 + 1, 0, none⟩), .pointer (some ⟨w.heap.size + 1 + 1 + 1, 0, none⟩), .pointer (some ⟨w.heap.size + 1 + 1 + 1 + 1, 0, none⟩)] write1_ent (if isFull b a m (tick D) then 3 else 0) (writeV b a ss (tick D)) (hid fun w1 h1 f1 => by
    have hz : (wb5 w d (idx b) a (.slice (some ⟨bb, bp, none⟩) (m * 128) cap) (.pointer (some ⟨d, o, none⟩))).drew.heap.size = w.heap.size + 1 + 1 + 1 + 1 + 1 := s5
    unfold writeV
    rw [hs.out.1]
    refine write1_calls w1 base d p (tick D) b a m cap bb bp w.heap.size (w.heap.size + 1) (w.heap.size + 1 + 1) (w.heap.size + 1 + 1 + 1) (w.heap.size + 1 + 1 + 1 + 1) ss (hid h1) (hid (numTick hn.out.1 hn.out.2)) (hid ⟨?_, ?_, ?_, ?_, ?_⟩) (hid (by rw [tick_fl']; exact ha.out)) hm (hid ⟨hs.out.1, hs.out.2.1, fun j s hj => ?_⟩)
    · exact (f1.block _ (by omega) (by omega)).trans b1
    · exact (f1.block _ (by omega) (by omega)).trans b2
    · exact (f1.block _ (by omega) (by omega)).trans b3
    · exact (f1.block _ (by omega) (by omega)).trans b4
    · rw [hoo]; exact (f1.block _ (by omega) (by omega)).trans b5
    · have hB := hs.out.2.2 j s hj
      exact (hB.up UC).fr f1 (fun e => by
        have h9 := (hB.ne h.out.file0).1
        exact h9 e))
  have hL : ¬ m * 128 = 0 := by have := hm.out; omega
  have hmod : ((m * 128 : Nat) : Int).tmod 128 = 0 := by
    show ((m * 128 : Nat) : Int).tmod ((128 : Nat) : Int) = 0
    rw [← Int.ofNat_tmod, Nat.mul_mod_left]; rfl
  obtain ⟨L, hLL⟩ : ∃ L, m * 128 = L := ⟨_, rfl⟩
  rw [hLL] at CF OP a4 hL hmod ⊢
  rw [hLL] at UC
  have hwlen : Hid (wb5 w d (idx b) a (.slice (some ⟨bb, bp, none⟩) L cap) (.pointer (some ⟨d, o, none⟩)) = wb5 w d (idx b) a (.slice (some ⟨bb, bp, none⟩) L cap) (.pointer (some ⟨d, o, none⟩))) := hid rfl
  have t0 : ¬ (a : Int) < 0 := by omega
  have t1 : ¬ (len : Int) < (a : Int) := by have := ha.out; omega
  rw [hLL] at e0 a1 a3 a5
  clear b1 b2 b3 b4 b5 s1 s2 s3 s4 s5 F0 hoo hlen hwlen hdw hLL
  generalize idx b = ib at *
  generalize (a : Int) = ai at CF OP UC e0 a1 a3 a4 a5 t0 t1 ⊢
  have CF' := CF
  clear CF
  unfold wb4 wb3 wb2 wb1 at CF'
  have T0 := hid t0
  have T1 := hid t1
  clear t0 t1
  have E0 := hid e0
  have A1 := hid a1
  have A3 := hid a3
  have A4 := hid a4
  have A5 := hid a5
  obtain ⟨RN, hRN⟩ : ∃ r, opR D (if isFull b a m (tick D) then 3 else 0) = r := ⟨_, rfl⟩
  rw [hRN] at OP ⊢
  clear hRN
  have OP := hid OP
  have UC := hid UC
  clear e0 a1 a3 a4 a5
  go_enter Tryz.func139, Tryz.ntmps139
  go_wp2_with (go_at_call 161; refine CF'.mono ?_; rintro e w' ⟨rfl, rfl⟩)
  clear CF'
  change Code.wp Tryz.prog _ _ _ (wb5 w d ib ai (.slice (some ⟨bb, bp, none⟩) L cap) (.pointer (some ⟨d, o, none⟩)))
  have e0 := E0.out
  have a1 := A1.out
  have a3 := A3.out
  have a4 := A4.out
  have a5 := A5.out
  generalize wb5 w d ib ai (.slice (some ⟨bb, bp, none⟩) L cap) (.pointer (some ⟨d, o, none⟩)) = w5 at *
  generalize w.heap.size = z at *
  have a1' : w5.drew.cell? ⟨z, 0, none⟩ = _ := a1
  have a3' : w5.drew.cell? ⟨z + 1 + 1, 0, none⟩ = _ := a3
  have a4' : w5.drew.cell? ⟨z + 1 + 1 + 1, 0, none⟩ = _ := a4
  have a5' : w5.drew.cell? ⟨z + 1 + 1 + 1 + 1, 0, none⟩ = _ := a5
  clear E0 A1 A3 A4 A5
  have t0 : ¬ ai < 0 := by have := T0.out; omega
  have t1 : ¬ (len : Int) < ai := by have := T1.out; omega
  go_region
  all_goals
    go_wp2_with (go_at_call 166; refine OP.out.mono ?_; rintro e w6 ⟨rfl, hh⟩)
    go_ret
    exact ⟨rfl, hid (hh.out.pre UC.out)⟩
end Go.Proofs.YtbcghggkfnagoaaGreatDoor

namespace Go.Proofs.YtbcghggkfnagoaaGreatDoor
open Go Go.RowKit Go.Maps Hach

def fileNr (i : Int) : Option Bool := if i = 0 then some false else if i = 1 then some true else none
theorem fileNr_idx {i : Int} {b : Bool} (h : fileNr i = some b) : i = idx b := by
  unfold fileNr at h
  split at h
  · injection h with h; subst h; assumption
  · split at h
    · injection h with h; subst h; assumption
    · cases h
theorem fileNr_none {i : Int} (h : fileNr i = none) : i < 0 ∨ 2 ≤ i := by
  unfold fileNr at h
  split at h
  · cases h
  · split at h
    · cases h
    · omega
def writeR (D : DiskV) (i a : Int) (ss : List Sec) : DiskV × Int :=
  if D.on = false then (D, 4) else
  match fileNr i with
  | none => (D, 11)
  | some b => if a < 0 ∨ ((D.fl b).now.length : Int) < a then (D, 11) else if ss = [] then (D, 2) else
    (opV D (writeV b a.toNat ss (tick D)), opR D (if isFull b a.toNat ss.length (tick D) then 3 else 0))
def syncR (D : DiskV) (i : Int) : DiskV × Int :=
  if D.on = false then (D, 4) else
  match fileNr i with
  | none => (D, 11)
  | some b => (opV D (syncV b (tick D)), opR D 0)
def cutR (D : DiskV) (i k : Int) : DiskV × Int :=
  if D.on = false then (D, 4) else
  match fileNr i with
  | none => (D, 11)
  | some b => if k < 0 ∨ ((D.fl b).now.length : Int) < k then (D, 11) else (opV D (cutV b k.toNat (tick D)), opR D 0)
structure DiskOk (D : DiskV) : Prop where
  num : NumOk D
  ops : D.ops + 1 < 1000000000
  keep : D.keep.length < 1000000
def SecBytes (w : World) (A : Option Addr) (n cap : Nat) (ss : List Sec) : Prop :=
  n = ss.length * 128 ∧ Whole ss ∧ (ss = [] ∨ ∃ bb bp, A = some ⟨bb, bp, none⟩ ∧ n ≤ cap ∧ ∀ j s, ss[j]? = some s → ByteAny w bb (bp + j * 128) s)
theorem StepF.same {w w' : World} {base d : Nat} {p : DiskP} {D : DiskV} (h : DiskAt w base d p D) (hu : Up w w') : Goes w (foot d p D) base d D w' := Goes.up ⟨p, h, fun k hk => hk⟩ hu
theorem write_calls (w : World) (base d : Nat) (p : DiskP) (D : DiskV) (i a : Int) (A : Option Addr) (n cap : Nat) (ss : List Sec) (h : Hid (DiskAt w base d p D)) (hok : Hid (DiskOk D)) (hs : Hid (SecBytes w A n cap ss ∧ ss.length < 100000)) :
    Calls Tryz.prog 139 #[.pointer (some ⟨d, 0, none⟩), .int .i64 i, .int .i64 a, .slice A n cap] w (StepF w (foot d p D) base d (writeR D i a ss).1 (.int .i64 (writeR D i a ss).2)) := by
  have hM : ∀ v, DiskM (wb4 w d i a v) base d D := fun v => ⟨p, h.out.up (wb_up4 w d i a v)⟩
  have refuse : ∀ e : Int, ¬ e = 0 → (Calls Tryz.prog 161 #[.pointer (some ⟨d, 0, none⟩), .int .i64 i] (wb4 w d i a (.slice A n cap)) fun en w' => en = .returned (.tuple #[.pointer none, .int .i64 e]) ∧ w' = wb4 w d i a (.slice A n cap)) →
      Calls Tryz.prog 139 #[.pointer (some ⟨d, 0, none⟩), .int .i64 i, .int .i64 a, .slice A n cap] w (StepF w (foot d p D) base d D (.int .i64 e)) := fun e he hc =>
    (writeE_calls w d i a A n cap e he hc).mono fun en w' k => ⟨k.1, hid (StepF.same h.out k.2.out)⟩
  unfold writeR
  by_cases hon : D.on = false
  · rw [if_pos hon]
    exact refuse 4 (by decide) (fileOff_calls _ base d D (hid (hM _)) i hon)
  · have hon' : D.on = true := by cases h9 : D.on; exact absurd h9 hon; rfl
    rw [if_neg hon]
    cases hf : fileNr i with
    | none => exact refuse 11 (by decide) (fileNo_calls _ base d D (hid (hM _)) i hon' (fileNr_none hf))
    | some b =>
      obtain rfl := fileNr_idx hf
      obtain ⟨hn, hW, hcase⟩ := hs.out.1
      simp only
      by_cases ha : a < 0 ∨ ((D.fl b).now.length : Int) < a
      · rw [if_pos ha]
        exact (writeR_calls w base d p D b a A n cap h (hid hon') (hid (by have := hs.out.2; omega)) 11 (hid (.inl ⟨ha, rfl⟩))).mono fun en w' k => ⟨k.1, hid (StepF.same h.out k.2.out)⟩
      · rw [if_neg ha]
        have ha1 : 0 ≤ a := by omega
        have ha2 : a ≤ ((D.fl b).now.length : Int) := by omega
        by_cases hss : ss = []
        · rw [if_pos hss]
          subst hss
          exact (writeR_calls w base d p D b a A n cap h (hid hon') (hid (by rw [hn]; decide)) 2 (hid (.inr ⟨⟨ha1, ha2⟩, hn, rfl⟩))).mono fun en w' k => ⟨k.1, hid (StepF.same h.out k.2.out)⟩
        · rw [if_neg hss]
          obtain ⟨bb, bp, rfl, hcap, hrow⟩ := hcase.resolve_left hss
          obtain ⟨an, rfl⟩ := Int.eq_ofNat_of_zero_le ha1
          subst hn
          have hl : 1 ≤ ss.length := by cases ss with | nil => exact absurd rfl hss | cons x r => simp
          exact writeO_calls w base d p D b an ss.length bb bp cap ss h (hid hon') (hid ⟨hok.out.num, hok.out.ops⟩) (hid hok.out.keep) (hid (by omega)) (hid ⟨hl, hs.out.2, hcap⟩) (hid ⟨rfl, hW, hrow⟩)
set_option maxRecDepth 100000 in
set_option maxHeartbeats 2000000 in
theorem syncE_calls (w : World) (d : Nat) (i e : Int) (he : ¬ e = 0) (CF : Calls Tryz.prog 161 #[.pointer (some ⟨d, 0, none⟩), .int .i64 i] w fun en w' => en = .returned (.tuple #[.pointer none, .int .i64 e]) ∧ w' = w) :
    Calls Tryz.prog 137 #[.pointer (some ⟨d, 0, none⟩), .int .i64 i] w (fun en w' => en = .returned (.int .i64 e) ∧ Hid (Up w w')) := by
  have UU := hid (upAlD (Up.refl w) (.cells #[.pointer none] 156))
  go_enter Tryz.func137, Tryz.ntmps137
  go_wp2_with (go_at_call 161; refine CF.mono ?_; rintro en w' ⟨rfl, hw⟩; obtain rfl := hw.symm)
  go_ret
  exact ⟨rfl, UU⟩
set_option maxRecDepth 100000 in
set_option maxHeartbeats 2000000 in
theorem cutE_calls (w : World) (d : Nat) (i k e : Int) (he : ¬ e = 0) (CF : Calls Tryz.prog 161 #[.pointer (some ⟨d, 0, none⟩), .int .i64 i] (w.alloc (.cells #[.int .i64 k] 3)) fun en w' => en = .returned (.tuple #[.pointer none, .int .i64 e]) ∧ w' = w.alloc (.cells #[.int .i64 k] 3)) :
    Calls Tryz.prog 134 #[.pointer (some ⟨d, 0, none⟩), .int .i64 i, .int .i64 k] w (fun en w' => en = .returned (.int .i64 e) ∧ Hid (Up w w')) := by
  have UU := hid ((upAlD (Up.refl w) (.cells #[.int .i64 k] 3)).t (upAlD (Up.refl _) (.cells #[.pointer none] 156)))
  go_enter Tryz.func134, Tryz.ntmps134
  go_wp2_with (go_at_call 161; refine CF.mono ?_; rintro en w' ⟨rfl, rfl⟩)
  go_ret
  exact ⟨rfl, UU⟩
set_option maxRecDepth 100000 in
set_option maxHeartbeats 2000000 in
theorem cutN_calls (w : World) (base d : Nat) (p : DiskP) (D : DiskV) (b : Bool) (k : Int) (h : Hid (DiskAt w base d p D)) (ho : Hid (D.on = true)) (hk : Hid (k < 0 ∨ ((D.fl b).now.length : Int) < k)) :
    Calls Tryz.prog 134 #[.pointer (some ⟨d, 0, none⟩), .int .i64 (idx b), .int .i64 k] w (fun en w' => en = .returned (.int .i64 11) ∧ Hid (Up w w')) := by
  obtain ⟨o, hoo⟩ : ∃ o, off b = o := ⟨_, rfl⟩
  have UA := upAlD (Up.refl w) (.cells #[.int .i64 k] 3)
  have UB := upAlD (Up.refl (w.alloc (.cells #[.int .i64 k] 3))) (.cells #[.pointer (some ⟨d, o, none⟩)] 156)
  have CF := fileB_calls (w.alloc (.cells #[.int .i64 k] 3)) base d D b (hid ⟨p, h.out.up UA⟩) ho.out
  rw [hoo] at CF
  have s1 : (w.alloc (.cells #[.int .i64 k] 3)).heap.size = w.heap.size + 1 := by simp
  have BA := UB.block w.heap.size (by omega) |>.trans (heap_alloc_new w (.cells #[.int .i64 k] 3))
  have BB := heap_alloc_new (w.alloc (.cells #[.int .i64 k] 3)) (.cells #[.pointer (some ⟨d, o, none⟩)] 156)
  rw [s1] at BB
  have UC := hid (UA.t UB)
  have F0 := (h.out.up UC.out).fileB b
  rw [hoo] at F0
  have e0 := F0.cell0.1
  obtain ⟨len, hlen⟩ : ∃ z, (D.fl b).now.length = z := ⟨_, rfl⟩
  rw [hlen] at e0
  have HLEN := hid hlen
  have A0 := hid (box_cell BA)
  have A1 := hid (box_cell BB)
  have E0 := hid e0
  clear BA BB e0 F0 hlen hoo s1 UA UB
  generalize idx b = ib at *
  go_enter Tryz.func134, Tryz.ntmps134
  go_wp2_with (go_at_call 161; refine CF.mono ?_; rintro en w' ⟨rfl, rfl⟩)
  have e0 := E0.out
  have a0 := A0.out
  have a1 := A1.out
  clear CF E0 A0 A1
  generalize (w.alloc (.cells #[.int .i64 k] 3)).alloc (.cells #[.pointer (some ⟨d, o, none⟩)] 156) = w5 at *
  generalize w.heap.size = z at *
  have UF := hid (UC.out.t (Up.drew _))
  have e0' : w5.drew.cell? ⟨d, o, none⟩ = _ := e0
  have a0' : w5.drew.cell? ⟨z, 0, none⟩ = _ := a0
  have a1' : w5.drew.cell? ⟨z + 1, 0, none⟩ = _ := a1
  by_cases h1 : k < 0
  · go_region
    all_goals
      go_wp2
      go_ret
      exact ⟨rfl, UF⟩
  · have h2 : (len : Int) < k := by have := hk.out; rw [HLEN.out] at this; omega
    go_region
    all_goals
      go_wp2
      go_ret
      exact ⟨rfl, UF⟩
theorem sync_all (w : World) (base d : Nat) (p : DiskP) (D : DiskV) (i : Int) (h : Hid (DiskAt w base d p D)) (hok : Hid (DiskOk D)) :
    Calls Tryz.prog 137 #[.pointer (some ⟨d, 0, none⟩), .int .i64 i] w (StepF w (foot d p D) base d (syncR D i).1 (.int .i64 (syncR D i).2)) := by
  unfold syncR
  by_cases hon : D.on = false
  · rw [if_pos hon]
    exact (syncE_calls w d i 4 (by decide) (fileOff_calls _ base d D (hid ⟨p, h.out⟩) i hon)).mono fun en w' k => ⟨k.1, hid (StepF.same h.out k.2.out)⟩
  · have hon' : D.on = true := by cases h9 : D.on; exact absurd h9 hon; rfl
    rw [if_neg hon]
    cases hf : fileNr i with
    | none => exact (syncE_calls w d i 11 (by decide) (fileNo_calls _ base d D (hid ⟨p, h.out⟩) i hon' (fileNr_none hf))).mono fun en w' k => ⟨k.1, hid (StepF.same h.out k.2.out)⟩
    | some b =>
      obtain rfl := fileNr_idx hf
      exact sync_calls w base d p D b h (hid hon') (hid hok.out.num) (hid hok.out.keep)
theorem cut_all (w : World) (base d : Nat) (p : DiskP) (D : DiskV) (i k : Int) (h : Hid (DiskAt w base d p D)) (hok : Hid (DiskOk D)) :
    Calls Tryz.prog 134 #[.pointer (some ⟨d, 0, none⟩), .int .i64 i, .int .i64 k] w (StepF w (foot d p D) base d (cutR D i k).1 (.int .i64 (cutR D i k).2)) := by
  have hM : DiskM (w.alloc (.cells #[.int .i64 k] 3)) base d D := ⟨p, h.out.up (upAlD (Up.refl w) _)⟩
  unfold cutR
  by_cases hon : D.on = false
  · rw [if_pos hon]
    exact (cutE_calls w d i k 4 (by decide) (fileOff_calls _ base d D (hid hM) i hon)).mono fun en w' k => ⟨k.1, hid (StepF.same h.out k.2.out)⟩
  · have hon' : D.on = true := by cases h9 : D.on; exact absurd h9 hon; rfl
    rw [if_neg hon]
    cases hf : fileNr i with
    | none => exact (cutE_calls w d i k 11 (by decide) (fileNo_calls _ base d D (hid hM) i hon' (fileNr_none hf))).mono fun en w' k => ⟨k.1, hid (StepF.same h.out k.2.out)⟩
    | some b =>
      obtain rfl := fileNr_idx hf
      simp only
      by_cases hk : k < 0 ∨ ((D.fl b).now.length : Int) < k
      · rw [if_pos hk]
        exact (cutN_calls w base d p D b k h (hid hon') (hid hk)).mono fun en w' k => ⟨k.1, hid (StepF.same h.out k.2.out)⟩
      · rw [if_neg hk]
        obtain ⟨kn, rfl⟩ := Int.eq_ofNat_of_zero_le (show 0 ≤ k by omega)
        exact cut_calls w base d p D b kn h (hid hon') (hid hok.out.num) (hid hok.out.keep) (hid (by omega))
end Go.Proofs.YtbcghggkfnagoaaGreatDoor
