/- A RANGE OVER A FUNCTION whose iterator writes a box of its own between two rounds (a captured variable that it counts down), and tells each round what it wants to find again behind it. No program in sight. A REGION WITHIN A ROUND of a range over a function goes as anywhere: what is shown of it by the plain laws holds in the round. No program in sight. -/
import Derived.Test.YtbcghggkfnagoaaGreatDoorK4
import Derived.RangeFuncNested
import Derived.Test.YtbcghggkfnagoaaGreatDoorK8
import Derived.Test.YtbcghggkfnagoaaGreatDoorK7
import Derived.TacticsIn
import Derived.OrdersIn
set_option linter.unusedVariables false
set_option linter.unusedSimpArgs false
namespace Hach
open Go Go.RowKit

variable {F : Fence} {n : Nat} {P : Program}
theorem Up.grown {w w' : World} (h : Up w w') : w.grownBy w' none := ⟨h.os, h.tape, h.output, h.size, fun k hk _ => h.block k hk⟩
/-- How a round's body may be left: off its end (what the iterator told holds again), or by 'return'. -/
def zPost {α : Type} (B : Nat) (G : List α → α → World → Prop) (I Ix : List α → World → Prop) (pre : List α) (x : α) (W : World) : Exit → Act → World → Prop
  | .normal, _, W' => KeepsFrom B W W' ∧ G pre x W' ∧ I (pre ++ [x]) W'
  | .ret, _, W' => KeepsFrom B W W' ∧ Ix (pre ++ [x]) W'
  | .exit _, _, _ => False
  | .goto _, _, _ => False
  | .panic _, _, _ => False
  | .outgrown, _, _ => False
/-- The loop's two blocks of book-keeping, at B and B + 1. -/
def Books (B : Nat) (r : Loop) (W : World) : Prop := W.heap[B + 1]? = some (.loop r) ∧ W.heap[B]? = some (.deferred (some []))
theorem Books.kept {B : Nat} {r : Loop} {W W' : World} (h : Books B r W) (k : KeepsFrom B W W') : Books B r W' := ⟨k.same _ _ (by omega) h.1 rfl, k.same _ _ (Nat.le_refl _) h.2 rfl⟩
theorem Books.grown {B : Nat} {r : Loop} {W W' : World} {row : Option Nat} (h : Books B r W) (k : W.grownBy W' row) (hr : ∀ j, row = some j → j < B) : Books B r W' := h.kept (KeepsFrom.of_grownBy k hr)
theorem Books.up {B : Nat} {r : Loop} {W W' : World} (h : Books B r W) (k : Up W W') : Books B r W' := h.grown k.grown (fun j e => by cases e)
theorem Books.lt {B : Nat} {r : Loop} {W : World} (h : Books B r W) : B + 1 < W.heap.size := (Array.getElem?_eq_some_iff.1 h.1).1
theorem Books.put {B : Nat} {r r' : Loop} {W : World} (h : Books B r W) : Books B r' (W.putObj (B + 1) (.loop r')) := ⟨World.putObj_heap_same h.lt, (World.putObj_heap_other (by omega)).trans h.2⟩

theorem range_z {α : Type} {g : Operand} {ps : Array Tmp} {assign body : Code} {Q : Exit → Act → World → Prop} {a : Act} {w : World}
    (hro : F.round = none) (h1 : 1 ≤ n) {gf : Nat} {lb : Array Value} (hg : a.eval g = .func (.func gf) #[] lb) (hFg : F.fn gf) (eg : ∀ args w, (callFunc gf args).run P w = .ok (.enter gf args) w)
    {encs : α → Array Value} (hps : ∀ x, (encs x).size = ps.size) {z : Nat} (hz : z < w.heap.size) {S : List α → Prop} {G : List α → α → World → Prop}
    (hseq : ∀ (l : Nat) (J Jx : List α → World → Prop) (W : World), Up w W → (∀ pre W1 W2, J pre W1 → Up W1 W2 → J pre W2) → (∀ pre W1 v, J pre W1 → J pre (W1.setCell ⟨z, 0, none⟩ v)) →
      (∀ pre x W1, J pre W1 → G pre x W1 → YieldAt F (n - 1 - 1) P l (encs x) W1 fun e W' =>
        (e = .returned (.bool true) ∧ J (pre ++ [x]) W' ∧ G pre x W') ∨ (e = .returned (.bool false) ∧ Jx (pre ++ [x]) W')) →
      J [] W → CallsIn F (n - 1) P gf (#[.func (.yield l) #[] #[]] ++ lb) W fun e W' => (∃ v, e = .returned v) ∧ ((∃ xs, S xs ∧ J xs W') ∨ (∃ pre, Jx pre W')))
    (I Ix : List α → World → Prop) (hG : ∀ pre x, OwnFrom w.heap.size (fun (_ : Unit) W => G pre x W)) (hI : OwnFrom w.heap.size I) (hIx : OwnFrom w.heap.size Ix)
    (hIz : ∀ pre W v, I pre W → I pre (W.setCell ⟨z, 0, none⟩ v)) (h0 : I [] w) (Ax : List α → α → Act → World → Prop) (hAx : ∀ pre x a', OwnFrom w.heap.size (fun (_ : Unit) W => Ax pre x a' W))
    (hassign : ∀ (l : Nat) (pre : List α) (x : α) (W : World) (K : Act → World → Prop), I pre W → G pre x W → (∀ a' W', KeepsFrom w.heap.size W W' → I pre W' → Ax pre x a' W' → K a' W') →
      assign.wpIn (F.inRound l) (n - 1 - 1) P (Exit.then K (fun _ _ _ => False)) { tmps := (ps.zip (encs x)).foldl (fun t (p, v) => t.setIfInBounds p v) a.tmps, defers := [] } W)
    (hbody : ∀ (l : Nat) (pre : List α) (x : α) (a' : Act) (W : World), I pre W → Ax pre x a' W → body.wpIn (F.inRound l) (n - 1 - 1) P (zPost w.heap.size G I Ix pre x W) a' W)
    (hdone : ∀ (D : Nat) (xs : List α) (W : World), w.heap.size ≤ D → S xs → I xs W → W.heap[D]? = some (.deferred (some [])) → Q .normal { a with defers := { target := .collected D, args := #[] } :: a.defers } W)
    (hstop : ∀ (D : Nat) (pre : List α) (W : World), w.heap.size ≤ D → Ix pre W → W.heap[D]? = some (.deferred (some [])) → Code.ret.wpIn F n P Q { a with defers := { target := .collected D, args := #[] } :: a.defers } W) :
    (Code.rangeFunc g ps assign body).wpIn F n P Q a w := by
  refine wpIn_rangeFunc fun fn hfn => ?_
  rw [hro]
  let R : LoopState → Option Code → Loop := fun st pe => { state := st, pending := pe, fn, tmps := a.tmps, params := ps, assign, body, defers := w.heap.size }
  have u1 : Up w (w.alloc (.deferred (some []))) := Below.alloc (Below.refl _ w) (Nat.le_refl _) _
  have u2 : Up (w.alloc (.deferred (some []))) ((w.alloc (.deferred (some []))).alloc (.loop (R .ready none))) := Below.alloc (Below.refl _ _) (Nat.le_refl _) _
  have B1 : Books w.heap.size (R .ready none) ((w.alloc (.deferred (some []))).alloc (.loop (R .ready none))) := by
    have e1 := World.alloc_heap_new (w.alloc (.deferred (some []))) (.loop (R .ready none))
    rw [World.size_alloc] at e1
    exact ⟨e1, (u2.block _ (by simp)).trans (World.alloc_heap_new w _)⟩
  have hIu : ∀ pre W1 W2, I pre W1 → Up W1 W2 → I pre W2 := fun pre W1 W2 h u => hI pre W1 W2 none h u.grown (fun r e => by cases e)
  refine ⟨w.heap.size + 1, [{ target := .collected w.heap.size, args := #[] }], _, { target := .fn (.func gf) lb, args := #[.func (.yield (w.heap.size + 1)) #[] #[]] }, (w.alloc (.deferred (some []))).alloc (.loop (R .ready none)), gf,
    #[.func (.yield (w.heap.size + 1)) #[] #[]] ++ lb, (w.alloc (.deferred (some []))).alloc (.loop (R .ready none)), run_enterLoop_outer _ _ _ _ _, ?_, ?_, ?_, fun _ => h1, ?_⟩
  · simp only [resolve, hg]
    simp [go_sem]
    rfl
  · intro f' hf'
    simp [Target.leads] at hf'
    subst hf'
    exact hFg
  · simp [invoke, go_sem, eg]
  refine (hseq (w.heap.size + 1) (fun pre W => I pre W ∧ Books w.heap.size (R .ready none) W) (fun pre W => Ix pre W ∧ Books w.heap.size (R .done (some .ret)) W) _ (u1.t u2)
    (fun pre W1 W2 h u => ⟨hIu _ _ _ h.1 u, h.2.up u⟩) (fun pre W1 v h => ⟨hIz _ _ v h.1, h.2.grown (grownBy_setCell' W1 z v) (fun j e => by cases e; exact hz)⟩) ?_ ⟨hIu _ _ _ h0 (u1.t u2), B1⟩).mono ?_
  · rintro pre x W ⟨hi, hb⟩ hgx
    refine ⟨fn, _, assign, body, run_yield (r := R .ready none) hb.1 (hps x), roundIn_of_wpIn hfn (hassign _ pre x W _ hi hgx ?_)⟩
    intro a' W2 hk2 hi2 hx2
    have hb2 := hb.kept hk2
    refine ⟨_, run_beginRound hb2.1 rfl, ?_⟩
    have hb3 : Books w.heap.size (R .busy none) (W2.putObj (w.heap.size + 1) (.loop (R .busy none))) := hb2.put
    refine wpIn_mono (hbody _ pre x a' _ (hI.putObj _ hi2 (by omega) hb2.1 rfl) ((hAx pre x a').putObj (s := ()) _ hx2 (by omega) hb2.1 rfl)) ?_
    rintro e a3 W3 hp
    cases e with
    | normal =>
      obtain ⟨hk3, hg3, hi3⟩ := hp
      have hb4 := hb3.kept hk3
      exact ⟨_, _, run_endRound none hb4.1, .inl ⟨rfl, ⟨hI.putObj _ hi3 (by omega) hb4.1 rfl, hb4.put⟩, (hG pre x).putObj (s := ()) _ hg3 (by omega) hb4.1 rfl⟩⟩
    | ret =>
      obtain ⟨hk3, hi3⟩ := hp
      have hb4 := hb3.kept hk3
      exact ⟨_, _, run_endRound (some .ret) hb4.1, .inr ⟨rfl, hIx.putObj _ hi3 (by omega) hb4.1 rfl, hb4.put⟩⟩
    | exit id => exact hp.elim
    | goto t => exact hp.elim
    | panic ch => exact hp.elim
    | outgrown => exact hp.elim
  · rintro e W2 ⟨⟨v, rfl⟩, (⟨xs, hS, hi, hb⟩ | ⟨pre, hi, hb⟩)⟩
    · exact ⟨none, _, run_endLoop hb.1 (fun e => by cases e), hdone _ xs _ (Nat.le_refl _) hS (hI.putObj _ hi (by omega) hb.1 rfl) ((World.putObj_heap_other (by omega)).trans hb.2)⟩
    · exact ⟨some .ret, _, run_endLoop hb.1 (fun e => by cases e), hstop _ pre _ (Nat.le_refl _) (hIx.putObj _ hi (by omega) hb.1 rfl) ((World.putObj_heap_other (by omega)).trans hb.2)⟩
end Hach

namespace Hach
open Go Go.RowKit

section
variable {P : Program} {ops : Array Oper} {Q : Exit → Act → World → Prop} {n l : Nat}
theorem rowsIn_wide {row : String} {args : Array Value} {w : World} {R : Value → World → Prop} (h : Rows P row args w R) : RowsIn Fence.wide n P row args w R :=
  fun c cs _ => let ⟨v, w', r, s⟩ := h c cs; ⟨v, w', r, stepsIn_wide.2 s⟩
/-- No operation is a 'defer'. -/
def noDefer (o : Oper) : Bool := match o.op with
  | .defer _ => false
  | _ => true
theorem noDefer_spec {o : Oper} (h : noDefer o = true) : ∀ c, o.op ≠ .defer c := by
  intro c e
  unfold noDefer at h
  rw [e] at h
  cases h
theorem oper_round {o : Oper} {a : Act} {w : World} {K : Act → World → Prop} (hd : noDefer o = true) (h : o.wp P a w K Q) : o.wpIn (Fence.wide.inRound l) n P a w K Q := by
  refine ⟨fun _ _ => trivial, ?_⟩
  rw [Oper.semAt_eq _ _ _ (noDefer_spec hd)]
  unfold Oper.wp at h
  generalize (execOp a.eval o).run P w = r at *
  cases r with
  | ok x w' =>
    cases x with
    | value v => exact h
    | skip => exact h
    | defer d => exact h
    | enter f args => exact ⟨fun e => (by cases e), callsIn_wide.2 h⟩
    | row row args => exact ⟨fun e => (by cases e), rowsIn_wide h⟩
    | _ => exact h.elim
  | halt x w' => cases x <;> first | exact h | exact h.elim
theorem list_round (hno : ¬ LetsOut Q) : ∀ (l0 : List Oper), l0.all noDefer = true → ∀ (a : Act) (w : World), wpList P ops Q l0 a w → wpListIn (Fence.wide.inRound l) n P ops Q l0 a w := by
  intro l0
  induction l0 with
  | nil => intro _ a w h; exact h
  | cons o r ih =>
    intro hd a w h
    rw [List.all_cons, Bool.and_eq_true] at hd
    unfold wpList at h
    unfold wpListIn
    split at h
    · rename_i hw
      rw [if_pos hw]
      rcases h with h | h
      · exact oper_round hd.1 (Oper.wp_mono (fun a' w' h' => ih hd.2 a' w' h') h)
      · exact absurd h.2 hno
    · rename_i hw
      rw [if_neg hw]
      exact ⟨fun _ _ => trivial, ih hd.2 _ _ h⟩
/-- The walk stops ahead of a region. -/
structure Stop (p : Prop) : Prop where
  out : p
theorem stop_region (id : Nat) {ops : Array Oper} {d : Bool} {F : Fence} {a : Act} {w : World} (h : Stop ((Code.region id ops d).wpIn F n P Q a w)) : (Code.region id ops d).wpIn F n P Q a w := h.out
/-- A region, in the order of its text. -/
theorem region_round {id : Nat} {l0 : List Oper} {a : Act} {w : World} (hno : ¬ LetsOut Q) (hd : l0.all noDefer = true) (h : wpList P l0.toArray Q l0 a w) : (Code.region id l0.toArray false).wpIn (Fence.wide.inRound l) n P Q a w :=
  wpIn_region_lit (list_round hno l0 hd a w h)
theorem any_round (hno : ¬ LetsOut Q) {md : Region.Mode} (hd : ∀ (i : Nat) (o : Oper), ops[i]? = some o → noDefer o = true) : ∀ (fuel : Nat) (listed : Array Bool) (a : Act) (w : World), wpAny P md ops Q fuel listed a w → wpAnyIn (Fence.wide.inRound l) n P md ops Q fuel listed a w
  | 0, _, _, _, h => h
  | fuel + 1, listed, a, w, h => ⟨h.1, fun i hi => by
    have h2 := h.2 i hi
    unfold wpOp at h2
    unfold wpOpIn
    split at h2
    · rename_i ho; simp only [ho]; exact any_round hno hd fuel _ _ _ h2
    · rename_i o ho
      simp only [ho]
      split at h2
      · rename_i hw
        rw [if_pos hw]
        rcases h2 with h2 | h2
        · exact oper_round (hd i o ho) (Oper.wp_mono (fun a' w' h' => any_round hno hd fuel _ a' w' h') h2)
        · exact absurd h2.2 hno
      · rename_i hw
        rw [if_neg hw]
        exact ⟨fun _ _ => trivial, any_round hno hd fuel _ _ _ h2⟩⟩
theorem letsOut_noPanic (hno : ¬ LetsOut Q) : ¬ LetsOut (NoPanic Q) := fun ⟨a, w, h⟩ => hno ⟨a, w, h⟩
/-- A region that draws its order: K8's laws, within a round. -/
theorem s_round {id : Nat} {a : Act} {w : World} (S : World → Prop) (hm : P.follows .mixedOrders = true) (hno : ¬ LetsOut Q) (hd : ops.toList.all noDefer = true)
    (h : wpAnyH P .any ops (NoPanic Q) S ops.size (Array.replicate ops.size false) a w.drew) : (Code.region id ops true).wpIn (Fence.wide.inRound l) n P Q a w := by
  have hd' : ∀ (i : Nat) (o : Oper), ops[i]? = some o → noDefer o = true := fun i o ho => List.all_eq_true.1 hd o (by
    have := Array.mem_of_getElem? ho
    exact Array.mem_toList_iff.2 this)
  have h1 := wpIn_region_any (id := id) hm (any_round (l := l) (n := n) (letsOut_noPanic hno) hd' _ _ _ _ (wpAny_of_held _ _ _ _ h))
  exact Code.wpIn_mono (fun e a w h => by cases e <;> first | exact h | exact h.elim) h1
end
end Hach
