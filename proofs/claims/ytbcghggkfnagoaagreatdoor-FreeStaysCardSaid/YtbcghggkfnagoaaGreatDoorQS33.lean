/- PARTS OF A PROOF, one behind the other: THE PAGER's before: the pages that are changed, or go, as they are on the disk. CONDITIONS: none of this text's own. -/
import Derived.Test.YtbcghggkfnagoaaGreatDoorQS32
import Derived.Test.YtbcghggkfnagoaaGreatDoorQS28
set_option linter.unusedVariables false
set_option linter.unusedSimpArgs false
namespace Go.Proofs.YtbcghggkfnagoaaGreatDoor
open Go Go.RowKit Go.Maps Hach

theorem getB_plain (L : PgL) (k : Int) : getB (plainL L) k = (gget L k).map (·.bs) := by
  unfold getB plainL gget
  rw [List.find?_map, Option.map_map, Option.map_map]
  rfl
theorem Qp.own {w w' : World} {base b n : Nat} {e : TypeId} {size : Nat} {v : Value} {xs : List Value} (hq : Qp base w w') (h : w.ownsRow b e size v n xs) (hn : ¬ pgTy e) : w'.ownsRow b e size v n xs := by
  refine ⟨h.1, ?_⟩
  rcases h.2 with hv | ⟨g, cap, cur, hv, hb, hg, rest⟩
  · exact .inl hv
  · exact .inr ⟨g, cap, cur, hv, hb, hq.keep _ _ _ _ hn hg, rest⟩
theorem RecsRow.qp {w w' : World} {base : Nat} {l : List (Int × List UInt8)} {xs : List Value} (h : RecsRow w 0 l xs) (hq : Qp base w w') : RecsRow w' 0 l xs := h.keep fun _ _ _ o => hq.own o (by unfold pgTy; decide)
def RecOwn (w : World) (b0 : Nat) (A : Option Addr) (k c : Nat) (R : List (Int × List UInt8)) : Prop := R.length = k ∧ k ≤ c ∧ ∃ cells, w.ownsRow b0 205 2 (.slice A k c) k cells ∧ RecsRow w 0 R cells
theorem RecOwn.qp {w w' : World} {base b0 k c : Nat} {A : Option Addr} {R : List (Int × List UInt8)} (h : RecOwn w b0 A k c R) (hq : Qp base w w') : RecOwn w' b0 A k c R := by
  obtain ⟨h1, h2, cells, h3, h4⟩ := h
  exact ⟨h1, h2, cells, hq.own h3 (by unfold pgTy; decide), h4.qp hq⟩
theorem RecOwn.up {w w' : World} {b0 k c : Nat} {A : Option Addr} {R : List (Int × List UInt8)} (h : RecOwn w b0 A k c R) (hu : Up w w') : RecOwn w' b0 A k c R := h.qp (base := 0) (Qp.up hu (Nat.zero_le _))
theorem PgAt.other {w w' : World} {base p d : Nat} {B : PgB} {S : PgV} {X : Nat → Prop} {ok : TypeId → Prop} (h : PgAt w base p d B S) (hf : Fr X w w') (ht : Tys w X ok (fun _ => False)) (h1 : ∀ t, ok t → ¬ pgTy t ∧ t ≠ 5 ∧ t ≠ 4) : PgAt w' base p d B S :=
  have k : ∀ t, pgTy t → ¬ ok t := fun t ht ho => (h1 t ho).1 ht
  ⟨h.own.tys hf ht (k _ (by unfold pgTy; decide)), h.disk.tys hf ht (k _ (by unfold pgTy; decide)) (k _ (by unfold pgTy; decide)) (fun ho => (h1 _ ho).2.2 rfl) ⟨id, id⟩, h.cache.tys hf ht (k _ (by unfold pgTy; decide)) (k _ (by unfold pgTy; decide)) (fun ho => (h1 _ ho).2.1 rfl) id,
    fun T hT => (h.tran T hT).tys hf ht (k _ (by unfold pgTy; decide)) (k _ (by unfold pgTy; decide)) (fun ho => (h1 _ ho).2.1 rfl) ⟨id, fun _ _ => id⟩, h.off, h.low⟩
theorem Qp.grown {w w2 w4 : World} {base : Nat} {row : Option Nat} (h : Qp base w w2) (g : w2.grownBy w4 row) (hrow : ∀ k, row = some k → w.heap.size ≤ k) (hb : base ≤ w.heap.size) : Qp base w w4 := by
  have hf := Fr.of_grown g
  have hs := h.low.size
  refine ⟨h.low.trans (hf.below (by omega) (fun k hk e => by have := hrow k e.symm; omega)), fun k cs ty fr hn hk => ?_⟩
  have hk2 := h.keep k cs ty fr hn hk
  exact (hf.block k (Array.getElem?_eq_some_iff.1 hk2).1 (fun e => by have := hrow k e.symm; have := (Array.getElem?_eq_some_iff.1 hk).1; omega)).trans hk2
theorem own_tys {w : World} {b n : Nat} {e : TypeId} {size : Nat} {v : Value} {xs : List Value} (h : w.ownsRow b e size v n xs) : Tys w (fun k => some k = v.ownBlock) (fun t => t = e) (fun _ => False) := fun k hk _ => by
  obtain ⟨cs, fr, hb⟩ := ownRow_blk h hk.symm
  exact .inl ⟨cs, e, fr, hb, rfl⟩
def recsBelow (Sp : List (List UInt8)) (n : Nat) (L : List (Int × List UInt8)) (pg : Nat) : List (Int × List UInt8) :=
  ((List.range (pg - 1)).filter fun i => inX n L (i + 1)).map fun i => (((i + 1 : Nat) : Int), Sp[i]?.getD [])
def BefI (w : World) (base p d : Nat) (B : PgB) (S : PgV) (Sp : List (List UInt8)) (n : Nat) (wr : World) (pg k : Nat) (A : Option Addr) (c : Nat) : Prop :=
  ∃ C, (PgAt wr base p d B { S with C := C } ∧ CacheOk Sp C.V ∧ C.room = S.C.room) ∧ Qp base w wr ∧ RecOwn wr w.heap.size A k c (recsBelow Sp n (plainL B.L) pg) ∧ w.heap.size ≤ wr.heap.size
def BefRet (w : World) (base p d : Nat) (B : PgB) (S : PgV) (Sp : List (List UInt8)) (R : List (Int × List UInt8)) (en : Ending) (w' : World) : Prop :=
  ∃ A k c C, en = .returned (.tuple #[.slice A k c, .int .i64 0]) ∧ Hid ((PgAt w' base p d B { S with C := C } ∧ CacheOk Sp C.V ∧ C.room = S.C.room) ∧ Qp base w w' ∧ RecOwn w' w.heap.size A k c R)
end Go.Proofs.YtbcghggkfnagoaaGreatDoor
