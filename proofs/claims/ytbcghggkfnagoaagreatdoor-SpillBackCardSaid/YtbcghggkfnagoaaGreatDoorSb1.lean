/- LAWS for SpillBack: chains one behind the other, the set of the pages that were seen, the chains' first pages. -/
import Derived.Test.YtbcghggkfnagoaaGreatDoorSch8
import Derived.Test.YtbcghggkfnagoaaGreatDoorFreO
import Derived.Test.YtbcghggkfnagoaaGreatDoorStr
set_option linter.unusedVariables false
set_option linter.unusedSimpArgs false
namespace Go.Proofs.YtbcghggkfnagoaaGreatDoor
open Go Go.RowKit Go.Maps Hach

def kOf (x : Nat) : Nat := 1 + x % 20000
theorem kOf_le (x : Nat) : 1 ≤ kOf x ∧ kOf x ≤ 20000 := by unfold kOf; omega
theorem cnt_kOf (x : Nat) : 1 ≤ cnt (kOf x) ∧ cnt (kOf x) ≤ 40 := by have := kOf_le x; unfold cnt; omega
/-- How many pages there are behind so many chains. -/
def nOf : List Nat → Nat
  | [] => 1
  | x :: l => cnt (kOf x) + nOf l
theorem nOf_append (l l' : List Nat) : nOf (l ++ l') + 1 = nOf l + nOf l' := by
  induction l with
  | nil => show nOf l' + 1 = 1 + nOf l'; omega
  | cons x l ih => show cnt (kOf x) + nOf (l ++ l') + 1 = cnt (kOf x) + nOf l + nOf l'; omega
theorem nOf_one (l : List Nat) (x : Nat) : nOf (l ++ [x]) = nOf l + cnt (kOf x) := by
  have := nOf_append l [x]
  have h : nOf [x] = cnt (kOf x) + 1 := rfl
  omega
theorem nOf_pos (l : List Nat) : 1 ≤ nOf l := by
  cases l with
  | nil => exact Nat.le_refl _
  | cons x l => have := cnt_kOf x; show 1 ≤ cnt (kOf x) + nOf l; omega
theorem nOf_le (l : List Nat) : nOf l ≤ 1 + l.length * 40 := by
  induction l with
  | nil => exact Nat.le_refl _
  | cons x l ih => have := cnt_kOf x; show cnt (kOf x) + nOf l ≤ _; rw [List.length_cons]; omega
theorem nOf_take_le (l : List Nat) {i j : Nat} (h : i ≤ j) : nOf (l.take i) ≤ nOf (l.take j) := by
  have e : l.take j = l.take i ++ (l.take j).drop i := by
    conv => lhs; rw [← List.take_append_drop i (l.take j), List.take_take, Nat.min_eq_left h]
  rw [e]
  have := nOf_append (l.take i) ((l.take j).drop i)
  have := nOf_pos ((l.take j).drop i)
  omega
theorem nOf_next {l : List Nat} {i x : Nat} (h : l[i]? = some x) : nOf (l.take (i + 1)) = nOf (l.take i) + cnt (kOf x) := by rw [take_next h, nOf_one]
/-- The first pages of so many chains. -/
def stL (xs : List Nat) (j : Nat) : List Nat := (List.range j).map fun i => nOf (xs.take i) + 1
theorem stL_len (xs : List Nat) (j : Nat) : (stL xs j).length = j := by unfold stL; rw [List.length_map, List.length_range]
theorem stL_snoc (xs : List Nat) (j : Nat) : stL xs (j + 1) = stL xs j ++ [nOf (xs.take j) + 1] := by unfold stL; rw [List.range_succ, List.map_append]; rfl
theorem stL_at {xs : List Nat} {i j : Nat} (h : i < j) : (stL xs j)[i]? = some (nOf (xs.take i) + 1) := by unfold stL; rw [List.getElem?_map, List.getElem?_range h]; rfl
/-- What the pages hold. -/
def BackU (xs : List Nat) (j : Nat) (U : Nat → List UInt8) : Prop := ∀ i x, i < j → xs[i]? = some x → Chained U (nOf (xs.take i) + 1) (bytesV (kOf x) i)
theorem BackU.agree {xs : List Nat} {j : Nat} {U U' : Nat → List UInt8} (h : BackU xs j U) (hU : ∀ p, 2 ≤ p → p ≤ nOf (xs.take j) → U' p = U p) : BackU xs j U' := fun i x hi hx =>
  (h i x hi hx).agree fun p h1 h2 => hU p (by have := nOf_pos (xs.take i); omega) (by
    rw [bytesV_len] at h2
    have h3 := nOf_next hx
    have h4 := nOf_take_le xs (show i + 1 ≤ j by omega)
    omega)
theorem BackU.next {xs : List Nat} {j x : Nat} {U U' : Nat → List UInt8} (h : BackU xs j U) (hx : xs[j]? = some x) (hU : ∀ p, p ≤ nOf (xs.take j) → U' p = U p) (hc : Chained U' (nOf (xs.take j) + 1) (bytesV (kOf x) j)) : BackU xs (j + 1) U' := fun i y hi hy => by
  by_cases e : i = j
  · subst e
    obtain rfl := Option.some.inj (hx.symm.trans hy)
    exact hc
  · exact h.agree (fun p _ h2 => hU p h2) i y (by omega) hy
/-- The pages of a chain. -/
def pgL (s c : Nat) : List Nat := (List.range c).map fun i => s + i
theorem pgL_len (s c : Nat) : (pgL s c).length = c := by unfold pgL; rw [List.length_map, List.length_range]
theorem pgL_at {s c t : Nat} (h : t < c) : (pgL s c)[t]? = some (s + t) := by unfold pgL; rw [List.getElem?_map, List.getElem?_range h]; rfl
theorem pgL_mem {s c p : Nat} : p ∈ pgL s c ↔ s ≤ p ∧ p < s + c := by
  unfold pgL
  rw [List.mem_map]
  constructor
  · rintro ⟨i, hi, rfl⟩
    rw [List.mem_range] at hi
    omega
  · rintro ⟨h1, h2⟩
    exact ⟨p - s, List.mem_range.2 (by omega), by omega⟩
theorem pgL_nodup (s c : Nat) : (pgL s c).Nodup := by
  unfold pgL
  rw [List.Nodup, List.pairwise_map]
  exact List.Pairwise.imp (fun h e => h (by omega)) (List.nodup_range (n := c))
theorem spE_pages (s c : Nat) (b : List UInt8) (j t : Nat) : (spE s c b t j).map Prod.fst = ((List.range j).map fun i => s + (t + i)).map fun p : Nat => (p : Int) := by
  induction j generalizing t with
  | zero => rfl
  | succ j ih =>
    show ((s + t : Nat) : Int) :: (spE s c b (t + 1) j).map Prod.fst = _
    rw [ih (t + 1), List.range_succ_eq_map]
    simp only [List.map_cons, List.map_map, Nat.add_zero]
    congr 1
    apply List.map_congr_left
    intro i _
    simp only [Function.comp]
    congr 2
    omega
theorem spE_pgL (s c : Nat) (b : List UInt8) : (spE s c b 0 c).map Prod.fst = (pgL s c).map fun p : Nat => (p : Int) := by
  rw [spE_pages]
  unfold pgL
  congr 1
  apply List.map_congr_left
  intro i _
  omega
/-- Where SpillBack's rounds stand. -/
structure BackG (w : World) (X : HpX) (mb : Nat) (xs : List Nat) (n jU m j : Nat) (A1 : Option Addr) (c1 : Nat) (W : World) : Prop where
  up : Up w W
  heap : ∃ U, HeapW W X n [] (fun _ => 0) U ∧ BackU xs jU U
  set : SetM W mb (List.range' 1 m)
  own : W.ownsRow (mb + 1) 3 1 (.slice A1 j c1) j ((stL xs j).map natCell)
  low : w.heap.size ≤ X.t ∧ X.t < mb ∧ w.heap.size ≤ X.m ∧ X.m < mb ∧ w.heap.size ≤ mb
section
variable {w W W2 : World} {X : HpX} {mb : Nat} {xs : List Nat} {n jU m j : Nat} {A1 : Option Addr} {c1 : Nat}
theorem BackG.grow (h : BackG w X mb xs n jU m j A1 c1 W) (hu : Up W W2) : BackG w X mb xs n jU m j A1 c1 W2 := by
  obtain ⟨U, h1, h2⟩ := h.heap
  exact ⟨h.up.t hu, ⟨U, h1.up hu, h2⟩, h.set.up hu, (Fr.of_below hu).own h.own (fun _ _ e => e), h.low⟩
theorem BackG.write (h : BackG w X mb xs n jU m j A1 c1 W) {n' j' : Nat} {U' : Nat → List UInt8} (hw : HeapW W2 X n' [] (fun _ => 0) U') (hb : BackU xs j' U') (hf : Fr (HpS X) W W2) : BackG w X mb xs n' j' m j A1 c1 W2 := by
  have hl := h.low
  refine ⟨Fr.ups h.up hf (fun k e => by rcases e with e | e <;> omega), ⟨U', hw, hb⟩, h.set.kept hf (fun e => by rcases e with e | e <;> omega), hf.own h.own (fun k hk e => ?_), hl⟩
  have := (own_block h.own k hk).1
  rcases e with e | e <;> omega
theorem BackG.add (h : BackG w X mb xs n jU m j A1 c1 W) (hg : W.grownBy W2 (some mb)) (hs : SetM W2 mb (List.range' 1 (m + 1))) : BackG w X mb xs n jU (m + 1) j A1 c1 W2 := by
  have hl := h.low
  have hf : Fr (fun k => k = mb) W W2 := (Fr.of_grown hg).mono (fun k e => Option.some.inj e)
  obtain ⟨U, h1, h2⟩ := h.heap
  exact ⟨Fr.ups h.up hf (fun k e => by omega), ⟨U, h1.fr hf (fun k _ e => e ▸ apart_set h.set (by omega)), h2⟩, hs, hf.own h.own (fun k hk e => by have := (own_block h.own k hk).1; omega), hl⟩
theorem BackG.app (h : BackG w X mb xs n jU m j A1 c1 W) {ob : Obj} {A6 : Option Addr} {c6 : Nat} (g6 : (W.alloc ob).grownBy W2 (Value.slice A1 j c1).ownBlock) (o6 : W2.ownsRow (mb + 1) 3 1 (.slice A6 (j + 1) c6) (j + 1) ((stL xs (j + 1)).map natCell)) : BackG w X mb xs n jU m (j + 1) A6 c6 W2 := by
  have hl := h.low
  have h' := h.grow (upAlD (Up.refl W) ob)
  have hrow := own_block h'.own
  have hf := Fr.of_grown g6
  obtain ⟨U, h1, h2⟩ := h'.heap
  refine ⟨Fr.ups h'.up hf (fun k e => by have := (hrow k e.symm).1; omega), ⟨U, h1.fr hf (fun k _ e => apart_own (A := none) (c := 0) h'.own e.symm), h2⟩, h'.set.kept hf (fun e => by have := (hrow mb e.symm).1; omega), o6, hl⟩
end
section
variable (w : World) (X : HpX) (n : Nat) (T : List Trk) (W : Nat → Int) (U : Nat → List UInt8) (s k c : Nat) (b : List UInt8)
/-- A chain that is there, as a row of pages. -/
structure ChainOk (n : Nat) (T : List Trk) (U : Nat → List UInt8) (s k c : Nat) (b : List UInt8) : Prop where
  ch : Chained U s b
  len : b.length = k
  pos : 1 ≤ k ∧ k ≤ 20000
  cnt : cnt k = c
  low : 2 ≤ s
  top : s + c ≤ n + 1
  mem : ∀ p, s ≤ p → p < s + c → p ∉ allT T
theorem ChainOk.all {n : Nat} {T : List Trk} {U B : Nat → List UInt8} {s k c : Nat} {b : List UInt8} (h : ChainOk n T U s k c b) (hn : n ≤ 4000) (hB : ∀ i, 2 ≤ i → i ≤ n → i ∉ allT T → B i = U i) : Chained B s b ∧ allV n B (s : Int) k = some (spE s c b 0 c) := by
  have h1 : Chained B s b := h.ch.agree fun i h1 h2 => by
    rw [h.len, h.cnt] at h2
    exact hB i (by have := h.low; omega) (by have := h.top; omega) (h.mem i h1 h2)
  refine ⟨h1, ?_⟩
  rw [allV_chained h1 h.low (by rw [h.len, h.cnt]; exact h.top) (by omega), h.len, if_pos rfl, h.cnt]
theorem pagesC_calls (hh : Hid (HeapW w X n T W U)) (hn : Hid (n ≤ 4000)) (hc : Hid (ChainOk n T U s k c b)) :
    Calls Tryz.prog 64 #[.pointer (some ⟨X.h, 0, none⟩), .int .i64 s, .int .i64 k] w (PagesSp w (pgL s c)) := by
  obtain ⟨L, hp, hs⟩ := hh.out
  obtain ⟨B, hB, hBU⟩ := hs.pgB
  have h40 : c ≤ 40 := by have h1 := hc.out.cnt; have h2 := hc.out.pos; unfold cnt at h1; omega
  exact pagesYes_calls w n B X.h s k _ (pgL s c) (hid (hc.out.all hn.out hBU).2) (hid (spE_pgL s c b)) (hid (by rw [pgL_len]; omega)) (all_calls w X.h X.p X.t X.m X.q X.mv X.last n L (hid hp) (hid ⟨hs.one, hn.out⟩) B (hid hB) s k (hid hc.out.pos))
theorem freeC_calls (hh : Hid (HeapW w X n T W U)) (hn : Hid (n ≤ 4000)) (hc : Hid (ChainOk n T U s k c b)) :
    Calls Tryz.prog 65 #[.pointer (some ⟨X.h, 0, none⟩), .int .i64 s, .int .i64 k] w (FreeSp w X n T W U (pgL s c)) := by
  obtain ⟨L, hp, hs⟩ := hh.out
  obtain ⟨B, hB, hBU⟩ := hs.pgB
  have h40 : c ≤ 40 := by have h1 := hc.out.cnt; have h2 := hc.out.pos; unfold cnt at h1; omega
  exact freeYes_calls w X n T W U hh hn B s k _ (pgL s c) (hid (hc.out.all hn.out hBU).2) (hid (spE_pgL s c b)) (hid (by rw [pgL_len]; omega))
    (hid ⟨pgL_nodup s c, fun p hp => by
      have h1 := pgL_mem.1 hp
      exact ⟨by have := hc.out.low; omega, by have := hc.out.top; omega, hc.out.mem p h1.1 h1.2⟩⟩)
    (all_calls w X.h X.p X.t X.m X.q X.mv X.last n L (hid hp) (hid ⟨hs.one, hn.out⟩) B (hid hB) s k (hid hc.out.pos))
theorem readC_calls (hh : Hid (HeapW w X n T W U)) (hn : Hid (n ≤ 4000)) (hc : Hid (ChainOk n T U s k c b)) :
    Calls Tryz.prog 35 #[.pointer (some ⟨X.h, 0, none⟩), .int .i64 s, .int .i64 k] w fun en w' => ∃ (A : Option Addr) (c' : Nat), en = .returned (.tuple #[.slice A k c', .int .i64 0]) ∧ Hid (Bytes w' A b ∧ Up w w') := by
  refine (readH_calls w X n T W U hh hn s k).mono ?_
  rintro en w' ⟨B, hB, A, m, c', rfl, hr⟩
  have h1 := (hc.out.all hn.out hB).1
  have h2 := readV_back h1 (n := n) hc.out.low (by rw [hc.out.len, hc.out.cnt]; exact hc.out.top) (by have := hn.out; omega) (by rw [hc.out.len]; exact hc.out.pos.1) (by rw [hc.out.len]; exact hc.out.pos.2)
  rw [hc.out.len] at h2
  rw [h2] at hr ⊢
  obtain rfl : m = k := hr.out.1.trans hc.out.len
  exact ⟨A, c', rfl, hid hr.out.2⟩
end
theorem BackU.ok {xs : List Nat} {N i x : Nat} {U : Nat → List UInt8} {T : List Trk} (h : BackU xs N U) (hi : i < N) (hx : xs[i]? = some x) (hT : ∀ p, nOf (xs.take i) + 1 ≤ p → p < nOf (xs.take i) + 1 + cnt (kOf x) → p ∉ allT T) :
    ChainOk (nOf (xs.take N)) T U (nOf (xs.take i) + 1) (kOf x) (cnt (kOf x)) (bytesV (kOf x) i) := by
  have h1 := nOf_next hx
  have h2 := nOf_take_le xs (show i + 1 ≤ N by omega)
  exact ⟨h i x hi hx, bytesV_len _ _, kOf_le x, rfl, by have := nOf_pos (xs.take i); omega, by omega, hT⟩
theorem chains_apart {xs : List Nat} {i j x y p : Nat} (hij : i ≠ j) (hx : xs[i]? = some x) (hy : xs[j]? = some y) (h1 : nOf (xs.take i) + 1 ≤ p) (h2 : p < nOf (xs.take i) + 1 + cnt (kOf x)) : p ∉ allT (givesV [] (pgL (nOf (xs.take j) + 1) (cnt (kOf y)))) := by
  rw [givesV_mem, pgL_mem]
  have a1 := nOf_next hx
  have a2 := nOf_next hy
  rintro (⟨b1, b2⟩ | b)
  · rcases Nat.lt_or_gt_of_ne hij with h | h
    · have := nOf_take_le xs (show i + 1 ≤ j by omega); omega
    · have := nOf_take_le xs (show j + 1 ≤ i by omega); omega
  · simp [allT] at b
end Go.Proofs.YtbcghggkfnagoaaGreatDoor
