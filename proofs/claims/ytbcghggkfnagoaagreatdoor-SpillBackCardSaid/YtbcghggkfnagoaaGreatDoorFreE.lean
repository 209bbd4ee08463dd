/- A SET OF NUMBERS, as a map of truth values. THE HEAP beside other memory; a new heap in the document's words. -/
import Derived.Test.YtbcghggkfnagoaaGreatDoorFreD
import Derived.Maps.OwnSet
import Derived.Maps.OwnOps
import Derived.Test.YtbcghggkfnagoaaGreatDoorFla1
set_option linter.unusedVariables false
set_option linter.unusedSimpArgs false
namespace Go.Proofs.YtbcghggkfnagoaaGreatDoor
open Go Go.RowKit Go.Maps Hach

def yesElem (v : Value) : Option (DataW Unit × List MemPlace) :=
  match v with
  | .bool b => some (.lit (.bool b), [])
  | _ => none
theorem yesElem_mk (b : Bool) : yesElem (.bool b) = some (.lit (.bool b), []) := rfl
theorem yesElem_inv {v : Value} {b : Bool} {ps : List MemPlace} (h : yesElem v = some (.lit (.bool b), ps)) : v = .bool b := by
  unfold yesElem at h
  split at h
  · injection h with h
    injection h with h _
    injection h with h
    injection h with h
    rw [h]
  · cases h
theorem zeroY (w : World) : (zeroValue 4).run Tryz.prog w = .ok (.bool false) w := by kernel_rfl
/-- The map has just the numbers of S, each with true. -/
def SetM (w : World) (m : Nat) (S : List Nat) : Prop :=
  ∃ D : DataW Unit, w.ownsMap Tryz.prog 3 yesElem m S.length D ∧ (∀ p : Nat, D.atKey (.int .i64 p) (.lit (.bool false)) = .lit (.bool (decide (p ∈ S)))) ∧ (∀ p : Nat, has D (.int .i64 p) = decide (p ∈ S)) ∧ Maps.size D = S.length
theorem SetM.made (w : World) : SetM (w.alloc (.map #[] 0)) w.heap.size [] :=
  ⟨.map [], World.ownsMap_made _ _ _ _, fun p => rfl, fun p => rfl, rfl⟩
theorem SetM.lt {w : World} {m : Nat} {S : List Nat} (h : SetM w m S) : m < w.heap.size := by obtain ⟨D, h1, _⟩ := h; exact World.ownsMap.lt h1
theorem SetM.kept {w w' : World} {m : Nat} {S : List Nat} {F : Nat → Prop} (h : SetM w m S) (hf : Fr F w w') (hS : ¬ F m) : SetM w' m S := by
  obtain ⟨D, h1, h2⟩ := h
  refine ⟨D, ?_, h2⟩
  have hlt := World.ownsMap.lt h1
  obtain ⟨es, clock, hb, r⟩ := h1
  exact ⟨es, clock, (hf.block m hlt hS).trans hb, r⟩
theorem SetM.up {w w' : World} {m : Nat} {S : List Nat} (h : SetM w m S) (hu : Up w w') : SetM w' m S := h.kept (Fr.of_below hu) id
theorem SetM.like {w : World} {m : Nat} {S S' : List Nat} (h : SetM w m S) (hm : ∀ p, p ∈ S ↔ p ∈ S') (hl : S.length = S'.length) : SetM w m S' := by
  obtain ⟨D, h1, h2, h3, h4⟩ := h
  have hd : ∀ p, decide (p ∈ S) = decide (p ∈ S') := fun p => by rw [decide_eq_decide]; exact hm p
  exact ⟨D, hl ▸ h1, fun p => by rw [h2, hd], fun p => by rw [h3, hd], h4.trans hl⟩
theorem SetM.isMap {w : World} {m : Nat} {S : List Nat} (h : SetM w m S) : ∃ es clock, w.heap[m]? = some (.map es clock) := by obtain ⟨D, ⟨es, clock, hb, _⟩, _⟩ := h; exact ⟨es, clock, hb⟩
theorem SetM.look {w : World} {m : Nat} {S : List Nat} (h : SetM w m S) {p : Nat} (hp : (Lit.int .i64 (p : Int)).wf = true) :
    (Instr.lookup 29 (.map (some m)) (.int .i64 p) false).run Tryz.prog w = .ok (.bool (decide (p ∈ S))) w := by
  obtain ⟨D, h1, h2, _⟩ := h
  obtain ⟨v, ps, hrun, hv⟩ := World.ownsMap.lookup h1 keyI Tryz.underlying29 (zeroY w) (yesElem_mk false) (keyI_mk hp)
  rw [hrun]
  rw [h2] at hv
  rw [yesElem_inv hv]
theorem SetM.len {w : World} {m : Nat} {S : List Nat} (h : SetM w m S) (ty : TypeId) : (Builtin.len_ #[29] ty #[.map (some m)]).run Tryz.prog w = .ok (.int .i64 S.length) w := by
  obtain ⟨D, h1, _, _, h4⟩ := h
  rw [World.ownsMap.len h1 Tryz.underlying29 ty, h4]
theorem natLit_ne {p q : Nat} (h : q ≠ p) : (Lit.int .i64 (q : Int)) ≠ (Lit.int .i64 (p : Int)) := fun e => h (by injection e; omega)
theorem keyY (p : Int) : WideAt.IsKeyLit (.int .i64 p) := by simp [WideAt.IsKeyLit]
theorem SetM.add {w : World} {m : Nat} {S : List Nat} (h : SetM w m S) {p : Nat} (hp : (Lit.int .i64 (p : Int)).wf = true) (hn : p ∉ S) (hL : S.length < 1000000) :
    ∃ w', (Instr.mapUpdate 29 (.map (some m)) (.int .i64 p) (.bool true)).run Tryz.prog w = .ok () w' ∧ SetM w' m (S ++ [p]) ∧ w.grownBy w' (some m) := by
  obtain ⟨D, h1, h2, h3, h4⟩ := h
  obtain ⟨w', hrun, k1, k2⟩ := World.ownsMap.update h1 keyI Tryz.underlying29 (by unfold maxLen; omega) (keyI_mk hp) (yesElem_mk true)
  have hm := World.ownsMap.isMap h1
  have hno : has D (.int .i64 p) = false := by rw [h3, decide_eq_false hn]
  refine ⟨w', hrun, ⟨_, by rw [List.length_append]; exact k1, fun q => ?_, fun q => ?_, ?_⟩, k2⟩
  · by_cases e : q = p
    · subst e
      rw [atKey_put_same hm (keyY q), decide_eq_true (by simp)]
    · rw [atKey_put_other (natLit_ne e), h2, show decide (q ∈ S) = decide (q ∈ S ++ [p]) from decide_eq_decide.2 (by simp [e])]
  · by_cases e : q = p
    · subst e
      rw [has_put_same hm (keyY q), decide_eq_true (by simp)]
    · rw [has_put_other (natLit_ne e), h3]
      exact decide_eq_decide.2 (by simp [e])
  · rw [size_put (World.ownsMap.tidy h1 keyI), hno, List.length_append, h4]; rfl
theorem SetM.del {w : World} {m : Nat} {S S' : List Nat} {p : Nat} (h : SetM w m S) (hp : (Lit.int .i64 (p : Int)).wf = true) (hy : p ∈ S) (hm : ∀ q, q ∈ S' ↔ q ∈ S ∧ q ≠ p) (hl : S.length = S'.length + 1) (ty : TypeId) :
    ∃ w', (Builtin.delete_ #[29, 3] ty #[.map (some m), .int .i64 p]).run Tryz.prog w = .ok (.tuple #[]) w' ∧ SetM w' m S' ∧ w.grownBy w' (some m) := by
  obtain ⟨D, h1, h2, h3, h4⟩ := h
  obtain ⟨w', hrun, k1, k2⟩ := World.ownsMap.drop h1 keyI Tryz.underlying29 (keyI_mk hp) ty
  have hyes : has D (.int .i64 p) = true := by rw [h3, decide_eq_true hy]
  have hsz : Maps.size (D.del (.int .i64 p)) = S'.length := by
    have := size_del (k := Lit.int .i64 (p : Int)) (World.ownsMap.tidy h1 keyI)
    rw [hyes, h4] at this
    simp only [if_true] at this
    omega
  obtain ⟨es, clock, hb, F, hs, hD⟩ := k1
  refine ⟨w', hrun, ⟨_, ⟨es, clock, hb, F, ?_, hD⟩, fun q => ?_, fun q => ?_, hsz⟩, k2.grown⟩
  · rw [← hsz, hD, Maps.size_eq, length_sorted]; simp
  · by_cases e : q = p
    · subst e
      rw [atKey_del_same, decide_eq_false (fun h => ((hm q).1 h).2 rfl)]
    · rw [atKey_del_other (natLit_ne e), h2, show decide (q ∈ S) = decide (q ∈ S') from decide_eq_decide.2 (by rw [hm]; simp [e])]
  · by_cases e : q = p
    · subst e
      rw [has_del_same, decide_eq_false (fun h => ((hm q).1 h).2 rfl)]
    · rw [has_del_other (natLit_ne e), h3]
      exact decide_eq_decide.2 (by rw [hm]; simp [e])
end Go.Proofs.YtbcghggkfnagoaaGreatDoor

namespace Go.Proofs.YtbcghggkfnagoaaGreatDoor
open Go Go.RowKit Go.Maps Hach

theorem own_obj {w : World} {base : Nat} {e : TypeId} {size n : Nat} {v : Value} {xs : List Value} (h : w.ownsRow base e size v n xs) {k : Nat} (hk : v.ownBlock = some k) : ∃ cs fr, w.heap[k]? = some (.cells cs e fr) := by
  rcases h.2 with ⟨hv, _⟩ | ⟨g, cap, cur, hv, hb, hg, _⟩
  · subst hv; cases hk
  · subst hv
    obtain rfl := Option.some.inj hk
    exact ⟨_, _, hg⟩
/-- A block that is none of the heap's: numbers, or another map. -/
def Apart (w : World) (X : HpX) (k : Nat) : Prop := (∃ cs fr, w.heap[k]? = some (.cells cs 3 fr)) ∨ (k ≠ X.m ∧ ∃ es cl, w.heap[k]? = some (.map es cl))
theorem HeapW.fr {S : Nat → Prop} {w w' : World} {X : HpX} {n : Nat} {T : List Trk} {W : Nat → Int} {U : Nat → List UInt8} (h : HeapW w X n T W U) (hf : Fr S w w') (hS : ∀ k, k < w.heap.size → S k → Apart w X k) : HeapW w' X n T W U := by
  obtain ⟨L, hp, hs⟩ := h
  refine ⟨L, ?_, hs⟩
  have h1 := hp.own
  have h2 := hp.tran.tran
  have h3 : w.heap[X.p]? = some (.cells (pagerCs X.q (.pointer (some ⟨X.t, 0, none⟩)) false) 80 (0, 0)) := hp.tran.own
  obtain ⟨es, cl, hm⟩ := hp.tran.map.isMap
  have lt : ∀ {k o}, w.heap[k]? = some o → k < w.heap.size := fun e => (Array.getElem?_eq_some_iff.1 e).1
  have key : ∀ {k : Nat} {cs : Array Value} {t : TypeId} {fr}, w.heap[k]? = some (.cells cs t fr) → t ≠ 3 → ¬ S k := fun hk ht hs => by
    rcases hS _ (lt hk) hs with ⟨cs', fr', e⟩ | ⟨_, es', cl', e⟩
    · rw [hk] at e; injection e with e; injection e with _ e _; exact ht e
    · rw [hk] at e; cases e
  have e1 := key h1 (by decide)
  have e2 := key h2 (by decide)
  have e3 := key h3 (by decide)
  have e4 : ¬ S X.m := fun hs => by
    rcases hS _ (lt hm) hs with ⟨cs', fr', e⟩ | ⟨e, _⟩
    · rw [hm] at e; cases e
    · exact e rfl
  refine ⟨(hf.block X.h (lt h1) e1).trans h1, hp.tran.own.fr hf e3, (hf.block X.t (lt h2) e2).trans h2, hp.tran.map.kept hf e4, fun y hy => ?_⟩
  have hr := hp.tran.rows y hy
  obtain ⟨cs, fr, hb⟩ := hr.row.1
  exact hr.fr hf (key hb (by decide))
theorem apart_own {w : World} {X : HpX} {base n c k : Nat} {A : Option Addr} {l : List Nat} {v : Value} (h : w.ownsRow base 3 1 v n (l.map natCell)) (hk : v.ownBlock = some k) : Apart w X k := .inl (own_obj h hk)
theorem apart_set {w : World} {X : HpX} {m : Nat} {S : List Nat} (h : SetM w m S) (hm : X.m < m) : Apart w X m := .inr ⟨by omega, h.isMap⟩
theorem root_words : ∀ i, i < 60 → wrap64 (pgGet rootPage (16 + i * 8) 8 : Int) = 0 := by
  have : ∀ i : Fin 60, wrap64 (pgGet rootPage (16 + i.1 * 8) 8 : Int) = 0 := by decide +kernel
  exact fun i hi => this ⟨i, hi⟩
theorem root_magic : rootPage.take 8 = magicB := by decide +kernel
theorem freshFull (g c : Nat) : Full [(1, ⟨g, c, rootPage⟩)] 1 := by
  intro i h1 hi
  have e : i = 1 := by omega
  subst e
  exact ⟨_, rfl⟩
theorem freshS (g c : Nat) (U : Nat → List UInt8) : HeapS [(1, ⟨g, c, rootPage⟩)] 1 [] (fun _ => 0) U := by
  refine ⟨⟨by simp, fun y hy => ?_⟩, fun y hy => ?_, Nat.le_refl _, ⟨_, rfl, ⟨root_nums.2, root_nums.1, root_words, root_magic⟩⟩, trivial, by simp [allT], fun x hx => by simp [allT] at hx, fun i h2 h1 _ => by omega, freshFull g c⟩
  · rw [List.mem_singleton.1 hy]; exact ⟨Int.le_refl _, Int.le_refl _⟩
  · rw [List.mem_singleton.1 hy]; exact rootPage_len
def FreshH (w : World) (en : Ending) (w' : World) : Prop :=
  ∃ X : HpX, en = .returned (.tuple #[.pointer (some ⟨X.p, 0, none⟩), .pointer (some ⟨X.h, 0, none⟩), .bool true]) ∧ Hid (HeapW w' X 1 [] (fun _ => 0) (fun _ => []) ∧ Up w w' ∧ (w.heap.size ≤ X.t ∧ X.t < w'.heap.size) ∧ (w.heap.size ≤ X.m ∧ X.m < w'.heap.size))
theorem freshH_calls (w : World) : Calls Tryz.prog 14 #[] w (FreshH w) := by
  refine (fresh8_calls w).mono ?_
  rintro en w' ⟨p, h, t, m, q, mv, last, g, c, rfl, hr⟩
  obtain ⟨h1, h2, h3, h4⟩ := hr.out
  exact ⟨⟨h, p, t, m, q, mv, last⟩, rfl, hid ⟨⟨_, h1, freshS g c _⟩, h2, ⟨h3, (Array.getElem?_eq_some_iff.1 h1.tran.tran).1⟩, ⟨h4, h1.tran.map.lt⟩⟩⟩
theorem HeapW.step {w w' : World} {X : HpX} {n : Nat} {T : List Trk} {W : Nat → Int} {U : Nat → List UInt8} (h : HeapW w X n T W U) : X.t < w.heap.size ∧ X.m < w.heap.size := by
  obtain ⟨L, hp, _⟩ := h
  exact ⟨(Array.getElem?_eq_some_iff.1 hp.tran.tran).1, hp.tran.map.lt⟩
theorem hpagesW_calls (w : World) (X : HpX) (n : Nat) (T : List Trk) (W : Nat → Int) (U : Nat → List UInt8) (hh : Hid (HeapW w X n T W U)) :
    Calls Tryz.prog 18 #[.pointer (some ⟨X.p, 0, none⟩)] w fun en w' => en = .returned (.int .i64 n) ∧ w' = w := by
  obtain ⟨L, hp, hs⟩ := hh.out
  exact ppages_calls w X.p X.t X.m X.q X.mv X.last n L (hid hp.tran)
/-! ### numbers that are taken, in a row and in a set -/
/-- What was taken (l, in a row and in the map mb), and the heap. -/
structure OnceI (w wr : World) (X : HpX) (mb n : Nat) (T : List Trk) (l : List Nat) (A : Option Addr) (k c : Nat) : Prop where
  up : Up w wr
  heap : ∃ U, HeapW wr X n T (fun _ => 0) U
  set : SetM wr mb l
  own : wr.ownsRow (mb + 1) 3 1 (.slice A k c) k (l.map natCell)
  len : l.length = k
  nd : l.Nodup
  inn : ∀ x ∈ l, 2 ≤ x ∧ x ≤ n ∧ x ∉ allT T
  sum : l.length + (allT T).length + 1 = n
  low : w.heap.size ≤ X.t ∧ X.t < mb ∧ w.heap.size ≤ X.m ∧ X.m < mb ∧ w.heap.size ≤ mb
theorem Fr.ups {S : Nat → Prop} {w a b : World} (hu : Up w a) (hf : Fr S a b) (hS : ∀ k, S k → w.heap.size ≤ k) : Up w b := hu.trans (hf.below hu.size (fun k hk e => by have := hS k e; omega))
theorem OnceI.fresh {w wr : World} {X : HpX} {mb n : Nat} {T : List Trk} {l : List Nat} {A : Option Addr} {k c : Nat} (h : OnceI w wr X mb n T l A k c) {w2 : World} (hu : Up wr w2) : OnceI w w2 X mb n T l A k c := by
  obtain ⟨U, hU⟩ := h.heap
  exact ⟨h.up.t hu, ⟨U, hU.up hu⟩, h.set.up hu, (Fr.of_below hu).own h.own (fun _ _ e => e), h.len, h.nd, h.inn, h.sum, h.low⟩
theorem OnceI.mapw {w wr : World} {X : HpX} {mb n : Nat} {T : List Trk} {l : List Nat} {A : Option Addr} {k c : Nat} (h : OnceI w wr X mb n T l A k c) {w2 : World} (hg : wr.grownBy w2 (some mb)) : (∃ U, HeapW w2 X n T (fun _ => 0) U) ∧ w2.ownsRow (mb + 1) 3 1 (.slice A k c) k (l.map natCell) ∧ Up w w2 := by
  have hf : Fr (fun k => k = mb) wr w2 := (Fr.of_grown hg).mono (fun k e => Option.some.inj e)
  obtain ⟨U, hU⟩ := h.heap
  exact ⟨⟨U, hU.fr hf (fun k _ e => e ▸ apart_set h.set h.low.2.2.2.1)⟩, hf.own h.own (fun k hk e => by have := (own_block h.own k hk).1; omega), Fr.ups h.up hf (fun k e => e ▸ h.low.2.2.2.2)⟩
theorem OnceI.take {w wr w2 : World} {X : HpX} {mb n : Nat} {l : List Nat} {A : Option Addr} {k c : Nat} (h : OnceI w wr X mb n [] l A k c) {U : Nat → List UInt8} (hw : HeapW w2 X (n + 1) [] (fun _ => 0) U) (hf : Fr (HpS X) wr w2) :
    Up w w2 ∧ HeapW w2 X (n + 1) [] (fun _ => 0) U ∧ SetM w2 mb l ∧ w2.ownsRow (mb + 1) 3 1 (.slice A k c) k (l.map natCell) := by
  have hl := h.low
  refine ⟨Fr.ups h.up hf (fun k e => by rcases e with e | e <;> omega), hw, h.set.kept hf (fun e => by rcases e with e | e <;> omega), hf.own h.own (fun k hk e => ?_)⟩
  have := (own_block h.own k hk).1
  rcases e with e | e <;> omega
theorem split_at {α : Type} {l : List α} {i : Nat} {x : α} (h : l[i]? = some x) : l = l.take i ++ x :: l.drop (i + 1) := by
  obtain ⟨hi, he⟩ := List.getElem?_eq_some_iff.1 h
  conv => lhs; rw [← List.take_append_drop i l, List.drop_eq_getElem_cons hi, he]
theorem giveV_mem (T : List Trk) (x z : Nat) : z ∈ allT (giveV T x) ↔ z = x ∨ z ∈ allT T := by
  match T with
  | [] => simp [giveV, allT]
  | (f, ls) :: r =>
    unfold giveV
    simp only
    split
    · rw [allT_cons, allT_cons]
      simp only [List.mem_cons, List.mem_append, List.append_assoc, List.mem_nil_iff, List.not_mem_nil, or_false]
      constructor
      · rintro (h | h | h | h)
        · exact .inr (.inl h)
        · exact .inr (.inr (.inl h))
        · exact .inl h
        · exact .inr (.inr (.inr h))
      · rintro (h | h | h | h)
        · exact .inr (.inr (.inl h))
        · exact .inl h
        · exact .inr (.inl h)
        · exact .inr (.inr (.inr h))
    · rw [allT_cons (x, [])]
      simp
theorem giveV_len (T : List Trk) (x : Nat) : (allT (giveV T x)).length = (allT T).length + 1 := by
  match T with
  | [] => rfl
  | (f, ls) :: r =>
    unfold giveV
    simp only
    split
    · rw [allT_cons, allT_cons]
      simp only [List.length_cons, List.length_append, List.length_nil]
      omega
    · rw [allT_cons (x, [])]
      simp
theorem OnceI.give {w wr w5 w6 : World} {X : HpX} {mb n : Nat} {T : List Trk} {l : List Nat} {A A5 : Option Addr} {k c c5 i i1 x : Nat} {U : Nat → List UInt8} (h : OnceI w wr X mb n T l A k c) (hx : l[i]? = some x) (hi1 : i + 1 = i1) (hik : i < k) (u5 : Up wr w5)
    (o5 : w5.ownsRow wr.heap.size 3 1 (.slice A5 (i + (k - i1)) c5) (i + (k - i1)) ((l.take i).map natCell ++ (l.drop i1).map natCell)) (h6 : HeapW w6 X n (giveV T x) (fun _ => 0) U) (f6 : Fr (HpS X) w5 w6) :
    SetM w6 mb l ∧ (∀ q, q ∈ l.take i ++ l.drop i1 ↔ q ∈ l ∧ q ≠ x) ∧ l.length = (l.take i ++ l.drop i1).length + 1 ∧ ∀ w7, SetM w7 mb (l.take i ++ l.drop i1) → w6.grownBy w7 (some mb) → OnceI w w7 X mb n (giveV T x) (l.take i ++ l.drop i1) A5 (i + (k - i1)) c5 := by
  subst hi1
  have hl := h.low
  have hs := split_at hx
  have hnd := h.nd
  have hlen := h.len
  have hpm : l.Perm (x :: (l.take i ++ l.drop (i + 1))) := by
    conv => lhs; rw [hs]
    exact List.perm_middle
  have hnd2 : (x :: (l.take i ++ l.drop (i + 1))).Nodup := hpm.nodup_iff.1 hnd
  rw [List.nodup_cons] at hnd2
  have hmem : ∀ q, q ∈ l.take i ++ l.drop (i + 1) ↔ q ∈ l ∧ q ≠ x := fun q => by
    rw [hpm.mem_iff, List.mem_cons]
    constructor
    · exact fun hq => ⟨.inr hq, fun e => hnd2.1 (e ▸ hq)⟩
    · rintro ⟨rfl | hq, hne⟩
      · exact absurd rfl hne
      · exact hq
  have hlp := hpm.length_eq
  rw [List.length_cons] at hlp
  have hsz := h.set.lt
  have hsw : SetM w6 mb l := (h.set.up u5).kept f6 (fun e => by rcases e with e | e <;> omega)
  refine ⟨hsw, hmem, hlp, fun w7 hs7 hg7 => ?_⟩
  have f7 : Fr (fun b => b = mb) w6 w7 := (Fr.of_grown hg7).mono (fun b e => Option.some.inj e)
  have u6 : Up w w6 := Fr.ups (h.up.t u5) f6 (fun b e => by rcases e with e | e <;> omega)
  have o6 : w6.ownsRow (mb + 1) 3 1 (.slice A5 (i + (k - (i + 1))) c5) (i + (k - (i + 1))) ((l.take i).map natCell ++ (l.drop (i + 1)).map natCell) := own_base (f6.own o5 (fun b hb e => by have := (own_block o5 b hb).1; rcases e with e | e <;> omega)) hsz
  refine ⟨Fr.ups u6 f7 (fun b e => by omega), ⟨U, h6.fr f7 (fun b _ e => e ▸ apart_set hsw hl.2.2.2.1)⟩, hs7, ?_, ?_, hnd2.2, fun z hz => ?_, ?_, hl⟩
  · rw [List.map_append]
    exact f7.own o6 (fun b hb e => by have := (own_block o6 b hb).1; omega)
  · omega
  · have hz' := (hmem z).1 hz
    have := h.inn z hz'.1
    exact ⟨this.1, this.2.1, fun e => ((giveV_mem T x z).1 e).elim hz'.2 this.2.2⟩
  · rw [giveV_len]; have := h.sum; omega
end Go.Proofs.YtbcghggkfnagoaaGreatDoor
