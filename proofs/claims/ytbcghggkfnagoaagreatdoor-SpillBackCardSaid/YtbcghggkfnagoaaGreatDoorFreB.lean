/- THE HEAP, as its pages' numbers tell it: plain laws of what Take and Give do. THE HEAP's Take and Give, whatever is free. -/
import Derived.Test.YtbcghggkfnagoaaGreatDoorFre9
set_option linter.unusedVariables false
set_option linter.unusedSimpArgs false
namespace Go.Proofs.YtbcghggkfnagoaaGreatDoor
open Go Go.RowKit Go.Maps Hach

/-! ### numbers in a page -/
theorem mkPut_get {b : List UInt8} {i : Nat} {x : List UInt8} (h : i + x.length ≤ b.length) (k : Nat) : (mkPut b i x)[k]? = if k < i then b[k]? else if k < i + x.length then x[k - i]? else b[k]? := by
  unfold mkPut
  have h1 : (b.take i).length = i := by rw [List.length_take]; omega
  by_cases hk : k < i
  · rw [if_pos hk, List.getElem?_append_left (by omega), List.getElem?_take, if_pos hk]
  · rw [if_neg hk, List.getElem?_append_right (by omega), h1]
    by_cases hk2 : k < i + x.length
    · rw [if_pos hk2, List.getElem?_append_left (by omega)]
    · rw [if_neg hk2, List.getElem?_append_right (by omega), List.getElem?_drop]
      congr 1; omega
theorem pg_same {b : List UInt8} {i s v : Nat} (hi : i + s ≤ b.length) (hv : v < 256 ^ s) : pgGet (mkPut b i (Oct.be v s)) i s = v := by
  have hb := Oct.be_length v s
  have e : ((mkPut b i (Oct.be v s)).drop i).take s = Oct.be v s := by
    apply List.ext_getElem?
    intro k
    rw [List.getElem?_take]
    by_cases hk : k < s
    · rw [if_pos hk, List.getElem?_drop, mkPut_get (by omega), if_neg (by omega), if_pos (by omega)]
      congr 1; omega
    · rw [if_neg hk, List.getElem?_eq_none (by omega)]
  unfold pgGet
  rw [e, Oct.val_be, Nat.mod_eq_of_lt hv]
theorem pg_other {b : List UInt8} {i j s : Nat} {x : List UInt8} (hi : i + x.length ≤ b.length) (h : j + s ≤ i ∨ i + x.length ≤ j) : pgGet (mkPut b i x) j s = pgGet b j s := by
  have e : ((mkPut b i x).drop j).take s = (b.drop j).take s := by
    apply List.ext_getElem?
    intro k
    rw [List.getElem?_take, List.getElem?_take]
    by_cases hk : k < s
    · rw [if_pos hk, if_pos hk, List.getElem?_drop, List.getElem?_drop, mkPut_get hi]
      rcases h with h | h
      · rw [if_pos (by omega)]
      · rw [if_neg (by omega), if_neg (by omega)]
    · rw [if_neg hk, if_neg hk]
  unfold pgGet; rw [e]
theorem p256 : (256 : Nat) ^ 4 = 4294967296 := by decide
theorem pg_same4 {b : List UInt8} {i v : Nat} (hb : b.length = 512) (hi : i + 4 ≤ 512) (hv : v < 4294967296) : pgGet (mkPut b i (Oct.be v 4)) i 4 = v := pg_same (by omega) (by rw [p256]; exact hv)
theorem pg_other4 {b : List UInt8} {i j s v : Nat} (hb : b.length = 512) (hi : i + 4 ≤ 512) (h : j + s ≤ i ∨ i + 4 ≤ j) : pgGet (mkPut b i (Oct.be v 4)) j s = pgGet b j s := pg_other (by rw [be4_len]; omega) (by rw [be4_len]; exact h)
/-! ### keys -/
structure KeysIn (L : PgL) (n : Nat) : Prop where
  srt : L.Pairwise fun a b => a.1 < b.1
  inn : ∀ y ∈ L, 1 ≤ y.1 ∧ y.1 ≤ n
theorem insG_srt {α : Type} {x : Int × α} {L : List (Int × α)} (h : L.Pairwise fun a b => a.1 < b.1) (hx : ∀ y ∈ L, y.1 ≠ x.1) : (insG x L).Pairwise fun a b => a.1 < b.1 := by
  induction L with
  | nil => simp [insG]
  | cons y r ih =>
    have hy := hx y List.mem_cons_self
    rw [List.pairwise_cons] at h
    unfold insG
    by_cases hl : x.1 < y.1
    · rw [if_pos hl, List.pairwise_cons]
      refine ⟨fun z hz => ?_, List.pairwise_cons.2 h⟩
      rcases List.mem_cons.1 hz with rfl | hz
      · exact hl
      · exact Int.lt_trans hl (h.1 z hz)
    · rw [if_neg hl, List.pairwise_cons]
      refine ⟨fun z hz => ?_, ih h.2 (fun z hz => hx z (List.mem_cons_of_mem _ hz))⟩
      rcases mem_insG.1 hz with rfl | hz
      · omega
      · exact h.1 z hz
theorem gput_srt {α : Type} {L : List (Int × α)} (h : L.Pairwise fun a b => a.1 < b.1) (k : Int) (a : α) : (gput L k a).Pairwise fun a b => a.1 < b.1 := by
  unfold gput
  refine insG_srt (h.filter _) fun y hy e => ?_
  have := (List.mem_filter.1 hy).2
  have e' : y.1 = k := e
  rw [decide_eq_true e'] at this
  cases this
theorem KeysIn.put {L : PgL} {n : Nat} (h : KeysIn L n) {k : Nat} (hk : 1 ≤ k ∧ k ≤ n) (x : PgX) : KeysIn (gput L k x) n := by
  refine ⟨gput_srt h.srt _ _, fun y hy => ?_⟩
  rcases mem_gput hy with rfl | ⟨hy, _⟩
  · show (1 : Int) ≤ k ∧ (k : Int) ≤ n; omega
  · exact h.inn y hy
theorem KeysIn.mono {L : PgL} {n n' : Nat} (h : KeysIn L n) (hn : n ≤ n') : KeysIn L n' := ⟨h.srt, fun y hy => by have := h.inn y hy; omega⟩
theorem srt_len {α : Type} (L : List (Int × α)) (hi : Int) : ∀ lo : Int, L.Pairwise (fun a b => a.1 < b.1) → (∀ y ∈ L, lo ≤ y.1 ∧ y.1 ≤ hi) → L = [] ∨ (L.length : Int) ≤ hi - lo + 1 := by
  induction L with
  | nil => intro _ _ _; exact .inl rfl
  | cons y r ih =>
    intro lo hp hb
    rw [List.pairwise_cons] at hp
    have hy := hb y List.mem_cons_self
    rcases ih (y.1 + 1) hp.2 (fun z hz => ⟨by have := hp.1 z hz; omega, (hb z (List.mem_cons_of_mem _ hz)).2⟩) with rfl | h
    · right; simp only [List.length_cons, List.length_nil]; omega
    · right; simp only [List.length_cons]; omega
theorem KeysIn.len {L : PgL} {n : Nat} (h : KeysIn L n) : L.length ≤ n := by
  rcases srt_len L n 1 h.srt h.inn with e | e
  · rw [e]; exact Nat.zero_le _
  · omega
/-! ### trunks and the root -/
abbrev Trk := Nat × List Nat
def headT : List Trk → Nat
  | [] => 0
  | t :: _ => t.1
def allT (T : List Trk) : List Nat := T.flatMap fun t => t.1 :: t.2
theorem allT_cons (t : Trk) (T : List Trk) : allT (t :: T) = t.1 :: (t.2 ++ allT T) := by unfold allT; rw [List.flatMap_cons]; rfl
structure TrunkB (b : List UInt8) (nx : Nat) (ls : List Nat) : Prop where
  next : pgGet b 0 4 = nx
  count : pgGet b 4 4 = ls.length
  most : ls.length ≤ 126
  leaf : ∀ j x, ls[j]? = some x → pgGet b (8 + j * 4) 4 = x
def ChainT (L : PgL) : List Trk → Prop
  | [] => True
  | t :: r => (∃ y, gget L t.1 = some y ∧ TrunkB y.bs (headT r) t.2) ∧ ChainT L r
structure RootB (b : List UInt8) (f c : Nat) (W : Nat → Int) : Prop where
  first : pgGet b 8 4 = f
  count : pgGet b 12 4 = c
  words : ∀ i, i < 60 → wrap64 (pgGet b (16 + i * 8) 8 : Int) = W i
  magic : b.take 8 = magicB
/-- Each page is there. -/
def Full (L : PgL) (n : Nat) : Prop := ∀ i : Nat, 1 ≤ i → i ≤ n → ∃ y, gget L i = some y
theorem full_put {L : PgL} {n : Nat} {k : Int} {x : PgX} (h : Full L n) : Full (gput L k x) n := by
  intro i h1 hi
  rw [gget_put]
  by_cases e : k = (i : Int)
  · exact ⟨x, if_pos e⟩
  · rw [if_neg e]; exact h i h1 hi
theorem full_succ {L : PgL} {n : Nat} {x : PgX} (h : Full L n) : Full (gput L (n + 1 : Nat) x) (n + 1) := by
  intro i h1 hi
  rw [gget_put]
  by_cases e : ((n + 1 : Nat) : Int) = (i : Int)
  · exact ⟨x, if_pos e⟩
  · rw [if_neg e]; exact h i h1 (by omega)
structure HeapS (L : PgL) (n : Nat) (T : List Trk) (W : Nat → Int) (U : Nat → List UInt8) : Prop where
  keys : KeysIn L n
  lens : ∀ y ∈ L, y.2.bs.length = 512
  one : 1 ≤ n
  root : ∃ x, gget L (1 : Nat) = some x ∧ RootB x.bs (headT T) (allT T).length W
  chain : ChainT L T
  nodup : (allT T).Nodup
  inn : ∀ x ∈ allT T, 2 ≤ x ∧ x ≤ n
  used : ∀ i : Nat, 2 ≤ i → i ≤ n → i ∉ allT T → ∃ y, gget L i = some y ∧ y.bs = U i
  full : Full L n
theorem ChainT.put {L : PgL} {T : List Trk} (h : ChainT L T) {k : Nat} (x : PgX) (hk : k ∉ allT T) : ChainT (gput L k x) T := by
  induction T with
  | nil => exact trivial
  | cons t r ih =>
    rw [allT_cons] at hk
    obtain ⟨⟨y, hy, hb⟩, hr⟩ := h
    refine ⟨⟨y, ?_, hb⟩, ih hr (fun e => hk (by simp [e]))⟩
    rw [gget_put, if_neg ?_]
    · exact hy
    · intro e; exact hk (by have : k = t.1 := by omega
                            simp [this])
theorem gput_lens {L : PgL} {k : Int} {x : PgX} (h : ∀ y ∈ L, y.2.bs.length = 512) (hx : x.bs.length = 512) : ∀ y ∈ gput L k x, y.2.bs.length = 512 := by
  intro y hy
  rcases mem_gput hy with rfl | ⟨hy, _⟩
  · exact hx
  · exact h y hy
theorem take8_put {b : List UInt8} {i v : Nat} (hb : b.length = 512) (hi : 8 ≤ i ∧ i + 4 ≤ 512) : (mkPut b i (Oct.be v 4)).take 8 = b.take 8 := by
  apply List.ext_getElem?
  intro k
  rw [List.getElem?_take, List.getElem?_take]
  by_cases hk : k < 8
  · rw [if_pos hk, if_pos hk, mkPut_get (by rw [be4_len]; omega), if_pos (by omega)]
  · rw [if_neg hk, if_neg hk]
theorem RootB.first' {b : List UInt8} {f c : Nat} {W : Nat → Int} (h : RootB b f c W) (hb : b.length = 512) {f' : Nat} (hf : f' < 4294967296) : RootB (mkPut b 8 (Oct.be f' 4)) f' c W :=
  ⟨pg_same4 hb (by decide) hf, (pg_other4 hb (by decide) (.inr (by decide))).trans h.count, fun i hi => by rw [pg_other4 hb (by decide) (.inr (by omega))]; exact h.words i hi, (take8_put hb (by decide)).trans h.magic⟩
theorem RootB.count' {b : List UInt8} {f c : Nat} {W : Nat → Int} (h : RootB b f c W) (hb : b.length = 512) {c' : Nat} (hc : c' < 4294967296) : RootB (mkPut b 12 (Oct.be c' 4)) f c' W :=
  ⟨(pg_other4 hb (by decide) (.inl (by decide))).trans h.first, pg_same4 hb (by decide) hc, fun i hi => by rw [pg_other4 hb (by decide) (.inr (by omega))]; exact h.words i hi, (take8_put hb (by decide)).trans h.magic⟩
theorem noTrunk {f : Nat} (hf : f < 4294967296) : TrunkB (mkPut noPage 0 (Oct.be f 4)) f [] :=
  ⟨pg_same4 noPage_len (by decide) hf, (pg_other4 noPage_len (by decide) (.inr (by decide))).trans (by decide +kernel), by decide, fun j x h => by simp at h⟩
theorem nodup_len (m : Nat) : ∀ l : List Nat, l.Nodup → (∀ x ∈ l, x < m) → l.length ≤ m := by
  induction m with
  | zero =>
    intro l _ h
    cases l with
    | nil => exact Nat.le_refl _
    | cons x r => exact absurd (h x List.mem_cons_self) (by omega)
  | succ m ih =>
    intro l hd h
    by_cases hm : m ∈ l
    · have h1 := ih (l.erase m) (hd.erase m) fun x hx => by
        rw [hd.mem_erase_iff] at hx
        have := h x hx.2
        omega
      rw [List.length_erase_of_mem hm] at h1
      omega
    · have h1 := ih l hd fun x hx => by
        have := h x hx
        have : x ≠ m := fun e => hm (e ▸ hx)
        omega
      omega
theorem allT_len {T : List Trk} {n : Nat} (hd : (allT T).Nodup) (hi : ∀ x ∈ allT T, 2 ≤ x ∧ x ≤ n) : (allT T).length ≤ n := by
  have h1 := nodup_len n ((allT T).map fun x => x - 1) (by
    rw [List.Nodup, List.pairwise_map]
    refine List.Pairwise.imp_of_mem ?_ hd
    intro a b ha hb hne e
    have := hi a ha; have := hi b hb
    exact hne (by omega)) (fun x hx => by
    obtain ⟨y, hy, rfl⟩ := List.mem_map.1 hx
    have := hi y hy; omega)
  rw [List.length_map] at h1
  exact h1
/-! ### what Take and Give do -/
def takeV : List Trk → Nat → Nat × Nat × List Trk
  | [], n => (n + 1, n + 1, [])
  | (f, ls) :: r, n => match ls.getLast? with
    | none => (f, n, r)
    | some x => (x, n, (f, ls.dropLast) :: r)
def giveV : List Trk → Nat → List Trk
  | [], i => [(i, [])]
  | (f, ls) :: r, i => if ls.length < 126 then (f, ls ++ [i]) :: r else (i, []) :: (f, ls) :: r
def upd (U : Nat → List UInt8) (k : Nat) (b : List UInt8) : Nat → List UInt8 := fun i => if i = k then b else U i
section
variable {L : PgL} {n : Nat} {T : List Trk} {W : Nat → Int} {U : Nat → List UInt8}
theorem HeapS.take0 (h : HeapS L n [] W U) (g c : Nat) : HeapS (gput L (n + 1 : Nat) ⟨g, c, noPage⟩) (n + 1) [] W (upd U (n + 1) noPage) := by
  obtain ⟨x, hx, hr⟩ := h.root
  have h1 := h.one
  refine ⟨(h.keys.mono (Nat.le_succ n)).put ⟨by omega, by omega⟩ _, gput_lens h.lens noPage_len, by omega, ⟨x, ?_, hr⟩, trivial, h.nodup, fun x hx => by simp [allT] at hx, fun i h2 hi hn => ?_, full_succ h.full⟩
  · rw [gget_put, if_neg (by omega)]; exact hx
  · unfold upd
    rw [gget_put]
    by_cases e : i = n + 1
    · subst e
      rw [if_pos rfl, if_pos rfl]
      exact ⟨_, rfl, rfl⟩
    · rw [if_neg (by omega), if_neg e]
      exact h.used i h2 (by omega) hn
theorem HeapS.take2 {f : Nat} {r : List Trk} (h : HeapS L n ((f, []) :: r) W U) (hn : n < 1000000) {x : PgX} (hx : gget L (1 : Nat) = some x) (g1 c1 g2 c2 : Nat) :
    HeapS (gput (gput L (1 : Nat) ⟨g1, c1, mkPut (mkPut x.bs 8 (Oct.be (headT r) 4)) 12 (Oct.be ((allT ((f, []) :: r)).length - 1) 4)⟩) f ⟨g2, c2, noPage⟩) n r W (upd U f noPage) := by
  obtain ⟨x', hx', hr⟩ := h.root
  obtain rfl : x = x' := Option.some.inj (hx.symm.trans hx')
  have hd := h.nodup
  have hi := h.inn
  have hl := allT_len hd hi
  rw [allT_cons] at hd hi hl ⊢
  rw [List.nil_append] at hd hi hl ⊢
  rw [List.length_cons] at hl ⊢
  rw [List.nodup_cons] at hd
  rw [Nat.add_sub_cancel]
  have hf := hi f List.mem_cons_self
  have lx := h.lens _ (gget_mem hx)
  have hh : headT r < 4294967296 := by
    cases r with
    | nil => decide
    | cons t r => have := hi t.1 (List.mem_cons_of_mem _ (by rw [allT_cons]; exact List.mem_cons_self)); show t.1 < _; omega
  have R1 := hr.first' lx hh
  have R2 := R1.count' (mk4_len lx (by decide) _) (c' := (allT r).length) (by omega)
  refine ⟨(h.keys.put ⟨by omega, h.one⟩ _).put ⟨by omega, hf.2⟩ _, gput_lens (gput_lens h.lens (mk4_len (mk4_len lx (by decide) _) (by decide) _)) noPage_len, h.one, ⟨⟨g1, c1, _⟩, ?_, R2⟩, ?_, hd.2, fun z hz => hi z (List.mem_cons_of_mem _ hz), fun i h2 hin hni => ?_, full_put (full_put h.full)⟩
  · rw [gget_put, if_neg (by omega), gget_put, if_pos rfl]; try rfl
  · exact (h.chain.2.put _ (fun e => by have := hi 1 (List.mem_cons_of_mem _ e); omega)).put _ hd.1
  · unfold upd
    rw [gget_put]
    by_cases e : i = f
    · subst e
      rw [if_pos rfl, if_pos rfl]
      exact ⟨_, rfl, rfl⟩
    · rw [if_neg (by omega), if_neg e, gget_put, if_neg (by omega)]
      refine h.used i h2 hin ?_
      rw [allT_cons, List.nil_append, List.mem_cons]
      exact fun o => o.elim e hni
theorem HeapS.take1 {f : Nat} {ls : List Nat} {TK : Nat} {r : List Trk} (h : HeapS L n ((f, ls ++ [TK]) :: r) W U) (hn : n < 1000000) {x y : PgX} (hx : gget L (1 : Nat) = some x) (hy : gget L f = some y) (g0 c0 g1 c1 g2 c2 : Nat) :
    HeapS (gput (gput (gput L f ⟨g0, c0, mkPut (mkPut y.bs 4 (Oct.be ls.length 4)) (8 + ls.length * 4) (Oct.be 0 4)⟩) (1 : Nat) ⟨g1, c1, mkPut x.bs 12 (Oct.be ((allT ((f, ls ++ [TK]) :: r)).length - 1) 4)⟩) TK ⟨g2, c2, noPage⟩) n ((f, ls) :: r) W (upd U TK noPage) := by
  obtain ⟨x', hx', hr⟩ := h.root
  obtain rfl : x = x' := Option.some.inj (hx.symm.trans hx')
  obtain ⟨⟨y', hy', ht⟩, hc⟩ := h.chain
  obtain rfl : y = y' := Option.some.inj (hy.symm.trans hy')
  have hd := h.nodup
  have hi := h.inn
  have hl := allT_len hd hi
  have hu := h.used
  have e1 : allT ((f, ls ++ [TK]) :: r) = f :: (ls ++ (TK :: allT r)) := by rw [allT_cons, List.append_assoc]; rfl
  have e2 : allT ((f, ls) :: r) = f :: (ls ++ allT r) := allT_cons _ _
  rw [e1] at hd hi hl hu ⊢
  have el : (f :: (ls ++ (TK :: allT r))).length - 1 = (allT ((f, ls) :: r)).length := by rw [e2]; simp only [List.length_cons, List.length_append]; omega
  rw [el]
  have hf := hi f List.mem_cons_self
  have hT := hi TK (by simp)
  have lx := h.lens _ (gget_mem hx)
  have ly := h.lens _ (gget_mem hy)
  have hm : ls.length + 1 ≤ 126 := by have := ht.most; rw [List.length_append] at this; exact this
  have hc' : (allT ((f, ls) :: r)).length < 4294967296 := by rw [e2]; simp only [List.length_cons, List.length_append] at hl ⊢; omega
  have R1 := hr.count' lx hc'
  have dp : (TK :: (f :: (ls ++ allT r))).Nodup := by
    refine (List.Perm.nodup_iff ?_).1 hd
    calc (f :: (ls ++ (TK :: allT r))).Perm (f :: (TK :: (ls ++ allT r))) := List.Perm.cons _ List.perm_middle
      _ |>.Perm (TK :: (f :: (ls ++ allT r))) := List.Perm.swap _ _ _
  rw [List.nodup_cons] at dp
  have hTf : TK ≠ f := fun e => dp.1 (by rw [e]; exact List.mem_cons_self)
  have hfr : f ∉ allT r := fun e => by
    have := (List.nodup_cons.1 dp.2).1
    exact this (List.mem_append_right _ e)
  have hTr : TK ∉ allT r := fun e => dp.1 (List.mem_cons_of_mem _ (List.mem_append_right _ e))
  have l1 := mk4_len ly (i := 4) (by decide) ls.length
  have TB : TrunkB (mkPut (mkPut y.bs 4 (Oct.be ls.length 4)) (8 + ls.length * 4) (Oct.be 0 4)) (headT r) ls := by
    refine ⟨?_, ?_, by omega, fun j z hz => ?_⟩
    · rw [pg_other4 l1 (by omega) (.inl (by omega)), pg_other4 ly (by decide) (.inl (by decide))]; exact ht.next
    · rw [pg_other4 l1 (by omega) (.inl (by omega)), pg_same4 ly (by decide) (by omega)]
    · have hj := (List.getElem?_eq_some_iff.1 hz).1
      rw [pg_other4 l1 (by omega) (.inl (by omega)), pg_other4 ly (by decide) (.inr (by omega))]
      exact ht.leaf j z (by rw [List.getElem?_append_left hj]; exact hz)
  refine ⟨((h.keys.put ⟨by omega, hf.2⟩ _).put ⟨by omega, h.one⟩ _).put ⟨by omega, hT.2⟩ _, gput_lens (gput_lens (gput_lens h.lens (mk4_len l1 (by omega) 0)) (mk4_len lx (by decide) _)) noPage_len, h.one, ⟨⟨g1, c1, _⟩, ?_, R1⟩, ⟨⟨⟨g0, c0, _⟩, ?_, TB⟩, ?_⟩, ?_, fun z hz => ?_, fun i h2 hin hni => ?_, full_put (full_put (full_put h.full))⟩
  · rw [gget_put, if_neg (by omega), gget_put, if_pos rfl]; try rfl
  · rw [gget_put, if_neg (by show ¬ (TK : Int) = ((f, ls).1 : Nat); simp only; omega), gget_put, if_neg (by simp only; omega), gget_put, if_pos rfl]; try rfl
  · refine ((hc.put _ hfr).put _ (fun e => ?_)).put _ hTr
    have := hi 1 (by simp [e]); omega
  · rw [e2]; exact dp.2
  · rw [e2] at hz
    refine hi z ?_
    simp only [List.mem_cons, List.mem_append] at hz ⊢
    rcases hz with hz | hz | hz
    · exact .inl hz
    · exact .inr (.inl hz)
    · exact .inr (.inr (.inr hz))
  · rw [e2] at hni
    simp only [List.mem_cons, List.mem_append, not_or] at hni
    unfold upd
    rw [gget_put]
    by_cases e : i = TK
    · subst e
      rw [if_pos rfl, if_pos rfl]
      exact ⟨_, rfl, rfl⟩
    · rw [if_neg (by omega), if_neg e, gget_put, if_neg (by omega), gget_put, if_neg (by have := hni.1; omega)]
      refine hu i h2 hin ?_
      simp only [List.mem_cons, List.mem_append, not_or]
      exact ⟨hni.1, hni.2.1, e, hni.2.2⟩
theorem HeapS.give0 (h : HeapS L n [] W U) (hn : n < 1000000) {x : PgX} (hx : gget L (1 : Nat) = some x) {i : Nat} (hi : 2 ≤ i ∧ i ≤ n) (g1 c1 g2 c2 : Nat) :
    HeapS (gput (gput L (1 : Nat) ⟨g1, c1, mkPut (mkPut x.bs 12 (Oct.be (0 + 1) 4)) 8 (Oct.be i 4)⟩) i ⟨g2, c2, mkPut noPage 0 (Oct.be 0 4)⟩) n [(i, [])] W U := by
  obtain ⟨x', hx', hr⟩ := h.root
  obtain rfl : x = x' := Option.some.inj (hx.symm.trans hx')
  have lx := h.lens _ (gget_mem hx)
  have R1 := hr.count' lx (c' := 1) (by decide)
  have R2 := R1.first' (mk4_len lx (by decide) _) (f' := i) (by omega)
  have ea : allT [(i, [])] = [i] := rfl
  refine ⟨(h.keys.put ⟨by omega, h.one⟩ _).put ⟨by omega, hi.2⟩ _, gput_lens (gput_lens h.lens (mk4_len (mk4_len lx (by decide) _) (by decide) _)) (mk4_len noPage_len (by decide) _), h.one, ⟨⟨g1, c1, _⟩, ?_, R2⟩, ⟨⟨⟨g2, c2, _⟩, ?_, noTrunk (f := 0) (by decide)⟩, trivial⟩, ?_, fun z hz => ?_, fun j h2 hj hnj => ?_, full_put (full_put h.full)⟩
  · rw [gget_put, if_neg (by omega), gget_put, if_pos rfl]; try rfl
  · rw [gget_put, if_pos rfl]; try rfl
  · rw [ea]; simp
  · rw [ea, List.mem_singleton] at hz; subst hz; exact hi
  · rw [ea, List.mem_singleton] at hnj
    rw [gget_put, if_neg (by omega), gget_put, if_neg (by omega)]
    exact h.used j h2 hj (by simp [allT])
theorem HeapS.give1 {f : Nat} {ls : List Nat} {r : List Trk} (h : HeapS L n ((f, ls) :: r) W U) (hn : n < 1000000) (hls : ls.length < 126) {x y : PgX} (hx : gget L (1 : Nat) = some x) (hy : gget L f = some y) {i : Nat} (hi : 2 ≤ i ∧ i ≤ n) (hni : i ∉ allT ((f, ls) :: r)) (g1 c1 g2 c2 : Nat) :
    HeapS (gput (gput L (1 : Nat) ⟨g1, c1, mkPut x.bs 12 (Oct.be ((allT ((f, ls) :: r)).length + 1) 4)⟩) f ⟨g2, c2, mkPut (mkPut y.bs 4 (Oct.be (ls.length + 1) 4)) (8 + ls.length * 4) (Oct.be i 4)⟩) n ((f, ls ++ [i]) :: r) W U := by
  obtain ⟨x', hx', hr⟩ := h.root
  obtain rfl : x = x' := Option.some.inj (hx.symm.trans hx')
  obtain ⟨⟨y', hy', ht⟩, hc⟩ := h.chain
  obtain rfl : y = y' := Option.some.inj (hy.symm.trans hy')
  have hd := h.nodup
  have hin := h.inn
  have hu := h.used
  have hl := allT_len hd hin
  have e1 : allT ((f, ls ++ [i]) :: r) = f :: (ls ++ (i :: allT r)) := by rw [allT_cons, List.append_assoc]; rfl
  have e2 : allT ((f, ls) :: r) = f :: (ls ++ allT r) := allT_cons _ _
  have el : (allT ((f, ls) :: r)).length + 1 = (allT ((f, ls ++ [i]) :: r)).length := by rw [e1, e2]; simp only [List.length_cons, List.length_append]; omega
  have hf := hin f (by rw [e2]; exact List.mem_cons_self)
  have lx := h.lens _ (gget_mem hx)
  have ly := h.lens _ (gget_mem hy)
  have R1 := hr.count' lx (c' := (allT ((f, ls) :: r)).length + 1) (by omega)
  have l1 := mk4_len ly (i := 4) (by decide) (ls.length + 1)
  rw [e2] at hd hin hni hu
  have hfr : f ∉ allT r := fun e => (List.nodup_cons.1 hd).1 (List.mem_append_right _ e)
  have TB : TrunkB (mkPut (mkPut y.bs 4 (Oct.be (ls.length + 1) 4)) (8 + ls.length * 4) (Oct.be i 4)) (headT r) (ls ++ [i]) := by
    refine ⟨?_, ?_, by rw [List.length_append]; simp only [List.length_cons, List.length_nil]; omega, fun j z hz => ?_⟩
    · rw [pg_other4 l1 (by omega) (.inl (by omega)), pg_other4 ly (by decide) (.inl (by decide))]; exact ht.next
    · rw [pg_other4 l1 (by omega) (.inl (by omega)), pg_same4 ly (by decide) (by omega), List.length_append]; rfl
    · by_cases hj : j < ls.length
      · rw [List.getElem?_append_left hj] at hz
        rw [pg_other4 l1 (by omega) (.inl (by omega)), pg_other4 ly (by decide) (.inr (by omega))]
        exact ht.leaf j z hz
      · have hj2 := (List.getElem?_eq_some_iff.1 hz).1
        rw [List.length_append] at hj2
        simp only [List.length_cons, List.length_nil] at hj2
        obtain rfl : j = ls.length := by omega
        rw [List.getElem?_append_right (Nat.le_refl _), Nat.sub_self] at hz
        obtain rfl := Option.some.inj hz
        exact pg_same4 l1 (by omega) (by omega)
  refine ⟨(h.keys.put ⟨by omega, h.one⟩ _).put ⟨by omega, hf.2⟩ _, gput_lens (gput_lens h.lens (mk4_len lx (by decide) _)) (mk4_len l1 (by omega) _), h.one, ⟨⟨g1, c1, _⟩, ?_, el ▸ R1⟩, ⟨⟨⟨g2, c2, _⟩, ?_, TB⟩, ?_⟩, ?_, fun z hz => ?_, fun j h2 hj hnj => ?_, full_put (full_put h.full)⟩
  · rw [gget_put, if_neg (by omega), gget_put, if_pos rfl, el]; try rfl
  · rw [gget_put, if_pos rfl]; try rfl
  · exact (hc.put _ (fun e => by have := hin 1 (List.mem_cons_of_mem _ (List.mem_append_right _ e)); omega)).put _ hfr
  · rw [e1]
    refine (List.Perm.nodup_iff ?_).2 (List.nodup_cons.2 ⟨hni, hd⟩)
    calc (f :: (ls ++ (i :: allT r))).Perm (f :: (i :: (ls ++ allT r))) := List.Perm.cons _ List.perm_middle
      _ |>.Perm (i :: (f :: (ls ++ allT r))) := List.Perm.swap _ _ _
  · rw [e1] at hz
    simp only [List.mem_cons, List.mem_append] at hz
    rcases hz with rfl | hz | rfl | hz
    · exact hf
    · exact hin z (by simp [hz])
    · exact hi
    · exact hin z (by simp [hz])
  · rw [e1] at hnj
    simp only [List.mem_cons, List.mem_append, not_or] at hnj
    rw [gget_put, if_neg (by have := hnj.1; omega), gget_put, if_neg (by omega)]
    refine hu j h2 hj ?_
    simp only [List.mem_cons, List.mem_append, not_or]
    exact ⟨hnj.1, hnj.2.1, hnj.2.2.2⟩
theorem HeapS.give2 {f : Nat} {ls : List Nat} {r : List Trk} (h : HeapS L n ((f, ls) :: r) W U) (hn : n < 1000000) {x : PgX} (hx : gget L (1 : Nat) = some x) {i : Nat} (hi : 2 ≤ i ∧ i ≤ n) (hni : i ∉ allT ((f, ls) :: r)) (g1 c1 g2 c2 : Nat) :
    HeapS (gput (gput L (1 : Nat) ⟨g1, c1, mkPut (mkPut x.bs 12 (Oct.be ((allT ((f, ls) :: r)).length + 1) 4)) 8 (Oct.be i 4)⟩) i ⟨g2, c2, mkPut noPage 0 (Oct.be f 4)⟩) n ((i, []) :: (f, ls) :: r) W U := by
  obtain ⟨x', hx', hr⟩ := h.root
  obtain rfl : x = x' := Option.some.inj (hx.symm.trans hx')
  have hl := allT_len h.nodup h.inn
  have lx := h.lens _ (gget_mem hx)
  have R1 := hr.count' lx (c' := (allT ((f, ls) :: r)).length + 1) (by omega)
  have R2 := R1.first' (mk4_len lx (by decide) _) (f' := i) (by omega)
  have e1 : allT ((i, []) :: (f, ls) :: r) = i :: allT ((f, ls) :: r) := by rw [allT_cons]; rfl
  have hf := h.inn f (by rw [allT_cons]; exact List.mem_cons_self)
  have h1n : 1 ∉ allT ((f, ls) :: r) := fun e => by have := h.inn 1 e; omega
  refine ⟨(h.keys.put ⟨by omega, h.one⟩ _).put ⟨by omega, hi.2⟩ _, gput_lens (gput_lens h.lens (mk4_len (mk4_len lx (by decide) _) (by decide) _)) (mk4_len noPage_len (by decide) _), h.one, ⟨⟨g1, c1, _⟩, ?_, by rw [e1]; exact R2⟩, ⟨⟨⟨g2, c2, _⟩, ?_, noTrunk (f := f) (by omega)⟩, (h.chain.put _ h1n).put _ hni⟩, ?_, fun z hz => ?_, fun j h2 hj hnj => ?_, full_put (full_put h.full)⟩
  · rw [gget_put, if_neg (by omega), gget_put, if_pos rfl]; try rfl
  · rw [gget_put, if_pos rfl]; try rfl
  · rw [e1]; exact List.nodup_cons.2 ⟨hni, h.nodup⟩
  · rw [e1, List.mem_cons] at hz
    rcases hz with rfl | hz
    · exact hi
    · exact h.inn z hz
  · rw [e1, List.mem_cons, not_or] at hnj
    rw [gget_put, if_neg (by have := hnj.1; omega), gget_put, if_neg (by omega)]
    exact h.used j h2 hj hnj.2
end
end Go.Proofs.YtbcghggkfnagoaaGreatDoor

namespace Go.Proofs.YtbcghggkfnagoaaGreatDoor
open Go Go.RowKit Go.Maps Hach

structure HpX where
  h : Nat
  p : Nat
  t : Nat
  m : Nat
  q : PgN
  mv : Value
  last : Int
/-- A heap over a pager in a transaction, as the document tells it. -/
def HeapW (w : World) (X : HpX) (n : Nat) (T : List Trk) (W : Nat → Int) (U : Nat → List UInt8) : Prop := ∃ L, HeapP w X.h X.p X.q X.t X.m X.mv X.last n L ∧ HeapS L n T W U
def HpS (X : HpX) : Nat → Prop := fun k => k = X.t ∨ k = X.m
theorem HeapW.up {w w' : World} {X : HpX} {n : Nat} {T : List Trk} {W : Nat → Int} {U : Nat → List UInt8} (h : HeapW w X n T W U) (hu : Up w w') : HeapW w' X n T W U := by
  obtain ⟨L, hp, hs⟩ := h
  exact ⟨L, hp.up hu, hs⟩
def TakeH (w : World) (X : HpX) (n : Nat) (T : List Trk) (W : Nat → Int) (U : Nat → List UInt8) (en : Ending) (w' : World) : Prop :=
  en = .returned (.tuple #[.int .i64 (takeV T n).1, .int .i64 0]) ∧ Hid (HeapW w' X (takeV T n).2.1 (takeV T n).2.2 W (upd U (takeV T n).1 noPage) ∧ Fr (HpS X) w w')
def GiveH (w : World) (X : HpX) (n : Nat) (T : List Trk) (W : Nat → Int) (U : Nat → List UInt8) (i : Nat) (en : Ending) (w' : World) : Prop :=
  en = .returned (.int .i64 0) ∧ Hid (HeapW w' X n (giveV T i) W U ∧ Fr (HpS X) w w')
theorem getLast_split {ls : List Nat} {x : Nat} (h : ls.getLast? = some x) : ls = ls.dropLast ++ [x] := by
  obtain ⟨ys, rfl⟩ := List.getLast?_eq_some_iff.1 h
  simp
theorem takeH_calls (w : World) (X : HpX) (n : Nat) (T : List Trk) (W : Nat → Int) (U : Nat → List UInt8) (hh : Hid (HeapW w X n T W U)) (hn : Hid (n < 4000)) :
    Calls Tryz.prog 15 #[.pointer (some ⟨X.h, 0, none⟩)] w (TakeH w X n T W U) := by
  obtain ⟨L, hp, hs⟩ := hh.out
  have hn' := hn.out
  have h1 := hs.one
  have hlen := hs.keys.len
  obtain ⟨x, hx, hr⟩ := hs.root
  unfold TakeH
  match T, hs, hr with
  | [], hs, hr =>
    refine (take0_calls w X.h X.p X.t X.m X.q X.mv X.last n L (hid hp) (hid ⟨h1, hn'⟩) (hid (by omega)) x (hid hx) (hid hr.count)).mono ?_
    rintro en w' ⟨rfl, L', hr'⟩
    obtain ⟨k1, k2, g, c, rfl⟩ := hr'.out
    exact ⟨rfl, hid ⟨⟨_, k1, hs.take0 g c⟩, k2⟩⟩
  | (f, ls) :: r, hs, hr =>
    have hl := allT_len hs.nodup hs.inn
    have hf := hs.inn f (by rw [allT_cons]; exact List.mem_cons_self)
    obtain ⟨⟨y, hy, ht⟩, hc⟩ := hs.chain
    cases hg : ls.getLast? with
    | none =>
      obtain rfl := List.getLast?_eq_none_iff.1 hg
      have eC : (allT ((f, []) :: r)).length = 1 + (allT r).length := by rw [allT_cons]; simp only [List.nil_append, List.length_cons]; omega
      refine (take2_calls w X.h X.p X.t X.m X.q X.mv X.last n L (hid hp) (hid ⟨h1, by omega⟩) (hid (by omega)) x (hid hx) _ f (headT r) (hid ⟨hr.count, by omega, by omega⟩) (hid ⟨hr.first, by omega, hf.2⟩) y (hid hy) (hid ht.count) (hid ht.next)).mono ?_
      rintro en w' ⟨rfl, L', hr'⟩
      obtain ⟨k1, k2, g1, c1, g2, c2, rfl⟩ := hr'.out
      have et : takeV ((f, []) :: r) n = (f, n, r) := rfl
      rw [et]
      exact ⟨rfl, hid ⟨⟨_, k1, hs.take2 (by omega) hx g1 c1 g2 c2⟩, k2⟩⟩
    | some TK =>
      have e := getLast_split hg
      obtain ⟨l0, hl0⟩ : ∃ l0, ls.dropLast = l0 := ⟨_, rfl⟩
      rw [hl0] at e
      have et : takeV ((f, ls) :: r) n = (TK, n, (f, l0) :: r) := by unfold takeV; simp only [hg, hl0]
      rw [et]
      subst e
      have eC : 0 < (allT ((f, l0 ++ [TK]) :: r)).length := by rw [allT_cons]; simp
      have hT := hs.inn TK (by rw [allT_cons]; simp)
      have hm := ht.most
      have hcnt := ht.count
      rw [List.length_append] at hm hcnt
      have h0 : ([TK] : List Nat).length = 1 := rfl
      rw [h0] at hm hcnt
      refine (take1_calls w X.h X.p X.t X.m X.q X.mv X.last n L (hid hp) (hid ⟨h1, by omega⟩) (hid (by omega)) x (hid hx) _ f (l0.length + 1) l0.length (8 + l0.length * 4) TK (hid ⟨hr.count, eC, by omega⟩) (hid ⟨hr.first, by omega, hf.2⟩) y (hid hy) (hid ⟨hcnt, rfl, hm⟩) (hid rfl) (hid ⟨ht.leaf l0.length TK (by simp), by omega, hT.2⟩)).mono ?_
      rintro en w' ⟨rfl, L', hr'⟩
      obtain ⟨k1, k2, g0, c0, g1, c1, g2, c2, rfl⟩ := hr'.out
      exact ⟨rfl, hid ⟨⟨_, k1, hs.take1 (by omega) hx hy g0 c0 g1 c1 g2 c2⟩, k2⟩⟩
theorem giveH_calls (w : World) (X : HpX) (n : Nat) (T : List Trk) (W : Nat → Int) (U : Nat → List UInt8) (i : Nat) (hh : Hid (HeapW w X n T W U)) (hn : Hid (n ≤ 4000)) (hi : Hid (2 ≤ i ∧ i ≤ n ∧ i ∉ allT T)) :
    Calls Tryz.prog 16 #[.pointer (some ⟨X.h, 0, none⟩), .int .i64 i] w (GiveH w X n T W U i) := by
  obtain ⟨L, hp, hs⟩ := hh.out
  have hn' := hn.out
  obtain ⟨hi2, hin, hni⟩ := hi.out
  have h1 := hs.one
  have hlen := hs.keys.len
  obtain ⟨x, hx, hr⟩ := hs.root
  unfold GiveH
  match T, hs, hr, hni with
  | [], hs, hr, hni =>
    refine (give0_calls w X.h X.p X.t X.m X.q X.mv X.last n L (hid hp) (hid ⟨h1, hn'⟩) (hid (by omega)) x (hid hx) i (hid ⟨by omega, hin⟩) 0 (hid ⟨hr.count, by decide⟩) (hid hr.first)).mono ?_
    rintro en w' ⟨rfl, L', hr'⟩
    obtain ⟨k1, k2, g1, c1, g2, c2, rfl⟩ := hr'.out
    exact ⟨rfl, hid ⟨⟨_, k1, hs.give0 (by omega) hx ⟨hi2, hin⟩ g1 c1 g2 c2⟩, k2⟩⟩
  | (f, ls) :: r, hs, hr, hni =>
    have hl := allT_len hs.nodup hs.inn
    have hf := hs.inn f (by rw [allT_cons]; exact List.mem_cons_self)
    obtain ⟨⟨y, hy, ht⟩, hc⟩ := hs.chain
    by_cases hls : ls.length < 126
    · have et : giveV ((f, ls) :: r) i = (f, ls ++ [i]) :: r := if_pos hls
      rw [et]
      refine (give1_calls w X.h X.p X.t X.m X.q X.mv X.last n L (hid hp) (hid ⟨h1, by omega⟩) (hid (by omega)) x (hid hx) i (hid ⟨by omega, hin⟩) _ f ls.length (8 + ls.length * 4) (hid ⟨hr.count, by omega⟩) (hid ⟨hr.first, by omega, hf.2⟩) y (hid hy) (hid ⟨ht.count, hls⟩) (hid rfl)).mono ?_
      rintro en w' ⟨rfl, L', hr'⟩
      obtain ⟨k1, k2, g1, c1, g2, c2, rfl⟩ := hr'.out
      exact ⟨rfl, hid ⟨⟨_, k1, hs.give1 (by omega) hls hx hy ⟨hi2, hin⟩ hni g1 c1 g2 c2⟩, k2⟩⟩
    · have et : giveV ((f, ls) :: r) i = (i, []) :: (f, ls) :: r := if_neg hls
      rw [et]
      have hm := ht.most
      refine (give2_calls w X.h X.p X.t X.m X.q X.mv X.last n L (hid hp) (hid ⟨h1, by omega⟩) (hid (by omega)) x (hid hx) i (hid ⟨by omega, hin⟩) _ f ls.length (hid ⟨hr.count, by omega⟩) (hid ⟨hr.first, by omega, hf.2⟩) y (hid hy) (hid ⟨ht.count, by simp only at hm; omega⟩)).mono ?_
      rintro en w' ⟨rfl, L', hr'⟩
      obtain ⟨k1, k2, g1, c1, g2, c2, rfl⟩ := hr'.out
      exact ⟨rfl, hid ⟨⟨_, k1, hs.give2 (by omega) hx ⟨hi2, hin⟩ hni g1 c1 g2 c2⟩, k2⟩⟩
set_option maxRecDepth 100000 in
set_option maxHeartbeats 2000000 in
theorem giveBad_calls (w : World) (X : HpX) (n : Nat) (T : List Trk) (W : Nat → Int) (U : Nat → List UInt8) (i : Int) (hh : Hid (HeapW w X n T W U)) (hn : Hid (n ≤ 4000)) (hi : Hid (i ≤ 1 ∨ (n : Int) < i)) :
    Calls Tryz.prog 16 #[.pointer (some ⟨X.h, 0, none⟩), .int .i64 i] w fun en w' => en = .returned (.int .i64 2) ∧ Hid (Up w w') := by
  obtain ⟨L, hp, hs⟩ := hh.out
  have h1 := hs.one
  obtain ⟨x, hx, hr⟩ := hs.root
  obtain ⟨h, p, t, m, q, mv, last⟩ := X
  have HP := hid hp
  have HX := hid hx
  have H1 := hid h1
  simp only at HP
  clear hp hx h1 hs hr
  show Calls _ _ #[.pointer (some ⟨h, 0, none⟩), _] _ _
  by_cases hi1 : i ≤ 1
  · go_enter Tryz.func16, Tryz.ntmps16
    go_wp2_with (go_at_call 66; refine (hroot_calls w h p t m q mv last n L HP (hid (by have := hn.out; have := H1.out; omega)) x HX).mono ?_; rintro en w2 ⟨g, c, rfl, hr⟩)
    go_ret
    exact ⟨rfl, hid hr.out.2.1⟩
  · have hi2 : (n : Int) < i := hi.out.resolve_left hi1
    go_enter Tryz.func16, Tryz.ntmps16
    go_wp2_with (go_at_call 66; refine (hroot_calls w h p t m q mv last n L HP (hid (by have := hn.out; have := H1.out; omega)) x HX).mono ?_; rintro en w2 ⟨g, c, rfl, hr⟩; have e20 := (HP.out.up hr.out.2.1).cell)
    have U2 := hid hr.out.2.1
    have HH2 := hid (HP.out.up hr.out.2.1)
    clear hr
    refine (ppages_calls w2 p t m q mv last n L (hid HH2.out.tran)).mono ?_
    rintro en w' ⟨rfl, hw⟩
    obtain rfl := hw.symm
    clear hw e20
    go_wp2
    go_ret
    exact ⟨rfl, U2⟩
end Go.Proofs.YtbcghggkfnagoaaGreatDoor
