/- PARTS OF A PROOF, one behind the other: WORDS FOR MEMORY: rows of the call's own, appended to from whatever slice; makes; what a step leaves as it was. No program in sight. WORDS FOR A ROW OF LINKED BLOCKS. No program in sight. CONDITIONS: none of this text's own. -/
import Derived.Test.YtbcghggkfnagoaaGreatDoorQS2
import Derived.Maps.AppendAt
import Derived.Deep.AppendLies
import Derived.Deep.Draws
import Derived.Laws.CopyOwn
set_option linter.unusedVariables false
set_option linter.unusedSimpArgs false
namespace Hach
open Go Go.RowKit

/-! ### what a step leaves as it was: all old blocks but those of S -/
structure Fr (S : Nat → Prop) (w w' : World) : Prop where
  os : w'.os = w.os
  tape : w'.tape = w.tape
  output : w'.output = w.output
  size : w.heap.size ≤ w'.heap.size
  block : ∀ k, k < w.heap.size → ¬ S k → w'.heap[k]? = w.heap[k]?
def No : Nat → Prop := fun _ => False
section
variable {S T : Nat → Prop} {a b c w w' : World}
theorem Fr.refl (S : Nat → Prop) (w : World) : Fr S w w := ⟨rfl, rfl, rfl, Nat.le_refl _, fun _ _ _ => rfl⟩
theorem Fr.trans (h : Fr S a b) (k : Fr T b c) (hT : ∀ i, i < a.heap.size → T i → S i) : Fr S a c :=
  ⟨k.os.trans h.os, k.tape.trans h.tape, k.output.trans h.output, Nat.le_trans h.size k.size,
    fun i hi hS => (k.block i (Nat.lt_of_lt_of_le hi h.size) (fun ht => hS (hT i hi ht))).trans (h.block i hi hS)⟩
theorem Fr.trans' (h : Fr S a b) (k : Fr S b c) : Fr S a c := h.trans k fun _ _ h => h
theorem Fr.mono (h : Fr S a b) (hS : ∀ i, S i → T i) : Fr T a b := ⟨h.os, h.tape, h.output, h.size, fun i hi hn => h.block i hi (fun hs => hn (hS i hs))⟩
theorem Fr.drew (h : Fr S a w) : Fr S a w.drew := ⟨h.os, h.tape, h.output, h.size, h.block⟩
theorem Fr.drewN (h : Fr S a w) (n : Nat) : Fr S a (w.drewN n) := ⟨h.os, h.tape, h.output, h.size, h.block⟩
theorem Fr.alloc (h : Fr S a w) (o : Obj) : Fr S a (w.alloc o) :=
  h.trans (T := No) ⟨rfl, rfl, rfl, by simp, fun k hk _ => Below.heap_alloc w o k hk⟩ (fun _ _ h => h.elim)
theorem Fr.setCell (h : Fr S a w) {p : Addr} (hp : p.block < a.heap.size → S p.block) (u : Value) : Fr S a (w.setCell p u) :=
  h.trans (T := fun k => k = p.block) ⟨rfl, rfl, rfl, by simp [World.setCell], fun k _ hk => Below.heap_setCell _ _ _ _ hk⟩ (fun i hi e => by subst e; exact hp hi)
theorem Fr.of_below (h : Below w.heap.size w w') : Fr No w w' := ⟨h.os, h.tape, h.output, h.size, fun k hk _ => h.block k hk⟩
theorem Fr.below (h : Fr S w w') {B : Nat} (hB : B ≤ w.heap.size) (hS : ∀ k, k < B → ¬ S k) : Below B w w' :=
  ⟨h.os, h.tape, h.output, h.size, fun k hk => h.block k (by omega) (hS k hk)⟩
theorem Fr.of_grown {row : Option Nat} (h : w.grownBy w' row) : Fr (fun k => some k = row) w w' := ⟨h.os, h.tape, h.output, h.size, h.block⟩
theorem Fr.grownBy {row : Option Nat} (h : Fr (fun k => some k = row) w w') : w.grownBy w' row := ⟨h.os, h.tape, h.output, h.size, h.block⟩
theorem Fr.cell (h : Fr S w w') {p : Addr} {v : Value} (hc : w.cell? p = some v) (hS : ¬ S p.block) : w'.cell? p = some v :=
  (World.cell?_of_block (h.block p.block (World.block_lt_of_cell? w p hc) hS)).trans hc
theorem Fr.own (h : Fr S w w') {base : Nat} {e : TypeId} {size n : Nat} {v : Value} {xs : List Value} (hw : w.ownsRow base e size v n xs) (hS : ∀ k, v.ownBlock = some k → ¬ S k) :
    w'.ownsRow base e size v n xs := by
  refine ⟨hw.1, ?_⟩
  rcases hw.2 with hn | ⟨g, cap, cur, rfl, hb, hgg, rest⟩
  · exact .inl hn
  · refine .inr ⟨g, cap, cur, rfl, hb, ?_, rest⟩
    rw [h.block g (Array.getElem?_eq_some_iff.1 hgg).1 (hS g rfl)]
    exact hgg
end

/-! ### cells of a slice, read -/
def Rd (w : World) (A : Option Addr) (vs : List Value) : Prop :=
  ∀ j u, vs[j]? = some u → ∃ b off, A = some ⟨b, off, none⟩ ∧ w.cell? ⟨b, off + j, none⟩ = some u
theorem Rd.nil (w : World) (A : Option Addr) : Rd w A [] := fun j u h => by simp at h
theorem Rd.fr {S : Nat → Prop} {w w' : World} {A : Option Addr} {vs : List Value} (h : Rd w A vs) (hf : Fr S w w') (hS : ∀ b off, A = some ⟨b, off, none⟩ → ¬ S b) : Rd w' A vs := by
  intro j u hj
  obtain ⟨b, off, e, hc⟩ := h j u hj
  exact ⟨b, off, e, hf.cell hc (hS b off e)⟩
theorem Rd.below {B : Nat} {w w' : World} {A : Option Addr} {vs : List Value} (h : Rd w A vs) (hb : Below B w w') (hA : ∀ b off, A = some ⟨b, off, none⟩ → b < B) : Rd w' A vs := by
  intro j u hj
  obtain ⟨b, off, e, hc⟩ := h j u hj
  exact ⟨b, off, e, by rw [hb.cell (p := ⟨b, off + j, none⟩) (hA b off e)]; exact hc⟩
theorem Rd.grown {w w' : World} {A : Option Addr} {vs : List Value} (h : Rd w A vs) (hb : Below w.heap.size w w') : Rd w' A vs := h.fr (Fr.of_below hb) fun _ _ _ => id
theorem Rd.take {w : World} {A : Option Addr} {vs : List Value} (h : Rd w A vs) (k : Nat) : Rd w A (vs.take k) := by
  intro j u hj
  refine h j u ?_
  rw [List.getElem?_take] at hj
  split at hj
  · exact hj
  · cases hj
theorem Rd.own {w : World} {base : Nat} {e : TypeId} {size n c : Nat} {A : Option Addr} {xs : List Value} (h : w.ownsRow base e size (.slice A n c) n xs) : Rd w A xs := by
  intro j u hj
  rcases h.2 with ⟨hn, h0⟩ | ⟨g, cap, cur, hv, hb, hg, hnc, hcm, hcs, ht⟩
  · have : xs = [] := List.eq_nil_of_length_eq_zero (by rw [h.1, h0]; simp)
    subst this; simp at hj
  · injection hv with hA _ _
    refine ⟨g, 0, hA, ?_⟩
    rw [cell_of_row w g _ cur e (0, 0) hg, Nat.zero_add]
    rw [← ht, List.getElem?_take] at hj
    split at hj
    · simpa using hj
    · cases hj
theorem Bytes.rd {w : World} {A : Option Addr} {xs : List UInt8} (h : Bytes w A xs) : Rd w A (xs.map byteCell) := by
  intro j u hj
  rw [List.getElem?_map] at hj
  cases hx : xs[j]? with
  | none => rw [hx] at hj; cases hj
  | some x =>
    rw [hx] at hj
    obtain ⟨b, off, e, hc⟩ := h j (by rw [List.getElem?_eq_some_iff] at hx; exact hx.1)
    refine ⟨b, off, e, ?_⟩
    rw [hc, hx]; exact hj
theorem Rd.bytes {w : World} {A : Option Addr} {xs : List UInt8} (h : Rd w A (xs.map byteCell)) : Bytes w A xs := by
  intro j hj
  obtain ⟨b, off, e, hc⟩ := h j (byteCell (xs[j]?.getD 0)) (by rw [List.getElem?_map, List.getElem?_eq_getElem hj]; rfl)
  exact ⟨b, off, e, hc⟩
theorem Rd.new (w : World) (t : TypeId) (fr : Nat × Nat) (vs : List Value) : Rd (w.alloc (.cells vs.toArray t fr)) (some ⟨w.heap.size, 0, none⟩) vs := by
  intro j u hj
  refine ⟨_, 0, rfl, ?_⟩
  rw [Nat.zero_add, cell_of_row _ _ _ _ _ _ (heap_alloc_new w _)]
  simpa using hj
theorem byteCells_one (xs : List UInt8) : ∀ u ∈ xs.map byteCell, u.oneCell' = true := by
  intro u hu
  obtain ⟨x, _, rfl⟩ := List.mem_map.1 hu
  rfl

/-! ### a type's row of the table -/
structure Elem (P : Program) (t e : TypeId) (z : Value) (size bytes : Nat) : Prop where
  ht : P.underlying t = some (.slice e)
  hi : (P.info? e).map (fun i => (i.zero, i.size, i.bytes)) = some (some z, size, bytes)
  hz : z.cells.size = size
  hs : 0 < size

theorem own_form {w : World} {base : Nat} {e : TypeId} {size n : Nat} {v : Value} {xs : List Value} (h : w.ownsRow base e size v n xs) : ∃ A c, v = .slice A n c ∧ n ≤ c := by
  rcases h.2 with ⟨hn, h0⟩ | ⟨g, cap, cur, hv, hb, hg, hnc, _⟩
  · exact ⟨none, 0, by rw [hn, h0], by omega⟩
  · exact ⟨_, cap, hv, hnc⟩
theorem own_block {w : World} {base : Nat} {e : TypeId} {size n : Nat} {v : Value} {xs : List Value} (h : w.ownsRow base e size v n xs) : ∀ k, v.ownBlock = some k → base ≤ k ∧ k < w.heap.size := h.lt
theorem own_lit (w : World) (base : Nat) (e : TypeId) (n : Nat) (vs : List Value) (hb : base ≤ w.heap.size) (hm : n ≤ maxLen) (hs : vs.length = n * 1) :
    (w.alloc (.cells vs.toArray e)).ownsRow base e 1 (.slice (some ⟨w.heap.size, 0, none⟩) n n) n vs := by
  have := World.ownsRow_lit (base := base) (e := e) (size := 1) w vs.toArray n hb hm (by simpa using hs)
  simpa using this
theorem below_append {B base : Nat} {w0 w w' : World} (hb : Below B w0 w) (hB : B ≤ base) (hw : base ≤ w.heap.size) {v : Value} {e : TypeId} {size n : Nat} {xs : List Value} (hown : w.ownsRow base e size v n xs) (hg : w.grownBy w' v.ownBlock) : Below B w0 w' :=
  hb.grown hg (by omega) (fun k hk => by have := (hown.lt k hk).1; omega)
theorem own_base {w : World} {base base' : Nat} {e : TypeId} {size n : Nat} {v : Value} {xs : List Value} (h : w.ownsRow base e size v n xs) (hb : base' ≤ base) : w.ownsRow base' e size v n xs := by
  refine ⟨h.1, ?_⟩
  rcases h.2 with hn | ⟨g, cap, cur, hv, hg, rest⟩
  · exact .inl hn
  · exact .inr ⟨g, cap, cur, hv, by omega, rest⟩
theorem own_nil (w : World) (base : Nat) (e : TypeId) (size : Nat) : w.ownsRow base e size (.slice none 0 0) 0 [] := World.ownsRow_nil w base e size

section
variable {P : Program} {w : World} {t e : TypeId} {z : Value} {size bytes : Nat}

theorem run_append_zero (E : Elem P t e z size bytes) (ty : TypeId) {base : Nat} {A : Option Addr} {n c : Nat} {xs : List Value} (hown : w.ownsRow base e size (.slice A n c) n xs) (A2 : Option Addr) (c2 : Nat) :
    (Builtin.append_ #[t, t] ty #[.slice A n c, .slice A2 0 c2]).run P w = .ok (.slice A n c) w := by
  obtain ⟨i, hi, hz0, hz1, hz2⟩ := info_parts E.hi
  rcases hown.2 with ⟨hv, h0⟩ | ⟨g, cap, cur, hv, _, _, hnc, _⟩
  · injection hv with e1 e2 e3
    subst e1; subst e2; subst e3
    cases A2 <;> simp [Builtin.append_, run_underlying E.ht, Go.sizeOf, typeInfo, hi, Builtin.lenOf, Builtin.firstCells, loadCells, loadCellsFrom]
  · injection hv with e1 e2 e3
    subst e1; subst e3
    cases A2 <;> simp [Builtin.append_, run_underlying E.ht, Go.sizeOf, typeInfo, hi, Builtin.lenOf, Builtin.firstCells, hnc, storeCells, loadCells, loadCellsFrom]
theorem run_append_rd (E : Elem P t e z size bytes) (ty : TypeId) {base : Nat} {A : Option Addr} {n c : Nat} {xs : List Value} (hown : w.ownsRow base e size (.slice A n c) n xs)
    {A2 : Option Addr} {m : Nat} (c2 : Nat) {news : List Value} (hr : Rd w A2 news) (hl : news.length = m * size) (h1 : ∀ u ∈ news, u.oneCell' = true)
    (h63 : n + m ≤ maxLen) (hbytes : (n + m) * bytes ≤ 140737488355328) (hbase : base ≤ w.heap.size) :
    ∃ A' c' w', (Builtin.append_ #[t, t] ty #[.slice A n c, .slice A2 m c2]).run P w = .ok (.slice A' (n + m) c') w' ∧ w'.ownsRow base e size (.slice A' (n + m) c') (n + m) (xs ++ news) ∧
      w.grownBy w' (Value.slice A n c).ownBlock ∧ ((Value.slice A' (n + m) c').ownBlock = (Value.slice A n c).ownBlock ∨ (Value.slice A' (n + m) c').ownBlock = some w.heap.size) := by
  rcases Nat.eq_zero_or_pos m with h0 | h0
  · subst h0
    have hn : news = [] := List.eq_nil_of_length_eq_zero (by rw [hl]; simp)
    subst hn
    exact ⟨A, c, w, run_append_zero E ty hown A2 c2, by simpa using hown, World.grownBy.refl w _, .inl rfl⟩
  obtain ⟨i, hi, hz0, hz1, hz2⟩ := info_parts E.hi
  have hlen : 0 < news.length := by rw [hl]; exact Nat.mul_pos h0 E.hs
  obtain ⟨b, off, rfl, _⟩ := hr 0 news[0] (List.getElem?_eq_getElem hlen)
  have hcells : ∀ j u, news[j]? = some u → w.cell? ((⟨b, off, none⟩ : Addr).add j) = some u := by
    intro j u hu
    obtain ⟨b', off', e1, hc⟩ := hr j u hu
    injection e1 with e1
    injection e1 with e1 e2 _
    subst e1; subst e2
    have : (⟨b, off, none⟩ : Addr).add j = ⟨b, off + j, none⟩ := by unfold Addr.add; split <;> simp_all
    rw [this]; exact hc
  obtain ⟨v', w', hrun, h2, h3, _, h5⟩ := run_append_own_at (P := P) w base t ty e i z size bytes E.ht hi hz0 hz1 hz2 E.hz E.hs (.slice A n c) n xs hown ⟨b, off, none⟩ m c2 news hl hcells h1 h63 hbytes hbase
  obtain ⟨A', c', rfl, _⟩ := own_form h2
  exact ⟨A', c', w', hrun, h2, h3, h5⟩

theorem wl_append (E : Elem P t e z size bytes) {ops : Array Oper} {rest : List Oper} {o : Oper} {a : Act} {Q : Exit → Act → World → Prop} (hgd : o.guard = none) (s x : Operand)
    (ho : o.op = .call { callee := .builtin .append, args := #[s, x], argTypes := #[t, t] })
    {base : Nat} {A : Option Addr} {n c : Nat} {xs : List Value} (hs : a.eval s = .slice A n c) (hown : w.ownsRow base e size (.slice A n c) n xs)
    {A2 : Option Addr} {m c2 : Nat} {news : List Value} (hx : a.eval x = .slice A2 m c2) (hr : Rd w A2 news) (hl : news.length = m * size) (h1 : ∀ u ∈ news, u.oneCell' = true)
    (h63 : n + m ≤ maxLen) (hbytes : (n + m) * bytes ≤ 140737488355328) (hbase : base ≤ w.heap.size)
    (h : ∀ A' c' w', w'.ownsRow base e size (.slice A' (n + m) c') (n + m) (xs ++ news) → w.grownBy w' (Value.slice A n c).ownBlock →
      ((Value.slice A' (n + m) c').ownBlock = (Value.slice A n c).ownBlock ∨ (Value.slice A' (n + m) c').ownBlock = some w.heap.size) → wpList P ops Q rest (a.put o.dst (.slice A' (n + m) c')) w') : wpList P ops Q (o :: rest) a w := by
  refine wpList_plain hgd fun K hK => ?_
  obtain ⟨A', c', w', hrun, h2, h3, h4⟩ := run_append_rd (P := P) E o.type hown c2 hr hl h1 h63 hbytes hbase
  unfold Oper.wp execOp
  simp only [ho, resolve, invoke, builtin, Sem.run_bind, Sem.run_pure, Result.andThen_ok, List.map_toArray, List.map_cons, List.map_nil, hs, hx, hrun]
  exact hK _ _ (h A' c' w' h2 h3 h4)

theorem wl_make (E : Elem P t e z size bytes) {ops : Array Oper} {rest : List Oper} {o : Oper} {a : Act} {Q : Exit → Act → World → Prop} (hgd : o.guard = none) (l c : Operand)
    (hop : o.op = Op.makeSlice t l c) (base n : Nat) {kl kc : IntKind} {L C : Int} (hl : a.eval l = .int kl L) (hc : a.eval c = .int kc C) (hL : L = (n : Int)) (hC : C = (n : Int))
    (hbytes : bytes * n ≤ 281474976710656) (h63 : n ≤ maxLen) (hbase : base ≤ w.heap.size)
    (hK : ∀ w', w'.ownsRow base e size (.slice (some ⟨w.heap.size, 0, none⟩) n n) n (madeCells z.cells (n * size)).toList → Below w.heap.size w w' → w.heap.size < w'.heap.size →
      wpList P ops Q rest (a.put o.dst (.slice (some ⟨w.heap.size, 0, none⟩) n n)) w') : wpList P ops Q (o :: rest) a w := by
  obtain ⟨i, hi, hz0, hz1, hz2⟩ := info_parts E.hi
  refine wpList_make_full w hgd l c t hop base e i z size E.ht hi hz0 hz1 kl kc L C n hl hc hL hC (by rw [hz2]; exact hbytes) h63 hbase ?_
  intro w' hown hg
  refine hK w' hown (Fr.below (Fr.of_grown hg) (Nat.le_refl _) (fun k _ => by simp)) ?_
  rcases hown.2 with ⟨hv, _⟩ | ⟨g, cap, cur, hv, hb, hgg, _⟩
  · cases hv
  · injection hv with e1 _ _
    injection e1 with e1
    injection e1 with e1
    subst e1
    exact (Array.getElem?_eq_some_iff.1 hgg).1
end

/-! ### copy -/
theorem take_splice (cur : List Value) (off k : Nat) (cs : List Value) (h : off + cs.length ≤ k) : (splice cur off cs).take k = splice (cur.take k) off cs := by
  unfold splice
  rw [List.take_take, Nat.min_eq_left (by omega), List.drop_take]
  by_cases hc : off ≤ cur.length
  · rw [List.take_append, List.take_of_length_le (by rw [List.length_take]; omega), List.take_append, List.take_of_length_le (l := cs) (by rw [List.length_take]; omega), List.length_take, Nat.min_eq_left hc]
    congr 3
    omega
  · have h1 : cur.drop (off + cs.length) = [] := List.drop_of_length_le (by omega)
    rw [h1, List.append_nil, List.take_nil, List.append_nil, List.take_of_length_le]
    rw [List.length_append, List.length_take]; omega

theorem wl_copy {P : Program} {w : World} {t e elem : TypeId} (ht : P.underlying t = some (.slice elem)) (hi : (P.info? elem).map (·.size) = some 1)
    {ops : Array Oper} {rest : List Oper} {o : Oper} {a : Act} {Q : Exit → Act → World → Prop} (hgd : o.guard = none) (d s : Operand) (sT : TypeId)
    (ho : o.op = .call { callee := .builtin .copy, args := #[d, s], argTypes := #[t, sT] })
    {base g n c off dLen dCap : Nat} {xs : List Value} (hown : w.ownsRow base e 1 (.slice (some ⟨g, 0, none⟩) n c) n xs) (hd : a.eval d = .slice (some ⟨g, off, none⟩) dLen dCap)
    {A2 : Option Addr} {m c2 k : Nat} {news : List Value} (hs : a.eval s = .slice A2 m c2) (hr : Rd w A2 news) (hk : k = Nat.min m dLen) (hl : news.length = k) (h1 : ∀ u ∈ news, u.oneCell' = true) (hfit : off + k ≤ n)
    (h : ∀ w', w'.ownsRow base e 1 (.slice (some ⟨g, 0, none⟩) n c) n (splice xs off news) → Fr (fun b => b = g) w w' → wpList P ops Q rest (a.put o.dst (goInt k)) w') : wpList P ops Q (o :: rest) a w := by
  obtain ⟨hlen, hh | ⟨g', cap, cur, hv, hb, hg, hnc, hcm, hcs, htake⟩⟩ := hown
  · cases hh.1
  injection hv with e1 _ e3
  injection e1 with e1
  injection e1 with e1 _ _
  subst e1; subst e3
  subst hl
  rcases Nat.eq_zero_or_pos news.length with h0 | h0
  · refine wpList_copy_nothing hgd d s t sT ho elem ht hi _ _ dLen dCap m c2 hd hs (by rw [← hk, h0]) ?_
    have hn : news = [] := List.eq_nil_of_length_eq_zero h0
    subst hn
    exact h w ⟨by simpa [splice] using hlen, .inr ⟨g, c, cur, rfl, hb, hg, hnc, hcm, hcs, by simpa [splice] using htake⟩⟩ (Fr.refl _ _)
  · obtain ⟨b, o2, rfl, _⟩ := hr 0 news[0] (List.getElem?_eq_getElem h0)
    have hcells : ∀ j u, news[j]? = some u → w.cell? ((⟨b, o2, none⟩ : Addr).add j) = some u := by
      intro j u hu
      obtain ⟨b', o2', e1, hc⟩ := hr j u hu
      injection e1 with e1
      injection e1 with e1 e2 _
      subst e1; subst e2
      have : (⟨b, o2, none⟩ : Addr).add j = ⟨b, o2 + j, none⟩ := by unfold Addr.add; split <;> simp_all
      rw [this]; exact hc
    refine wpList_copy_own hgd d s t sT ho elem ht hi g off dLen dCap ⟨b, o2, none⟩ m c2 hd hs cur _ hg news hk hcells (by omega) h1 ?_
    refine h _ ⟨?_, .inr ⟨g, c, _, rfl, hb, setRow_heap w g _ _ _ _ hg, hnc, hcm, ?_, ?_⟩⟩ ⟨rfl, rfl, rfl, by simp [World.setRow], fun q _ hq => setRow_other w g q _ hq⟩
    · rw [length_splice]
      · exact hlen
      · rw [hlen]; omega
    · simp only [List.size_toArray, List.length_append, List.length_take, List.length_drop, Array.length_toList]
      omega
    · rw [← htake]
      exact take_splice _ _ _ _ (by omega)

/-! ### append onto a row that has no room: new memory -/
section
variable {P : Program} {w : World} {t e : TypeId} {z : Value} {size bytes : Nat}
theorem run_append_full (E : Elem P t e z size bytes) (ty : TypeId) {A : Option Addr} {n c : Nat} {xs : List Value} (hx : Rd w A xs) (hlx : xs.length = n * size) (hn0 : 0 < n)
    {A2 : Option Addr} {m : Nat} (c2 : Nat) {news : List Value} (hr : Rd w A2 news) (hl : news.length = m * size) (hm : 0 < m) (hg : c < n + m)
    (h63 : n + m ≤ maxLen) (hbytes : (n + m) * bytes ≤ 140737488355328) :
    ∃ A' c' w', (Builtin.append_ #[t, t] ty #[.slice A n c, .slice A2 m c2]).run P w = .ok (.slice A' (n + m) c') w' ∧ w'.ownsRow w.heap.size e size (.slice A' (n + m) c') (n + m) (xs ++ news) ∧ Below w.heap.size w w' := by
  obtain ⟨i, hi, hz0, hz1, hz2⟩ := info_parts E.hi
  have cells : ∀ {A : Option Addr} {vs : List Value}, 0 < vs.length → Rd w A vs → ∃ b, A = some b ∧ ∀ j u, vs[j]? = some u → w.cell? (b.add j) = some u := by
    intro A vs h0 hrd
    obtain ⟨b, off, rfl, _⟩ := hrd 0 vs[0] (List.getElem?_eq_getElem h0)
    refine ⟨_, rfl, ?_⟩
    intro j u hu
    obtain ⟨b', off', e1, hc⟩ := hrd j u hu
    injection e1 with e1
    injection e1 with e1 e2 _
    subst e1; subst e2
    have : (⟨b, off, none⟩ : Addr).add j = ⟨b, off + j, none⟩ := by unfold Addr.add; split <;> simp_all
    rw [this]; exact hc
  obtain ⟨b1, rfl, h1⟩ := cells (by rw [hlx]; exact Nat.mul_pos hn0 E.hs) hx
  obtain ⟨b2, rfl, h2⟩ := cells (by rw [hl]; exact Nat.mul_pos hm E.hs) hr
  have hml : maxLen = 9223372036854775807 := rfl
  have hrun := run_append_grow (P := P) w t ty e i z E.ht hi hz0 b1 n c xs (by rw [hz1]; exact hlx) h1 b2 m c2 news (by rw [hz1]; exact hl) h2 hg (by omega) (growslice_fits (by omega) (by rw [hz2]; exact hbytes))
  refine ⟨_, _, _, hrun, ⟨by rw [List.length_append, hlx, hl, Nat.add_mul], .inr ⟨w.heap.size, _, _, rfl, Nat.le_refl _, heap_alloc_new w.drew _, grownCap_ge _ _ _ _, grownCap_le_maxLen _ _ _ _ h63, ?_, ?_⟩⟩, ((Below.refl _ _).drew).alloc (Nat.le_refl _) _⟩
  · have hge := grownCap_ge w (n + m) c e
    simp only [Array.size_append, List.size_toArray, size_zeroCells, E.hz, hlx, hl, ← Nat.add_mul]
    congr 1
    omega
  · simp only [Array.toList_append, List.append_assoc]
    rw [← List.append_assoc, show (n + m) * size = (xs ++ news).length by rw [List.length_append, hlx, hl, Nat.add_mul]]
    exact List.take_left
theorem wp_append_full (E : Elem P t e z size bytes) {o : Oper} {a : Act} {K : Act → World → Prop} {Q : Exit → Act → World → Prop} (s x : Operand)
    (ho : o.op = .call { callee := .builtin .append, args := #[s, x], argTypes := #[t, t] })
    {A : Option Addr} {n c : Nat} {xs : List Value} (hs : a.eval s = .slice A n c) (hx : Rd w A xs) (hlx : xs.length = n * size) (hn0 : 0 < n)
    {A2 : Option Addr} {m c2 : Nat} {news : List Value} (hx2 : a.eval x = .slice A2 m c2) (hr : Rd w A2 news) (hl : news.length = m * size) (hm : 0 < m) (hg : c < n + m)
    (h63 : n + m ≤ maxLen) (hbytes : (n + m) * bytes ≤ 140737488355328)
    (h : ∀ A' c' w', w'.ownsRow w.heap.size e size (.slice A' (n + m) c') (n + m) (xs ++ news) → Below w.heap.size w w' → K (a.put o.dst (.slice A' (n + m) c')) w') : o.wp P a w K Q := by
  obtain ⟨A', c', w', hrun, h2, h3⟩ := run_append_full (P := P) E o.type (c := c) hx hlx hn0 c2 hr hl hm hg h63 hbytes
  unfold Oper.wp execOp
  simp only [ho, resolve, invoke, builtin, Sem.run_bind, Sem.run_pure, Result.andThen_ok, List.map_toArray, List.map_cons, List.map_nil, hs, hx2, hrun]
  exact h A' c' w' h2 h3
theorem wl_append_full (E : Elem P t e z size bytes) {ops : Array Oper} {rest : List Oper} {o : Oper} {a : Act} {Q : Exit → Act → World → Prop} (hgd : o.guard = none) (s x : Operand)
    (ho : o.op = .call { callee := .builtin .append, args := #[s, x], argTypes := #[t, t] })
    {A : Option Addr} {n c : Nat} {xs : List Value} (hs : a.eval s = .slice A n c) (hx : Rd w A xs) (hlx : xs.length = n * size) (hn0 : 0 < n)
    {A2 : Option Addr} {m c2 : Nat} {news : List Value} (hx2 : a.eval x = .slice A2 m c2) (hr : Rd w A2 news) (hl : news.length = m * size) (hm : 0 < m) (hg : c < n + m)
    (h63 : n + m ≤ maxLen) (hbytes : (n + m) * bytes ≤ 140737488355328)
    (h : ∀ A' c' w', w'.ownsRow w.heap.size e size (.slice A' (n + m) c') (n + m) (xs ++ news) → Below w.heap.size w w' → wpList P ops Q rest (a.put o.dst (.slice A' (n + m) c')) w') : wpList P ops Q (o :: rest) a w :=
  wpList_plain hgd fun _ hK => wp_append_full E s x ho hs hx hlx hn0 hx2 hr hl hm hg h63 hbytes fun A' c' w' h2 h3 => hK _ _ (h A' c' w' h2 h3)
theorem step_append_full (E : Elem P t e z size bytes) {ops : Array Oper} {o : Oper} {a : Act} {K : Act → World → Prop} {Q : Exit → Act → World → Prop} {F : Prop} (hgd : o.guard = none) (s x : Operand)
    (ho : o.op = .call { callee := .builtin .append, args := #[s, x], argTypes := #[t, t] })
    {A : Option Addr} {n c : Nat} {xs : List Value} (hs : a.eval s = .slice A n c) (hx : Rd w A xs) (hlx : xs.length = n * size) (hn0 : 0 < n)
    {A2 : Option Addr} {m c2 : Nat} {news : List Value} (hx2 : a.eval x = .slice A2 m c2) (hr : Rd w A2 news) (hl : news.length = m * size) (hm : 0 < m) (hg : c < n + m)
    (h63 : n + m ≤ maxLen) (hbytes : (n + m) * bytes ≤ 140737488355328)
    (h : ∀ A' c' w', w'.ownsRow w.heap.size e size (.slice A' (n + m) c') (n + m) (xs ++ news) → Below w.heap.size w w' → K (a.put o.dst (.slice A' (n + m) c')) w') :
    if Region.wanted o (yielded ops a.tmps) = true then Oper.wp P o a w K Q else F := by
  have hw : Region.wanted o (yielded ops a.tmps) = true := by simp [Region.wanted, hgd]
  rw [if_pos hw]
  exact wp_append_full E s x ho hs hx hlx hn0 hx2 hr hl hm hg h63 hbytes h
theorem wp_append (E : Elem P t e z size bytes) {o : Oper} {a : Act} {K : Act → World → Prop} {Q : Exit → Act → World → Prop} (s x : Operand)
    (ho : o.op = .call { callee := .builtin .append, args := #[s, x], argTypes := #[t, t] })
    {base : Nat} {A : Option Addr} {n c : Nat} {xs : List Value} (hs : a.eval s = .slice A n c) (hown : w.ownsRow base e size (.slice A n c) n xs)
    {A2 : Option Addr} {m c2 : Nat} {news : List Value} (hx : a.eval x = .slice A2 m c2) (hr : Rd w A2 news) (hl : news.length = m * size) (h1 : ∀ u ∈ news, u.oneCell' = true)
    (h63 : n + m ≤ maxLen) (hbytes : (n + m) * bytes ≤ 140737488355328) (hbase : base ≤ w.heap.size)
    (h : ∀ A' c' w', w'.ownsRow base e size (.slice A' (n + m) c') (n + m) (xs ++ news) → w.grownBy w' (Value.slice A n c).ownBlock →
      ((Value.slice A' (n + m) c').ownBlock = (Value.slice A n c).ownBlock ∨ (Value.slice A' (n + m) c').ownBlock = some w.heap.size) → K (a.put o.dst (.slice A' (n + m) c')) w') : o.wp P a w K Q := by
  obtain ⟨A', c', w', hrun, h2, h3, h4⟩ := run_append_rd (P := P) E o.type hown c2 hr hl h1 h63 hbytes hbase
  unfold Oper.wp execOp
  simp only [ho, resolve, invoke, builtin, Sem.run_bind, Sem.run_pure, Result.andThen_ok, List.map_toArray, List.map_cons, List.map_nil, hs, hx, hrun]
  exact h A' c' w' h2 h3 h4
theorem step_append (E : Elem P t e z size bytes) {ops : Array Oper} {o : Oper} {a : Act} {K : Act → World → Prop} {Q : Exit → Act → World → Prop} {F : Prop} (hgd : o.guard = none) (s x : Operand)
    (ho : o.op = .call { callee := .builtin .append, args := #[s, x], argTypes := #[t, t] })
    {base : Nat} {A : Option Addr} {n c : Nat} {xs : List Value} (hs : a.eval s = .slice A n c) (hown : w.ownsRow base e size (.slice A n c) n xs)
    {A2 : Option Addr} {m c2 : Nat} {news : List Value} (hx : a.eval x = .slice A2 m c2) (hr : Rd w A2 news) (hl : news.length = m * size) (h1 : ∀ u ∈ news, u.oneCell' = true)
    (h63 : n + m ≤ maxLen) (hbytes : (n + m) * bytes ≤ 140737488355328) (hbase : base ≤ w.heap.size)
    (h : ∀ A' c' w', w'.ownsRow base e size (.slice A' (n + m) c') (n + m) (xs ++ news) → w.grownBy w' (Value.slice A n c).ownBlock →
      ((Value.slice A' (n + m) c').ownBlock = (Value.slice A n c).ownBlock ∨ (Value.slice A' (n + m) c').ownBlock = some w.heap.size) → K (a.put o.dst (.slice A' (n + m) c')) w') :
    if Region.wanted o (yielded ops a.tmps) = true then Oper.wp P o a w K Q else F := by
  have hw : Region.wanted o (yielded ops a.tmps) = true := by simp [Region.wanted, hgd]
  rw [if_pos hw]
  exact wp_append E s x ho hs hown hx hr hl h1 h63 hbytes hbase h
end

theorem Bytes.sub {w : World} {b off : Nat} {xs : List UInt8} (h : Bytes w (some ⟨b, off, none⟩) xs) (i n : Nat) : Bytes w (some ⟨b, off + i, none⟩) ((xs.drop i).take n) := by
  intro j hj
  have hj2 : j < n ∧ i + j < xs.length := by rw [List.length_take, List.length_drop] at hj; omega
  obtain ⟨b', off', e, hc⟩ := h (i + j) hj2.2
  injection e with e
  injection e with e1 e2 _
  subst e1; subst e2
  refine ⟨b, off + i, rfl, ?_⟩
  rw [Nat.add_assoc, hc, List.getElem?_take, if_pos hj2.1, List.getElem?_drop]
theorem Bytes.take {w : World} {A : Option Addr} {xs : List UInt8} (h : Bytes w A xs) (n : Nat) : Bytes w A (xs.take n) := by
  intro j hj
  have hj2 : j < n ∧ j < xs.length := by rw [List.length_take] at hj; omega
  obtain ⟨b', off', e, hc⟩ := h j hj2.2
  exact ⟨b', off', e, by rw [hc, List.getElem?_take, if_pos hj2.1]⟩
end Hach

namespace Hach
theorem pz : (∀ (a : Go.Act) (d : Go.Tmp) (v : Go.Value), a.put (some d) v = { a with tmps := a.tmps.setIfInBounds d v }) ∧ (∀ (a : Go.Act) (v : Go.Value), a.put none v = a) ∧ (∀ (l : List Go.Value) (i : Nat) (v : Go.Value), l.toArray.setIfInBounds i v = (l.set i v).toArray) ∧ (∀ (l : List Bool) (i : Nat) (v : Bool), l.toArray.setIfInBounds i v = (l.set i v).toArray) ∧ (∀ (x y : Go.Value) (l : List Go.Value), (x :: l).set 0 y = y :: l) ∧ (∀ (x y : Bool) (l : List Bool), (x :: l).set 0 y = y :: l) ∧ (∀ (x y : Go.Value) (l : List Go.Value) (n : Nat), (x :: l).set (n + 1) y = x :: l.set n y) ∧ (∀ (x y : Bool) (l : List Bool) (n : Nat), (x :: l).set (n + 1) y = x :: l.set n y) :=
  ⟨fun _ _ _ => rfl, fun _ _ => rfl, fun _ _ _ => List.setIfInBounds_toArray .., fun _ _ _ => List.setIfInBounds_toArray .., fun _ _ _ => rfl, fun _ _ _ => rfl, fun _ _ _ _ => rfl, fun _ _ _ _ => rfl⟩
end Hach

namespace Hach
open Go Go.RowKit
def ptr0 (b : Nat) : Value := .pointer (some ⟨b, 0, none⟩)
def Chain (w : World) : Nat → List Nat → Prop
  | _, [] => True
  | x, b :: l => (w.cell? ⟨x, 4, none⟩ = some (ptr0 b) ∧ w.cell? ⟨b, 5, none⟩ = some (ptr0 x)) ∧ Chain w b l
def lastOf (x : Nat) : List Nat → Nat
  | [] => x
  | b :: l => lastOf b l
theorem lastOf_mem (x : Nat) (l : List Nat) : lastOf x l ∈ x :: l := by
  induction l generalizing x with
  | nil => exact List.mem_singleton.2 rfl
  | cons b l ih => exact List.mem_cons_of_mem _ (ih b)
theorem lastOf_not_drop {x : Nat} {l : List Nat} (nd : (x :: l).Nodup) : lastOf x l ∉ (x :: l).dropLast := by
  induction l generalizing x with
  | nil => simp
  | cons a l ih =>
    intro hb
    rw [List.dropLast_cons_of_ne_nil (by simp)] at hb
    rw [List.nodup_cons] at nd
    rcases List.mem_cons.1 hb with hb | hb
    · have := lastOf_mem a l
      rw [show lastOf x (a :: l) = lastOf a l from rfl] at hb
      rw [hb] at this
      exact nd.1 this
    · exact ih nd.2 hb
theorem Chain.append {w : World} {x : Nat} {l m : List Nat} : Chain w x (l ++ m) ↔ Chain w x l ∧ Chain w (lastOf x l) m := by
  induction l generalizing x with
  | nil => exact ⟨fun h => ⟨trivial, h⟩, fun h => h.2⟩
  | cons b l ih =>
    show (_ ∧ Chain w b (l ++ m)) ↔ (_ ∧ Chain w b l) ∧ Chain w (lastOf b l) m
    rw [ih]
    exact ⟨fun ⟨a, b, c⟩ => ⟨⟨a, b⟩, c⟩, fun ⟨⟨a, b⟩, c⟩ => ⟨a, b, c⟩⟩
theorem Chain.keep {w w' : World} {x : Nat} {l : List Nat} (h : Chain w x l) (hn : ∀ b ∈ (x :: l).dropLast, ∀ v, w.cell? ⟨b, 4, none⟩ = some v → w'.cell? ⟨b, 4, none⟩ = some v)
    (hb : ∀ b ∈ l, ∀ v, w.cell? ⟨b, 5, none⟩ = some v → w'.cell? ⟨b, 5, none⟩ = some v) : Chain w' x l := by
  induction l generalizing x with
  | nil => trivial
  | cons b l ih =>
    refine ⟨⟨hn x (by simp) _ h.1.1, hb b List.mem_cons_self _ h.1.2⟩, ih h.2 ?_ (fun c hc => hb c (List.mem_cons_of_mem _ hc))⟩
    intro c hc
    exact hn c (by rw [List.dropLast_cons_of_ne_nil (by simp)]; exact List.mem_cons_of_mem _ hc)
theorem Chain.up {w w' : World} {x : Nat} {l : List Nat} {S : Nat → Prop} (h : Chain w x l) (hf : Fr S w w') (hS : ∀ b ∈ x :: l, ¬ S b) : Chain w' x l :=
  h.keep (fun b hb v hv => hf.cell hv (hS b (List.dropLast_subset _ hb))) (fun b hb v hv => hf.cell hv (hS b (List.mem_cons_of_mem _ hb)))
theorem set_far {w : World} {b i c j : Nat} {u v : Value} (h : w.cell? ⟨b, i, none⟩ = some v) (hne : ¬ (c = b ∧ j = i)) : (w.setCell ⟨c, j, none⟩ u).cell? ⟨b, i, none⟩ = some v := by
  rw [World.cell?_setCell_other _ _ _ _ (fun e => hne (by injection e with e1 e2; exact ⟨e1, e2⟩))]; exact h
theorem set_near {w : World} {b i : Nat} {u v : Value} (h : w.cell? ⟨b, i, none⟩ = some v) : (w.setCell ⟨b, i, none⟩ u).cell? ⟨b, i, none⟩ = some u := World.cell?_setCell_same _ _ _ h

theorem Chain.out {w : World} {r e : Nat} {l1 l2 : List Nat} (h : Chain w r (l1 ++ e :: (l2 ++ [r]))) (hd : (r :: (l1 ++ e :: l2)).Nodup) :
    ∃ p q, p = lastOf r l1 ∧ (∃ t, l2 ++ [r] = q :: t) ∧ w.cell? ⟨e, 4, none⟩ = some (ptr0 q) ∧ w.cell? ⟨e, 5, none⟩ = some (ptr0 p) ∧ w.cell? ⟨p, 4, none⟩ = some (ptr0 e) ∧ w.cell? ⟨q, 5, none⟩ = some (ptr0 e) ∧ p ≠ e ∧ q ≠ e ∧
      ∀ w' : World, (∀ b i v, w.cell? ⟨b, i, none⟩ = some v → ¬ (b = p ∧ i = 4) → ¬ (b = q ∧ i = 5) → w'.cell? ⟨b, i, none⟩ = some v) → w'.cell? ⟨p, 4, none⟩ = some (ptr0 q) → w'.cell? ⟨q, 5, none⟩ = some (ptr0 p) → Chain w' r (l1 ++ (l2 ++ [r])) := by
  obtain ⟨q, t, hq⟩ : ∃ q t, l2 ++ [r] = q :: t := by
    cases l2 with
    | nil => exact ⟨r, [], rfl⟩
    | cons a l => exact ⟨a, l ++ [r], rfl⟩
  rw [hq] at h
  obtain ⟨h1, h2⟩ := Chain.append.1 h
  obtain ⟨⟨h3, h4⟩, ⟨h5, h6⟩, h7⟩ := h2
  have hp := lastOf_mem r l1
  have hd' := hd
  rw [List.nodup_cons] at hd
  obtain ⟨hr, hd2⟩ := hd
  rw [List.nodup_append] at hd2
  obtain ⟨n1, n2, n3⟩ := hd2
  rw [List.nodup_cons] at n2
  have pe : lastOf r l1 ≠ e := by
    intro hh
    rw [hh] at hp
    rcases List.mem_cons.1 hp with hp | hp
    · apply hr; rw [← hp]; simp
    · exact n3 e hp e (by simp) rfl
  have qe : q ≠ e := by
    intro hh
    have : q ∈ l2 ++ [r] := by rw [hq]; exact List.mem_cons_self
    rw [hh] at this
    rcases List.mem_append.1 this with hm | hm
    · exact n2.1 hm
    · apply hr; rw [← List.mem_singleton.1 hm]; simp
  refine ⟨lastOf r l1, q, rfl, ⟨t, hq⟩, h5, h4, h3, h6, pe, qe, ?_⟩
  intro w' hk hp4 hq5
  rw [hq]
  refine Chain.append.2 ⟨?_, ⟨hp4, hq5⟩, ?_⟩
  · -- the first part: p's next is not in it, q's back neither
    refine h1.keep (fun b hb v hv => hk _ _ _ hv ?_ (fun e => by cases e.2)) (fun b hb v hv => hk _ _ _ hv (fun e => by cases e.2) ?_)
    · rintro ⟨hbp, _⟩
      rw [hbp] at hb
      exact lastOf_not_drop (List.nodup_cons.2 ⟨fun hm => hr (List.mem_append_left _ hm), n1⟩) hb
    · rintro ⟨hbq, _⟩
      rw [hbq] at hb
      have : q ∈ l2 ++ [r] := by rw [hq]; exact List.mem_cons_self
      rcases List.mem_append.1 this with hm | hm
      · exact n3 q hb q (List.mem_cons_of_mem _ hm) rfl
      · rw [List.mem_singleton.1 hm] at hb
        exact hr (List.mem_append_left _ hb)
  · -- the second part
    refine h7.keep (fun b hb v hv => hk _ _ _ hv ?_ (fun e => by cases e.2)) (fun b hb v hv => hk _ _ _ hv (fun e => by cases e.2) ?_)
    · rintro ⟨hbp, _⟩
      rw [hbp] at hb
      have hb2 : lastOf r l1 ∈ l2 := by
        rw [← hq, List.dropLast_concat] at hb; exact hb
      rcases List.mem_cons.1 hp with hp | hp
      · apply hr; rw [← hp]; exact List.mem_append_right _ (List.mem_cons_of_mem _ hb2)
      · exact n3 _ hp _ (List.mem_cons_of_mem _ hb2) rfl
    · rintro ⟨hbq, _⟩
      rw [hbq] at hb
      cases l2 with
      | nil =>
        simp at hq
        rw [hq.2] at hb; simp at hb
      | cons a l =>
        simp at hq
        obtain ⟨rfl, rfl⟩ := hq
        rcases List.mem_append.1 hb with hm | hm
        · exact (List.nodup_cons.1 n2.2).1 hm
        · apply hr; rw [← List.mem_singleton.1 hm]; simp
theorem Chain.last {w w' : World} {r e : Nat} {l : List Nat} (h : Chain w r (l ++ [r])) (hd : (r :: l).Nodup) (he : e ∉ r :: l)
    (hk : ∀ b i v, w.cell? ⟨b, i, none⟩ = some v → b ≠ e → ¬ (b = lastOf r l ∧ i = 4) → ¬ (b = r ∧ i = 5) → w'.cell? ⟨b, i, none⟩ = some v)
    (h1 : w'.cell? ⟨lastOf r l, 4, none⟩ = some (ptr0 e)) (h2 : w'.cell? ⟨e, 5, none⟩ = some (ptr0 (lastOf r l))) (h3 : w'.cell? ⟨e, 4, none⟩ = some (ptr0 r)) (h4 : w'.cell? ⟨r, 5, none⟩ = some (ptr0 e)) :
    Chain w' r ((l ++ [e]) ++ [r]) := by
  obtain ⟨c1, c2⟩ := Chain.append.1 h
  rw [List.append_assoc]
  refine Chain.append.2 ⟨?_, ⟨h1, h2⟩, ⟨h3, h4⟩, trivial⟩
  rw [List.nodup_cons] at hd
  refine c1.keep (fun b hb v hv => hk _ _ _ hv ?_ ?_ (fun e => by cases e.2)) (fun b hb v hv => hk _ _ _ hv ?_ (fun e => by cases e.2) ?_)
  · rintro rfl; exact he (List.dropLast_subset _ hb)
  · rintro ⟨hbp, _⟩
    rw [hbp] at hb
    exact lastOf_not_drop (List.nodup_cons.2 hd) hb
  · rintro rfl; exact he (List.mem_cons_of_mem _ hb)
  · rintro ⟨rfl, _⟩; exact hd.1 hb
end Hach
