/- THE CONTRACT of spill.all: a chain that has just so many bytes' pages. -/
import Derived.Test.YtbcghggkfnagoaaGreatDoorSpp
import Derived.Test.YtbcghggkfnagoaaGreatDoorRgW
import Derived.Handy
set_option linter.unusedVariables false
set_option linter.unusedSimpArgs false
namespace Go.Proofs.YtbcghggkfnagoaaGreatDoor
open Go Go.RowKit Go.Shelf Go.Maps Hach

attribute [local go_sem] Oper.semAt_some
theorem chain1_ent (args : Array Value) (w : World) : (callFunc 184 args).run Tryz.prog w = .ok (.enter 184 args) w := by go_simp
theorem elemL : Elem Tryz.prog 163 167 (.agg #[.int .i64 0, .slice none 0 0, .int .i64 0]) 3 40 := ⟨Tryz.underlying163, by kernel_rfl, rfl, by decide⟩
/-- What all tells: links, each of whose bytes lie in a block of its own. -/
def AllSp (w : World) (n : Nat) (B : Nat → List UInt8) (page : Int) (k : Nat) (en : Ending) (w' : World) : Prop :=
  Up w w' ∧ ((allV n B page k = none ∧ en = .returned (.tuple #[.slice none 0 0, .int .i64 9])) ∨
    ∃ (A : Option Addr) (c : Nat) (xs : List Lk), allV n B page k = some (xs.map Lk.key) ∧ en = .returned (.tuple #[.slice A xs.length c, .int .i64 0]) ∧
      w'.ownsRow w.heap.size 167 3 (.slice A xs.length c) xs.length (xs.flatMap Lk.cs) ∧ ∀ x ∈ xs, x.e = 0 ∧ LkRow w.heap.size x w')
theorem al6 (w : World) (o1 o2 o3 o4 o5 o6 : Obj) : Up w ((((((w.alloc o1).alloc o2).alloc o3).alloc o4).alloc o5).alloc o6) ∧ ((((((w.alloc o1).alloc o2).alloc o3).alloc o4).alloc o5).alloc o6).heap.size = w.heap.size + 1 + 1 + 1 + 1 + 1 + 1 ∧
    ((((((w.alloc o1).alloc o2).alloc o3).alloc o4).alloc o5).alloc o6).heap[w.heap.size]? = some o1 ∧ ((((((w.alloc o1).alloc o2).alloc o3).alloc o4).alloc o5).alloc o6).heap[w.heap.size + 1]? = some o2 ∧
    ((((((w.alloc o1).alloc o2).alloc o3).alloc o4).alloc o5).alloc o6).heap[w.heap.size + 1 + 1]? = some o3 ∧ ((((((w.alloc o1).alloc o2).alloc o3).alloc o4).alloc o5).alloc o6).heap[w.heap.size + 1 + 1 + 1]? = some o4 ∧
    ((((((w.alloc o1).alloc o2).alloc o3).alloc o4).alloc o5).alloc o6).heap[w.heap.size + 1 + 1 + 1 + 1]? = some o5 ∧ ((((((w.alloc o1).alloc o2).alloc o3).alloc o4).alloc o5).alloc o6).heap[w.heap.size + 1 + 1 + 1 + 1 + 1]? = some o6 := by
  have sz : ∀ (W : World) (o : Obj), (W.alloc o).heap.size = W.heap.size + 1 := fun W o => by simp
  have old : ∀ {W : World} {o : Obj} {k : Nat} {ob : Obj}, W.heap[k]? = some ob → (W.alloc o).heap[k]? = some ob := fun h => (Below.heap_alloc _ _ _ (Array.getElem?_eq_some_iff.1 h).1).trans h
  have n1 := heap_alloc_new w o1
  have n2 := heap_alloc_new (w.alloc o1) o2
  have n3 := heap_alloc_new ((w.alloc o1).alloc o2) o3
  have n4 := heap_alloc_new (((w.alloc o1).alloc o2).alloc o3) o4
  have n5 := heap_alloc_new ((((w.alloc o1).alloc o2).alloc o3).alloc o4) o5
  have n6 := heap_alloc_new (((((w.alloc o1).alloc o2).alloc o3).alloc o4).alloc o5) o6
  simp only [sz] at n1 n2 n3 n4 n5 n6
  exact ⟨upAlD (upAlD (upAlD (upAlD (upAlD (upAlD (Up.refl w) _) _) _) _) _) _, by simp only [sz], old (old (old (old (old n1)))), old (old (old (old n2))), old (old (old n3)), old (old n4), old n5, n6⟩
theorem LkRow.fr {S : Nat → Prop} {W W' : World} {base : Nat} {x : Lk} (h : LkRow base x W) (hf : Fr S W W') (hS : ∀ k cur fr, W.heap[k]? = some (.cells cur 5 fr) → ¬ S k) : LkRow base x W' := by
  rcases h with h | ⟨h1, h2, h3, h4⟩
  · exact .inl h
  · refine .inr ⟨h1, h2, h3, hf.own h4 (fun k hk => ?_)⟩
    obtain ⟨cs, fr, e⟩ := own_obj h4 hk
    exact hS _ _ _ e
/-- Between two rounds of all. -/
structure AllI (w : World) (bz : Nat) (pre : List Lk) (W : World) : Prop where
  up : Up w W
  big : bz ≤ W.heap.size
  rb : W.heap[w.heap.size]? = some (.cells #[.slice none 0 0] 163 (0, 0))
  eb : W.heap[w.heap.size + 1]? = some (.cells #[.int .i64 0] 31 (0, 0))
  zb : ∃ v, W.heap[w.heap.size + 1 + 1 + 1 + 1 + 1]? = some (.cells #[v] 3 (0, 0))
  row : ∃ A c, W.heap[w.heap.size + 1 + 1]? = some (.cells #[.slice A pre.length c] 163 (0, 0)) ∧ W.ownsRow bz 167 3 (.slice A pre.length c) pre.length (pre.flatMap Lk.cs)
  all : ∀ x ∈ pre, x.e = 0 ∧ LkRow w.heap.size x W
/-- All has left the loop with an error. -/
def AllX (w : World) (n : Nat) (B : Nat → List UInt8) (page : Int) (k : Nat) (_ : List Lk) (W : World) : Prop :=
  Up w W ∧ W.heap[w.heap.size]? = some (.cells #[.slice none 0 0] 163 (0, 0)) ∧ W.heap[w.heap.size + 1]? = some (.cells #[.int .i64 9] 31 (0, 0)) ∧ allV n B page k = none
/-- Only what is no cells is written, at bz and above. -/
def Odd (bz : Nat) (W : World) (S : Nat → Prop) : Prop := ∀ k, S k → bz ≤ k ∧ ∃ o : Obj, W.heap[k]? = some o ∧ o.isCells = false
theorem Odd.no {bz : Nat} {W : World} {S : Nat → Prop} (h : Odd bz W S) {k : Nat} {cs : Array Value} {t : TypeId} {fr} (hk : W.heap[k]? = some (.cells cs t fr)) : ¬ S k := fun e => by
  obtain ⟨_, o, h1, h2⟩ := h k e
  rw [hk] at h1; injection h1 with h1; subst h1; cases h2
theorem Odd.keep {bz : Nat} {W W' : World} {S : Nat → Prop} (h : Odd bz W S) (hf : Fr S W W') {k : Nat} {cs : Array Value} {t : TypeId} {fr} (hk : W.heap[k]? = some (.cells cs t fr)) : W'.heap[k]? = some (.cells cs t fr) :=
  (hf.block k (Array.getElem?_eq_some_iff.1 hk).1 (h.no hk)).trans hk
theorem Odd.up {bz : Nat} {w W W' : World} {S : Nat → Prop} (h : Odd bz W S) (hf : Fr S W W') (hu : Up w W) (hb : w.heap.size ≤ bz) : Up w W' :=
  hu.trans (hf.below hu.size (fun k hk e => by have := (h k e).1; omega))
theorem Odd.of {bz : Nat} {W W' : World} {row : Option Nat} (hr : ∀ r, row = some r → bz ≤ r ∧ ∃ o : Obj, W.heap[r]? = some o ∧ o.isCells = false) : Odd bz W (fun k => some k = row) := fun k e => hr k e.symm
theorem AllI.odd {w W W' : World} {bz : Nat} {pre : List Lk} {S : Nat → Prop} (h : AllI w bz pre W) (ho : Odd bz W S) (hf : Fr S W W') (hb : w.heap.size ≤ bz) : AllI w bz pre W' := by
  obtain ⟨v, hz⟩ := h.zb
  obtain ⟨A, c, h1, h2⟩ := h.row
  refine ⟨ho.up hf h.up hb, Nat.le_trans h.big hf.size, ho.keep hf h.rb, ho.keep hf h.eb, ⟨v, ho.keep hf hz⟩, ⟨A, c, ho.keep hf h1, hf.own h2 (fun k hk => ?_)⟩, fun x hx => ⟨(h.all x hx).1, (h.all x hx).2.fr hf (fun k cur fr e => ho.no e)⟩⟩
  obtain ⟨cs, fr, e⟩ := own_obj h2 hk
  exact ho.no e
theorem AllX.odd {w W W' : World} {bz n k : Nat} {B : Nat → List UInt8} {page : Int} {pre : List Lk} {S : Nat → Prop} (h : AllX w n B page k pre W) (ho : Odd bz W S) (hf : Fr S W W') (hb : w.heap.size ≤ bz) : AllX w n B page k pre W' :=
  ⟨ho.up hf h.1 hb, ho.keep hf h.2.1, ho.keep hf h.2.2.1, h.2.2.2⟩
theorem ChG.odd {w W W' : World} {bz h hb z M : Nat} {E : List (Int × List UInt8 × Int)} {pre : List Lk} {x : Lk} {S : Nat → Prop} (hg : ChG w h hb z M E pre x W) (ho : Odd bz W S) (hf : Fr S W W') (hw : w.heap.size ≤ bz) : ChG w h hb z M E pre x W' := by
  obtain ⟨h1, h2, h3, h4, h5, h6⟩ := hg
  exact ⟨ho.up hf h1 hw, ho.keep hf h2, ho.keep hf h3, h4, h5, h6.fr hf (fun k cur fr e => ho.no e)⟩
theorem AllI.setz {w W : World} {bz : Nat} {pre : List Lk} (h : AllI w bz pre W) (hb : bz = w.heap.size + 1 + 1 + 1 + 1 + 1 + 1) (v : Value) : AllI w bz pre (W.setCell ⟨w.heap.size + 1 + 1 + 1 + 1 + 1, 0, none⟩ v) := by
  obtain ⟨v0, hz⟩ := h.zb
  obtain ⟨A, c, h1, h2⟩ := h.row
  obtain ⟨z, hzz⟩ : ∃ z, w.heap.size + 1 + 1 + 1 + 1 + 1 = z := ⟨_, rfl⟩
  rw [hzz] at hz ⊢
  have hf : Fr (fun k => k = z) W (W.setCell ⟨z, 0, none⟩ v) := (Fr.refl (fun k => k = z) W).setCell (p := ⟨z, 0, none⟩) (fun _ => rfl) _
  have kp : ∀ {k : Nat} {o : Obj}, W.heap[k]? = some o → k ≠ z → (W.setCell ⟨z, 0, none⟩ v).heap[k]? = some o := fun hk hne => (hf.block _ (Array.getElem?_eq_some_iff.1 hk).1 hne).trans hk
  refine ⟨h.up.trans (hf.below h.up.size (fun k hk e => by omega)), Nat.le_trans h.big hf.size, kp h.rb (by omega), kp h.eb (by omega), ⟨v, ?_⟩, ⟨A, c, kp h1 (by omega), hf.own h2 (fun k hk e => by have := (own_block h2 k hk).1; omega)⟩, fun x hx => ⟨(h.all x hx).1, (h.all x hx).2.fr hf (fun k cur fr e e2 => ?_)⟩⟩
  · rw [hzz]; exact heap_setCell_same W z 0 _ _ _ hz
  · rw [e2, hz] at e; injection e with e; injection e with _ e _; exact absurd e (by decide)
theorem Keeps.of_fr {S : Nat → Prop} {B : Nat} {W W' : World} (hf : Fr S W W') (hS : ∀ k, S k → k < B ∨ ∃ o : Obj, W.heap[k]? = some o ∧ o.isCells = true) : KeepsFrom B W W' :=
  ⟨hf.size, fun k o hB hk ho => by
    refine (hf.block k (Array.getElem?_eq_some_iff.1 hk).1 (fun hs => ?_)).trans hk
    rcases hS k hs with h | ⟨o', h1, h2⟩
    · omega
    · rw [hk] at h1; injection h1 with h1; rw [h1, h2] at ho; cases ho⟩
theorem AllI.step {w W w6 : World} {bz h M c9 c6 : Nat} {A9 A6 : Option Addr} {E : List (Int × List UInt8 × Int)} {pre : List Lk} {x : Lk} (hI : AllI w bz pre W) (hb : bz = w.heap.size + 1 + 1 + 1 + 1 + 1 + 1)
    (hlb : W.heap[w.heap.size + 1 + 1]? = some (.cells #[.slice A9 pre.length c9] 163 (0, 0))) (ho : W.ownsRow bz 167 3 (.slice A9 pre.length c9) pre.length (pre.flatMap Lk.cs)) (hx : x.e = 0)
    (hG : ChG w h (w.heap.size + 1 + 1 + 1) (w.heap.size + 1 + 1 + 1 + 1 + 1) M E pre x W) {ob : Obj} (g6 : (W.alloc ob).grownBy w6 (Value.slice A9 pre.length c9).ownBlock)
    (o6 : w6.ownsRow bz 167 3 (.slice A6 (pre.length + 1) c6) (pre.length + 1) (pre.flatMap Lk.cs ++ x.cs)) :
    w6.heap[w.heap.size + 1 + 1]? = some (.cells #[.slice A9 pre.length c9] 163 (0, 0)) ∧ KeepsFrom bz W (w6.setCell ⟨w.heap.size + 1 + 1, 0, none⟩ (.slice A6 (pre.length + 1) c6)) ∧
      ChG w h (w.heap.size + 1 + 1 + 1) (w.heap.size + 1 + 1 + 1 + 1 + 1) M E pre x (w6.setCell ⟨w.heap.size + 1 + 1, 0, none⟩ (.slice A6 (pre.length + 1) c6)) ∧ AllI w bz (pre ++ [x]) (w6.setCell ⟨w.heap.size + 1 + 1, 0, none⟩ (.slice A6 (pre.length + 1) c6)) := by
  obtain ⟨lb, hl⟩ : ∃ lb, w.heap.size + 1 + 1 = lb := ⟨_, rfl⟩
  have hrow := own_block ho
  have f6 : Fr (fun k => some k = (Value.slice A9 pre.length c9).ownBlock) W w6 := ((Fr.of_below (upAlD (Up.refl W) ob)).mono (fun _ e => e.elim)).trans' (Fr.of_grown g6)
  have hlb6 : w6.heap[lb]? = some (.cells #[.slice A9 pre.length c9] 163 (0, 0)) := by
    rw [hl] at hlb
    exact (f6.block lb (Array.getElem?_eq_some_iff.1 hlb).1 (fun e => by have := (hrow lb e.symm).1; omega)).trans hlb
  have f7 : Fr (fun k => k = lb) w6 (w6.setCell ⟨lb, 0, none⟩ (.slice A6 (pre.length + 1) c6)) := (Fr.refl (fun k => k = lb) w6).setCell (p := ⟨lb, 0, none⟩) (fun _ => rfl) _
  have hf : Fr (fun k => some k = (Value.slice A9 pre.length c9).ownBlock ∨ k = lb) W (w6.setCell ⟨lb, 0, none⟩ (.slice A6 (pre.length + 1) c6)) := (f6.mono (fun k e => .inl e)).trans' (f7.mono (fun k e => .inr e))
  have kp : ∀ {k : Nat} {o : Obj}, W.heap[k]? = some o → k < bz → k ≠ lb → (w6.setCell ⟨lb, 0, none⟩ (.slice A6 (pre.length + 1) c6)).heap[k]? = some o := fun hk h1 h2 =>
    (hf.block _ (Array.getElem?_eq_some_iff.1 hk).1 (fun e => e.elim (fun e => by have := (hrow _ e.symm).1; omega) h2)).trans hk
  have nb : ∀ k cur fr, W.heap[k]? = some (.cells cur 5 fr) → ¬ (some k = (Value.slice A9 pre.length c9).ownBlock ∨ k = lb) := by
    rintro k cur fr hk (e | e)
    · obtain ⟨cs, fr', e2⟩ := own_obj ho e.symm
      rw [hk] at e2; injection e2 with e2; injection e2 with _ e2 _; exact absurd e2 (by decide)
    · rw [e, ← hl, hlb] at hk; injection hk with hk; injection hk with _ hk _; exact absurd hk (by decide)
  have hu : Up w (w6.setCell ⟨lb, 0, none⟩ (.slice A6 (pre.length + 1) c6)) := hI.up.trans (hf.below hI.up.size (fun k hk e => e.elim (fun e => by have := (hrow _ e.symm).1; omega) (fun e => by omega)))
  obtain ⟨g1, g2, g3, g4, g5, gx⟩ := hG
  obtain ⟨v, hz⟩ := hI.zb
  rw [hl]
  rw [hl] at g2 g3
  refine ⟨hlb6, Keeps.of_fr hf ?_, ⟨hu, kp g2 (by omega) (by omega), kp g3 (by omega) (by omega), g4, g5, gx.fr hf nb⟩, ⟨hu, Nat.le_trans hI.big hf.size, kp hI.rb (by omega) (by omega), kp hI.eb (by omega) (by omega), ⟨v, kp hz (by omega) (by omega)⟩, ⟨A6, c6, ?_, ?_⟩, ?_⟩⟩
  · rintro k (e | e)
    · obtain ⟨cs, fr', e2⟩ := own_obj ho e.symm
      exact .inr ⟨_, e2, rfl⟩
    · exact .inl (by omega)
  · rw [List.length_append, hl]; exact heap_setCell_same w6 lb 0 _ _ _ hlb6
  · rw [List.length_append, List.flatMap_append, List.flatMap_cons, List.flatMap_nil, List.append_nil]
    exact f7.own o6 (fun k hk e => by have := (own_block o6 k hk).1; omega)
  · intro y hy
    rcases List.mem_append.1 hy with hy | hy
    · exact ⟨(hI.all y hy).1, (hI.all y hy).2.fr hf nb⟩
    · rw [List.mem_singleton] at hy
      subst hy
      exact ⟨hx, gx.fr hf nb⟩
theorem AllI.fail {w W : World} {bz n k : Nat} {B : Nat → List UInt8} {page : Int} {pre p2 : List Lk} (hI : AllI w bz pre W) (hb : bz = w.heap.size + 1 + 1 + 1 + 1 + 1 + 1) (hv : allV n B page k = none) :
    KeepsFrom bz W ((W.setCell ⟨w.heap.size, 0, none⟩ (.slice none 0 0)).setCell ⟨w.heap.size + 1, 0, none⟩ (.int .i64 9)).drew ∧ AllX w n B page k p2 ((W.setCell ⟨w.heap.size, 0, none⟩ (.slice none 0 0)).setCell ⟨w.heap.size + 1, 0, none⟩ (.int .i64 9)).drew := by
  have f1 : Fr (fun k => k = w.heap.size ∨ k = w.heap.size + 1) W ((W.setCell ⟨w.heap.size, 0, none⟩ (.slice none 0 0)).setCell ⟨w.heap.size + 1, 0, none⟩ (.int .i64 9)).drew :=
    (((Fr.refl (fun k => k = w.heap.size ∨ k = w.heap.size + 1) W).setCell (p := ⟨w.heap.size, 0, none⟩) (fun _ => .inl rfl) _).setCell (p := ⟨w.heap.size + 1, 0, none⟩) (fun _ => .inr rfl) _).drew
  have k1 := heap_setCell_same W w.heap.size 0 _ _ (.slice none 0 0) hI.rb
  have k2 : (W.setCell ⟨w.heap.size, 0, none⟩ (.slice none 0 0)).heap[w.heap.size + 1]? = some (.cells #[.int .i64 0] 31 (0, 0)) := (Below.heap_setCell _ _ _ _ (by simp)).trans hI.eb
  have k3 := heap_setCell_same _ (w.heap.size + 1) 0 _ _ (.int .i64 9) k2
  refine ⟨Keeps.of_fr f1 (fun k e => .inl (by omega)), hI.up.trans (f1.below hI.up.size (fun k hk e => by omega)), ?_, k3, hv⟩
  exact (Below.heap_setCell _ _ _ _ (by simp)).trans k1
theorem AllI.finish {w W : World} {bz D nq : Nat} {xs : List Lk} (hI : AllI w bz xs W) (hb : bz = w.heap.size + 1 + 1 + 1 + 1 + 1 + 1) (hD : bz ≤ D) (hK : W.heap[D]? = some (.deferred (some []))) (v : Value) (e : Int) :
    (((W.drewN nq).setCell ⟨w.heap.size, 0, none⟩ v).setCell ⟨w.heap.size + 1, 0, none⟩ (.int .i64 e)).heap[D]? = some (.deferred (some [])) ∧
    ((((W.drewN nq).setCell ⟨w.heap.size, 0, none⟩ v).setCell ⟨w.heap.size + 1, 0, none⟩ (.int .i64 e)).putObj D (.deferred none)).cell? ⟨w.heap.size, 0, none⟩ = some v ∧
    ((((W.drewN nq).setCell ⟨w.heap.size, 0, none⟩ v).setCell ⟨w.heap.size + 1, 0, none⟩ (.int .i64 e)).putObj D (.deferred none)).cell? ⟨w.heap.size + 1, 0, none⟩ = some (.int .i64 e) ∧
    Up w ((((W.drewN nq).setCell ⟨w.heap.size, 0, none⟩ v).setCell ⟨w.heap.size + 1, 0, none⟩ (.int .i64 e)).putObj D (.deferred none)) ∧
    (∀ A n c ys, W.ownsRow bz 167 3 (.slice A n c) n ys → ((((W.drewN nq).setCell ⟨w.heap.size, 0, none⟩ v).setCell ⟨w.heap.size + 1, 0, none⟩ (.int .i64 e)).putObj D (.deferred none)).ownsRow w.heap.size 167 3 (.slice A n c) n ys) ∧
    ∀ x ∈ xs, x.e = 0 ∧ LkRow w.heap.size x ((((W.drewN nq).setCell ⟨w.heap.size, 0, none⟩ v).setCell ⟨w.heap.size + 1, 0, none⟩ (.int .i64 e)).putObj D (.deferred none)) := by
  obtain ⟨W1, hW1⟩ : ∃ W1, ((W.drewN nq).setCell ⟨w.heap.size, 0, none⟩ v).setCell ⟨w.heap.size + 1, 0, none⟩ (.int .i64 e) = W1 := ⟨_, rfl⟩
  have f1 : Fr (fun k => k = w.heap.size ∨ k = w.heap.size + 1) W W1 := by
    rw [← hW1]
    exact (((Fr.refl (fun k => k = w.heap.size ∨ k = w.heap.size + 1) W).drewN nq).setCell (p := ⟨w.heap.size, 0, none⟩) (fun _ => .inl rfl) _).setCell (p := ⟨w.heap.size + 1, 0, none⟩) (fun _ => .inr rfl) _
  have k1 := heap_setCell_same (W.drewN nq) w.heap.size 0 _ _ v hI.rb
  have k2 : ((W.drewN nq).setCell ⟨w.heap.size, 0, none⟩ v).heap[w.heap.size + 1]? = some (.cells #[.int .i64 0] 31 (0, 0)) := (Below.heap_setCell _ _ _ _ (by simp)).trans hI.eb
  have k3 := heap_setCell_same _ (w.heap.size + 1) 0 _ _ (.int .i64 e) k2
  have k4 : W1.heap[w.heap.size]? = some (.cells #[v] 163 (0, 0)) := by rw [← hW1]; exact (Below.heap_setCell _ _ _ _ (by simp)).trans k1
  rw [hW1] at k3 ⊢
  have kD : W1.heap[D]? = some (.deferred (some [])) := (f1.block D (Array.getElem?_eq_some_iff.1 hK).1 (by omega)).trans hK
  have f2 : Fr (fun k => k = D) W1 (W1.putObj D (.deferred none)) := (Fr.of_grown (grownBy_putObj' W1 D (.deferred none))).mono (fun k e => Option.some.inj e)
  have hf : Fr (fun k => k = w.heap.size ∨ k = w.heap.size + 1 ∨ k = D) W (W1.putObj D (.deferred none)) := (f1.mono (fun k e => e.elim .inl (fun e => .inr (.inl e)))).trans' (f2.mono (fun k e => .inr (.inr e)))
  have nb : ∀ (t : TypeId), t ≠ 163 → t ≠ 31 → ∀ k cur fr, W.heap[k]? = some (.cells cur t fr) → ¬ (k = w.heap.size ∨ k = w.heap.size + 1 ∨ k = D) := by
    rintro t h1 h2 k cur fr hk (e | e | e)
    · rw [e, hI.rb] at hk; injection hk with hk; injection hk with _ hk _; exact h1 hk.symm
    · rw [e, hI.eb] at hk; injection hk with hk; injection hk with _ hk _; exact h2 hk.symm
    · rw [e, hK] at hk; cases hk
  have cell1 : ∀ {k : Nat} {u : Value} {t : TypeId}, W1.heap[k]? = some (.cells #[u] t (0, 0)) → k ≠ D → (W1.putObj D (.deferred none)).cell? ⟨k, 0, none⟩ = some u := fun h hn => bx_cell ((f2.block _ (Array.getElem?_eq_some_iff.1 h).1 hn).trans h)
  refine ⟨kD, cell1 k4 (by omega), cell1 k3 (by omega), hI.up.trans (hf.below hI.up.size (fun k hk e => by omega)), fun A n c ys ho => own_base (hf.own ho (fun k hk => ?_)) (by omega), fun x hx => ⟨(hI.all x hx).1, (hI.all x hx).2.fr hf (nb _ (by decide) (by decide))⟩⟩
  obtain ⟨cs, fr, e⟩ := own_obj ho hk
  exact nb _ (by decide) (by decide) _ _ _ e
/-- A round's frame of all, x being handed over. -/
def AllAx (w : World) (h hb z M bz : Nat) (E : List (Int × List UInt8 × Int)) (tm : Nat → Lk → Array Value) (pre : List Lk) (x : Lk) (a : Act) (W : World) : Prop :=
  ∃ bx, bz ≤ bx ∧ a = { tmps := tm bx x, defers := [] } ∧ W.heap[bx]? = some (.cells x.cs.toArray 167 (0, 0)) ∧ ChG w h hb z M E pre x W
set_option maxRecDepth 100000 in
set_option maxHeartbeats 4000000 in
theorem all_in (w : World) (h p t m : Nat) (q : PgN) (mv : Value) (last : Int) (n : Nat) (L : PgL) (hh : Hid (HeapP w h p q t m mv last n L)) (hn : Hid (1 ≤ n ∧ n ≤ 4000)) (B : Nat → List UInt8) (hB : Hid (PgB L n B)) (page : Int) (k : Nat) (hk : Hid (1 ≤ k ∧ k ≤ 20000)) :
    CallsIn Fence.wide 20 Tryz.prog 107 #[.pointer (some ⟨h, 0, none⟩), .int .i64 page, .int .i64 k] w (AllSp w n B page k) := by
  obtain ⟨C, hC⟩ : ∃ C, cnt k = C := ⟨_, rfl⟩
  have HCB : Hid (1 ≤ C ∧ C ≤ 40) := hid (by rw [← hC]; have := hk.out; unfold cnt; omega)
  have HC := hid hC
  have HR : Hid (decide (1 ≤ (k : Int) ∧ (k : Int) ≤ 20000) = true) := hid (decide_eq_true (by have := hk.out; omega))
  have CC : ∀ W, Calls Tryz.prog 36 #[.int .i64 k] W fun en w' => en = .returned (.int .i64 C) ∧ w' = W := fun W => by
    have := count_calls W k (hid (by have := hk.out; omega))
    rw [hC] at this
    exact this
  obtain ⟨M, hM⟩ : ∃ M, C + 1 = M := ⟨_, rfl⟩
  have WM : wrap64 ((C : Int) + 1) = (M : Int) := by have := HCB.out; unfold wrap64; omega
  have HM := hid hM
  clear hC hM
  refine callsIn_of_wp_marks Tryz.func107 rfl trivial ?_ rfl
  simp only [Tryz.ntmps107, List.size_toArray, List.length_cons, List.length_nil, Nat.reduceAdd, Nat.reduceSub, Array.replicate_succ, Array.replicate_zero, List.push_toArray, List.append_toArray, List.nil_append, List.cons_append]
  gi_wp2_with (refine ⟨trivial, ?_⟩; first
    | (gi_at_call 37; refine (callsIn_wide.2 (hpager_calls _ h p t m q mv last n L (hid (hh.out.up (upAlD (upAlD (Up.refl w) _) _))))).mono ?_; rintro e w' ⟨rfl, hw⟩; obtain rfl := hw.symm)
    | (gi_at_call 104; refine (callsIn_wide.2 (right_calls _ k)).mono ?_; rintro e w' ⟨rfl, hw⟩; obtain rfl := hw.symm; rw [HR.out])
    | (gi_at_call 36; refine (callsIn_wide.2 (count_calls _ k (hid (by have := hk.out; omega)))).mono ?_; rintro e w' ⟨rfl, hw⟩; obtain rfl := hw.symm; rw [HC.out])
    | (gi_at_call 153; refine (callsIn_wide.2 (chain_calls _ h page M)).mono ?_; rintro e w' ⟨rfl, hw⟩))
  subst hw
  obtain ⟨UL, sL, b1, b2, b3, b4, b5, b6⟩ := al6 w (.cells #[.slice none 0 0] 163) (.cells #[.int .i64 0] 31) (.cells #[.slice none 0 0] 163) (.cells #[.pointer (some ⟨h, 0, none⟩)] 26) (.cells #[.int .i64 page] 3) (.cells #[.int .i64 M] 3)
  generalize (((((w.alloc (.cells #[.slice none 0 0] 163)).alloc (.cells #[.int .i64 0] 31)).alloc (.cells #[.slice none 0 0] 163)).alloc (.cells #[.pointer (some ⟨h, 0, none⟩)] 26)).alloc (.cells #[.int .i64 page] 3)).alloc (.cells #[.int .i64 M] 3) = wL at *
  obtain ⟨z0, hz0⟩ : ∃ z0, w.heap.size = z0 := ⟨_, rfl⟩
  have HZ0 := hid hz0
  obtain ⟨E, hE⟩ : ∃ E, chainE n B M page = E := ⟨_, rfl⟩
  have HEV := hid hE
  have I0 : AllI w wL.heap.size [] wL := ⟨UL, Nat.le_refl _, b1, b2, ⟨_, b6⟩, ⟨none, 0, b3, own_nil _ _ _ _⟩, fun x hx => by cases hx⟩
  rw [hz0] at b1 b2 b3 b4 b5 b6 sL ⊢
  have hwz : w.heap.size ≤ wL.heap.size := by omega
  have SL := hid sL
  have HALLV : Hid (allV n B page k = if E.any (fun x => decide (x.2.2 ≠ 0)) = true then none else if E.length = C then some E else none) := hid (by
    unfold allV
    rw [HC.out, HM.out]
    simp only [hE])
  clear hE
  refine range_z rfl (by decide) (gf := 184) (lb := #[.pointer (some ⟨z0 + 1 + 1 + 1 + 1, 0, none⟩), .pointer (some ⟨z0 + 1 + 1 + 1 + 1 + 1, 0, none⟩), .pointer (some ⟨z0 + 1 + 1 + 1, 0, none⟩)]) rfl trivial chain1_ent
    (encs := fun x : Lk => #[x.v]) (fun x => rfl) (z := z0 + 1 + 1 + 1 + 1 + 1) (by omega) (S := fun xs => xs.map Lk.key = E) (G := ChG w h (z0 + 1 + 1 + 1) (z0 + 1 + 1 + 1 + 1 + 1) M E)
    ?seq (AllI w wL.heap.size) (AllX w n B page k) ?hG ?hI ?hIx ?hIz I0
    (AllAx w h (z0 + 1 + 1 + 1) (z0 + 1 + 1 + 1 + 1 + 1) M wL.heap.size E (fun bx x => #[Value.pointer (some { block := h, off := 0 }), Value.int IntKind.i64 page, Value.int IntKind.i64 k, undef,
          undef, undef, Value.pointer (some { block := z0, off := 0 }),
          Value.pointer (some { block := z0 + 1, off := 0 }), Value.pointer (some { block := z0 + 1 + 1, off := 0 }),
          Value.pointer (some { block := bx, off := 0 }), Value.bool false,
          Value.pointer (some { block := h, off := 0 }), Value.pointer (some { block := p, off := 0 }),
          Value.bool false, Value.bool false, Value.int IntKind.i64 k, Value.bool true, Value.bool false,
          Value.pointer (some { block := h, off := 0 }), Value.int IntKind.i64 page, Value.int IntKind.i64 k,
          Value.int IntKind.i64 C, Value.int IntKind.i64 M,
          Value.func (Fn.func 184) #[]
            #[Value.pointer (some { block := z0 + 1 + 1 + 1 + 1, off := 0 }),
              Value.pointer (some { block := z0 + 1 + 1 + 1 + 1 + 1, off := 0 }),
              Value.pointer (some { block := z0 + 1 + 1 + 1, off := 0 })],
          Value.agg #[Value.int IntKind.i64 x.page, Value.slice x.A x.len x.cap, Value.int IntKind.i64 x.e], undef,
          undef, undef, undef, undef, undef, undef, undef, undef, undef, undef, undef, undef, undef, undef]))
    ?hAx ?assign ?body ?done ?stop
  case seq =>
    intro l J Jx W hU hJu hJz hY hJ
    refine (chain1_in 19 l (by decide) w h p t m q mv last n L hh hn B hB (z0 + 1 + 1 + 1 + 1) (z0 + 1 + 1 + 1 + 1 + 1) (z0 + 1 + 1 + 1) M (hid ⟨by rw [HZ0.out]; omega, by omega⟩) (hid (by have := HCB.out; have := HM.out; omega)) page E J Jx hJu hJz hY W ?_ ?_ hJ)
    · refine ⟨UL.t hU, (hU.block _ (by omega)).trans b4, (hU.block _ (by omega)).trans b6, Nat.zero_le _, ?_⟩
      rw [List.map_nil, List.nil_append]; exact HEV.out.symm
    · exact bx_cell ((hU.block _ (by omega)).trans b5)
  case hG => exact fun pre x s W W' row hs hg hr => hs.odd (Odd.of (W' := W') hr) (Fr.of_grown hg) hwz
  case hI => exact fun s W W' row hs hg hr => hs.odd (Odd.of (W' := W') hr) (Fr.of_grown hg) hwz
  case hIx => exact fun s W W' row hs hg hr => hs.odd (Odd.of (W' := W') hr) (Fr.of_grown hg) hwz
  case hIz =>
    intro pre W v hI
    have := hI.setz (by rw [HZ0.out]; exact sL) v
    rw [HZ0.out] at this
    exact this
  case hAx =>
    intro pre x a' s W W' row hs hg hr
    obtain ⟨bx, h1, h2, h3, h4⟩ := hs
    have ho := Odd.of (W' := W') hr
    exact ⟨bx, h1, h2, ho.keep (Fr.of_grown hg) h3, h4.odd ho (Fr.of_grown hg) hwz⟩
  case assign =>
    intro l pre x W K hI hG hK
    unfold Lk.v
    gi_wp2
    have ua : Up W (W.alloc (.cells #[.int .i64 x.page, .slice x.A x.len x.cap, .int .i64 x.e] 167)) := upAlD (Up.refl W) _
    have ho : Odd wL.heap.size W No := fun k hk => hk.elim
    exact hK _ _ ⟨ua.size, fun k o _ hk _ => (ua.block k (Array.getElem?_eq_some_iff.1 hk).1).trans hk⟩ (hI.odd ho (Fr.of_below ua) hwz) ⟨W.heap.size, hI.big, rfl, heap_alloc_new _ _, hG.odd ho (Fr.of_below ua) hwz⟩
  case body =>
    intro l pre x a' W hI hA
    obtain ⟨bx, hbx, rfl, hcell, hG⟩ := hA
    obtain ⟨pg, Ad, len, cap, e, bs⟩ := x
    unfold Lk.cs at hcell
    simp only at hcell
    have c0 : W.cell? ⟨bx, 0, none⟩ = some (.int .i64 pg) := by rw [cell_of_row _ _ _ _ _ _ hcell]; rfl
    have c1 : W.cell? ⟨bx, 1, none⟩ = some (.slice Ad len cap) := by rw [cell_of_row _ _ _ _ _ _ hcell]; rfl
    have c2 : W.cell? ⟨bx, 2, none⟩ = some (.int .i64 e) := by rw [cell_of_row _ _ _ _ _ _ hcell]; rfl
    have HG := hid hG
    have HI := hid hI
    have HBX := hid hbx
    rcases hG.2.2.2.2.2 with ⟨he, _⟩ | ⟨he, he5, _⟩
    · simp only at he
      subst he
      have r0 := bx_cell hI.rb
      have r1 := bx_cell hI.eb
      rw [HZ0.out] at r0 r1
      have fr0 : W.frozen? ⟨z0, 0, none⟩ = false := by have := hI.rb; rw [HZ0.out] at this; unfold World.frozen?; rw [show (⟨z0, 0, none⟩ : Addr).block = z0 from rfl, this]; simp
      have fr1 : W.frozen? ⟨z0 + 1, 0, none⟩ = false := by have := hI.eb; rw [HZ0.out] at this; unfold World.frozen?; rw [show (⟨z0 + 1, 0, none⟩ : Addr).block = z0 + 1 from rfl, this]; simp
      clear hI hG hcell hbx c0 c1
      have NV : Hid (allV n B page k = none) := hid (by
        rw [HALLV.out, if_pos]
        obtain ⟨rest, e⟩ := HG.out.2.2.2.2.1
        rw [e, List.any_append, List.any_cons]
        show (_ || (decide ((9 : Int) ≠ 0) || _)) = true
        simp)
      have FL := (HI.out.fail (p2 := pre ++ [⟨pg, Ad, len, cap, 9, bs⟩]) (by rw [HZ0.out]; exact SL.out) NV.out)
      rw [HZ0.out] at FL
      have FL := hid FL
      have hmo : Tryz.prog.follows .mixedOrders = true := by kernel_rfl
      clear sL
      gi_wp2
      gi_region_with_o (fail)
      all_goals
        gi_wp2
        exact FL.out
    · simp only at he he5
      subst he
      subst he5
      obtain ⟨A9, c9, hlb, ho9⟩ := hI.row
      rw [HZ0.out] at hlb
      have r0 := bx_cell hlb
      have fr0 : W.frozen? ⟨z0 + 1 + 1, 0, none⟩ = false := by unfold World.frozen?; rw [show (⟨z0 + 1 + 1, 0, none⟩ : Addr).block = z0 + 1 + 1 from rfl, hlb]; simp
      obtain ⟨j, hj⟩ : ∃ j, pre.length = j := ⟨_, rfl⟩
      have HJ := hid hj
      have JB : Hid (j ≤ 100) := hid (by have := hG.2.2.2.1; have := HCB.out; have := HM.out; omega)
      rw [hj] at r0 ho9
      have HO9 := hid ho9
      have HLB := hid hlb
      clear sL
      clear hI hG hcell hbx ho9 hlb hj
      repeat (first | (refine stop_region 10 ?_) | gi_step)
      refine ⟨?_⟩
      refine region_round (id := 10) ?_ ?_ ?_
      · exact fun ⟨_, _, h⟩ => h
      · rfl
      go_wp2_with (at_builtin; refine hold ?_)
      refine hid (wl_append elemL rfl (.tmp 30) (.tmp 32) rfl rfl (World.ownsRow.alloc HO9.out _) rfl (Rd.new W 167 (0, 0) [.int .i64 pg, .slice Ad 512 cap, .int .i64 0]) rfl (by simp [Value.oneCell']) (by have := JB.out; simp only [maxLen]; omega) (by have := JB.out; omega) (by have := HI.out.big; simp; omega) ?_)
      intro A6 c6 w6 o6 g6 d6
      have ST := HI.out.step (by rw [HZ0.out]; exact SL.out) (by rw [HZ0.out]; exact HLB.out) (by rw [HJ.out]; exact HO9.out) rfl (by rw [HZ0.out]; exact HG.out) (by rw [HJ.out]; exact g6) (by rw [HJ.out]; exact o6)
      rw [HZ0.out, HJ.out] at ST
      obtain ⟨q1, q2⟩ := ST
      have Q2 := hid q2
      have r6 := bx_cell q1
      have fr6 : w6.frozen? ⟨z0 + 1 + 1, 0, none⟩ = false := by unfold World.frozen?; rw [show (⟨z0 + 1 + 1, 0, none⟩ : Addr).block = z0 + 1 + 1 from rfl, q1]; simp
      clear o6 g6 d6 q1 q2
      go_wp2
      exact Q2.out
  have FR : Hid (∀ (W : World) (k z : Nat) {v : Value} {t : TypeId}, W.heap[k]? = some (.cells #[v] t (0, 0)) → k = z → W.frozen? ⟨z, 0, none⟩ = false) := hid (fun W k z v t h1 h2 => by subst h2; unfold World.frozen?; rw [show (⟨k, 0, none⟩ : Addr).block = k from rfl, h1]; simp)
  case done =>
    intro D xs W hD hS hI hK
    obtain ⟨A9, c9, hlb, ho9⟩ := hI.row
    have r0 := bx_cell hlb
    have rb := bx_cell hI.rb
    have eb := bx_cell hI.eb
    rw [HZ0.out] at r0 rb eb
    have HI := hid hI
    have HS := hid hS
    have HK := hid hK
    obtain ⟨j, hj⟩ : ∃ j, xs.length = j := ⟨_, rfl⟩
    have HJ := hid hj
    rw [hj] at r0 ho9
    have HO9 := hid ho9
    clear sL hI hS hK hlb ho9 hj
    have fr0 : W.frozen? ⟨z0, 0, none⟩ = false := FR.out _ _ _ HI.out.rb HZ0.out
    have fr1 : W.frozen? ⟨z0 + 1, 0, none⟩ = false := FR.out _ _ _ HI.out.eb (by rw [HZ0.out])
    by_cases hjC : (j : Int) = (C : Int)
    · repeat (first | (refine stop_region 11 ?_) | gi_step)
      refine ⟨wpIn_wide.2 ?_⟩
      go_quiet ((go_at_call 36; exact Calls.quiet_of_same (CC _)))
      gi_wp2
      have FI := HI.out.finish (nq := nq) (by rw [HZ0.out]; exact SL.out) hD HK.out (.slice A9 j c9) 0
      rw [HZ0.out] at FI
      obtain ⟨g1, g2, g3, g4, g5, g6⟩ := FI
      refine ⟨by simp, .inl ⟨_, _, rfl, run_takeDeferred g1, ?_⟩⟩
      refine ⟨.tuple #[.slice A9 j c9, .int .i64 0], by simp [results, Tryz.results107, go_sem, g2, g3], g4, .inr ⟨A9, c9, xs, ?_, ?_, ?_, ?_⟩⟩
      · rw [HALLV.out, if_neg, if_pos]
        · rw [HS.out]
        · rw [← HS.out, List.length_map, HJ.out]; omega
        · rw [← HS.out, List.any_map]
          intro e
          obtain ⟨x, hx, hx2⟩ := List.any_eq_true.1 e
          have := (HI.out.all x hx).1
          exact absurd (of_decide_eq_true hx2) (fun h => h this)
      · rw [HJ.out]
      · have := g5 A9 j c9 (xs.flatMap Lk.cs) HO9.out
        rw [HJ.out, HZ0.out]
        exact this
      · rw [HZ0.out]; exact g6
    · repeat (first | (refine stop_region 11 ?_) | gi_step)
      refine ⟨wpIn_wide.2 ?_⟩
      go_quiet ((go_at_call 36; exact Calls.quiet_of_same (CC _)))
      gi_wp2
      have FI := HI.out.finish (nq := nq) (by rw [HZ0.out]; exact SL.out) hD HK.out (.slice none 0 0) 9
      rw [HZ0.out] at FI
      obtain ⟨g1, g2, g3, g4, g5, g6⟩ := FI
      refine ⟨by simp, .inl ⟨_, _, rfl, run_takeDeferred g1, ?_⟩⟩
      refine ⟨.tuple #[.slice none 0 0, .int .i64 9], by simp [results, Tryz.results107, go_sem, g2, g3], g4, .inl ⟨?_, rfl⟩⟩
      rw [HALLV.out, if_neg, if_neg]
      · rw [← HS.out, List.length_map, HJ.out]; omega
      · rw [← HS.out, List.any_map]
        intro e
        obtain ⟨x, hx, hx2⟩ := List.any_eq_true.1 e
        have := (HI.out.all x hx).1
        exact absurd (of_decide_eq_true hx2) (fun h => h this)
  case stop =>
    rintro D pre W hD ⟨x1, x2, x3, x4⟩ hK
    gi_wp2
    refine ⟨by simp, .inl ⟨_, _, rfl, run_takeDeferred hK, ?_⟩⟩
    have f2 : Fr (fun k => k = D) W (W.putObj D (.deferred none)) := (Fr.of_grown (grownBy_putObj' W D (.deferred none))).mono (fun k e => Option.some.inj e)
    rw [HZ0.out] at x2 x3
    have c2 := bx_cell ((f2.block z0 (Array.getElem?_eq_some_iff.1 x2).1 (by have := SL.out; omega)).trans x2)
    have c3 := bx_cell ((f2.block (z0 + 1) (Array.getElem?_eq_some_iff.1 x3).1 (by have := SL.out; omega)).trans x3)
    exact ⟨.tuple #[.slice none 0 0, .int .i64 9], by simp [results, Tryz.results107, go_sem, c2, c3], x1.trans (f2.below x1.size (fun k hk e => by have := SL.out; have := HZ0.out; omega)), .inl ⟨x4, rfl⟩⟩
theorem all_calls (w : World) (h p t m : Nat) (q : PgN) (mv : Value) (last : Int) (n : Nat) (L : PgL) (hh : Hid (HeapP w h p q t m mv last n L)) (hn : Hid (1 ≤ n ∧ n ≤ 4000)) (B : Nat → List UInt8) (hB : Hid (PgB L n B)) (page : Int) (k : Nat) (hk : Hid (1 ≤ k ∧ k ≤ 20000)) :
    Calls Tryz.prog 107 #[.pointer (some ⟨h, 0, none⟩), .int .i64 page, .int .i64 k] w (AllSp w n B page k) := (callsIn_wide (n := 20)).1 (all_in w h p t m q mv last n L hh hn B hB page k hk)
set_option maxRecDepth 100000 in
set_option maxHeartbeats 1000000 in
/-- A length that may not be. -/
theorem allNo_calls (w : World) (h p t m : Nat) (q : PgN) (mv : Value) (last : Int) (n : Nat) (L : PgL) (hh : Hid (HeapP w h p q t m mv last n L)) (page k : Int) (hk : Hid (k < 1 ∨ 20000 < k)) :
    Calls Tryz.prog 107 #[.pointer (some ⟨h, 0, none⟩), .int .i64 page, .int .i64 k] w fun en w' => en = .returned (.tuple #[.slice none 0 0, .int .i64 2]) ∧ Up w w' := by
  have HR : Hid (decide (1 ≤ k ∧ k ≤ 20000) = false) := hid (decide_eq_false (by have := hk.out; omega))
  have u : Up w ((w.alloc (.cells #[.slice none 0 0] 163)).alloc (.cells #[.int .i64 0] 31)) := upAlD (upAlD (Up.refl w) _) _
  go_enter Tryz.func107, Tryz.ntmps107
  go_wp2_with (first
    | (go_at_call 37; refine (hpager_calls _ h p t m q mv last n L (hid (hh.out.up (upAlD (upAlD (Up.refl w) _) _)))).mono ?_; rintro e w' ⟨rfl, hw⟩; obtain rfl := hw.symm)
    | (go_at_call 104; refine (right_calls _ k).mono ?_; rintro e w' ⟨rfl, hw⟩; obtain rfl := hw.symm; rw [HR.out]))
  go_returns
  exact ⟨rfl, upAlD (upAlD (Up.refl w) _) _⟩
end Go.Proofs.YtbcghggkfnagoaaGreatDoor
