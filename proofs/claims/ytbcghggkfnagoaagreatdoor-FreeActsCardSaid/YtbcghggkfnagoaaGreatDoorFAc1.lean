/- THE HEAP AND THE DOCUMENT's HEAP side by side: what a step of one leaves of the other. THE WALK of hachurelaw08.act: Take. -/
import Derived.Test.YtbcghggkfnagoaaGreatDoorDoc5
import Derived.Test.YtbcghggkfnagoaaGreatDoorFreJ
set_option linter.unusedVariables false
set_option linter.unusedSimpArgs false
namespace Go.Proofs.YtbcghggkfnagoaaGreatDoor
open Go Go.RowKit Go.Maps Hach

/-- Below base nothing turns; blocks of numbers, and of acts, stay. -/
structure Qt (base : Nat) (w w' : World) : Prop where
  low : Below base w w'
  keep : ∀ (k : Nat) (cs : Array Value) (ty : TypeId) (fr : Nat × Nat), (ty = 3 ∨ ty = 101) → w.heap[k]? = some (.cells cs ty fr) → w'.heap[k]? = some (.cells cs ty fr)
section
variable {w w' w2 : World} {base m n n' : Nat} {X : HpX} {T T2 : List Trk} {W : Nat → Int} {U : Nat → List UInt8} {ws : List Value}
theorem Qt.refl (base : Nat) (w : World) : Qt base w w := ⟨Below.refl _ _, fun _ _ _ _ _ h => h⟩
theorem Qt.trans (h : Qt base w w') (k : Qt base w' w2) : Qt base w w2 := ⟨h.low.trans k.low, fun k0 cs ty fr ht hb => k.keep _ _ _ _ ht (h.keep _ _ _ _ ht hb)⟩
theorem Qt.up (hu : Up w w') (hb : base ≤ w.heap.size) : Qt base w w' := ⟨Below.mono hu hb, fun k cs ty fr _ hk => (hu.block k (blk_lt hk)).trans hk⟩
theorem HeapW.types (h : HeapW w X n T W U) : (∃ cs fr, w.heap[X.t]? = some (.cells cs 131 fr)) ∧ ∃ es cl, w.heap[X.m]? = some (.map es cl) := by
  obtain ⟨L, hp, _⟩ := h
  exact ⟨⟨_, _, hp.tran.tran⟩, hp.tran.map.isMap⟩
theorem HeapW.tyS (h : HeapW w X n T W U) : ∀ (k : Nat) (cs : Array Value) (ty : TypeId) (fr : Nat × Nat), HpS X k → w.heap[k]? = some (.cells cs ty fr) → ty = 131 := by
  obtain ⟨⟨cs', fr', ht⟩, es, cl, hm⟩ := h.types
  rintro k cs ty fr (rfl | rfl) hk
  · rw [ht] at hk; injection hk with hk; injection hk with _ hk _; exact hk.symm
  · rw [hm] at hk; cases hk
theorem Qt.heap (h : HeapW w X n T W U) (hf : Fr (HpS X) w w') (hl : base ≤ X.t ∧ base ≤ X.m ∧ base ≤ w.heap.size) : Qt base w w' :=
  ⟨hf.below hl.2.2 (fun k hk e => by rcases e with e | e <;> omega), fun k cs ty fr ht hk => (hf.block k (blk_lt hk) (fun e => by
    have := h.tyS k cs ty fr e hk
    rcases ht with rfl | rfl <;> exact absurd this (by decide))).trans hk⟩
theorem DocW.tyB (h : DocW w base m n T ws) : ∀ (k : Nat) (cs : Array Value) (ty : TypeId) (fr : Nat × Nat), DocB w base m k → w.heap[k]? = some (.cells cs ty fr) → ty = 99 ∨ ty = 186 := by
  obtain ⟨D, A, c, hd, _⟩ := h
  rintro k cs ty fr ⟨_, rfl | ⟨cs', hb⟩⟩ e
  · rw [hd.own] at e; injection e with e; injection e with _ e _; exact .inl e.symm
  · rw [hb] at e; injection e with e; injection e with _ e _; exact .inr e.symm
theorem DocW.cells (h : DocW w base m n T ws) : ∀ k, DocB w base m k → ∃ cs ty fr, w.heap[k]? = some (.cells cs ty fr) := by
  obtain ⟨D, A, c, hd, _⟩ := h
  rintro k ⟨_, rfl | ⟨cs', hb⟩⟩
  · exact ⟨_, _, _, hd.own⟩
  · exact ⟨_, _, _, hb⟩
theorem Qt.doc (h : DocW w base m n T ws) (hf : Fr (DocB w base m) w w') (hl : base ≤ w.heap.size) : Qt base w w' :=
  ⟨hf.below hl (fun k hk e => by have := e.1; omega), fun k cs ty fr ht hk => (hf.block k (blk_lt hk) (fun e => by
    have := h.tyB k cs ty fr e hk
    rcases ht with rfl | rfl <;> rcases this with this | this <;> exact absurd this (by decide))).trans hk⟩
theorem DocW.up (h : DocW w base m n T ws) (hu : Up w w') : DocW w' base m n T ws := by
  obtain ⟨D, A, c, hd, e⟩ := h
  exact ⟨D, A, c, hd.up hu, e⟩
theorem DocW.heap (h : DocW w base m n' T2 ws) (hh : HeapW w X n T W U) (hf : Fr (HpS X) w w') : DocW w' base m n' T2 ws := by
  obtain ⟨D, A, c, hd, e⟩ := h
  refine ⟨D, A, c, hd.fr hf fun k cs ty fr hs hk => ?_, e⟩
  have := hh.tyS k cs ty fr hs hk
  subst this
  exact ⟨by decide, by decide, by decide⟩
theorem HeapW.doc (h : HeapW w X n T W U) (hd : DocW w base m n' T2 ws) (hf : Fr (DocB w base m) w w') : HeapW w' X n T W U := by
  obtain ⟨L, hp, hs⟩ := h
  refine ⟨L, ?_, hs⟩
  have h1 := hp.own
  have h2 := hp.tran.tran
  have h3 : w.heap[X.p]? = some (.cells (pagerCs X.q (.pointer (some ⟨X.t, 0, none⟩)) false) 80 (0, 0)) := hp.tran.own
  obtain ⟨es, cl, hm⟩ := hp.tran.map.isMap
  have key : ∀ {k : Nat} {cs : Array Value} {t : TypeId} {fr : Nat × Nat}, w.heap[k]? = some (.cells cs t fr) → t ≠ 99 → t ≠ 186 → ¬ DocB w base m k := fun hk a b e => by
    rcases hd.tyB _ _ _ _ e hk with e | e
    · exact a e
    · exact b e
  have e1 := key h1 (by decide) (by decide)
  have e2 := key h2 (by decide) (by decide)
  have e3 := key h3 (by decide) (by decide)
  have e4 : ¬ DocB w base m X.m := fun e => by
    obtain ⟨cs, ty, fr, hc⟩ := hd.cells _ e
    rw [hm] at hc; cases hc
  refine ⟨(hf.block X.h (blk_lt h1) e1).trans h1, hp.tran.own.fr hf e3, (hf.block X.t (blk_lt h2) e2).trans h2, hp.tran.map.kept hf e4, fun y hy => ?_⟩
  have hr := hp.tran.rows y hy
  obtain ⟨cs, fr, hb⟩ := hr.row.1
  exact hr.fr hf (key hb (by decide) (by decide))
theorem IntRow.qt {A : Option Addr} {l : List Nat} (h : IntRow w A l) (hq : Qt base w w') : IntRow w' A l := by
  refine ⟨fun j u hj => ?_, fun b off e => ?_⟩
  · obtain ⟨b, off, e, hc⟩ := h.1 j u hj
    obtain ⟨cs, fr, hb⟩ := h.2 b off e
    have hb' := hq.keep b cs _ fr (.inl rfl) hb
    exact ⟨b, off, e, by rw [cell_of_row _ _ _ _ _ _ hb']; rw [cell_of_row _ _ _ _ _ _ hb] at hc; exact hc⟩
  · obtain ⟨cs, fr, hb⟩ := h.2 b off e
    exact ⟨cs, fr, hq.keep b cs _ fr (.inl rfl) hb⟩
def BoxA (w : World) (bx : Nat) (a b c : Int) : Prop := w.heap[bx]? = some (.cells #[.int .i64 a, .int .i64 b, .int .i64 c] 101 (0, 0))
theorem BoxA.qt {bx : Nat} {a b c : Int} (h : BoxA w bx a b c) (hq : Qt base w w') : BoxA w' bx a b c := hq.keep bx _ _ _ (.inr rfl) h
theorem BoxA.cells {bx : Nat} {a b c : Int} (h : BoxA w bx a b c) : w.cell? ⟨bx, 0, none⟩ = some (.int .i64 a) ∧ w.cell? ⟨bx, 1, none⟩ = some (.int .i64 b) ∧ w.cell? ⟨bx, 2, none⟩ = some (.int .i64 c) := by
  refine ⟨?_, ?_, ?_⟩ <;> (rw [cell_of_row _ _ _ _ _ _ h]; rfl)
end
/-- Both heaps as the document tells it, and the pages that are taken. -/
structure ActI (w : World) (X : HpX) (base m n : Nat) (T : List Trk) (W : Nat → Int) (l : List Nat) (A : Option Addr) (k c : Nat) : Prop where
  heap : ∃ U, HeapW w X n T W U
  doc : DocW w base m n T (wordsC W)
  row : IntRow w A l
  len : l.length = k
  cap : k ≤ c
  nd : l.Nodup
  inn : ∀ x ∈ l, 2 ≤ x ∧ x ≤ n ∧ x ∉ allT T
  small : Small T
  low : base ≤ X.t ∧ base ≤ X.m ∧ base ≤ w.heap.size
section
variable {w w' : World} {X : HpX} {base m n : Nat} {T : List Trk} {W : Nat → Int} {l : List Nat} {A : Option Addr} {k c : Nat}
theorem ActI.tn (h : ActI w X base m n T W l A k c) : (allT T).Nodup ∧ (∀ x ∈ allT T, 2 ≤ x ∧ x ≤ n) ∧ 1 ≤ n := by
  obtain ⟨U, L, hp, hs⟩ := h.heap
  exact ⟨hs.nodup, hs.inn, hs.one⟩
theorem ActI.sizes (h : ActI w X base m n T W l A k c) : (allT T).length ≤ n ∧ k ≤ n := by
  have ht := h.tn
  refine ⟨allT_len ht.1 ht.2.1, ?_⟩
  have h1 := nodup_len n (l.map fun x => x - 1) (by
    rw [List.Nodup, List.pairwise_map]
    refine List.Pairwise.imp_of_mem ?_ h.nd
    intro a b ha hb hne e
    have := h.inn a ha; have := h.inn b hb
    exact hne (by omega)) (fun x hx => by
    obtain ⟨y, hy, rfl⟩ := List.mem_map.1 hx
    have := h.inn y hy; omega)
  rw [List.length_map, h.len] at h1
  exact h1
theorem ActI.up (h : ActI w X base m n T W l A k c) (hu : Up w w') : ActI w' X base m n T W l A k c := by
  obtain ⟨U, hU⟩ := h.heap
  exact ⟨⟨U, hU.up hu⟩, h.doc.up hu, h.row.up hu, h.len, h.cap, h.nd, h.inn, h.small, ⟨h.low.1, h.low.2.1, Nat.le_trans h.low.2.2 hu.size⟩⟩
end
/-- What an act hands back, and does. -/
def ActRet (w : World) (X : HpX) (base m n : Nat) (en : Ending) (w' : World) : Prop :=
  ∃ n' T' W' l' A' k' c', en = .returned (.tuple #[.slice A' k' c', .bool true]) ∧ Hid (ActI w' X base m n' T' W' l' A' k' c' ∧ Qt base w w' ∧ n' ≤ n + 1)
end Go.Proofs.YtbcghggkfnagoaaGreatDoor

namespace Go.Proofs.YtbcghggkfnagoaaGreatDoor
open Go Go.RowKit Go.Maps Hach

theorem takeV_facts (T : List Trk) (n : Nat) (hd : (allT T).Nodup) (hi : ∀ x ∈ allT T, 2 ≤ x ∧ x ≤ n) (h1 : 1 ≤ n) : (takeV T n).2.1 ≤ n + 1 ∧ n ≤ (takeV T n).2.1 ∧ 2 ≤ (takeV T n).1 ∧ (takeV T n).1 ≤ (takeV T n).2.1 ∧ (takeV T n).1 ∉ allT (takeV T n).2.2 ∧ (∀ x, x ∈ allT (takeV T n).2.2 → x ∈ allT T) ∧ ((takeV T n).1 ∈ allT T ∨ n < (takeV T n).1) := by
  match T, hd, hi with
  | [], _, _ => exact ⟨Nat.le_refl _, Nat.le_succ n, by show 2 ≤ n + 1; omega, Nat.le_refl _, by show n + 1 ∉ allT []; simp [allT], fun x hx => hx, .inr (Nat.lt_succ_self n)⟩
  | (f, ls) :: r, hd, hi =>
    cases hg : ls.getLast? with
    | none =>
      obtain rfl := List.getLast?_eq_none_iff.1 hg
      rw [show takeV ((f, []) :: r) n = (f, n, r) from rfl]
      rw [allT_cons] at hd hi ⊢
      have hf := hi f List.mem_cons_self
      have hd' := (List.nodup_cons.1 hd).1
      exact ⟨by show n ≤ n + 1; omega, Nat.le_refl _, hf.1, hf.2, hd', fun x hx => List.mem_cons_of_mem _ hx, .inl List.mem_cons_self⟩
    | some x =>
      have e := getLast_split hg
      rw [show takeV ((f, ls) :: r) n = (x, n, (f, ls.dropLast) :: r) by unfold takeV; simp only [hg]]
      obtain ⟨l0, hl0⟩ : ∃ l0, ls.dropLast = l0 := ⟨_, rfl⟩
      rw [hl0] at e ⊢
      subst e
      rw [allT_cons] at hd hi ⊢
      rw [allT_cons]
      simp only [List.append_assoc, List.singleton_append] at hd hi ⊢
      have hx := hi x (by simp)
      refine ⟨by omega, Nat.le_refl _, hx.1, hx.2, ?_, fun y hy => ?_, .inl (by simp)⟩
      · have hp : (f :: (l0 ++ x :: allT r)).Perm (x :: (f :: (l0 ++ allT r))) := (List.Perm.cons _ List.perm_middle).trans (List.Perm.swap _ _ _)
        exact (List.nodup_cons.1 (hp.nodup_iff.1 hd)).1
      · simp only [List.mem_cons, List.mem_append] at hy ⊢
        rcases hy with hy | hy | hy
        · exact .inl hy
        · exact .inr (.inl hy)
        · exact .inr (.inr (.inr hy))
set_option maxRecDepth 100000 in
set_option maxHeartbeats 4000000 in
theorem act0_calls (w : World) (X : HpX) (base m n : Nat) (T : List Trk) (W : Nat → Int) (l : List Nat) (A : Option Addr) (k c : Nat) (b d : Int) (h : Hid (ActI w X base m n T W l A k c)) (hn : Hid (n < 3000)) :
    Calls Tryz.prog 55 #[.pointer (some ⟨X.h, 0, none⟩), .pointer (some ⟨m, 0, none⟩), .slice A k c, .agg #[.int .i64 0, .int .i64 b, .int .i64 d]] w (ActRet w X base m n) := by
  obtain ⟨w1, hw1⟩ : ∃ x, w.alloc (.cells #[.int .i64 0, .int .i64 b, .int .i64 d] 101) = x := ⟨_, rfl⟩
  obtain ⟨bx, hbx⟩ : ∃ b, w.heap.size = b := ⟨_, rfl⟩
  have u1 : Up w w1 := by rw [← hw1]; exact upAlD (Up.refl w) _
  have hb1 : BoxA w1 bx 0 b d := by rw [← hw1, ← hbx]; exact heap_alloc_new w _
  obtain ⟨c0, c1, c2⟩ := hb1.cells
  have U1 := hid u1
  have H1 := hid (h.out.up u1)
  have LW : Hid (base ≤ w.heap.size) := hid h.out.low.2.2
  obtain ⟨U, hU⟩ := H1.out.heap
  obtain ⟨f1, f2, f3, f4, f5, f6, f7⟩ := takeV_facts T n H1.out.tn.1 H1.out.tn.2.1 H1.out.tn.2.2
  have CT := takeH_calls w1 X n T W U (hid hU) (hid (by have := hn.out; omega))
  obtain ⟨x, hx⟩ : ∃ x, (takeV T n).1 = x := ⟨_, rfl⟩
  obtain ⟨n', hn'⟩ : ∃ x, (takeV T n).2.1 = x := ⟨_, rfl⟩
  obtain ⟨T', hT'⟩ : ∃ x, (takeV T n).2.2 = x := ⟨_, rfl⟩
  have CD : ∀ w', DocW w' base m n T (wordsC W) → Calls _ _ _ w' _ := fun w' hd => dtake_calls w' base m n T (wordsC W) (hid hd) (hid (by have := hn.out; omega)) (hid (by have := H1.out.sizes; have := hn.out; omega))
  unfold TakeH at CT
  have HT : Hid (Small T') := hid (by rw [← hT']; exact takeV_small H1.out.small n)
  rw [hx, hn', hT'] at CT CD
  rw [hx, hn'] at f4
  rw [hx, hT'] at f5
  rw [hx] at f3 f7
  rw [hn'] at f1 f2
  rw [hT'] at f6
  have FX := hid (And.intro f1 (And.intro f2 (And.intro f3 (And.intro f4 (And.intro f5 (And.intro f6 f7))))))
  have KB : Hid (k ≤ 3000) := hid (by have := H1.out.sizes; have := hn.out; omega)
  have HU := hid hU
  clear f1 f2 f3 f4 f5 f6 f7 hx hn' hT' u1 hb1 hU h
  go_enter Tryz.func55, Tryz.ntmps55
  go_wp2_with fail
  refine CT.mono ?_
  rintro en w2 ⟨rfl, hr⟩
  have Q2 : Hid (Qt base w1 w2) := hid (Qt.heap HU.out hr.out.2 H1.out.low)
  have D2 := hid (H1.out.doc.heap HU.out hr.out.2)
  have H2 := hid hr.out.1
  have R2 := hid (H1.out.row.qt Q2.out)
  have B2 : Hid (base ≤ w2.heap.size) := hid (Nat.le_trans H1.out.low.2.2 hr.out.2.size)
  have u3 := upAlD (Up.refl w2) (.cells #[] 3)
  have o3 := own_lit0 w2 w2.heap.size 3 1 (Nat.le_refl _)
  have R3 := hid (R2.out.1.grown u3)
  have U3 := hid u3
  clear hr CT u3 c0 c1 c2
  go_wp2_with (at_builtin; refine hold ?_)
  refine hid (wl_append elemIN rfl (.tmp 27) (.tmp 28) rfl rfl o3 rfl R3.out (by rw [List.length_map, H1.out.len, Nat.mul_one]) (natCell_one _) (by have := KB.out; simp only [maxLen]; omega) (by have := KB.out; omega) U3.out.size ?_)
  intro A4 c4 w4 o4 g4 d4
  rw [Nat.zero_add] at o4 ⊢
  have U4 : Hid (Up w2 w4) := hid (below_append U3.out (Nat.le_refl _) U3.out.size o3 g4)
  have o5 := World.ownsRow.alloc o4 (.cells #[.int .i64 x] 3)
  have U5 : Hid (Up w2 (w4.alloc (.cells #[.int .i64 x] 3))) := hid (U4.out.t (upAlD (Up.refl w4) _))
  clear o3 o4 g4 d4
  go_wp2_with (at_builtin; refine hold ?_)
  refine hid (wl_append elemIN rfl (.tmp 29) (.tmp 31) rfl rfl o5 rfl (Rd.new w4 3 (0, 0) [.int .i64 x]) rfl (by simp [Value.oneCell']) (by have := KB.out; simp only [maxLen]; omega) (by have := KB.out; omega) U5.out.size ?_)
  intro A6 c6 w6 o6 g6 d6
  have U6 : Hid (Up w2 w6) := hid (below_append U5.out (Nat.le_refl _) U5.out.size o5 g6)
  have O6 := hid o6
  clear o5 o6 g6 d6
  go_wp2_with fail
  refine (CD w6 (D2.out.up U6.out)).mono ?_
  rintro en w7 ⟨rfl, hr⟩
  have Q7 : Hid (Qt base w6 w7) := hid (Qt.doc (D2.out.up U6.out) hr.out.2 (Nat.le_trans B2.out U6.out.size))
  have RES : Hid (ActI w7 X base m n' T' W (l ++ [x]) A6 (k + 1) c6 ∧ Qt base w w7 ∧ n' ≤ n + 1) := hid (by
    obtain ⟨f1, f2, f3, f4, f5, f6, f7⟩ := FX.out
    refine ⟨⟨⟨_, (H2.out.up U6.out).doc (D2.out.up U6.out) hr.out.2⟩, hr.out.1, ?_, by rw [List.length_append, H1.out.len]; rfl, ?_, ?_, fun z hz => ?_, HT.out, ⟨H1.out.low.1, H1.out.low.2.1, Nat.le_trans (Nat.le_trans B2.out U6.out.size) hr.out.2.size⟩⟩, ?_, f1⟩
    · have h6 := O6.out
      have e : (l.map natCell ++ [natCell x]) = (l ++ [x]).map natCell := by rw [List.map_append]; rfl
      have h7 : w6.ownsRow w2.heap.size 3 1 (.slice A6 (k + 1) c6) (k + 1) ((l ++ [x]).map natCell) := by rw [← e]; exact h6
      exact (IntRow.own h7).qt Q7.out
    · obtain ⟨_, _, e, h9⟩ := own_form O6.out
      injection e with _ _ e; omega
    · rw [List.nodup_append]
      refine ⟨H1.out.nd, by simp, fun p hp q hq e => ?_⟩
      rw [List.mem_singleton.1 hq] at e
      subst e
      have := H1.out.inn p hp
      rcases f7 with f7 | f7
      · exact this.2.2 f7
      · omega
    · rcases List.mem_append.1 hz with hz | hz
      · have := H1.out.inn z hz
        exact ⟨this.1, by omega, fun e => this.2.2 (f6 z e)⟩
      · rw [List.mem_singleton.1 hz]; exact ⟨f3, f4, f5⟩
    · exact (((Qt.up U1.out LW.out).trans Q2.out).trans (Qt.up U6.out B2.out)).trans Q7.out)
  clear hr
  go_wp2
  go_ret2
  exact ⟨n', T', W, l ++ [x], A6, k + 1, c6, rfl, RES⟩
end Go.Proofs.YtbcghggkfnagoaaGreatDoor
