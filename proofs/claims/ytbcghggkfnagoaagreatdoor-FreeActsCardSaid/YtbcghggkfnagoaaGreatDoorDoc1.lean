/- THE DOCUMENT's HEAP of layer 8, as the world has it; its Take. THE DOCUMENT's HEAP: Take. -/
import Derived.Test.YtbcghggkfnagoaaGreatDoorFreD
set_option linter.unusedVariables false
set_option linter.unusedSimpArgs false
namespace Go.Proofs.YtbcghggkfnagoaaGreatDoor
open Go Go.RowKit Go.Maps Hach

structure DT where
  page : Nat
  B : Option Addr
  k : Nat
  ls : List Nat
def dtC (d : DT) : List Value := [.int .i64 (d.page : Int), .slice d.B d.ls.length d.k]
theorem dtC_len (d : DT) : (dtC d).length = 2 := rfl
theorem dtC_one (d : DT) : ∀ u ∈ dtC d, u.oneCell' = true := by
  intro u hu
  simp only [dtC, List.mem_cons, List.not_mem_nil, or_false] at hu
  rcases hu with rfl | rfl <;> rfl
def dtT (d : DT) : Trk := (d.page, d.ls)
def wordsC (W : Nat → Int) : List Value := (List.range 60).map fun i => .int .i64 (W i)
def docCs (lv : Value) (n : Int) (ws : List Value) : Array Value := (lv :: .int .i64 n :: ws).toArray
structure DocAt (w : World) (base m : Nat) (n : Int) (D : List DT) (ws : List Value) (A : Option Addr) (c : Nat) : Prop where
  own : w.heap[m]? = some (.cells (docCs (.slice A D.length c) n ws) 99 (0, 0))
  low : base ≤ m
  row : Rd w A (D.flatMap dtC)
  rowB : ∀ b off, A = some ⟨b, off, none⟩ → base ≤ b ∧ ∃ cs, w.heap[b]? = some (.cells cs 186 (0, 0))
  cap : D.length ≤ c
  lvs : ∀ d ∈ D, Rd w d.B (d.ls.map natCell) ∧ d.ls.length ≤ d.k ∧ ∀ b off, d.B = some ⟨b, off, none⟩ → ∃ cs fr, w.heap[b]? = some (.cells cs 3 fr)
/-- The document's heap: trunks T, n pages, words. -/
def DocW (w : World) (base m n : Nat) (T : List Trk) (ws : List Value) : Prop := ∃ D A c, DocAt w base m n D ws A c ∧ T = D.map dtT
/-- The blocks that its steps may write. -/
def DocB (w : World) (base : Nat) (m : Nat) (k : Nat) : Prop := base ≤ k ∧ (k = m ∨ ∃ cs, w.heap[k]? = some (.cells cs 186 (0, 0)))
section
variable {w w' : World} {base m : Nat} {n : Int} {D : List DT} {ws : List Value} {A : Option Addr} {c : Nat}
theorem blk_lt {w : World} {k : Nat} {o : Obj} (h : w.heap[k]? = some o) : k < w.heap.size := (Array.getElem?_eq_some_iff.1 h).1
theorem rd_of_not {S : Nat → Prop} {A : Option Addr} {vs : List Value} (h : Rd w A vs) (hf : Fr S w w') (hS : ∀ b off, A = some ⟨b, off, none⟩ → ¬ S b) : Rd w' A vs := h.fr hf hS
theorem DocAt.fr (h : DocAt w base m n D ws A c) {S : Nat → Prop} (hf : Fr S w w') (hS : ∀ k cs ty fr, S k → w.heap[k]? = some (.cells cs ty fr) → ty ≠ 99 ∧ ty ≠ 186 ∧ ty ≠ 3) : DocAt w' base m n D ws A c := by
  have k0 : ∀ {k : Nat} {cs : Array Value} {ty : TypeId} {fr : Nat × Nat}, w.heap[k]? = some (.cells cs ty fr) → (ty = 99 ∨ ty = 186 ∨ ty = 3) → ¬ S k := fun hk ht hs => by
    obtain ⟨a, b, c⟩ := hS _ _ _ _ hs hk
    rcases ht with rfl | rfl | rfl
    · exact a rfl
    · exact b rfl
    · exact c rfl
  have bk : ∀ {k : Nat} {cs : Array Value} {ty : TypeId} {fr : Nat × Nat}, w.heap[k]? = some (.cells cs ty fr) → (ty = 99 ∨ ty = 186 ∨ ty = 3) → w'.heap[k]? = some (.cells cs ty fr) := fun hk ht => (hf.block _ (blk_lt hk) (k0 hk ht)).trans hk
  refine ⟨bk h.own (.inl rfl), h.low, h.row.fr hf fun b off e => ?_, fun b off e => ?_, h.cap, fun d hd => ?_⟩
  · obtain ⟨_, cs, hb⟩ := h.rowB b off e
    exact k0 hb (.inr (.inl rfl))
  · obtain ⟨h1, cs, hb⟩ := h.rowB b off e
    exact ⟨h1, cs, bk hb (.inr (.inl rfl))⟩
  · obtain ⟨h1, h2, h3⟩ := h.lvs d hd
    refine ⟨h1.fr hf fun b off e => ?_, h2, fun b off e => ?_⟩
    · obtain ⟨cs, fr, hb⟩ := h3 b off e
      exact k0 hb (.inr (.inr rfl))
    · obtain ⟨cs, fr, hb⟩ := h3 b off e
      exact ⟨cs, fr, bk hb (.inr (.inr rfl))⟩
theorem DocAt.up (h : DocAt w base m n D ws A c) (hu : Up w w') : DocAt w' base m n D ws A c := by
  have bk : ∀ {k o}, w.heap[k]? = some o → w'.heap[k]? = some o := fun hk => (hu.block _ (blk_lt hk)).trans hk
  refine ⟨bk h.own, h.low, h.row.grown hu, fun b off e => ?_, h.cap, fun d hd => ?_⟩
  · obtain ⟨h1, cs, hb⟩ := h.rowB b off e
    exact ⟨h1, cs, bk hb⟩
  · obtain ⟨h1, h2, h3⟩ := h.lvs d hd
    refine ⟨h1.grown hu, h2, fun b off e => ?_⟩
    obtain ⟨cs, fr, hb⟩ := h3 b off e
    exact ⟨cs, fr, bk hb⟩
theorem DocAt.c0 (h : DocAt w base m n D ws A c) : w.cell? ⟨m, 0, none⟩ = some (.slice A D.length c) := by rw [cell_of_row _ _ _ _ _ _ h.own]; rfl
theorem DocAt.c1 (h : DocAt w base m n D ws A c) : w.cell? ⟨m, 1, none⟩ = some (.int .i64 n) := by rw [cell_of_row _ _ _ _ _ _ h.own]; rfl
theorem DocAt.fz (h : DocAt w base m n D ws A c) (i : Nat) : w.frozen? ⟨m, i, none⟩ = false := by unfold World.frozen?; rw [show (⟨m, i, none⟩ : Addr).block = m from rfl, h.own]; simp
/-- The heap's own block is written. -/
theorem DocAt.setOwn (h : DocAt w base m n D ws A c) {i : Nat} {v : Value} {n' : Int} {D' : List DT} {ws' : List Value} {A' : Option Addr} {c' : Nat} (hc : (docCs (.slice A D.length c) n ws).setIfInBounds i v = docCs (.slice A' D'.length c') n' ws')
    (hrow : Rd w A' (D'.flatMap dtC)) (hB : ∀ b off, A' = some ⟨b, off, none⟩ → ∃ off', A = some ⟨b, off', none⟩) (hcap : D'.length ≤ c') (hl : ∀ d ∈ D', d ∈ D) : DocAt (w.setCell ⟨m, i, none⟩ v) base m n' D' ws' A' c' ∧ Fr (fun k => k = m) w (w.setCell ⟨m, i, none⟩ v) := by
  have hf : Fr (fun k => k = m) w (w.setCell ⟨m, i, none⟩ v) := (Fr.refl (fun k => k = m) w).setCell (p := ⟨m, i, none⟩) (fun _ => rfl) _
  have k1 := heap_setCell_same _ m i _ _ v h.own
  rw [hc] at k1
  have ne : ∀ {k cs ty fr}, w.heap[k]? = some (.cells cs ty fr) → ty ≠ 99 → k ≠ m := fun hk ht e => by
    rw [e, h.own] at hk; injection hk with hk; injection hk with _ hk _; exact ht hk.symm
  refine ⟨⟨k1, h.low, hrow.fr hf fun b off e => ?_, fun b off e => ?_, hcap, fun d hd => ?_⟩, hf⟩
  · obtain ⟨off', e'⟩ := hB b off e
    obtain ⟨_, cs, hb⟩ := h.rowB b off' e'
    exact ne hb (by decide)
  · obtain ⟨off', e'⟩ := hB b off e
    obtain ⟨h1, cs, hb⟩ := h.rowB b off' e'
    exact ⟨h1, cs, (hf.block b (blk_lt hb) (ne hb (by decide))).trans hb⟩
  · obtain ⟨h1, h2, h3⟩ := h.lvs d (hl d hd)
    refine ⟨h1.fr hf fun b off e => ?_, h2, fun b off e => ?_⟩
    · obtain ⟨cs, fr, hb⟩ := h3 b off e
      exact ne hb (by decide)
    · obtain ⟨cs, fr, hb⟩ := h3 b off e
      exact ⟨cs, fr, (hf.block b (blk_lt hb) (ne hb (by decide))).trans hb⟩
/-- The first trunk's leaves are other ones. -/
theorem DocAt.setHead {d : DT} {r : List DT} {b off : Nat} (h : DocAt w base m n (d :: r) ws (some ⟨b, off, none⟩) c) {B : Option Addr} {k : Nat} {ls : List Nat} (hB : Rd w B (ls.map natCell) ∧ ls.length ≤ k ∧ ∀ b off, B = some ⟨b, off, none⟩ → ∃ cs fr, w.heap[b]? = some (.cells cs 3 fr)) :
    DocAt (w.setCell ⟨b, off + 1, none⟩ (.slice B ls.length k)) base m n (⟨d.page, B, k, ls⟩ :: r) ws (some ⟨b, off, none⟩) c ∧ Fr (fun x => x = b) w (w.setCell ⟨b, off + 1, none⟩ (.slice B ls.length k)) := by
  have hf : Fr (fun x => x = b) w (w.setCell ⟨b, off + 1, none⟩ (.slice B ls.length k)) := (Fr.refl (fun x => x = b) w).setCell (p := ⟨b, off + 1, none⟩) (fun _ => rfl) _
  obtain ⟨hlow, cs, hb⟩ := h.rowB b off rfl
  have k1 := heap_setCell_same _ b (off + 1) _ _ (.slice B ls.length k) hb
  have ne : ∀ {k cs ty fr}, w.heap[k]? = some (.cells cs ty fr) → ty ≠ 186 → k ≠ b := fun hk ht e => by
    rw [e, hb] at hk; injection hk with hk; injection hk with _ hk _; exact ht hk.symm
  refine ⟨⟨(hf.block m (blk_lt h.own) (ne h.own (by decide))).trans h.own, h.low, ?_, fun b' off' e => ?_, h.cap, fun d' hd => ?_⟩, hf⟩
  · intro j u hj
    have hlt : off + 1 < cs.size := by
      obtain ⟨b', off', e, hc⟩ := h.row 1 (.slice d.B d.ls.length d.k) rfl
      injection e with e
      injection e with e1 e2 _
      subst e1; subst e2
      rw [cell_of_row _ _ _ _ _ _ hb] at hc
      exact (Array.getElem?_eq_some_iff.1 hc).1
    refine ⟨b, off, rfl, ?_⟩
    rw [cell_of_row _ _ _ _ _ _ k1]
    by_cases e1 : j = 1
    · subst e1
      have : u = .slice B ls.length k := by
        simp only [List.flatMap_cons, dtC, List.cons_append, List.getElem?_cons_succ, List.getElem?_cons_zero, Option.some.injEq] at hj
        exact hj.symm
      subst this
      simp [hlt]
    · have hj' : ((d :: r).flatMap dtC)[j]? = some u := by
        rw [List.flatMap_cons] at hj ⊢
        match j, hj, e1 with
        | 0, hj, _ => exact hj
        | 1, _, e1 => exact absurd rfl e1
        | j + 2, hj, _ => exact hj
      obtain ⟨b', off', e, hc⟩ := h.row j u hj'
      injection e with e
      injection e with e1' e2' _
      subst e1'; subst e2'
      rw [cell_of_row _ _ _ _ _ _ hb] at hc
      rw [Array.getElem?_setIfInBounds_ne (by omega)]
      exact hc
  · injection e with e
    injection e with e1 e2 _
    subst e1
    exact ⟨hlow, _, k1⟩
  · rcases List.mem_cons.1 hd with rfl | hd
    · refine ⟨hB.1.fr hf fun b' off' e => ?_, hB.2.1, fun b' off' e => ?_⟩
      · obtain ⟨cs, fr, hb'⟩ := hB.2.2 b' off' e
        exact ne hb' (by decide)
      · obtain ⟨cs, fr, hb'⟩ := hB.2.2 b' off' e
        exact ⟨cs, fr, (hf.block _ (blk_lt hb') (ne hb' (by decide))).trans hb'⟩
    · obtain ⟨h1, h2, h3⟩ := h.lvs d' (List.mem_cons_of_mem _ hd)
      refine ⟨h1.fr hf fun b' off' e => ?_, h2, fun b' off' e => ?_⟩
      · obtain ⟨cs, fr, hb'⟩ := h3 b' off' e
        exact ne hb' (by decide)
      · obtain ⟨cs, fr, hb'⟩ := h3 b' off' e
        exact ⟨cs, fr, (hf.block _ (blk_lt hb') (ne hb' (by decide))).trans hb'⟩
end
end Go.Proofs.YtbcghggkfnagoaaGreatDoor

namespace Go.Proofs.YtbcghggkfnagoaaGreatDoor
open Go Go.RowKit Go.Maps Hach

def DocStep (w : World) (base m n' : Nat) (T' : List Trk) (ws' : List Value) (v : Value) (en : Ending) (w' : World) : Prop := en = .returned v ∧ Hid (DocW w' base m n' T' ws' ∧ Fr (DocB w base m) w w')
theorem DocAt.frm {w w' : World} {base m : Nat} {n : Int} {D : List DT} {ws : List Value} {A : Option Addr} {c : Nat} (h : DocAt w base m n D ws A c) (hf : Fr (fun k => k = m) w w') : Fr (DocB w base m) w w' := hf.mono fun k e => ⟨by rw [e]; exact h.low, .inl e⟩
theorem DocAt.frb {w w' : World} {base m b off : Nat} {n : Int} {D : List DT} {ws : List Value} {c : Nat} (h : DocAt w base m n D ws (some ⟨b, off, none⟩) c) (hf : Fr (fun k => k = b) w w') : Fr (DocB w base m) w w' := hf.mono fun k e => by
  subst e
  obtain ⟨h1, cs, hb⟩ := h.rowB k off rfl
  exact ⟨h1, .inr ⟨cs, hb⟩⟩
theorem DocAt.head {w : World} {base m : Nat} {n : Int} {d : DT} {r : List DT} {ws : List Value} {A : Option Addr} {c : Nat} (h : DocAt w base m n (d :: r) ws A c) : ∃ b off, A = some ⟨b, off, none⟩ ∧ w.cell? ⟨b, off, none⟩ = some (.int .i64 (d.page : Int)) ∧ w.cell? ⟨b, off + 1, none⟩ = some (.slice d.B d.ls.length d.k) ∧ w.frozen? ⟨b, off + 1, none⟩ = false := by
  obtain ⟨b, off, e, hc⟩ := h.row 0 (.int .i64 (d.page : Int)) rfl
  obtain ⟨b', off', e', hc'⟩ := h.row 1 (.slice d.B d.ls.length d.k) rfl
  rw [e] at e'
  injection e' with e'
  injection e' with e1 e2 _
  subst e1; subst e2
  obtain ⟨_, cs, hb⟩ := h.rowB b off e
  exact ⟨b, off, e, hc, hc', by unfold World.frozen?; rw [show (⟨b, off + 1, none⟩ : Addr).block = b from rfl, hb]; simp⟩
set_option maxRecDepth 100000 in
set_option maxHeartbeats 2000000 in
theorem dtake0_calls (w : World) (base m n : Nat) (ws : List Value) (A : Option Addr) (c : Nat) (h : Hid (DocAt w base m n [] ws A c)) (hn : Hid (n < 1000000)) :
    Calls Tryz.prog 125 #[.pointer (some ⟨m, 0, none⟩)] w (DocStep w base m (n + 1) [] ws (.int .i64 (n + 1 : Nat))) := by
  have e0 := h.out.c0
  have e1 := h.out.c1
  have f1 := h.out.fz 1
  obtain ⟨n1, hn1⟩ : ∃ k, n + 1 = k := ⟨_, rfl⟩
  have hw1 : wrap64 ((n : Int) + 1) = (n1 : Int) := by have := hn.out; unfold wrap64; omega
  have S1 := hid (h.out.setOwn (i := 1) (v := .int .i64 n1) (n' := n1) (D' := []) (ws' := ws) (A' := A) (c' := c) rfl (Rd.nil _ _) (fun b off e => ⟨off, e⟩) (Nat.zero_le _) (fun d hd => by cases hd))
  rw [hn1]
  clear hn1
  have e1' := S1.out.1.c1
  simp only [List.length_nil] at e0
  go_enter Tryz.func125, Tryz.ntmps125
  go_wp2
  go_ret
  exact ⟨rfl, hid ⟨⟨[], A, c, S1.out.1, rfl⟩, h.out.frm S1.out.2⟩⟩
set_option maxRecDepth 100000 in
set_option maxHeartbeats 2000000 in
theorem dtake2_calls (w : World) (base m n : Nat) (d : DT) (r : List DT) (ws : List Value) (A : Option Addr) (c : Nat) (h : Hid (DocAt w base m n (d :: r) ws A c)) (hn : Hid (r.length < 1000000)) (hls : Hid (d.ls = [])) :
    Calls Tryz.prog 125 #[.pointer (some ⟨m, 0, none⟩)] w (DocStep w base m n (r.map dtT) ws (.int .i64 d.page)) := by
  obtain ⟨b, off, rfl, r0, r1, _⟩ := h.out.head
  have e0 := h.out.c0
  have f0 := h.out.fz 0
  rw [hls.out] at r1
  simp only [List.length_nil] at r1
  obtain ⟨K, hK⟩ : ∃ K, (d :: r).length = K := ⟨_, rfl⟩
  rw [hK] at e0
  have HK : Hid (K = r.length + 1) := hid (by rw [← hK]; rfl)
  have K0 : ¬ (K : Int) = 0 := by have := HK.out; omega
  have K1 : (1 : Int) ≤ K := by have := HK.out; omega
  have hcap : K ≤ c := by rw [← hK]; exact h.out.cap
  have KC : (K : Int) ≤ c := by omega
  have HC := hid hcap
  obtain ⟨P, hP⟩ : ∃ P, d.page = P := ⟨_, rfl⟩
  rw [hP] at r0 ⊢
  clear hK hP hcap
  by_cases hc1 : c = 1
  · subst hc1
    have S1 := hid (h.out.setOwn (i := 0) (v := .slice (some ⟨b, off, none⟩) (K - 1) 0) (n' := n) (D' := r) (ws' := ws) (A' := some ⟨b, off, none⟩) (c' := 0) (by rw [HK.out]; rfl) (by
      have : r = [] := List.eq_nil_of_length_eq_zero (by have := HK.out; have := HC.out; omega)
      rw [this]; exact Rd.nil _ _) (fun b off e => ⟨off, e⟩) (by have := HK.out; have := HC.out; omega) (fun d' hd => List.mem_cons_of_mem _ hd))
    go_enter Tryz.func125, Tryz.ntmps125
    go_wp2
    go_ret
    exact ⟨rfl, hid ⟨⟨r, _, _, S1.out.1, rfl⟩, h.out.frm S1.out.2⟩⟩
  · have hc2 : ¬ 1 = c := fun e => hc1 e.symm
    have S1 := hid (h.out.setOwn (i := 0) (v := .slice (some ⟨b, off + 2, none⟩) (K - 1) (c - 1)) (n' := n) (D' := r) (ws' := ws) (A' := some ⟨b, off + 2, none⟩) (c' := c - 1) (by rw [HK.out]; rfl) (by
      have := h.out.row.drop 2
      rw [List.flatMap_cons] at this
      exact this) (fun b' off' e => by injection e with e; injection e with e1 _ _; subst e1; exact ⟨off, rfl⟩) (by have := HK.out; have := HC.out; omega) (fun d' hd => List.mem_cons_of_mem _ hd))
    go_enter Tryz.func125, Tryz.ntmps125
    go_wp2
    go_ret
    exact ⟨rfl, hid ⟨⟨r, _, _, S1.out.1, rfl⟩, h.out.frm S1.out.2⟩⟩
set_option maxRecDepth 100000 in
set_option maxHeartbeats 2000000 in
theorem dtake1_calls (w : World) (base m n : Nat) (d : DT) (r : List DT) (ws : List Value) (A : Option Addr) (c : Nat) (l0 : List Nat) (x : Nat) (h : Hid (DocAt w base m n (d :: r) ws A c)) (hn : Hid (r.length < 1000000)) (hls : Hid (d.ls = l0 ++ [x])) (hl0 : Hid (l0.length < 1000000)) :
    Calls Tryz.prog 125 #[.pointer (some ⟨m, 0, none⟩)] w (DocStep w base m n ((d.page, l0) :: r.map dtT) ws (.int .i64 x)) := by
  obtain ⟨b, off, rfl, r0, r1, fb⟩ := h.out.head
  have e0 := h.out.c0
  obtain ⟨hrd, hk, hty⟩ := h.out.lvs d List.mem_cons_self
  obtain ⟨N, hN⟩ : ∃ N, l0.length = N := ⟨_, rfl⟩
  obtain ⟨N1, hN1⟩ : ∃ N1, N + 1 = N1 := ⟨_, rfl⟩
  have hlen : d.ls.length = N1 := by rw [hls.out, List.length_append, hN]; exact hN1
  obtain ⟨lb, lo, hB, hcx⟩ := hrd N (natCell x) (by rw [hls.out, List.map_append, List.getElem?_append_right (by rw [List.length_map]; omega), List.length_map, hN, Nat.sub_self]; rfl)
  unfold natCell at hcx
  have S1 := hid (h.out.setHead (B := d.B) (k := d.k) (ls := l0) ⟨by have := hrd.take N; rw [hls.out, List.map_append, List.take_left' (by rw [List.length_map]; exact hN)] at this; exact this, by rw [hlen] at hk; omega, hty⟩)
  rw [hlen] at r1 hk
  rw [hB] at r1 S1
  rw [hN] at S1
  obtain ⟨K, hK⟩ : ∃ K, (d :: r).length = K := ⟨_, rfl⟩
  rw [hK] at e0
  have K0 : ¬ (K : Int) = 0 := by have : K = r.length + 1 := by rw [← hK]; rfl
                                  omega
  have K1 : (0 : Int) < K := by omega
  have HB := hid hB
  have NB : Hid (N < 1000000) := hid (by have := hl0.out; omega)
  have n1 : ¬ (N1 : Int) = 0 := by omega
  have n2 : wrap64 ((N1 : Int) - 1) = (N : Int) := by have := NB.out; rw [show (N1 : Int) - 1 = (N : Int) by omega]; unfold wrap64; omega
  have n3 : (N : Int) < (N1 : Int) := by omega
  have n4 : (N : Int) ≤ (d.k : Int) := by omega
  have n5 : N ≤ d.k := by omega
  have n6 : N < N1 := by omega
  obtain ⟨DK, hDK⟩ : ∃ k, d.k = k := ⟨_, rfl⟩
  rw [hDK] at r1 S1 n4 n5
  clear hK hN hN1 hlen hrd hk hty hB hDK
  go_enter Tryz.func125, Tryz.ntmps125
  go_wp2
  go_ret
  exact ⟨rfl, hid ⟨⟨_, _, _, S1.out.1, rfl⟩, h.out.frb S1.out.2⟩⟩
theorem dtake_calls (w : World) (base m n : Nat) (T : List Trk) (ws : List Value) (h : Hid (DocW w base m n T ws)) (hn : Hid (n < 1000000)) (hT : Hid ((allT T).length < 1000000)) :
    Calls Tryz.prog 125 #[.pointer (some ⟨m, 0, none⟩)] w (DocStep w base m (takeV T n).2.1 (takeV T n).2.2 ws (.int .i64 (takeV T n).1)) := by
  obtain ⟨D, A, c, hd, rfl⟩ := h.out
  have hT' := hT.out
  match D, hd, hT' with
  | [], hd, _ => exact dtake0_calls w base m n ws A c (hid hd) hn
  | d :: r, hd, hT' =>
    have hr : r.length < 1000000 := by
      rw [List.map_cons, allT_cons, List.length_cons, List.length_append] at hT'
      have : r.length ≤ (allT (r.map dtT)).length := by
        clear hT' hd h hT
        induction r with
        | nil => simp
        | cons a r ih => rw [List.map_cons, allT_cons]; simp only [List.length_cons, List.length_append]; omega
      omega
    have hl : d.ls.length < 1000000 := by
      rw [List.map_cons, allT_cons, List.length_cons, List.length_append] at hT'
      have : (dtT d).2.length = d.ls.length := rfl
      omega
    cases hg : d.ls.getLast? with
    | none =>
      have e := List.getLast?_eq_none_iff.1 hg
      have et : takeV ((d :: r).map dtT) n = (d.page, n, r.map dtT) := by
        show takeV ((d.page, d.ls) :: r.map dtT) n = _
        rw [e]; rfl
      rw [et]
      exact dtake2_calls w base m n d r ws A c (hid hd) (hid hr) (hid e)
    | some x =>
      have e := getLast_split hg
      have et : takeV ((d :: r).map dtT) n = (x, n, (d.page, d.ls.dropLast) :: r.map dtT) := by
        show takeV ((d.page, d.ls) :: r.map dtT) n = _
        unfold takeV; simp only [hg]
      rw [et]
      exact dtake1_calls w base m n d r ws A c d.ls.dropLast x (hid hd) (hid hr) (hid e) (hid (by rw [List.length_dropLast]; omega))
end Go.Proofs.YtbcghggkfnagoaaGreatDoor
