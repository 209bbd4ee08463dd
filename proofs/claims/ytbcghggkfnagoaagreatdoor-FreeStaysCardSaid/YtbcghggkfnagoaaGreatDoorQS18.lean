/- PARTS OF A PROOF, one behind the other: THE WALK of free's Count. THE WALKS of free's Word and Set, and Count in the document's words. THE DOCUMENT's HEAP of layer 8, as the world has it; its Take. THE DOCUMENT's HEAP: Take. THE DOCUMENT's HEAP: Give. THE DOCUMENT's HEAP: All. CONDITIONS: none of this text's own. -/
import Derived.Test.YtbcghggkfnagoaaGreatDoorQS17
set_option linter.unusedVariables false
set_option linter.unusedSimpArgs false
namespace Go.Proofs.YtbcghggkfnagoaaGreatDoor
open Go Go.RowKit Go.Maps Hach
end Go.Proofs.YtbcghggkfnagoaaGreatDoor

namespace Go.Proofs.YtbcghggkfnagoaaGreatDoor
open Go Go.RowKit Go.Maps Hach

theorem w64p {k : Int} (h : 0 ≤ k ∧ k < 9223372036854775808) : wrap64 k = k := by unfold wrap64; omega
theorem p256_8 : (256 : Nat) ^ 8 = 18446744073709551616 := by decide
theorem be8_len (k : Nat) : (Oct.be k 8).length = 8 := Oct.be_length k 8
def updW (W : Nat → Int) (i : Nat) (N : Int) : Nat → Int := fun j => if j = i then N else W j
theorem RootB.word' {b : List UInt8} {f c : Nat} {W : Nat → Int} (h : RootB b f c W) (hb : b.length = 512) {i V : Nat} {N : Int} (hi : i < 60) (hV : V < 18446744073709551616) (hN : wrap64 (V : Int) = N) : RootB (mkPut b (16 + i * 8) (Oct.be V 8)) f c (updW W i N) := by
  have o : ∀ {j s : Nat}, j + s ≤ 16 + i * 8 ∨ 16 + i * 8 + 8 ≤ j → pgGet (mkPut b (16 + i * 8) (Oct.be V 8)) j s = pgGet b j s := fun h => pg_other (by rw [be8_len]; omega) (by rw [be8_len]; exact h)
  refine ⟨(o (.inl (by omega))).trans h.first, (o (.inl (by omega))).trans h.count, fun j hj => ?_, ?_⟩
  · unfold updW
    by_cases e : j = i
    · subst e
      rw [if_pos rfl, pg_same (by omega) (by rw [p256_8]; exact hV)]
      exact hN
    · rw [if_neg e, o (by omega)]
      exact h.words j hj
  · have : (mkPut b (16 + i * 8) (Oct.be V 8)).take 8 = b.take 8 := by
      apply List.ext_getElem?
      intro k
      rw [List.getElem?_take, List.getElem?_take]
      by_cases hk : k < 8
      · rw [if_pos hk, if_pos hk, mkPut_get (by rw [be8_len]; omega), if_pos (by omega)]
      · rw [if_neg hk, if_neg hk]
    exact this.trans h.magic
theorem HeapS.root' {L : PgL} {n : Nat} {T : List Trk} {W W' : Nat → Int} {U : Nat → List UInt8} (h : HeapS L n T W U) {b : List UInt8} (hb : b.length = 512) (hr : RootB b (headT T) (allT T).length W') (g c : Nat) : HeapS (gput L (1 : Nat) ⟨g, c, b⟩) n T W' U := by
  have h1 : 1 ∉ allT T := fun e => by have := h.inn 1 e; omega
  refine ⟨h.keys.put ⟨by omega, h.one⟩ _, gput_lens h.lens hb, h.one, ⟨⟨g, c, b⟩, by rw [gget_put, if_pos rfl], hr⟩, h.chain.put _ h1, h.nodup, h.inn, fun i h2 hi hn => ?_, full_put h.full⟩
  rw [gget_put, if_neg (by omega)]
  exact h.used i h2 hi hn
theorem i64_of_u64 {N : Int} (h : (Lit.int .i64 N).wf = true) : ∃ V : Nat, IntKind.u64.wrap N = (V : Int) ∧ V < 18446744073709551616 ∧ wrap64 (V : Int) = N := by
  have hb := bounds_i64 h
  refine ⟨(N % 18446744073709551616).toNat, ?_, by omega, ?_⟩
  · rw [IntKind.wrap_u64]; omega
  · unfold wrap64; omega
section
variable (w : World) (X : HpX) (n : Nat) (T : List Trk) (W : Nat → Int) (U : Nat → List UInt8)
set_option maxRecDepth 100000 in
set_option maxHeartbeats 2000000 in
theorem wordBad_calls (i : Int) (hh : Hid (HeapW w X n T W U)) (hn : Hid (n ≤ 4000)) (hi : Hid (i < 0 ∨ 60 ≤ i)) :
    Calls Tryz.prog 61 #[.pointer (some ⟨X.h, 0, none⟩), .int .i64 i] w fun en w' => en = .returned (.tuple #[.int .i64 0, .int .i64 11]) ∧ Hid (Up w w') := by
  obtain ⟨L, hp, hs⟩ := hh.out
  have h1 := hid hs.one
  obtain ⟨x, hx, hr⟩ := hs.root
  obtain ⟨h, p, t, m, q, mv, last⟩ := X
  have HP := hid hp
  have HX := hid hx
  simp only at HP
  clear hp hx hs hr hh
  show Calls _ _ #[.pointer (some ⟨h, 0, none⟩), _] _ _
  by_cases hi1 : i < 0
  · go_enter Tryz.func61, Tryz.ntmps61
    go_wp2_with (go_at_call 66; refine (hroot_calls w h p t m q mv last n L HP (hid (by have := hn.out; have := h1.out; omega)) x HX).mono ?_; rintro en w2 ⟨g, c, rfl, hr⟩)
    go_ret2
    exact ⟨rfl, hid hr.out.2.1⟩
  · have hi2 : 60 ≤ i := hi.out.resolve_left hi1
    go_enter Tryz.func61, Tryz.ntmps61
    go_wp2_with (go_at_call 66; refine (hroot_calls w h p t m q mv last n L HP (hid (by have := hn.out; have := h1.out; omega)) x HX).mono ?_; rintro en w2 ⟨g, c, rfl, hr⟩)
    go_ret2
    exact ⟨rfl, hid hr.out.2.1⟩
set_option maxRecDepth 100000 in
set_option maxHeartbeats 2000000 in
theorem word_calls (i : Nat) (hh : Hid (HeapW w X n T W U)) (hn : Hid (n ≤ 4000)) (hi : Hid (i < 60)) :
    Calls Tryz.prog 61 #[.pointer (some ⟨X.h, 0, none⟩), .int .i64 i] w fun en w' => en = .returned (.tuple #[.int .i64 (W i), .int .i64 0]) ∧ Hid (Up w w') := by
  obtain ⟨L, hp, hs⟩ := hh.out
  have h1 := hid hs.one
  obtain ⟨x, hx, hr⟩ := hs.root
  obtain ⟨h, p, t, m, q, mv, last⟩ := X
  have HP := hid hp
  have HX := hid hx
  have HW := hid (hr.words i hi.out)
  have HLX := hid (hs.lens _ (gget_mem hx))
  simp only at HP
  have i0 : ¬ (i : Int) < 0 := by omega
  have i60 : ¬ 60 ≤ (i : Int) := by have := hi.out; omega
  have EW : Hid (wrap64 (16 + wrap64 ((i : Int) * 8)) = ((16 + i * 8 : Nat) : Int)) := hid (by have := hi.out; rw [w64p (k := (i : Int) * 8) (by omega), w64p (by omega)]; omega)
  have EW2 : Hid (16 + (i : Int) * 8 = ((16 + i * 8 : Nat) : Int)) := hid (by omega)
  clear hp hx hs hr hh
  show Calls _ _ #[.pointer (some ⟨h, 0, none⟩), _] _ _
  go_enter Tryz.func61, Tryz.ntmps61
  go_wp2_with (go_at_call 66; refine (hroot_calls w h p t m q mv last n L HP (hid (by have := hn.out; have := h1.out; omega)) x HX).mono ?_; rintro en w2 ⟨g, c, rfl, hr⟩)
  have CG := fget_calls w2 g c x.bs 512 (16 + i * 8) 8 (hid HLX.out) (hid ⟨by have := hi.out; omega, by decide, by decide, by decide, hr.out.2.2.2.1⟩) (hid hr.out.1.bytes)
  rw [HW.out] at CG
  have UR := hid hr.out.2.1
  clear hr
  first | rw [EW.out] | rw [EW2.out]
  refine CG.mono ?_
  rintro en w3 ⟨rfl, hw⟩
  obtain rfl := hw.symm
  clear hw CG
  go_wp2
  go_ret2
  exact ⟨rfl, UR⟩
set_option maxRecDepth 100000 in
set_option maxHeartbeats 2000000 in
theorem setBad_calls (i N : Int) (hh : Hid (HeapW w X n T W U)) (hn : Hid (n ≤ 4000)) (hi : Hid (i < 0 ∨ 60 ≤ i)) :
    Calls Tryz.prog 62 #[.pointer (some ⟨X.h, 0, none⟩), .int .i64 i, .int .i64 N] w fun en w' => en = .returned (.int .i64 11) ∧ Hid (Up w w') := by
  obtain ⟨L, hp, hs⟩ := hh.out
  have h1 := hid hs.one
  obtain ⟨x, hx, hr⟩ := hs.root
  obtain ⟨h, p, t, m, q, mv, last⟩ := X
  have HP := hid hp
  have HX := hid hx
  simp only at HP
  clear hp hx hs hr hh
  show Calls _ _ #[.pointer (some ⟨h, 0, none⟩), _, _] _ _
  by_cases hi1 : i < 0
  · go_enter Tryz.func62, Tryz.ntmps62
    go_wp2_with (go_at_call 66; refine (hroot_calls w h p t m q mv last n L HP (hid (by have := hn.out; have := h1.out; omega)) x HX).mono ?_; rintro en w2 ⟨g, c, rfl, hr⟩)
    go_ret
    exact ⟨rfl, hid hr.out.2.1⟩
  · have hi2 : 60 ≤ i := hi.out.resolve_left hi1
    go_enter Tryz.func62, Tryz.ntmps62
    go_wp2_with (go_at_call 66; refine (hroot_calls w h p t m q mv last n L HP (hid (by have := hn.out; have := h1.out; omega)) x HX).mono ?_; rintro en w2 ⟨g, c, rfl, hr⟩)
    go_ret
    exact ⟨rfl, hid hr.out.2.1⟩
set_option maxRecDepth 100000 in
set_option maxHeartbeats 2000000 in
theorem set_calls (i : Nat) (N : Int) (hh : Hid (HeapW w X n T W U)) (hn : Hid (n ≤ 4000)) (hi : Hid (i < 60)) (hN : Hid ((Lit.int .i64 N).wf = true)) :
    Calls Tryz.prog 62 #[.pointer (some ⟨X.h, 0, none⟩), .int .i64 i, .int .i64 N] w fun en w' => en = .returned (.int .i64 0) ∧ Hid (HeapW w' X n T (updW W i N) U ∧ Fr (HpS X) w w') := by
  obtain ⟨L, hp, hs⟩ := hh.out
  obtain ⟨V, hV1, hV2, hV3⟩ := i64_of_u64 hN.out
  have h1 := hid hs.one
  have HLL : Hid (L.length < 1000000) := hid (by have := hs.keys.len; have := hn.out; omega)
  obtain ⟨x, hx, hr⟩ := hs.root
  have HLX := hid (hs.lens _ (gget_mem hx))
  have lx : x.bs.length = 512 := HLX.out
  have ROOT : Hid (∀ g c, HeapS (gput L (1 : Nat) ⟨g, c, mkPut x.bs (16 + i * 8) (Oct.be V 8)⟩) n T (updW W i N) U) := hid (fun g c => hs.root' (by rw [mkPut_length (by rw [be8_len]; have := hi.out; omega)]; exact lx) (hr.word' lx hi.out hV2 hV3) g c)
  have ML : Hid ((mkPut x.bs (16 + i * 8) (Oct.be V 8)).length = 512) := hid (by rw [mkPut_length (by rw [be8_len]; have := hi.out; omega)]; exact lx)
  have V1 := hid hV1
  have V2 : Hid (V < 18446744073709551616) := hid hV2
  unfold HeapW HpS
  obtain ⟨h, p, t, m, q, mv, last⟩ := X
  have HP := hid hp
  have HX := hid hx
  simp only at HP
  have i0 : ¬ (i : Int) < 0 := by omega
  have i60 : ¬ 60 ≤ (i : Int) := by have := hi.out; omega
  have EW : Hid (wrap64 (16 + wrap64 ((i : Int) * 8)) = ((16 + i * 8 : Nat) : Int)) := hid (by have := hi.out; rw [w64p (k := (i : Int) * 8) (by omega), w64p (by omega)]; omega)
  have EW2 : Hid (16 + (i : Int) * 8 = ((16 + i * 8 : Nat) : Int)) := hid (by omega)
  clear hp hx hs hr hh hV1 hV2 hV3 lx
  show Calls _ _ #[.pointer (some ⟨h, 0, none⟩), _, _] _ _
  simp only
  go_enter Tryz.func62, Tryz.ntmps62
  go_wp2_with (go_at_call 66; refine (hroot_calls w h p t m q mv last n L HP (hid (by have := hn.out; have := h1.out; omega)) x HX).mono ?_; rintro en w2 ⟨g, c, rfl, hr⟩)
  have UR := hid hr.out.2.1
  have HP2 := hid (HP.out.up hr.out.2.1)
  have GR : Hid (w.heap.size ≤ g) := hid hr.out.2.2.2.2
  have CS := fset_calls w2 w.heap.size g c x.bs 512 (16 + i * 8) 8 N V V1 (hid (by have := V2.out; omega)) HLX (hid ⟨by have := hi.out; omega, by decide, by decide, by decide, hr.out.2.2.2.1⟩) (hid hr.out.1)
  clear hr
  first | rw [EW.out] | rw [EW2.out]
  refine CS.mono ?_
  rintro en w3 ⟨rfl, hr⟩
  have U3 : Hid (Up w w3) := hid (UR.out.trans (hr.out.2.below UR.out.size (fun k hk e => by have := GR.out; omega)))
  have HP3 := hid (HP.out.up U3.out)
  have B3 := hid hr.out.1.bytes
  clear hr CS HP2
  have e30 := HP3.out.cell
  go_wp2_with fail
  refine (pput_calls w3 p t m q mv last n L (hid HP3.out.tran) 1 (hid (by have := hn.out; have := h1.out; omega)) HLL _ _ c ML B3).mono ?_
  rintro en w4 ⟨rfl, g4, c4, hr⟩
  have RES := hid (show (∃ L', HeapP w4 h p q t m mv last n L' ∧ HeapS L' n T (updW W i N) U) ∧ Fr (fun k => k = t ∨ k = m) w w4 from ⟨⟨_, HP3.out.step hr.out.1 (hr.out.2.1.mono (fun k e => .inr e)), ROOT.out g4 c4⟩, ((Fr.of_below U3.out).mono (fun _ e => e.elim)).trans' (hr.out.2.1.mono (fun k e => .inr e))⟩)
  clear hr e30
  go_wp2
  go_ret
  exact ⟨rfl, RES⟩
end
end Go.Proofs.YtbcghggkfnagoaaGreatDoor

namespace Go.Proofs.YtbcghggkfnagoaaGreatDoor
open Go Go.RowKit Go.Maps Hach

structure DT where
  page : Nat
  B : Option Addr
  k : Nat
  ls : List Nat
def dtC (d : DT) : List Value := [.int .i64 (d.page : Int), .slice d.B d.ls.length d.k]
theorem dtC_len (d : DT) : (dtC d).length = 2 := rfl
theorem dtC_one (d : DT) : ∀ u ∈ dtC d, u.oneCell' = true := by
  intro u hu
  simp only [dtC, List.mem_cons, List.not_mem_nil, or_false] at hu
  rcases hu with rfl | rfl <;> rfl
def dtT (d : DT) : Trk := (d.page, d.ls)
def wordsC (W : Nat → Int) : List Value := (List.range 60).map fun i => .int .i64 (W i)
def docCs (lv : Value) (n : Int) (ws : List Value) : Array Value := (lv :: .int .i64 n :: ws).toArray
structure DocAt (w : World) (base m : Nat) (n : Int) (D : List DT) (ws : List Value) (A : Option Addr) (c : Nat) : Prop where
  own : w.heap[m]? = some (.cells (docCs (.slice A D.length c) n ws) 99 (0, 0))
  low : base ≤ m
  row : Rd w A (D.flatMap dtC)
  rowB : ∀ b off, A = some ⟨b, off, none⟩ → base ≤ b ∧ ∃ cs, w.heap[b]? = some (.cells cs 186 (0, 0))
  cap : D.length ≤ c
  lvs : ∀ d ∈ D, Rd w d.B (d.ls.map natCell) ∧ d.ls.length ≤ d.k ∧ ∀ b off, d.B = some ⟨b, off, none⟩ → ∃ cs fr, w.heap[b]? = some (.cells cs 3 fr)
def DocW (w : World) (base m n : Nat) (T : List Trk) (ws : List Value) : Prop := ∃ D A c, DocAt w base m n D ws A c ∧ T = D.map dtT
def DocB (w : World) (base : Nat) (m : Nat) (k : Nat) : Prop := base ≤ k ∧ (k = m ∨ ∃ cs, w.heap[k]? = some (.cells cs 186 (0, 0)))
section
variable {w w' : World} {base m : Nat} {n : Int} {D : List DT} {ws : List Value} {A : Option Addr} {c : Nat}
theorem blk_lt {w : World} {k : Nat} {o : Obj} (h : w.heap[k]? = some o) : k < w.heap.size := (Array.getElem?_eq_some_iff.1 h).1
theorem DocAt.fr (h : DocAt w base m n D ws A c) {S : Nat → Prop} (hf : Fr S w w') (hS : ∀ k cs ty fr, S k → w.heap[k]? = some (.cells cs ty fr) → ty ≠ 99 ∧ ty ≠ 186 ∧ ty ≠ 3) : DocAt w' base m n D ws A c := by
  have k0 : ∀ {k : Nat} {cs : Array Value} {ty : TypeId} {fr : Nat × Nat}, w.heap[k]? = some (.cells cs ty fr) → (ty = 99 ∨ ty = 186 ∨ ty = 3) → ¬ S k := fun hk ht hs => by
    obtain ⟨a, b, c⟩ := hS _ _ _ _ hs hk
    rcases ht with rfl | rfl | rfl
    · exact a rfl
    · exact b rfl
    · exact c rfl
  have bk : ∀ {k : Nat} {cs : Array Value} {ty : TypeId} {fr : Nat × Nat}, w.heap[k]? = some (.cells cs ty fr) → (ty = 99 ∨ ty = 186 ∨ ty = 3) → w'.heap[k]? = some (.cells cs ty fr) := fun hk ht => (hf.block _ (blk_lt hk) (k0 hk ht)).trans hk
  refine ⟨bk h.own (.inl rfl), h.low, h.row.fr hf fun b off e => ?_, fun b off e => ?_, h.cap, fun d hd => ?_⟩
  · obtain ⟨_, cs, hb⟩ := h.rowB b off e
    exact k0 hb (.inr (.inl rfl))
  · obtain ⟨h1, cs, hb⟩ := h.rowB b off e
    exact ⟨h1, cs, bk hb (.inr (.inl rfl))⟩
  · obtain ⟨h1, h2, h3⟩ := h.lvs d hd
    refine ⟨h1.fr hf fun b off e => ?_, h2, fun b off e => ?_⟩
    · obtain ⟨cs, fr, hb⟩ := h3 b off e
      exact k0 hb (.inr (.inr rfl))
    · obtain ⟨cs, fr, hb⟩ := h3 b off e
      exact ⟨cs, fr, bk hb (.inr (.inr rfl))⟩
theorem DocAt.up (h : DocAt w base m n D ws A c) (hu : Up w w') : DocAt w' base m n D ws A c := by
  have bk : ∀ {k o}, w.heap[k]? = some o → w'.heap[k]? = some o := fun hk => (hu.block _ (blk_lt hk)).trans hk
  refine ⟨bk h.own, h.low, h.row.grown hu, fun b off e => ?_, h.cap, fun d hd => ?_⟩
  · obtain ⟨h1, cs, hb⟩ := h.rowB b off e
    exact ⟨h1, cs, bk hb⟩
  · obtain ⟨h1, h2, h3⟩ := h.lvs d hd
    refine ⟨h1.grown hu, h2, fun b off e => ?_⟩
    obtain ⟨cs, fr, hb⟩ := h3 b off e
    exact ⟨cs, fr, bk hb⟩
theorem DocAt.c0 (h : DocAt w base m n D ws A c) : w.cell? ⟨m, 0, none⟩ = some (.slice A D.length c) := by rw [cell_of_row _ _ _ _ _ _ h.own]; rfl
theorem DocAt.c1 (h : DocAt w base m n D ws A c) : w.cell? ⟨m, 1, none⟩ = some (.int .i64 n) := by rw [cell_of_row _ _ _ _ _ _ h.own]; rfl
theorem DocAt.fz (h : DocAt w base m n D ws A c) (i : Nat) : w.frozen? ⟨m, i, none⟩ = false := by unfold World.frozen?; rw [show (⟨m, i, none⟩ : Addr).block = m from rfl, h.own]; simp
theorem DocAt.setOwn (h : DocAt w base m n D ws A c) {i : Nat} {v : Value} {n' : Int} {D' : List DT} {ws' : List Value} {A' : Option Addr} {c' : Nat} (hc : (docCs (.slice A D.length c) n ws).setIfInBounds i v = docCs (.slice A' D'.length c') n' ws')
    (hrow : Rd w A' (D'.flatMap dtC)) (hB : ∀ b off, A' = some ⟨b, off, none⟩ → ∃ off', A = some ⟨b, off', none⟩) (hcap : D'.length ≤ c') (hl : ∀ d ∈ D', d ∈ D) : DocAt (w.setCell ⟨m, i, none⟩ v) base m n' D' ws' A' c' ∧ Fr (fun k => k = m) w (w.setCell ⟨m, i, none⟩ v) := by
  have hf : Fr (fun k => k = m) w (w.setCell ⟨m, i, none⟩ v) := (Fr.refl (fun k => k = m) w).setCell (p := ⟨m, i, none⟩) (fun _ => rfl) _
  have k1 := heap_setCell_same _ m i _ _ v h.own
  rw [hc] at k1
  have ne : ∀ {k cs ty fr}, w.heap[k]? = some (.cells cs ty fr) → ty ≠ 99 → k ≠ m := fun hk ht e => by
    rw [e, h.own] at hk; injection hk with hk; injection hk with _ hk _; exact ht hk.symm
  refine ⟨⟨k1, h.low, hrow.fr hf fun b off e => ?_, fun b off e => ?_, hcap, fun d hd => ?_⟩, hf⟩
  · obtain ⟨off', e'⟩ := hB b off e
    obtain ⟨_, cs, hb⟩ := h.rowB b off' e'
    exact ne hb (by decide)
  · obtain ⟨off', e'⟩ := hB b off e
    obtain ⟨h1, cs, hb⟩ := h.rowB b off' e'
    exact ⟨h1, cs, (hf.block b (blk_lt hb) (ne hb (by decide))).trans hb⟩
  · obtain ⟨h1, h2, h3⟩ := h.lvs d (hl d hd)
    refine ⟨h1.fr hf fun b off e => ?_, h2, fun b off e => ?_⟩
    · obtain ⟨cs, fr, hb⟩ := h3 b off e
      exact ne hb (by decide)
    · obtain ⟨cs, fr, hb⟩ := h3 b off e
      exact ⟨cs, fr, (hf.block b (blk_lt hb) (ne hb (by decide))).trans hb⟩
theorem DocAt.setHead {d : DT} {r : List DT} {b off : Nat} (h : DocAt w base m n (d :: r) ws (some ⟨b, off, none⟩) c) {B : Option Addr} {k : Nat} {ls : List Nat} (hB : Rd w B (ls.map natCell) ∧ ls.length ≤ k ∧ ∀ b off, B = some ⟨b, off, none⟩ → ∃ cs fr, w.heap[b]? = some (.cells cs 3 fr)) :
    DocAt (w.setCell ⟨b, off + 1, none⟩ (.slice B ls.length k)) base m n (⟨d.page, B, k, ls⟩ :: r) ws (some ⟨b, off, none⟩) c ∧ Fr (fun x => x = b) w (w.setCell ⟨b, off + 1, none⟩ (.slice B ls.length k)) := by
  have hf : Fr (fun x => x = b) w (w.setCell ⟨b, off + 1, none⟩ (.slice B ls.length k)) := (Fr.refl (fun x => x = b) w).setCell (p := ⟨b, off + 1, none⟩) (fun _ => rfl) _
  obtain ⟨hlow, cs, hb⟩ := h.rowB b off rfl
  have k1 := heap_setCell_same _ b (off + 1) _ _ (.slice B ls.length k) hb
  have ne : ∀ {k cs ty fr}, w.heap[k]? = some (.cells cs ty fr) → ty ≠ 186 → k ≠ b := fun hk ht e => by
    rw [e, hb] at hk; injection hk with hk; injection hk with _ hk _; exact ht hk.symm
  refine ⟨⟨(hf.block m (blk_lt h.own) (ne h.own (by decide))).trans h.own, h.low, ?_, fun b' off' e => ?_, h.cap, fun d' hd => ?_⟩, hf⟩
  · intro j u hj
    have hlt : off + 1 < cs.size := by
      obtain ⟨b', off', e, hc⟩ := h.row 1 (.slice d.B d.ls.length d.k) rfl
      injection e with e
      injection e with e1 e2 _
      subst e1; subst e2
      rw [cell_of_row _ _ _ _ _ _ hb] at hc
      exact (Array.getElem?_eq_some_iff.1 hc).1
    refine ⟨b, off, rfl, ?_⟩
    rw [cell_of_row _ _ _ _ _ _ k1]
    by_cases e1 : j = 1
    · subst e1
      have : u = .slice B ls.length k := by
        simp only [List.flatMap_cons, dtC, List.cons_append, List.getElem?_cons_succ, List.getElem?_cons_zero, Option.some.injEq] at hj
        exact hj.symm
      subst this
      simp [hlt]
    · have hj' : ((d :: r).flatMap dtC)[j]? = some u := by
        rw [List.flatMap_cons] at hj ⊢
        match j, hj, e1 with
        | 0, hj, _ => exact hj
        | 1, _, e1 => exact absurd rfl e1
        | j + 2, hj, _ => exact hj
      obtain ⟨b', off', e, hc⟩ := h.row j u hj'
      injection e with e
      injection e with e1' e2' _
      subst e1'; subst e2'
      rw [cell_of_row _ _ _ _ _ _ hb] at hc
      rw [Array.getElem?_setIfInBounds_ne (by omega)]
      exact hc
  · injection e with e
    injection e with e1 e2 _
    subst e1
    exact ⟨hlow, _, k1⟩
  · rcases List.mem_cons.1 hd with rfl | hd
    · refine ⟨hB.1.fr hf fun b' off' e => ?_, hB.2.1, fun b' off' e => ?_⟩
      · obtain ⟨cs, fr, hb'⟩ := hB.2.2 b' off' e
        exact ne hb' (by decide)
      · obtain ⟨cs, fr, hb'⟩ := hB.2.2 b' off' e
        exact ⟨cs, fr, (hf.block _ (blk_lt hb') (ne hb' (by decide))).trans hb'⟩
    · obtain ⟨h1, h2, h3⟩ := h.lvs d' (List.mem_cons_of_mem _ hd)
      refine ⟨h1.fr hf fun b' off' e => ?_, h2, fun b' off' e => ?_⟩
      · obtain ⟨cs, fr, hb'⟩ := h3 b' off' e
        exact ne hb' (by decide)
      · obtain ⟨cs, fr, hb'⟩ := h3 b' off' e
        exact ⟨cs, fr, (hf.block _ (blk_lt hb') (ne hb' (by decide))).trans hb'⟩
end
end Go.Proofs.YtbcghggkfnagoaaGreatDoor

namespace Go.Proofs.YtbcghggkfnagoaaGreatDoor
open Go Go.RowKit Go.Maps Hach

def DocStep (w : World) (base m n' : Nat) (T' : List Trk) (ws' : List Value) (v : Value) (en : Ending) (w' : World) : Prop := en = .returned v ∧ Hid (DocW w' base m n' T' ws' ∧ Fr (DocB w base m) w w')
theorem DocAt.frm {w w' : World} {base m : Nat} {n : Int} {D : List DT} {ws : List Value} {A : Option Addr} {c : Nat} (h : DocAt w base m n D ws A c) (hf : Fr (fun k => k = m) w w') : Fr (DocB w base m) w w' := hf.mono fun k e => ⟨by rw [e]; exact h.low, .inl e⟩
theorem DocAt.frb {w w' : World} {base m b off : Nat} {n : Int} {D : List DT} {ws : List Value} {c : Nat} (h : DocAt w base m n D ws (some ⟨b, off, none⟩) c) (hf : Fr (fun k => k = b) w w') : Fr (DocB w base m) w w' := hf.mono fun k e => by
  subst e
  obtain ⟨h1, cs, hb⟩ := h.rowB k off rfl
  exact ⟨h1, .inr ⟨cs, hb⟩⟩
theorem DocAt.head {w : World} {base m : Nat} {n : Int} {d : DT} {r : List DT} {ws : List Value} {A : Option Addr} {c : Nat} (h : DocAt w base m n (d :: r) ws A c) : ∃ b off, A = some ⟨b, off, none⟩ ∧ w.cell? ⟨b, off, none⟩ = some (.int .i64 (d.page : Int)) ∧ w.cell? ⟨b, off + 1, none⟩ = some (.slice d.B d.ls.length d.k) ∧ w.frozen? ⟨b, off + 1, none⟩ = false := by
  obtain ⟨b, off, e, hc⟩ := h.row 0 (.int .i64 (d.page : Int)) rfl
  obtain ⟨b', off', e', hc'⟩ := h.row 1 (.slice d.B d.ls.length d.k) rfl
  rw [e] at e'
  injection e' with e'
  injection e' with e1 e2 _
  subst e1; subst e2
  obtain ⟨_, cs, hb⟩ := h.rowB b off e
  exact ⟨b, off, e, hc, hc', by unfold World.frozen?; rw [show (⟨b, off + 1, none⟩ : Addr).block = b from rfl, hb]; simp⟩
set_option maxRecDepth 100000 in
set_option maxHeartbeats 2000000 in
theorem dtake0_calls (w : World) (base m n : Nat) (ws : List Value) (A : Option Addr) (c : Nat) (h : Hid (DocAt w base m n [] ws A c)) (hn : Hid (n < 1000000)) :
    Calls Tryz.prog 125 #[.pointer (some ⟨m, 0, none⟩)] w (DocStep w base m (n + 1) [] ws (.int .i64 (n + 1 : Nat))) := by
  have e0 := h.out.c0
  have e1 := h.out.c1
  have f1 := h.out.fz 1
  obtain ⟨n1, hn1⟩ : ∃ k, n + 1 = k := ⟨_, rfl⟩
  have hw1 : wrap64 ((n : Int) + 1) = (n1 : Int) := by have := hn.out; unfold wrap64; omega
  have S1 := hid (h.out.setOwn (i := 1) (v := .int .i64 n1) (n' := n1) (D' := []) (ws' := ws) (A' := A) (c' := c) rfl (Rd.nil _ _) (fun b off e => ⟨off, e⟩) (Nat.zero_le _) (fun d hd => by cases hd))
  rw [hn1]
  clear hn1
  have e1' := S1.out.1.c1
  simp only [List.length_nil] at e0
  go_enter Tryz.func125, Tryz.ntmps125
  go_wp2
  go_ret
  exact ⟨rfl, hid ⟨⟨[], A, c, S1.out.1, rfl⟩, h.out.frm S1.out.2⟩⟩
set_option maxRecDepth 100000 in
set_option maxHeartbeats 2000000 in
theorem dtake2_calls (w : World) (base m n : Nat) (d : DT) (r : List DT) (ws : List Value) (A : Option Addr) (c : Nat) (h : Hid (DocAt w base m n (d :: r) ws A c)) (hn : Hid (r.length < 1000000)) (hls : Hid (d.ls = [])) :
    Calls Tryz.prog 125 #[.pointer (some ⟨m, 0, none⟩)] w (DocStep w base m n (r.map dtT) ws (.int .i64 d.page)) := by
  obtain ⟨b, off, rfl, r0, r1, _⟩ := h.out.head
  have e0 := h.out.c0
  have f0 := h.out.fz 0
  rw [hls.out] at r1
  simp only [List.length_nil] at r1
  obtain ⟨K, hK⟩ : ∃ K, (d :: r).length = K := ⟨_, rfl⟩
  rw [hK] at e0
  have HK : Hid (K = r.length + 1) := hid (by rw [← hK]; rfl)
  have K0 : ¬ (K : Int) = 0 := by have := HK.out; omega
  have K1 : (1 : Int) ≤ K := by have := HK.out; omega
  have hcap : K ≤ c := by rw [← hK]; exact h.out.cap
  have KC : (K : Int) ≤ c := by omega
  have HC := hid hcap
  obtain ⟨P, hP⟩ : ∃ P, d.page = P := ⟨_, rfl⟩
  rw [hP] at r0 ⊢
  clear hK hP hcap
  by_cases hc1 : c = 1
  · subst hc1
    have S1 := hid (h.out.setOwn (i := 0) (v := .slice (some ⟨b, off, none⟩) (K - 1) 0) (n' := n) (D' := r) (ws' := ws) (A' := some ⟨b, off, none⟩) (c' := 0) (by rw [HK.out]; rfl) (by
      have : r = [] := List.eq_nil_of_length_eq_zero (by have := HK.out; have := HC.out; omega)
      rw [this]; exact Rd.nil _ _) (fun b off e => ⟨off, e⟩) (by have := HK.out; have := HC.out; omega) (fun d' hd => List.mem_cons_of_mem _ hd))
    go_enter Tryz.func125, Tryz.ntmps125
    go_wp2
    go_ret
    exact ⟨rfl, hid ⟨⟨r, _, _, S1.out.1, rfl⟩, h.out.frm S1.out.2⟩⟩
  · have hc2 : ¬ 1 = c := fun e => hc1 e.symm
    have S1 := hid (h.out.setOwn (i := 0) (v := .slice (some ⟨b, off + 2, none⟩) (K - 1) (c - 1)) (n' := n) (D' := r) (ws' := ws) (A' := some ⟨b, off + 2, none⟩) (c' := c - 1) (by rw [HK.out]; rfl) (by
      have := h.out.row.drop 2
      rw [List.flatMap_cons] at this
      exact this) (fun b' off' e => by injection e with e; injection e with e1 _ _; subst e1; exact ⟨off, rfl⟩) (by have := HK.out; have := HC.out; omega) (fun d' hd => List.mem_cons_of_mem _ hd))
    go_enter Tryz.func125, Tryz.ntmps125
    go_wp2
    go_ret
    exact ⟨rfl, hid ⟨⟨r, _, _, S1.out.1, rfl⟩, h.out.frm S1.out.2⟩⟩
set_option maxRecDepth 100000 in
set_option maxHeartbeats 2000000 in
theorem dtake1_calls (w : World) (base m n : Nat) (d : DT) (r : List DT) (ws : List Value) (A : Option Addr) (c : Nat) (l0 : List Nat) (x : Nat) (h : Hid (DocAt w base m n (d :: r) ws A c)) (hn : Hid (r.length < 1000000)) (hls : Hid (d.ls = l0 ++ [x])) (hl0 : Hid (l0.length < 1000000)) :
    Calls Tryz.prog 125 #[.pointer (some ⟨m, 0, none⟩)] w (DocStep w base m n ((d.page, l0) :: r.map dtT) ws (.int .i64 x)) := by
  obtain ⟨b, off, rfl, r0, r1, fb⟩ := h.out.head
  have e0 := h.out.c0
  obtain ⟨hrd, hk, hty⟩ := h.out.lvs d List.mem_cons_self
  obtain ⟨N, hN⟩ : ∃ N, l0.length = N := ⟨_, rfl⟩
  obtain ⟨N1, hN1⟩ : ∃ N1, N + 1 = N1 := ⟨_, rfl⟩
  have hlen : d.ls.length = N1 := by rw [hls.out, List.length_append, hN]; exact hN1
  obtain ⟨lb, lo, hB, hcx⟩ := hrd N (natCell x) (by rw [hls.out, List.map_append, List.getElem?_append_right (by rw [List.length_map]; omega), List.length_map, hN, Nat.sub_self]; rfl)
  unfold natCell at hcx
  have S1 := hid (h.out.setHead (B := d.B) (k := d.k) (ls := l0) ⟨by have := hrd.take N; rw [hls.out, List.map_append, List.take_left' (by rw [List.length_map]; exact hN)] at this; exact this, by rw [hlen] at hk; omega, hty⟩)
  rw [hlen] at r1 hk
  rw [hB] at r1 S1
  rw [hN] at S1
  obtain ⟨K, hK⟩ : ∃ K, (d :: r).length = K := ⟨_, rfl⟩
  rw [hK] at e0
  have K0 : ¬ (K : Int) = 0 := by have : K = r.length + 1 := by rw [← hK]; rfl
                                  omega
  have K1 : (0 : Int) < K := by omega
  have HB := hid hB
  have NB : Hid (N < 1000000) := hid (by have := hl0.out; omega)
  have n1 : ¬ (N1 : Int) = 0 := by omega
  have n2 : wrap64 ((N1 : Int) - 1) = (N : Int) := by have := NB.out; rw [show (N1 : Int) - 1 = (N : Int) by omega]; unfold wrap64; omega
  have n3 : (N : Int) < (N1 : Int) := by omega
  have n4 : (N : Int) ≤ (d.k : Int) := by omega
  have n5 : N ≤ d.k := by omega
  have n6 : N < N1 := by omega
  obtain ⟨DK, hDK⟩ : ∃ k, d.k = k := ⟨_, rfl⟩
  rw [hDK] at r1 S1 n4 n5
  clear hK hN hN1 hlen hrd hk hty hB hDK
  go_enter Tryz.func125, Tryz.ntmps125
  go_wp2
  go_ret
  exact ⟨rfl, hid ⟨⟨_, _, _, S1.out.1, rfl⟩, h.out.frb S1.out.2⟩⟩
theorem dtake_calls (w : World) (base m n : Nat) (T : List Trk) (ws : List Value) (h : Hid (DocW w base m n T ws)) (hn : Hid (n < 1000000)) (hT : Hid ((allT T).length < 1000000)) :
    Calls Tryz.prog 125 #[.pointer (some ⟨m, 0, none⟩)] w (DocStep w base m (takeV T n).2.1 (takeV T n).2.2 ws (.int .i64 (takeV T n).1)) := by
  obtain ⟨D, A, c, hd, rfl⟩ := h.out
  have hT' := hT.out
  match D, hd, hT' with
  | [], hd, _ => exact dtake0_calls w base m n ws A c (hid hd) hn
  | d :: r, hd, hT' =>
    have hr : r.length < 1000000 := by
      rw [List.map_cons, allT_cons, List.length_cons, List.length_append] at hT'
      have : r.length ≤ (allT (r.map dtT)).length := by
        clear hT' hd h hT
        induction r with
        | nil => simp
        | cons a r ih => rw [List.map_cons, allT_cons]; simp only [List.length_cons, List.length_append]; omega
      omega
    have hl : d.ls.length < 1000000 := by
      rw [List.map_cons, allT_cons, List.length_cons, List.length_append] at hT'
      have : (dtT d).2.length = d.ls.length := rfl
      omega
    cases hg : d.ls.getLast? with
    | none =>
      have e := List.getLast?_eq_none_iff.1 hg
      have et : takeV ((d :: r).map dtT) n = (d.page, n, r.map dtT) := by
        show takeV ((d.page, d.ls) :: r.map dtT) n = _
        rw [e]; rfl
      rw [et]
      exact dtake2_calls w base m n d r ws A c (hid hd) (hid hr) (hid e)
    | some x =>
      have e := getLast_split hg
      have et : takeV ((d :: r).map dtT) n = (x, n, (d.page, d.ls.dropLast) :: r.map dtT) := by
        show takeV ((d.page, d.ls) :: r.map dtT) n = _
        unfold takeV; simp only [hg]
      rw [et]
      exact dtake1_calls w base m n d r ws A c d.ls.dropLast x (hid hd) (hid hr) (hid e) (hid (by rw [List.length_dropLast]; omega))
end Go.Proofs.YtbcghggkfnagoaaGreatDoor

namespace Go.Proofs.YtbcghggkfnagoaaGreatDoor
open Go Go.RowKit Go.Maps Hach

theorem own_lit0_at (w : World) (base : Nat) (e : TypeId) (size g : Nat) (hb : base ≤ w.heap.size) (hg : w.heap.size = g) : (w.alloc (.cells #[] e)).ownsRow base e size (.slice (some ⟨g, 0, none⟩) 0 0) 0 [] := by
  subst hg; exact own_lit0 w base e size hb
theorem own_obj0 {w : World} {base : Nat} {e : TypeId} {size n : Nat} {v : Value} {xs : List Value} (h : w.ownsRow base e size v n xs) {k : Nat} (hk : v.ownBlock = some k) : base ≤ k ∧ ∃ cs, w.heap[k]? = some (.cells cs e (0, 0)) := by
  rcases h.2 with ⟨hv, _⟩ | ⟨g, cap, cur, hv, hb, hg, _⟩
  · subst hv; cases hk
  · subst hv
    obtain rfl := Option.some.inj hk
    exact ⟨hb, _, hg⟩
set_option maxRecDepth 100000 in
set_option maxHeartbeats 2000000 in
theorem dgive1_calls (w : World) (base m n : Nat) (d : DT) (r : List DT) (ws : List Value) (A : Option Addr) (c : Nat) (i : Nat) (h : Hid (DocAt w base m n (d :: r) ws A c)) (hi : Hid (2 ≤ i ∧ i ≤ n)) (hls : Hid (d.ls.length < 126)) :
    Calls Tryz.prog 126 #[.pointer (some ⟨m, 0, none⟩), .int .i64 i] w (DocStep w base m n ((d.page, d.ls ++ [i]) :: r.map dtT) ws (.int .i64 0)) := by
  obtain ⟨b, off, rfl, r0, r1, fb⟩ := h.out.head
  have e0 := h.out.c0
  have e1 := h.out.c1
  obtain ⟨hrd, hk, hty⟩ := h.out.lvs d List.mem_cons_self
  obtain ⟨K, hK⟩ : ∃ K, (d :: r).length = K := ⟨_, rfl⟩
  obtain ⟨N, hN⟩ : ∃ N, d.ls.length = N := ⟨_, rfl⟩
  have HN : Hid (d.ls.length = N) := hid hN
  rw [hK] at e0
  rw [hN] at r1
  have RD := hid hrd
  have K0 : (0 : Int) < K := by have : K = r.length + 1 := by rw [← hK]; rfl
                                omega
  have i1 : ¬ (i : Int) < 2 := by have := hi.out; omega
  have i2 : ¬ (n : Int) < (i : Int) := by have := hi.out; omega
  have N1 : (N : Int) < 126 := by have := hls.out; omega
  have NB : Hid (N < 126) := hid (by have := hls.out; omega)
  clear hK hN hrd hk hty
  go_enter Tryz.func126, Tryz.ntmps126
  go_wp2
  -- REGION4
  have US : Up w w.drew := Up.drew w
  refine t_start (fun w9 => Up w w9) 18 (by kernel_rfl) ?_
  refine t_tk 0 32 (v := ?_) US (fun w9 hS => ?_) ?_
  rotate_left
  · go_simp <;> with_reducible rfl
  try simp only [pz]
  refine t_tk 1 33 (v := ?_) US (fun w9 hS => ?_) ?_
  rotate_left
  · go_simp <;> with_reducible rfl
  try simp only [pz]
  refine t_tk 2 34 (v := ?_) US (fun w9 hS => ?_) ?_
  rotate_left
  · go_simp <;> with_reducible rfl
  try simp only [pz]
  refine t_tk 3 35 (v := ?_) US (fun w9 hS => ?_) ?_
  rotate_left
  · have e9 := hS.c e0; go_simp <;> with_reducible rfl
  try simp only [pz]
  refine t_tk 5 37 (v := ?_) US (fun w9 hS => ?_) ?_
  rotate_left
  · go_simp <;> with_reducible rfl
  try simp only [pz]
  refine t_tk 6 38 (v := ?_) US (fun w9 hS => ?_) ?_
  rotate_left
  · go_simp <;> with_reducible rfl
  try simp only [pz]
  refine t_tk 7 39 (v := ?_) US (fun w9 hS => ?_) ?_
  rotate_left
  · go_simp <;> with_reducible rfl
  try simp only [pz]
  refine t_tk 8 40 (v := ?_) US (fun w9 hS => ?_) ?_
  rotate_left
  · have e9 := hS.c e0; go_simp <;> with_reducible rfl
  try simp only [pz]
  refine t_tk 9 41 (v := ?_) US (fun w9 hS => ?_) ?_
  rotate_left
  · go_simp <;> with_reducible rfl
  try simp only [pz]
  refine t_tk 10 42 (v := ?_) US (fun w9 hS => ?_) ?_
  rotate_left
  · go_simp <;> with_reducible rfl
  try simp only [pz]
  refine t_tk 11 43 (v := ?_) US (fun w9 hS => ?_) ?_
  rotate_left
  · have e9 := hS.c r1; go_simp <;> with_reducible rfl
  try simp only [pz]
  refine t_tk 13 45 (v := ?_) US (fun w9 hS => ?_) ?_
  rotate_left
  · go_simp <;> with_reducible rfl
  try simp only [pz]
  refine t_two 4 14 (by kernel_rfl) rfl rfl (by rfl) (by rfl) (fun K9 hK9 => ?_) (fun K9 hK9 => ?_)
  · go_simp
    have O4 := hid (own_lit0 w.drew w.heap.size 3 1 (Nat.le_refl _))
    replace US : Up w (w.drew.alloc (.cells #[] 3)) := upAlD (Up.drew w) _
    refine hK9.out _ _ US ?_
    clear hK9 K9
    try simp only [pz]
    refine t_two 12 14 (by kernel_rfl) rfl rfl (by rfl) (by rfl) (fun K9 hK9 => ?_) (fun K9 hK9 => ?_)
    · show Oper.wp _ ⟨some 44, _, _, _, _, _⟩ _ _ _ _
      refine wp_append elemIN (.tmp 36) (.tmp 43) rfl rfl O4.out rfl (RD.out.grown US) (by rw [List.length_map, HN.out, Nat.mul_one]) (natCell_one _) (by have := NB.out; simp only [maxLen]; omega) (by have := NB.out; omega) US.size ?_
      intro A4 c4 w4 o9 g9 d9
      have O4b := hid o9
      replace US : Up w w4 := below_append US (Nat.le_refl _) US.size O4.out g9
      clear o9 g9 d9
      rw [Nat.zero_add]
      refine hK9.out _ _ US ?_
      clear hK9 K9
      try simp only [pz]
      refine t_op 14 (by kernel_rfl) rfl (by rfl) (fun K9 hK9 => ?_)
      go_simp
      have R15 : Hid (Rd (w4.alloc (.cells #[.int .i64 i] 3)) (some ⟨w4.heap.size, 0, none⟩) [.int .i64 i]) := hid (Rd.new w4 3 (0, 0) [.int .i64 i])
      have O4c := hid (World.ownsRow.alloc O4b.out (.cells #[.int .i64 i] 3))
      clear O4b
      have O4b := O4c
      replace US : Up w (w4.alloc (.cells #[.int .i64 i] 3)) := upAlD US _
      refine hK9.out _ _ US ?_
      clear hK9 K9
      try simp only [pz]
      refine t_op 15 (by kernel_rfl) rfl (by rfl) (fun K9 hK9 => ?_)
      have o4 := O4b.out
      rw [Nat.zero_add, List.nil_append] at o4
      show Oper.wp _ ⟨some 47, _, _, _, _, _⟩ _ _ _ _
      refine wp_append elemIN (.tmp 44) (.tmp 46) rfl rfl o4 rfl R15.out rfl (by simp [Value.oneCell']) (by have := NB.out; simp only [maxLen]; omega) (by have := NB.out; omega) US.size ?_
      intro A5 c5 w5 o9 g9 d9
      have O5 := hid o9
      replace US : Up w w5 := below_append US (Nat.le_refl _) US.size o4 g9
      clear o9 g9 d9 o4
      refine hK9.out _ _ US ?_
      clear hK9 K9
      try simp only [pz]
      refine t_op 16 (by kernel_rfl) rfl (by rfl) (fun K9 hK9 => ?_)
      go_simp
      refine hK9.out _ _ US ?_
      clear hK9 K9
      try simp only [pz]
      refine t_tk 17 49 (v := ?_) US (fun w9 hS => ?_) ?_
      rotate_left
      · go_simp <;> with_reducible rfl
      try simp only [pz]
      refine t_last (by kernel_rfl) rfl (by rfl) (fun K9 hK9 => ?_)
      have e9 := US.c r1
      have f9 : w5.frozen? ⟨b, off + 1, none⟩ = false := (h.out.up US).head.elim fun b9 h9 => by obtain ⟨o9, e9, _, _, f9⟩ := h9; injection e9 with e9; injection e9 with e91 e92 _; subst e91; subst e92; exact f9
      go_simp
      refine hK9.out _ _ ?_
      clear hK9 K9
      try simp only [pz]
      refine t_done (by kernel_rfl) ?_
      have S1 := hid ((h.out.up US).setHead (B := A5) (k := c5) (ls := d.ls ++ [i]) (by
        have h5 := O5.out
        refine ⟨by rw [List.map_append]; exact Rd.own h5, ?_, fun b9 o9 e9 => ?_⟩
        · obtain ⟨_, _, e9, h9⟩ := own_form h5
          injection e9 with _ _ e9
          rw [List.length_append, HN.out, e9]; exact h9
        · subst e9; exact own_obj h5 rfl))
      rw [List.length_append, HN.out] at S1
      have RES : Hid (DocW _ base m n ((d.page, d.ls ++ [i]) :: r.map dtT) ws ∧ Fr (DocB w base m) w _) := hid ⟨⟨_, _, _, S1.out.1, rfl⟩, ((Fr.of_below US).mono (fun _ e => e.elim)).trans' (S1.out.2.mono (fun k e => by subst e; obtain ⟨h1, cs, hb⟩ := h.out.rowB k off rfl; exact ⟨h1, .inr ⟨cs, hb⟩⟩))⟩
      clear S1 US
      go_wp2
      go_ret
      exact ⟨rfl, RES⟩
    · go_simp
      have O14 := hid (World.ownsRow.alloc O4.out (.cells #[.int .i64 i] 3))
      have R14 : Hid (Rd ((w.drew.alloc (.cells #[] 3)).alloc (.cells #[.int .i64 i] 3)) (some ⟨w.heap.size + 1, 0, none⟩) [.int .i64 i]) := hid (by have := Rd.new (w.drew.alloc (.cells #[] 3)) 3 (0, 0) [.int .i64 i]; simpa using this)
      replace US : Up w ((w.drew.alloc (.cells #[] 3)).alloc (.cells #[.int .i64 i] 3)) := upAlD US _
      refine hK9.out _ _ US ?_
      clear hK9 K9
      try simp only [pz]
      refine t_op 12 (by kernel_rfl) rfl (by rfl) (fun K9 hK9 => ?_)
      show Oper.wp _ ⟨some 44, _, _, _, _, _⟩ _ _ _ _
      refine wp_append elemIN (.tmp 36) (.tmp 43) rfl rfl O14.out rfl (RD.out.grown US) (by rw [List.length_map, HN.out, Nat.mul_one]) (natCell_one _) (by have := NB.out; simp only [maxLen]; omega) (by have := NB.out; omega) US.size ?_
      intro A4 c4 w4 o9 g9 d9
      have R15 : Hid (Rd w4 (some ⟨w.heap.size + 1, 0, none⟩) [.int .i64 i]) := hid (R14.out.fr (Fr.of_grown g9) (fun b9 o9 e9 h9 => by injection e9 with e9; injection e9 with e9 _ _; have h8 := Option.some.inj h9; have h7 : b9 = w.heap.size := h8; omega))
      have O4b := hid o9
      replace US : Up w w4 := below_append US (Nat.le_refl _) US.size O14.out g9
      clear o9 g9 d9
      rw [Nat.zero_add]
      refine hK9.out _ _ US ?_
      clear hK9 K9
      try simp only [pz]
      refine t_op 15 (by kernel_rfl) rfl (by rfl) (fun K9 hK9 => ?_)
      have o4 := O4b.out
      rw [Nat.zero_add, List.nil_append] at o4
      show Oper.wp _ ⟨some 47, _, _, _, _, _⟩ _ _ _ _
      refine wp_append elemIN (.tmp 44) (.tmp 46) rfl rfl o4 rfl R15.out rfl (by simp [Value.oneCell']) (by have := NB.out; simp only [maxLen]; omega) (by have := NB.out; omega) US.size ?_
      intro A5 c5 w5 o9 g9 d9
      have O5 := hid o9
      replace US : Up w w5 := below_append US (Nat.le_refl _) US.size o4 g9
      clear o9 g9 d9 o4
      refine hK9.out _ _ US ?_
      clear hK9 K9
      try simp only [pz]
      refine t_op 16 (by kernel_rfl) rfl (by rfl) (fun K9 hK9 => ?_)
      go_simp
      refine hK9.out _ _ US ?_
      clear hK9 K9
      try simp only [pz]
      refine t_tk 17 49 (v := ?_) US (fun w9 hS => ?_) ?_
      rotate_left
      · go_simp <;> with_reducible rfl
      try simp only [pz]
      refine t_last (by kernel_rfl) rfl (by rfl) (fun K9 hK9 => ?_)
      have e9 := US.c r1
      have f9 : w5.frozen? ⟨b, off + 1, none⟩ = false := (h.out.up US).head.elim fun b9 h9 => by obtain ⟨o9, e9, _, _, f9⟩ := h9; injection e9 with e9; injection e9 with e91 e92 _; subst e91; subst e92; exact f9
      go_simp
      refine hK9.out _ _ ?_
      clear hK9 K9
      try simp only [pz]
      refine t_done (by kernel_rfl) ?_
      have S1 := hid ((h.out.up US).setHead (B := A5) (k := c5) (ls := d.ls ++ [i]) (by
        have h5 := O5.out
        refine ⟨by rw [List.map_append]; exact Rd.own h5, ?_, fun b9 o9 e9 => ?_⟩
        · obtain ⟨_, _, e9, h9⟩ := own_form h5
          injection e9 with _ _ e9
          rw [List.length_append, HN.out, e9]; exact h9
        · subst e9; exact own_obj h5 rfl))
      rw [List.length_append, HN.out] at S1
      have RES : Hid (DocW _ base m n ((d.page, d.ls ++ [i]) :: r.map dtT) ws ∧ Fr (DocB w base m) w _) := hid ⟨⟨_, _, _, S1.out.1, rfl⟩, ((Fr.of_below US).mono (fun _ e => e.elim)).trans' (S1.out.2.mono (fun k e => by subst e; obtain ⟨h1, cs, hb⟩ := h.out.rowB k off rfl; exact ⟨h1, .inr ⟨cs, hb⟩⟩))⟩
      clear S1 US
      go_wp2
      go_ret
      exact ⟨rfl, RES⟩
  · go_simp
    have R14 : Hid (Rd (w.drew.alloc (.cells #[.int .i64 i] 3)) (some ⟨w.heap.size, 0, none⟩) [.int .i64 i]) := hid (Rd.new w.drew 3 (0, 0) [.int .i64 i])
    replace US : Up w (w.drew.alloc (.cells #[.int .i64 i] 3)) := upAlD (Up.drew w) _
    refine hK9.out _ _ US ?_
    clear hK9 K9
    try simp only [pz]
    refine t_op 4 (by kernel_rfl) rfl (by rfl) (fun K9 hK9 => ?_)
    go_simp
    have O4 := hid (own_lit0_at (w.drew.alloc (.cells #[.int .i64 i] 3)) w.heap.size 3 1 (w.heap.size + 1) US.size (by simp))
    have R14b : Hid (Rd ((w.drew.alloc (.cells #[.int .i64 i] 3)).alloc (.cells #[] 3)) (some ⟨w.heap.size, 0, none⟩) [.int .i64 i]) := hid (R14.out.grown (upAlD (Up.refl _) _))
    clear R14
    have R14 := R14b
    replace US : Up w ((w.drew.alloc (.cells #[.int .i64 i] 3)).alloc (.cells #[] 3)) := upAlD US _
    refine hK9.out _ _ US ?_
    clear hK9 K9
    try simp only [pz]
    refine t_op 12 (by kernel_rfl) rfl (by rfl) (fun K9 hK9 => ?_)
    show Oper.wp _ ⟨some 44, _, _, _, _, _⟩ _ _ _ _
    refine wp_append elemIN (.tmp 36) (.tmp 43) rfl rfl O4.out rfl (RD.out.grown US) (by rw [List.length_map, HN.out, Nat.mul_one]) (natCell_one _) (by have := NB.out; simp only [maxLen]; omega) (by have := NB.out; omega) US.size ?_
    intro A4 c4 w4 o9 g9 d9
    have R15 : Hid (Rd w4 (some ⟨w.heap.size, 0, none⟩) [.int .i64 i]) := hid (R14.out.fr (Fr.of_grown g9) (fun b9 o9 e9 h9 => by injection e9 with e9; injection e9 with e9 _ _; have h8 := Option.some.inj h9; have h7 : b9 = w.heap.size + 1 := h8; omega))
    have O4b := hid o9
    replace US : Up w w4 := below_append US (Nat.le_refl _) US.size O4.out g9
    clear o9 g9 d9
    rw [Nat.zero_add]
    refine hK9.out _ _ US ?_
    clear hK9 K9
    try simp only [pz]
    refine t_op 15 (by kernel_rfl) rfl (by rfl) (fun K9 hK9 => ?_)
    have o4 := O4b.out
    rw [Nat.zero_add, List.nil_append] at o4
    show Oper.wp _ ⟨some 47, _, _, _, _, _⟩ _ _ _ _
    refine wp_append elemIN (.tmp 44) (.tmp 46) rfl rfl o4 rfl R15.out rfl (by simp [Value.oneCell']) (by have := NB.out; simp only [maxLen]; omega) (by have := NB.out; omega) US.size ?_
    intro A5 c5 w5 o9 g9 d9
    have O5 := hid o9
    replace US : Up w w5 := below_append US (Nat.le_refl _) US.size o4 g9
    clear o9 g9 d9 o4
    refine hK9.out _ _ US ?_
    clear hK9 K9
    try simp only [pz]
    refine t_op 16 (by kernel_rfl) rfl (by rfl) (fun K9 hK9 => ?_)
    go_simp
    refine hK9.out _ _ US ?_
    clear hK9 K9
    try simp only [pz]
    refine t_tk 17 49 (v := ?_) US (fun w9 hS => ?_) ?_
    rotate_left
    · go_simp <;> with_reducible rfl
    try simp only [pz]
    refine t_last (by kernel_rfl) rfl (by rfl) (fun K9 hK9 => ?_)
    have e9 := US.c r1
    have f9 : w5.frozen? ⟨b, off + 1, none⟩ = false := (h.out.up US).head.elim fun b9 h9 => by obtain ⟨o9, e9, _, _, f9⟩ := h9; injection e9 with e9; injection e9 with e91 e92 _; subst e91; subst e92; exact f9
    go_simp
    refine hK9.out _ _ ?_
    clear hK9 K9
    try simp only [pz]
    refine t_done (by kernel_rfl) ?_
    have S1 := hid ((h.out.up US).setHead (B := A5) (k := c5) (ls := d.ls ++ [i]) (by
      have h5 := O5.out
      refine ⟨by rw [List.map_append]; exact Rd.own h5, ?_, fun b9 o9 e9 => ?_⟩
      · obtain ⟨_, _, e9, h9⟩ := own_form h5
        injection e9 with _ _ e9
        rw [List.length_append, HN.out, e9]; exact h9
      · subst e9; exact own_obj h5 rfl))
    rw [List.length_append, HN.out] at S1
    have RES : Hid (DocW _ base m n ((d.page, d.ls ++ [i]) :: r.map dtT) ws ∧ Fr (DocB w base m) w _) := hid ⟨⟨_, _, _, S1.out.1, rfl⟩, ((Fr.of_below US).mono (fun _ e => e.elim)).trans' (S1.out.2.mono (fun k e => by subst e; obtain ⟨h1, cs, hb⟩ := h.out.rowB k off rfl; exact ⟨h1, .inr ⟨cs, hb⟩⟩))⟩
    clear S1 US
    go_wp2
    go_ret
    exact ⟨rfl, RES⟩
  -- END4
theorem elemTk : Elem Tryz.prog 96 186 (.agg #[.int .i64 0, .slice none 0 0]) 2 32 := ⟨Tryz.underlying96, by kernel_rfl, rfl, by decide⟩
theorem DocAt.setNew {w : World} {base m : Nat} {n : Int} {D : List DT} {ws : List Value} {A : Option Addr} {c : Nat} (h : DocAt w base m n D ws A c) {i K : Nat} {A' : Option Addr} {c' : Nat} (hK : K = D.length + 1) (hrow : Rd w A' (([.int .i64 (i : Int), .slice none 0 0] : List Value) ++ D.flatMap dtC)) (hB : ∀ b off, A' = some ⟨b, off, none⟩ → base ≤ b ∧ ∃ cs, w.heap[b]? = some (.cells cs 186 (0, 0))) (hcap : K ≤ c') :
    DocAt (w.setCell ⟨m, 0, none⟩ (.slice A' K c')) base m n (⟨i, none, 0, []⟩ :: D) ws A' c' ∧ Fr (fun k => k = m) w (w.setCell ⟨m, 0, none⟩ (.slice A' K c')) := by
  subst hK
  have hf : Fr (fun k => k = m) w (w.setCell ⟨m, 0, none⟩ (.slice A' (D.length + 1) c')) := (Fr.refl (fun k => k = m) w).setCell (p := ⟨m, 0, none⟩) (fun _ => rfl) _
  have k1 := heap_setCell_same _ m 0 _ _ (.slice A' (D.length + 1) c') h.own
  have ne : ∀ {k : Nat} {cs : Array Value} {ty : TypeId} {fr : Nat × Nat}, w.heap[k]? = some (.cells cs ty fr) → ty ≠ 99 → k ≠ m := fun hk ht e => by
    rw [e, h.own] at hk; injection hk with hk; injection hk with _ hk _; exact ht hk.symm
  refine ⟨⟨k1, h.low, hrow.fr hf fun b off e => ?_, fun b off e => ?_, hcap, fun d hd => ?_⟩, hf⟩
  · obtain ⟨_, cs, hb⟩ := hB b off e
    exact ne hb (by decide)
  · obtain ⟨h1, cs, hb⟩ := hB b off e
    exact ⟨h1, cs, (hf.block b (blk_lt hb) (ne hb (by decide))).trans hb⟩
  · rcases List.mem_cons.1 hd with rfl | hd
    · exact ⟨Rd.nil _ _, Nat.le_refl _, fun b off e => by cases e⟩
    · obtain ⟨h1, h2, h3⟩ := h.lvs d hd
      refine ⟨h1.fr hf fun b off e => ?_, h2, fun b off e => ?_⟩
      · obtain ⟨cs, fr, hb⟩ := h3 b off e
        exact ne hb (by decide)
      · obtain ⟨cs, fr, hb⟩ := h3 b off e
        exact ⟨cs, fr, (hf.block b (blk_lt hb) (ne hb (by decide))).trans hb⟩
set_option maxRecDepth 100000 in
set_option maxHeartbeats 2000000 in
theorem dgive2_calls (w : World) (base m n : Nat) (D : List DT) (ws : List Value) (A : Option Addr) (c : Nat) (i : Nat) (h : Hid (DocAt w base m n D ws A c)) (hi : Hid (2 ≤ i ∧ i ≤ n)) (hbs : Hid (base ≤ w.heap.size)) (hD : Hid (D.length < 1000000)) (hls : Hid (∀ d r, D = d :: r → d.ls.length = 126)) :
    Calls Tryz.prog 126 #[.pointer (some ⟨m, 0, none⟩), .int .i64 i] w (DocStep w base m n ((i, []) :: D.map dtT) ws (.int .i64 0)) := by
  have e0 := h.out.c0
  have e1 := h.out.c1
  obtain ⟨K, hK⟩ : ∃ K, D.length = K := ⟨_, rfl⟩
  have HK := hid hK
  rw [hK] at e0
  have i1 : ¬ (i : Int) < 2 := by have := hi.out; omega
  have i2 : ¬ (n : Int) < (i : Int) := by have := hi.out; omega
  have KB : Hid (K < 1000000) := hid (by have := hD.out; omega)
  have oL : (w.alloc (.cells #[.int .i64 (i : Int), .slice none 0 0] 186)).ownsRow w.heap.size 186 2 (.slice (some ⟨w.heap.size, 0, none⟩) 1 1) 1 [.int .i64 (i : Int), .slice none 0 0] := by
    have := World.ownsRow_lit (base := w.heap.size) (e := 186) (size := 2) w #[.int .i64 (i : Int), .slice none 0 0] 1 (Nat.le_refl _) (by decide) rfl
    simpa using this
  have uL := upAlD (Up.refl w) (.cells #[.int .i64 (i : Int), .slice none 0 0] 186)
  have RR := hid (h.out.row.grown uL)
  have e0L := uL.c e0
  have OL := hid oL
  have UL := hid uL
  have FIN : ∀ (A9 : Option Addr) (c9 : Nat) (w9 : World), w9.ownsRow w.heap.size 186 2 (.slice A9 (1 + K) c9) (1 + K) ([.int .i64 (i : Int), .slice none 0 0] ++ D.flatMap dtC) → Up w w9 → (DocW (w9.setCell ⟨m, 0, none⟩ (.slice A9 (1 + K) c9)) base m n ((i, []) :: D.map dtT) ws ∧ Fr (DocB w base m) w (w9.setCell ⟨m, 0, none⟩ (.slice A9 (1 + K) c9))) := fun A9 c9 w9 ho hu => by
    have := (h.out.up hu).setNew (i := i) (K := 1 + K) (A' := A9) (c' := c9) (by have := HK.out; omega) (Rd.own ho) (fun b off e => by
      subst e
      obtain ⟨h1, cs, hb⟩ := own_obj0 ho rfl
      exact ⟨Nat.le_trans hbs.out h1, cs, hb⟩) (by obtain ⟨_, _, e9, h9⟩ := own_form ho; injection e9 with _ _ e9; omega)
    exact ⟨⟨_, _, _, this.1, rfl⟩, ((Fr.of_below hu).mono (fun _ e => e.elim)).trans' (this.2.mono fun k e => ⟨by rw [e]; exact h.out.low, .inl e⟩)⟩
  have HFIN := hid FIN
  clear FIN oL uL
  by_cases hk0 : K = 0
  · have K0 : ¬ (0 : Int) < K := by omega
    have HK0 := hid hk0
    clear hk0 hK
    go_enter Tryz.func126, Tryz.ntmps126
    go_wp2_with (at_builtin; refine hold ?_)
    refine hid (wl_append elemTk rfl (.tmp 53) (.tmp 57) rfl rfl OL.out rfl RR.out (by rw [flat_length dtC_len, HK.out]) (flat_one dtC_one _) (by have := KB.out; simp only [maxLen]; omega) (by have := KB.out; omega) UL.out.size ?_)
    intro A9 c9 w9 o9 g9 d9
    have u9 := below_append UL.out (Nat.le_refl _) UL.out.size OL.out g9
    have RES := hid (HFIN.out _ _ _ o9 u9)
    have f0 := (h.out.up u9).fz 0
    have e09 := (h.out.up u9).c0
    clear o9 g9 d9 u9
    go_wp2
    go_ret
    exact ⟨rfl, RES⟩
  · obtain ⟨d, r, hdr⟩ : ∃ d r, D = d :: r := by
      cases D with
      | nil => exact absurd hK.symm hk0
      | cons d r => exact ⟨d, r, rfl⟩
    have K0 : (0 : Int) < K := by omega
    have hd126 := hls.out d r hdr
    have hA := h.out
    rw [hdr] at hA
    obtain ⟨b, off, rfl, r0, r1, fb⟩ := hA.head
    obtain ⟨LN, hLN⟩ : ∃ k, d.ls.length = k := ⟨_, rfl⟩
    rw [hLN] at r1 hd126
    have hN2 : ¬ (LN : Int) < 126 := by omega
    clear hdr hA hK hk0 hd126 hLN
    go_enter Tryz.func126, Tryz.ntmps126
    go_wp2_with (at_builtin; refine hold ?_)
    refine hid (wl_append elemTk rfl (.tmp 53) (.tmp 57) rfl rfl OL.out rfl RR.out (by rw [flat_length dtC_len, HK.out]) (flat_one dtC_one _) (by have := KB.out; simp only [maxLen]; omega) (by have := KB.out; omega) UL.out.size ?_)
    intro A9 c9 w9 o9 g9 d9
    have u9 := below_append UL.out (Nat.le_refl _) UL.out.size OL.out g9
    have RES := hid (HFIN.out _ _ _ o9 u9)
    have f0 := (h.out.up u9).fz 0
    have e09 := (h.out.up u9).c0
    clear o9 g9 d9 u9
    go_wp2
    go_ret
    exact ⟨rfl, RES⟩
theorem dgive_calls (w : World) (base m n : Nat) (T : List Trk) (ws : List Value) (i : Nat) (h : Hid (DocW w base m n T ws)) (hi : Hid (2 ≤ i ∧ i ≤ n)) (hbs : Hid (base ≤ w.heap.size)) (hT : Hid ((allT T).length < 1000000)) (h126 : Hid (∀ t ∈ T, t.2.length ≤ 126)) :
    Calls Tryz.prog 126 #[.pointer (some ⟨m, 0, none⟩), .int .i64 i] w (DocStep w base m n (giveV T i) ws (.int .i64 0)) := by
  obtain ⟨D, A, c, hd, rfl⟩ := h.out
  have hlen : D.length ≤ (allT (D.map dtT)).length := by
    clear hT hd h hi h126
    induction D with
    | nil => simp
    | cons a r ih => rw [List.map_cons, allT_cons]; simp only [List.length_cons, List.length_append]; omega
  have hT' := hT.out
  match D, hd, hlen with
  | [], hd, _ => exact dgive2_calls w base m n [] ws A c i (hid hd) hi hbs (hid (by decide)) (hid (fun d r e => by cases e))
  | d :: r, hd, hlen =>
    have h1 : d.ls.length ≤ 126 := h126.out (dtT d) (by simp)
    by_cases hls : d.ls.length < 126
    · have et : giveV ((d :: r).map dtT) i = (d.page, d.ls ++ [i]) :: r.map dtT := if_pos hls
      rw [et]
      exact dgive1_calls w base m n d r ws A c i (hid hd) hi (hid hls)
    · have et : giveV ((d :: r).map dtT) i = (i, []) :: (d :: r).map dtT := if_neg hls
      rw [et]
      exact dgive2_calls w base m n (d :: r) ws A c i (hid hd) hi hbs (hid (by omega)) (hid (fun d' r' e => by injection e with e _; subst e; omega))
end Go.Proofs.YtbcghggkfnagoaaGreatDoor

namespace Go.Proofs.YtbcghggkfnagoaaGreatDoor
open Go Go.RowKit Go.Maps Hach

def DAllI (w wr : World) (D : List DT) (j k : Nat) (A : Option Addr) (c : Nat) : Prop := Up w wr ∧ wr.ownsRow w.heap.size 3 1 (.slice A k c) k ((allT ((D.take j).map dtT)).map natCell) ∧ k = (allT ((D.take j).map dtT)).length
def DAllRet (w : World) (T : List Trk) (en : Ending) (w' : World) : Prop := ∃ A c k, en = .returned (.slice A k c) ∧ Hid (k = (allT T).length ∧ OwnN w' w.heap.size A c (allT T) ∧ Up w w')
set_option maxRecDepth 100000 in
set_option maxHeartbeats 4000000 in
theorem dall_calls (w : World) (base m n : Nat) (D : List DT) (ws : List Value) (A : Option Addr) (c : Nat) (h : Hid (DocAt w base m n D ws A c)) (hT : Hid ((allT (D.map dtT)).length < 100000)) (hD : Hid (D.length < 100000)) :
    Calls Tryz.prog 57 #[.pointer (some ⟨m, 0, none⟩)] w (DAllRet w (D.map dtT)) := by
  have e0 := h.out.c0
  obtain ⟨K, hK⟩ : ∃ K, D.length = K := ⟨_, rfl⟩
  have HK := hid hK
  rw [hK] at e0
  clear hK
  go_enter Tryz.func57, Tryz.ntmps57
  go_wp2
  have START : Hid (DAllI w w D 0 0 none 0) := hid ⟨Up.refl w, own_nil _ _ _ _, rfl⟩
  go_loopw [3, 11] (fun lv iv wr => ∃ (j k : Nat) (A1 : Option Addr) (c1 : Nat), lv = .slice A1 k c1 ∧ iv = .int .i64 j ∧ j ≤ K ∧ Hid (DAllI w wr D j k A1 c1)) (fun _ iv _ => K - (intOf iv).toNat)
  case atStart => exact ⟨0, 0, none, 0, rfl, rfl, Nat.zero_le _, START⟩
  case round =>
    clear START
    obtain ⟨j, k, A1, c1, rfl, rfl, hj, iv⟩ := hrel
    by_cases hlt : (j : Int) < K
    · obtain ⟨d, hd⟩ : ∃ d, D[j]? = some d := ⟨_, List.getElem?_eq_getElem (by have := HK.out; omega)⟩
      have hA := h.out.up iv.out.1
      obtain ⟨b, off, rfl, hcells⟩ := hA.row.row (f := dtC) (k := 2) dtC_len hd (by decide)
      have x0 := hcells 0 _ rfl
      have x1 := hcells 1 _ rfl
      rw [Nat.add_zero] at x0
      rw [← Nat.add_assoc] at x1
      have JK : Hid (j < K ∧ K < 100000) := hid ⟨by omega, by have := HK.out; have := hD.out; omega⟩
      have HDm := hid (List.mem_of_getElem? hd)
      obtain ⟨P, hP⟩ : ∃ P, d.page = P := ⟨_, rfl⟩
      obtain ⟨N, hN⟩ : ∃ N, d.ls.length = N := ⟨_, rfl⟩
      have htk : D.take (j + 1) = D.take j ++ [d] := by rw [List.take_add_one, hd]; rfl
      have HTK : Hid (allT ((D.take (j + 1)).map dtT) = allT ((D.take j).map dtT) ++ (P :: d.ls)) := hid (by rw [htk, List.map_append, allT_app, ← hP]; congr 1; simp [allT, dtT])
      rw [hP] at x0
      rw [hN] at x1
      have HN := hid hN
      have TOT : Hid ((allT ((D.take (j + 1)).map dtT)).length ≤ (allT (D.map dtT)).length) := hid (by
        conv => rhs; rw [← List.take_append_drop (j + 1) D, List.map_append, allT_app, List.length_append]
        omega)
      have KN : Hid (k + 1 + N < 100000) := hid (by have h1 := TOT.out; rw [HTK.out, List.length_append, List.length_cons] at h1; have h2 := iv.out.2.2; have h3 := hT.out; omega)
      have IV := iv
      clear iv hd hcells htk hP hN hA hj
      obtain ⟨w1, hw1⟩ : ∃ w1, wr.alloc (.cells #[.int .i64 (P : Int), .slice d.B N d.k] 186) = w1 := ⟨_, rfl⟩
      obtain ⟨bx, hbx⟩ : ∃ b, wr.heap.size = b := ⟨_, rfl⟩
      have u1 : Up wr w1 := by rw [← hw1]; exact upAlD (Up.refl wr) _
      have hb1 : w1.heap[bx]? = some (.cells #[.int .i64 (P : Int), .slice d.B N d.k] 186 (0, 0)) := by rw [← hw1, ← hbx]; exact heap_alloc_new wr _
      have UW := hid (IV.out.1.t u1)
      have O0 := hid ((Fr.of_below u1).own IV.out.2.1 (fun _ _ e => e))
      have HB1 := hid hb1
      clear u1 hb1
      go_wp2
      have US : w1.drew.heap[bx]? = some (.cells #[.int .i64 (P : Int), .slice d.B N d.k] 186 (0, 0)) := HB1.out
      refine s_start (fun w9 => w9.heap[bx]? = some (.cells #[.int .i64 (P : Int), .slice d.B N d.k] 186 (0, 0))) (by kernel_rfl) ?_
      refine s_tk 0 15 (v := ?_) US (fun w9 hS => ?_) ?_
      rotate_left
      · go_simp <;> with_reducible rfl
      try simp only [pz]
      refine s_tk 1 16 (v := ?_) US (fun w9 hS => ?_) ?_
      rotate_left
      · go_simp <;> with_reducible rfl
      try simp only [pz]
      refine s_tk 2 17 (v := ?_) US (fun w9 hS => ?_) ?_
      rotate_left
      · have e9 : w9.cell? ⟨bx, 0, none⟩ = some (.int .i64 (P : Int)) := (by rw [cell_of_row _ _ _ _ _ _ hS]; rfl); go_simp <;> with_reducible rfl
      try simp only [pz]
      refine s_tk 5 20 (v := ?_) US (fun w9 hS => ?_) ?_
      rotate_left
      · go_simp <;> with_reducible rfl
      try simp only [pz]
      refine s_tk 6 21 (v := ?_) US (fun w9 hS => ?_) ?_
      rotate_left
      · have e9 : w9.cell? ⟨bx, 1, none⟩ = some (.slice d.B N d.k) := (by rw [cell_of_row _ _ _ _ _ _ hS]; rfl); go_simp <;> with_reducible rfl
      try simp only [pz]
      refine s_op 3 (by kernel_rfl) rfl (by rfl) (fun K9 hK9 => ?_)
      go_simp
      have O3 := hid (World.ownsRow.alloc (show w1.drew.ownsRow w.heap.size 3 1 (.slice A1 k c1) k _ from O0.out) (.cells #[.int .i64 (P : Int)] 3))
      have R3 : Hid (Rd (w1.drew.alloc (.cells #[.int .i64 (P : Int)] 3)) (some ⟨w1.heap.size, 0, none⟩) [.int .i64 (P : Int)]) := hid (Rd.new w1.drew 3 (0, 0) [.int .i64 (P : Int)])
      have U3 : Hid (Up w (w1.drew.alloc (.cells #[.int .i64 (P : Int)] 3))) := hid (UW.out.t ((Up.drew w1).t (upAlD (Up.refl _) _)))
      replace US : (w1.drew.alloc (.cells #[.int .i64 (P : Int)] 3)).heap[bx]? = some (.cells #[.int .i64 (P : Int), .slice d.B N d.k] 186 (0, 0)) := ((upAlD (Up.refl w1.drew) (.cells #[.int .i64 (P : Int)] 3)).block bx (blk_lt US)).trans US
      refine hK9.out _ _ US ?_
      clear hK9 K9
      try simp only [pz]
      refine s_op 4 (by kernel_rfl) rfl (by rfl) (fun K9 hK9 => ?_)
      show Oper.wp _ ⟨some 19, _, _, _, _, _⟩ _ _ _ _
      refine wp_append elemIN (.tmp 15) (.tmp 18) rfl rfl O3.out rfl R3.out rfl (by simp [Value.oneCell']) (by have := KN.out; simp only [maxLen]; omega) (by have := KN.out; omega) U3.out.size ?_
      intro A4 c4 w4 o9 g9 d9
      have U4 : Hid (Up w w4) := hid (below_append U3.out (Nat.le_refl _) U3.out.size O3.out g9)
      have f9 := Fr.of_grown g9
      replace US : w4.heap[bx]? = some (.cells #[.int .i64 (P : Int), .slice d.B N d.k] 186 (0, 0)) := (f9.block bx (blk_lt US) (fun e9 => by
        obtain ⟨cs9, fr9, h9⟩ := own_obj O3.out e9.symm
        rw [US] at h9; injection h9 with h9; injection h9 with _ h9 _; exact absurd h9 (by decide))).trans US
      have O4 := hid o9
      clear o9 g9 d9 f9
      refine hK9.out _ _ US ?_
      clear hK9 K9
      try simp only [pz]
      refine s_op 7 (by kernel_rfl) rfl (by rfl) (fun K9 hK9 => ?_)
      show Oper.wp _ ⟨some 22, _, _, _, _, _⟩ _ _ _ _
      refine wp_append elemIN (.tmp 19) (.tmp 21) rfl rfl O4.out rfl ((h.out.lvs d HDm.out).1.grown U4.out) (by rw [List.length_map, HN.out, Nat.mul_one]) (natCell_one _) (by have := KN.out; simp only [maxLen]; omega) (by have := KN.out; omega) U4.out.size ?_
      intro A5 c5 w5 o9 g9 d9
      have U5 : Hid (Up w w5) := hid (below_append U4.out (Nat.le_refl _) U4.out.size O4.out g9)
      have f9 := Fr.of_grown g9
      replace US : w5.heap[bx]? = some (.cells #[.int .i64 (P : Int), .slice d.B N d.k] 186 (0, 0)) := (f9.block bx (blk_lt US) (fun e9 => by
        obtain ⟨cs9, fr9, h9⟩ := own_obj O4.out e9.symm
        rw [US] at h9; injection h9 with h9; injection h9 with _ h9 _; exact absurd h9 (by decide))).trans US
      have O5 := hid o9
      clear o9 g9 d9 f9
      refine hK9.out _ _ US ?_
      clear hK9 K9
      try simp only [pz]
      refine s_tk 8 3 (v := ?_) US (fun w9 hS => ?_) ?_
      rotate_left
      · go_simp <;> with_reducible rfl
      try simp only [pz]
      refine s_done (by kernel_rfl) ?_
      have NEXT : Hid (DAllI w w5 D (j + 1) (k + 1 + N) A5 c5) := hid ⟨U5.out, by rw [HTK.out, List.map_append]; have h5 := O5.out; rw [List.append_assoc] at h5; exact h5, by rw [HTK.out, List.length_append, List.length_cons, HN.out, IV.out.2.2]; omega⟩
      clear US
      go_wp2
      go_roundw
      case rel => exact ⟨j + 1, _, _, _, rfl, by first | rfl | rw [wS (K := j + 1) (by have := JK.out; omega) rfl], JK.out.1, NEXT⟩
      case measure => have := JK.out; first | rw [wS (K := j + 1) (by omega) rfl] | skip
                      simp only [intOf]; omega
    · have ht : D.take j = D := List.take_of_length_le (by have := HK.out; omega)
      have RES : Hid (k = (allT (D.map dtT)).length ∧ OwnN wr w.heap.size A1 c1 (allT (D.map dtT)) ∧ Up w wr) := hid (by
        obtain ⟨a1, a2, a3⟩ := iv.out
        rw [ht] at a2 a3
        exact ⟨a3, by unfold OwnN; rw [← a3]; exact a2, a1⟩)
      clear iv ht
      go_wp2
      go_ret
      exact ⟨A1, c1, k, rfl, RES⟩
end Go.Proofs.YtbcghggkfnagoaaGreatDoor
