/- THE WALK of Clear. -/
import Derived.Test.YtlikggeceeennaaCac23
set_option linter.unusedVariables false
set_option linter.unusedSimpArgs false
namespace Go.Proofs.Ytlikggeceeennaa
open Go Go.RowKit Hach

def keeps (x : Ent) : Bool := !(x.pins == 0)
/-- Behind some entries of Clear's row. -/
def ClearI (W0 wr : World) (base g : Nat) (room : Int) (mp r : Nat) (hits miss : Int) (b1 b2 : Nat) (es done rest : List Ent) : Prop :=
  ∃ pre, pre ++ rest = es ∧ done = pre.filter keeps ∧ CacheAt wr base g room mp r hits miss (done ++ rest) ∧ Fr (CacheS W0 g mp) W0 wr ∧ Below base W0 wr ∧
    wr.heap[b1]? = some (.cells #[ptr g] 26 (0, 0)) ∧ wr.heap[b2]? = some (.cells #[.int .i64 ((pre.length : Int) - done.length)] 3 (0, 0)) ∧ W0.heap.size ≤ b2 ∧ b1 ≠ b2
set_option maxRecDepth 100000 in
set_option maxHeartbeats 1000000 in
theorem clear1_calls (W0 wr : World) (base g : Nat) (room : Int) (mp r : Nat) (hits miss : Int) (b1 b2 : Nat) (es done rest : List Ent) (x : Ent) (iv : ClearI W0 wr base g room mp r hits miss b1 b2 es done (x :: rest)) (hl : es.length < 1000000) (hbs : base ≤ W0.heap.size) :
    Calls Try.prog 99 (#[ptr x.blk] ++ #[ptr b1, ptr b2]) wr fun en w' => en = .returned (.bool true) ∧ Hid (∃ done', ClearI W0 w' base g room mp r hits miss b1 b2 es done' rest) := by
  obtain ⟨pre, hpre, hdone, ca, fr, bl, k1, k2, hb2, hb12⟩ := iv
  have cnt : (done.length : Int) ≤ pre.length := by rw [hdone]; have := List.length_filter_le keeps pre; omega
  have len : pre.length < 1000000 := by rw [← hpre, List.length_append] at hl; omega
  have h2 := (ca.ents x (by simp)).2.2.2.1
  have c1 := (cell_one k1).1
  cases hz : (x.pins == 0) with
  | false =>
    have key : Hid (∃ done', ClearI W0 wr base g room mp r hits miss b1 b2 es done' rest) := by
      refine hid ⟨done ++ [x], pre ++ [x], by rw [List.append_assoc]; exact hpre, ?_, by rw [List.append_assoc]; exact ca, fr, bl, k1, ?_, hb2, hb12⟩
      · have hk : keeps x = true := by unfold keeps; rw [hz]; rfl
        rw [List.filter_append, ← hdone, List.filter_cons_of_pos hk]; rfl
      · rw [k2]; simp only [List.length_append, List.length_cons, List.length_nil]
        rw [show ((pre.length + (0 + 1) : Nat) : Int) - ((done.length + (0 + 1) : Nat) : Int) = (pre.length : Int) - done.length by omega]
    clear k1 k2 fr bl ca hpre hdone
    unfold ptr
    show Calls _ _ #[.pointer (some ⟨x.blk, 0, none⟩), .pointer (some ⟨b1, 0, none⟩), .pointer (some ⟨b2, 0, none⟩)] wr _
    go_enter Try.func99, Try.ntmps99
    go_wp2
    go_ret
    exact ⟨rfl, key⟩
  | true =>
    have nE2 := not_ent k2
    have nE1 := not_ent k1
    have nm2 := not_mp k2 ca.map
    have nm1 := not_mp k1 ca.map
    have CA := hid ca
    have HK1 := hid k1
    have HK2 := hid k2
    have HZ := hid hz
    have HF := hid (And.intro fr bl)
    have HP := hid (And.intro hpre hdone)
    have HN := hid (And.intro nE1 (And.intro nE2 (And.intro nm1 nm2)))
    have HC := hid (And.intro cnt len)
    clear ca k1 k2 fr bl hpre hdone nE1 nE2 nm1 nm2 cnt len
    unfold ptr at c1 ⊢
    show Calls _ _ #[.pointer (some ⟨x.blk, 0, none⟩), .pointer (some ⟨b1, 0, none⟩), .pointer (some ⟨b2, 0, none⟩)] wr _
    go_enter Try.func99, Try.ntmps99
    go_wp2_with fail
    refine (gone_calls wr base g room mp r hits miss done rest x CA).mono ?_
    rintro en w2 ⟨rfl, hh⟩
    obtain ⟨ca2, f2, b2'⟩ := hh.out
    obtain ⟨nE1, nE2, nm1, nm2⟩ := HN.out
    have j1 : w2.heap[b1]? = _ := (f2.block b1 (Array.getElem?_eq_some_iff.1 HK1.out).1 (by rintro (e | e); exact nm1 e; exact nE1 e)).trans HK1.out
    have j2 : w2.heap[b2]? = _ := (f2.block b2 (Array.getElem?_eq_some_iff.1 HK2.out).1 (by rintro (e | e); exact nm2 e; exact nE2 e)).trans HK2.out
    have c2 := (cell_one j2).1
    have fz := (cell_one j2).2
    have ng2 := not_g j2 ca2.own
    have nr2 := not_ent j2
    have nmm2 := not_mp j2 ca2.map
    obtain ⟨nn, hnn⟩ : ∃ n : Int, (pre.length : Int) - done.length = n := ⟨_, rfl⟩
    have hw : IntKind.i64.wrap (nn + 1) = nn + 1 := by
      have := HC.out.1; have := HC.out.2
      rw [IntKind.wrap_i64]; omega
    have key : Hid (∃ done', ClearI W0 (w2.setCell ⟨b2, 0, none⟩ (.int .i64 (nn + 1))) base g room mp r hits miss b1 b2 es done' rest) := by
      have f5 : Fr (fun k => k = b2) w2 (w2.setCell ⟨b2, 0, none⟩ (.int .i64 (nn + 1))) := (Fr.refl (fun k => k = b2) w2).setCell (p := ⟨b2, 0, none⟩) (fun _ => rfl) _
      refine hid ⟨done, pre ++ [x], by rw [List.append_assoc]; exact HP.out.1, ?_, ?_, ?_, ?_, ?_, ?_, hb2, hb12⟩
      · have hk : ¬ keeps x = true := by unfold keeps; rw [HZ.out]; decide
        rw [List.filter_append, ← HP.out.2, List.filter_cons_of_neg hk]; simp
      · refine ca2.apart f5 (fun k hk hlt => ?_)
        subst hk
        refine ⟨ng2, nmm2, nr2, fun cs fr e => ?_⟩
        rw [j2] at e
        injection e with e; injection e with _ e _
        revert e; decide
      · refine (frS_trans HF.out.1 (frS_E f2)).trans f5 (fun i hi hk => ?_)
        subst hk
        omega
      · exact (HF.out.2.trans b2').setCell (p := ⟨b2, 0, none⟩) (Nat.le_trans hbs hb2) _
      · rw [Below.heap_setCell _ _ _ _ (fun h => hb12 h)]; exact j1
      · rw [heap_setCell_same _ b2 0 _ _ _ j2, ← hnn]
        simp only [List.length_append, List.length_cons, List.length_nil]
        rw [show ((pre.length + (0 + 1) : Nat) : Int) - (done.length : Int) = (pre.length : Int) - done.length + 1 by omega]; rfl
    rw [hnn] at c2
    have HNN := hid hnn
    clear j1 j2 ca2 f2 b2' hh hnn
    go_wp2
    go_ret
    exact ⟨rfl, key⟩
theorem entersClear (args : Array Value) (w : World) : (callFunc 99 args).run Try.prog w = .ok (.enter 99 args) w := by go_simp

def clearV (V : List Vis) : List Vis := V.filter fun v => !(v.2.2.1 == 0)
set_option maxRecDepth 100000 in
set_option maxHeartbeats 1000000 in
theorem clearM_calls (w : World) (base g mp : Nat) (room hits miss : Int) (V : List Vis) (h : Hid (CacheM w base g mp room hits miss V)) (hl : Hid (V.length < 1000000)) :
    Calls Try.prog 41 #[ptr g] w (StepM w base g mp room hits miss (clearV V) (.int .i64 ((V.length : Int) - (clearV V).length))) := by
  obtain ⟨r, es, h1, rfl⟩ := h.out
  have c2 := h1.own.c2
  have hl' : es.length < 1000000 := by have := hl.out; rwa [List.length_map] at this
  have u2 : Up w ((w.alloc (.cells #[.pointer (some ⟨g, 0, none⟩)] 26)).alloc (.cells #[.int .i64 0] 3)) := ((Below.refl _ _).alloc (Nat.le_refl _) _).alloc (by simp) _
  have k1 : ((w.alloc (.cells #[.pointer (some ⟨g, 0, none⟩)] 26)).alloc (.cells #[.int .i64 0] 3)).heap[w.heap.size]? = some (.cells #[.pointer (some ⟨g, 0, none⟩)] 26 (0, 0)) := by
    rw [Below.heap_alloc _ _ _ (by simp)]; exact heap_alloc_new w _
  have k2 : ((w.alloc (.cells #[.pointer (some ⟨g, 0, none⟩)] 26)).alloc (.cells #[.int .i64 0] 3)).heap[w.heap.size + 1]? = some (.cells #[.int .i64 0] 3 (0, 0)) := by
    have := heap_alloc_new (w.alloc (.cells #[.pointer (some ⟨g, 0, none⟩)] 26)) (.cells #[.int .i64 0] 3)
    simpa using this
  have c2' := u2.c c2
  have ST : Hid (ClearI w ((w.alloc (.cells #[.pointer (some ⟨g, 0, none⟩)] 26)).alloc (.cells #[.int .i64 0] 3)) base g room mp r hits miss w.heap.size (w.heap.size + 1) es [] es) :=
    hid ⟨[], rfl, rfl, h1.up u2, frS_up u2, u2.mono (CacheM.bs ⟨r, es, h1, rfl⟩), k1, k2, by omega, by omega⟩
  have BS := hid h.out.bs
  clear c2 u2 k1 k2 h1
  unfold ptr at c2' ⊢
  go_enter Try.func41, Try.ntmps41
  go_wp2_with (go_at_call 60; refine (made_calls _ g r c2').mono ?_; rintro e w' ⟨rfl, rfl⟩)
  refine (rowAll_calls 99 #[ptr w.heap.size, ptr (w.heap.size + 1)] _ base g room mp r hits miss es (fun wr done rest => ClearI w wr base g room mp r hits miss w.heap.size (w.heap.size + 1) es done rest)
    (hid (fun wr done rest iv => by obtain ⟨_, _, _, ca, _⟩ := iv; exact ca)) (hid (fun wr done x rest iv => clear1_calls w wr base g room mp r hits miss w.heap.size (w.heap.size + 1) es done rest x iv hl' BS.out)) entersClear ST).mono ?_
  rintro en w3 ⟨rfl, hh⟩
  obtain ⟨done, pre, e, hd, ca, fr, bl, j1, j2, _, _⟩ := hh.out
  rw [List.append_nil] at e ca
  subst e
  have ev : (pre.filter keeps).map vis = clearV (pre.map vis) := by unfold clearV; rw [List.filter_map]; rfl
  have c5 := (cell_one j2).1
  have CM : Hid (CacheM w3 base g mp room hits miss (clearV (pre.map vis)) ∧ Below base w w3 ∧ Fr (CacheS w g mp) w w3) := hid ⟨⟨r, done, ca, by rw [hd, ev]⟩, bl, fr⟩
  have en : ((pre.length : Int) - done.length) = (((pre.map vis).length : Int) - (clearV (pre.map vis)).length) := by rw [← ev, hd, List.length_map, List.length_map]
  rw [en] at c5
  have EN := hid en
  clear ca fr bl j1 j2 hh ST c2' en ev hd
  go_wp2
  go_ret
  exact ⟨by rw [List.length_map]; rfl, CM⟩
end Go.Proofs.Ytlikggeceeennaa
