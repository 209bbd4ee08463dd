/- ARGUMENTS, opened: a crash, an act, a slice of acts (layer 4); light. -/
import Derived.Test.YtlikggeceeennaaDLw1
set_option linter.unusedVariables false
set_option linter.unusedSimpArgs false
namespace Go.Proofs.Ytlikggeceeennaa
open Go Go.RowKit Go.ChangeShapes Go.WideShapes Go.ChangeAt Go.Deep Go.Joins Hach

structure ActD where
  kind : Int
  file : Int
  at' : Int
  n : Int
  seed : UInt8
  KA : Option Addr
  kn : Nat
  kc : Nat
  torn : Int
def actDC (a : ActD) : List Value := [.int .i64 a.kind, .int .i64 a.file, .int .i64 a.at', .int .i64 a.n, .int .u8 (n8 a.seed), .slice a.KA a.kn a.kc, .int .i64 a.torn]
theorem actDC_length (a : ActD) : (actDC a).length = 7 := rfl
theorem c4_int : Try.prog.cellsOf 3 = 1 := by kernel_rfl
theorem c4_u8 : Try.prog.cellsOf 5 = 1 := by kernel_rfl
theorem c4_bo : Try.prog.cellsOf 4 = 1 := by kernel_rfl
theorem c4_bools : Try.prog.cellsOf 75 = 1 := by kernel_rfl
theorem c4_crash : Try.prog.cellsOf 77 = 2 := by kernel_rfl
theorem c4_act : Try.prog.cellsOf 84 = 7 := by kernel_rfl
def ActDW (a : ActD) : Prop := (Lit.int .i64 a.kind).wf = true ∧ (Lit.int .i64 a.file).wf = true ∧ (Lit.int .i64 a.at').wf = true ∧ (Lit.int .i64 a.n).wf = true ∧ (Lit.int .i64 a.torn).wf = true
section
variable {H : Type} {enc : TypeId × Value → H} {W : World} {base : Nat} {sp : Nat → Bool} {held : Bool}
theorem trod_slice_form {T E : TypeId} {fuel : Nat} {cs : List Value} {x : DataW H × List MemPlace} (hT : Try.prog.underlying T = some (.slice E)) (h : DataW.trod enc Try.prog W base sp held fuel T cs = some x) : ∃ A n c, cs = [.slice A n c] ∧ n ≤ c := by
  rcases open_slice hT h with ⟨rfl, _⟩ | ⟨x, l, c, m, n, D, Pl, hcs, _, hl, _⟩
  · exact ⟨none, 0, 0, rfl, Nat.le_refl _⟩
  · exact ⟨some x, l, c, hcs, hl⟩
theorem trod_struct6 {t : TypeId} {f0 f1 f2 f3 f4 f5 : Field} {fuel : Nat} {cs : List Value} {x : DataW H × List MemPlace} (ht : Try.prog.underlying t = some (.struct #[f0, f1, f2, f3, f4, f5])) (h : DataW.trod enc Try.prog W base sp held fuel t cs = some x) :
    ∃ y0 y1 y2 y3 y4 y5 n, cs.length = Try.prog.cellsOf t ∧ DataW.trod enc Try.prog W base sp held n f0.type ((cs.drop f0.offset).take (Try.prog.cellsOf f0.type)) = some y0 ∧ DataW.trod enc Try.prog W base sp held n f1.type ((cs.drop f1.offset).take (Try.prog.cellsOf f1.type)) = some y1 ∧ DataW.trod enc Try.prog W base sp held n f2.type ((cs.drop f2.offset).take (Try.prog.cellsOf f2.type)) = some y2 ∧ DataW.trod enc Try.prog W base sp held n f3.type ((cs.drop f3.offset).take (Try.prog.cellsOf f3.type)) = some y3 ∧ DataW.trod enc Try.prog W base sp held n f4.type ((cs.drop f4.offset).take (Try.prog.cellsOf f4.type)) = some y4 ∧ DataW.trod enc Try.prog W base sp held n f5.type ((cs.drop f5.offset).take (Try.prog.cellsOf f5.type)) = some y5 := by
  obtain ⟨xs, n, _, rfl, hl, hlen, hf⟩ := DataW.trod_struct ht h
  match xs, hlen with
  | [y0, y1, y2, y3, y4, y5], _ => exact ⟨y0, y1, y2, y3, y4, y5, n, hl, by simpa using hf 0 f0 rfl, by simpa using hf 1 f1 rfl, by simpa using hf 2 f2 rfl, by simpa using hf 3 f3 rfl, by simpa using hf 4 f4 rfl, by simpa using hf 5 f5 rfl⟩
set_option maxRecDepth 100000 in
theorem trod_actD {fuel : Nat} {cs : List Value} {x : DataW H × List MemPlace} (h : DataW.trod enc Try.prog W base sp held fuel 84 cs = some x) :
    ∃ a : ActD, cs = actDC a ∧ ActDW a := by
  obtain ⟨y0, y1, y2, y3, y4, y5, n, hl, h0, h1, h2, h3, h4, h5⟩ := trod_struct6 Try.underlying84 h
  rw [c4_act] at hl
  match cs, hl with
  | [a, b, c, d, e, f, g], _ =>
    simp only [c4_int, c4_u8, c4_crash, List.drop_zero, List.take_succ_cons, List.take_zero, List.drop_succ_cons] at h0 h1 h2 h3 h4 h5
    obtain ⟨z0, z1, n2, _, _, k0, k1⟩ := trod_struct2 Try.underlying77 h5
    simp only [c4_int, c4_bools, List.drop_zero, List.take_succ_cons, List.take_zero, List.drop_succ_cons] at k0 k1
    obtain ⟨p0, e0, _, w0⟩ := DataW.trod_int Try.underlying3 h0
    obtain ⟨p1, e1, _, w1⟩ := DataW.trod_int Try.underlying3 h1
    obtain ⟨p2, e2, _, w2⟩ := DataW.trod_int Try.underlying3 h2
    obtain ⟨p3, e3, _, w3⟩ := DataW.trod_int Try.underlying3 h3
    obtain ⟨p4, e4, _, w4⟩ := DataW.trod_int Try.underlying5 h4
    obtain ⟨bt, rfl⟩ := n8_of w4
    obtain ⟨KA, kn, kc, e5, _⟩ := trod_slice_form Try.underlying75 k0
    obtain ⟨p6, e6, _, w6⟩ := DataW.trod_int Try.underlying3 k1
    injection e0 with e0; injection e1 with e1; injection e2 with e2; injection e3 with e3; injection e4 with e4; injection e5 with e5; injection e6 with e6
    subst e0; subst e1; subst e2; subst e3; subst e4; subst e5; subst e6
    exact ⟨⟨p0, p1, p2, p3, bt, KA, kn, kc, p6⟩, rfl, w0, w1, w2, w3, w6⟩
set_option maxRecDepth 100000 in
theorem open_actD {b0 : Nat} {v : Value} {d : DataW H} {ps : List MemPlace} (hok : Value.okWide Try.prog W .any b0 84 v) (h : DataW.Trod enc Try.prog W base sp held 84 v d ps) :
    ∃ a : ActD, v = .agg (actDC a).toArray ∧ ActDW a := by
  obtain ⟨cs, rfl, _⟩ := okWide_struct Try.underlying84 hok
  obtain ⟨fuel, hf⟩ := h
  obtain ⟨a, e, hw⟩ := trod_actD hf
  refine ⟨a, ?_, hw⟩
  cases cs
  simp only [Value.cells] at e
  rw [e]
set_option maxRecDepth 100000 in
theorem open_actsD {b0 : Nat} {v : Value} {d : DataW H} {ps : List MemPlace} (hok : Value.okWide Try.prog W .any b0 74 v) (h : DataW.Trod enc Try.prog W base sp held 74 v d ps) :
    ∃ (A : Option Addr) (l : List ActD) (c : Nat), v = .slice A l.length c ∧ l.length ≤ 9223372036854775807 ∧ Rd W A (l.flatMap actDC) ∧ l.length ≤ c ∧ ∀ a ∈ l, ActDW a :=
  open_rows actDC ActDW 7 actDC_length (by decide) Try.underlying74 c4_act (fun h => trod_actD h) hok h
/-- A slice of rows of k cells, out of its own cell. -/
theorem open_rowsC {T E : TypeId} {A0 : Option Addr} {n0 c0 fuel : Nat} {x : DataW H × List MemPlace}
    {α : Type} (f : α → List Value) (Q : α → Prop) (k : Nat) (hk : ∀ a, (f a).length = k) (hk0 : 0 < k) (hT : Try.prog.underlying T = some (.slice E)) (hC : Try.prog.cellsOf E = k)
    (hE : ∀ {fuel : Nat} {cs : List Value} {x : DataW H × List MemPlace}, DataW.trod enc Try.prog W base sp held fuel E cs = some x → ∃ a, cs = f a ∧ Q a)
    (hf : DataW.trod enc Try.prog W base sp held fuel T [.slice A0 n0 c0] = some x) :
    ∃ l : List α, n0 = l.length ∧ l.length ≤ 9223372036854775807 ∧ Rd W A0 (l.flatMap f) ∧ l.length ≤ c0 ∧ ∀ a ∈ l, Q a := by
  rcases open_slice hT hf with ⟨hcs, _⟩ | ⟨x, l0, c1, m, n, D, Pl, hcs, _, hl, hm, hmm, _, hx⟩
  · simp at hcs
    obtain ⟨rfl, rfl, rfl⟩ := hcs
    exact ⟨[], rfl, by simp, Rd.nil _ _, Nat.le_refl _, by simp⟩
  · simp at hcs
    obtain ⟨rfl, rfl, rfl⟩ := hcs
    have hlm : n0 ≤ m := by rw [hmm]; split <;> omega
    have key : ∀ j, j ≤ n0 → ∃ l : List α, l.length = j ∧ (∀ a ∈ l, Q a) ∧ ∀ i u, (l.flatMap f)[i]? = some u → W.cell? (x.add i) = some u := by
      intro j
      induction j with
      | zero => intro _; exact ⟨[], rfl, by simp, fun i u hi => by simp at hi⟩
      | succ j ih =>
        intro hj
        obtain ⟨l, hlen, hq, hl'⟩ := ih (by omega)
        obtain ⟨cs', h1, h2⟩ := hx j (by omega)
        obtain ⟨a, rfl, hqa⟩ := hE h2
        rw [hC] at h1
        obtain ⟨_, _, hc⟩ := World.cells?_some h1
        refine ⟨l ++ [a], by rw [List.length_append, hlen]; rfl, ?_, ?_⟩
        · intro b hb
          rcases List.mem_append.1 hb with hb | hb
          · exact hq b hb
          · rw [List.mem_singleton.1 hb]; exact hqa
        intro i u hi
        have e : (l ++ [a]).flatMap f = l.flatMap f ++ f a := by rw [List.flatMap_append]; simp
        have hsl : (l.flatMap f).length = j * k := by rw [flat_length hk, hlen]
        rw [e] at hi
        by_cases hik : i < j * k
        · rw [List.getElem?_append_left (by omega)] at hi; exact hl' i u hi
        · rw [List.getElem?_append_right (by omega), hsl] at hi
          have h3 : i - j * k < k := by have := (List.getElem?_eq_some_iff.1 hi).1; rwa [hk] at this
          have := hc (i - j * k) h3
          rw [add_add, show j * k + (i - j * k) = i by omega] at this
          rw [this]; exact hi
    obtain ⟨l, hlen, hq, hl'⟩ := key n0 (Nat.le_refl _)
    refine ⟨l, hlen.symm, by unfold maxLen at hm; omega, ?_, by omega, hq⟩
    intro j u hj
    have h0 : ∃ u0, (l.flatMap f)[0]? = some u0 := by
      have : 0 < (l.flatMap f).length := by have := (List.getElem?_eq_some_iff.1 hj).1; omega
      exact ⟨_, List.getElem?_eq_getElem this⟩
    obtain ⟨u0, h0⟩ := h0
    obtain ⟨b, off, rfl⟩ := addr_plain (hl' 0 u0 h0)
    have := hl' j u hj
    rw [Hach.add_plain] at this
    exact ⟨b, off, rfl, this⟩
-- A crash: its row of bools is read.
set_option maxRecDepth 100000 in
theorem open_crash {b0 : Nat} {v : Value} {d : DataW H} {ps : List MemPlace} (hok : Value.okWide Try.prog W .any b0 77 v) (h : DataW.Trod enc Try.prog W base sp held 77 v d ps) :
    ∃ (A : Option Addr) (l : List Bool) (c : Nat) (torn : Int), v = .agg #[.slice A l.length c, .int .i64 torn] ∧ l.length ≤ 9223372036854775807 ∧ Rd W A (l.map .bool) ∧ l.length ≤ c ∧ (Lit.int .i64 torn).wf = true := by
  obtain ⟨cs, rfl, hsz⟩ := okWide_struct Try.underlying77 hok
  obtain ⟨c0, c1, rfl⟩ := array2 (hsz.trans c4_crash)
  obtain ⟨fuel, hf⟩ := h
  obtain ⟨z0, z1, n2, _, _, k0, k1⟩ := trod_struct2 Try.underlying77 hf
  simp only [Value.cells, c4_int, c4_bools, List.drop_zero, List.take_succ_cons, List.take_zero, List.drop_succ_cons] at k0 k1
  obtain ⟨p6, e6, _, w6⟩ := DataW.trod_int Try.underlying3 k1
  injection e6 with e6
  subst e6
  obtain ⟨A, n, c, e5, hnc⟩ := trod_slice_form Try.underlying75 k0
  injection e5 with e5
  subst e5
  obtain ⟨l, hln, h1, h2, h3, _⟩ := open_rowsC (fun b : Bool => [Value.bool b]) (fun _ => True) 1 (fun _ => rfl) (by decide) Try.underlying75 c4_bo (fun hh => by obtain ⟨s, e3, _⟩ := DataW.trod_bool Try.underlying4 hh; exact ⟨s, e3, trivial⟩) k0
  subst hln
  refine ⟨A, l, c, p6, rfl, h1, ?_, h3, w6⟩
  have key : ∀ q : List Bool, q.map Value.bool = q.flatMap fun b => [Value.bool b] := fun q => by
    induction q with
    | nil => rfl
    | cons x r ih => rw [List.map_cons, List.flatMap_cons, ih]; rfl
  rw [key l]
  exact h2
end
theorem actD_cells {w : World} {A : Option Addr} {l : List ActD} (h : Rd w A (l.flatMap actDC)) {k : Nat} (hk : k < l.length) : ∃ g off, A = some ⟨g, off, none⟩ ∧ g < w.heap.size ∧
    w.cell? ⟨g, off + k * 7, none⟩ = some (.int .i64 l[k].kind) ∧ w.cell? ⟨g, off + k * 7 + 1, none⟩ = some (.int .i64 l[k].file) ∧ w.cell? ⟨g, off + k * 7 + 2, none⟩ = some (.int .i64 l[k].at') ∧ w.cell? ⟨g, off + k * 7 + 3, none⟩ = some (.int .i64 l[k].n) ∧ w.cell? ⟨g, off + k * 7 + 4, none⟩ = some (.int .u8 (n8 l[k].seed)) ∧ w.cell? ⟨g, off + k * 7 + 5, none⟩ = some (.slice l[k].KA l[k].kn l[k].kc) ∧ w.cell? ⟨g, off + k * 7 + 6, none⟩ = some (.int .i64 l[k].torn) := by
  obtain ⟨g, off, rfl, h7⟩ := Rd.row actDC_length h (List.getElem?_eq_getElem hk) (by decide)
  have a0 := h7 0 _ rfl
  exact ⟨g, off, rfl, World.block_lt_of_cell? w _ a0, a0, h7 1 _ rfl, h7 2 _ rfl, h7 3 _ rfl, h7 4 _ rfl, h7 5 _ rfl, h7 6 _ rfl⟩
def lightV (l : List ActD) : Bool := decide (l.length ≤ 100) && l.all fun a => decide (a.kn ≤ 100)
set_option maxRecDepth 100000 in
set_option maxHeartbeats 2000000 in
theorem light_calls (w : World) (A : Option Addr) (l : List ActD) (c : Nat) (hl : Hid (l.length ≤ 9223372036854775807)) (hr : Hid (Rd w A (l.flatMap actDC))) :
    Calls Try.prog 42 #[.slice A l.length c] w fun en w' => en = .returned (.bool (lightV l)) ∧ Up w w' := by
  obtain ⟨n, hn⟩ : ∃ n, l.length = n := ⟨_, rfl⟩
  obtain ⟨r, hr'⟩ : ∃ r, lightV l = r := ⟨_, rfl⟩
  rw [hn, hr']
  have HN := hid hn
  have HV := hid hr'
  clear hn hr'
  by_cases hlen : (100 : Int) < (n : Int)
  · go_enter Try.func42, Try.ntmps42
    go_wp2
    go_ret
    refine ⟨?_, Up.refl _⟩
    have : r = false := by rw [← HV.out]; unfold lightV; rw [decide_eq_false (by have := HN.out; omega)]; rfl
    rw [this]; rfl
  have HLE := hid hlen
  go_enter Try.func42, Try.ntmps42
  go_wp2
  go_loopw [10] (fun i wr => ∃ k : Nat, k ≤ n ∧ i = .int .i64 k ∧ Hid (Up w wr ∧ (lightV l = ((l.drop k).all fun a => decide (a.kn ≤ 100))))) (fun i _ => n - (intOf i).toNat)
  case atStart => exact ⟨0, Nat.zero_le _, rfl, hid ⟨Up.refl _, by unfold lightV; rw [decide_eq_true (by have := HN.out; have := HLE.out; omega)]; rfl⟩⟩
  case round =>
    obtain ⟨k, hk, rfl, iv⟩ := hrel
    by_cases hlt : (k : Int) < n
    · have hkl : k < l.length := by have := HN.out; omega
      obtain ⟨u, hv⟩ := iv.out
      obtain ⟨g, off, rfl, hg, q0, q1, q2, q3, q4, q5, q6⟩ := actD_cells hr.out hkl
      rw [List.drop_eq_getElem_cons hkl, List.all_cons] at hv
      generalize l[k] = a at *
      have c0 := u.c q0
      have c1 := u.c q1
      have c2 := u.c q2
      have c3 := u.c q3
      have c4 := u.c q4
      have c5 := u.c q5
      have c6 := u.c q6
      have U := hid u
      have HVV := hid hv
      have HK := hid (And.intro hkl hlt)
      clear iv u hv q0 q1 q2 q3 q4 q5 q6 hg hkl
      by_cases hkn : (100 : Int) < (a.kn : Int)
      · go_wp2
        go_ret
        refine ⟨?_, U.out.t (upAlD (Up.refl _) _)⟩
        have : r = false := by rw [← HV.out, HVV.out, decide_eq_false (by omega)]; rfl
        rw [this]; rfl
      · have HKN := hid hkn
        go_wp2
        go_roundw
        case rel => exact ⟨k + 1, by have := HK.out.2; omega, rfl, hid ⟨U.out.t (upAlD (Up.refl _) _), by rw [HVV.out, decide_eq_true (by have := HKN.out; omega), Bool.true_and]⟩⟩
        case measure => have := HLE.out; have := HK.out.2; simp only [intOf]; omega
    · have I := iv
      clear iv
      go_wp2
      go_ret
      refine ⟨?_, I.out.1⟩
      have : r = true := by rw [← HV.out, I.out.2, List.drop_eq_nil_of_le (by have := HN.out; omega)]; rfl
      rw [this]; rfl
end Go.Proofs.Ytlikggeceeennaa
