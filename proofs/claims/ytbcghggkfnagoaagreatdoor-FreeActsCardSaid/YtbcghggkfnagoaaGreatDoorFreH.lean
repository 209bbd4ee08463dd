/- THE WALK of free's Count. THE WALKS of free's Word and Set, and Count in the document's words. -/
import Derived.Test.YtbcghggkfnagoaaGreatDoorFre6
import Derived.Test.YtbcghggkfnagoaaGreatDoorFreE
set_option linter.unusedVariables false
set_option linter.unusedSimpArgs false
namespace Go.Proofs.YtbcghggkfnagoaaGreatDoor
open Go Go.RowKit Go.Maps Hach

set_option maxRecDepth 100000 in
set_option maxHeartbeats 2000000 in
theorem hcount_calls (w : World) (h p t m : Nat) (q : PgN) (mv : Value) (last : Int) (n : Nat) (L : PgL) (hh : Hid (HeapP w h p q t m mv last n L)) (hn : Hid (1 ≤ n ∧ n ≤ 4000)) (x : PgX) (hx : Hid (gget L 1 = some x)) :
    Calls Tryz.prog 56 #[.pointer (some ⟨h, 0, none⟩)] w fun en w' => en = .returned (.tuple #[.int .i64 (pgGet x.bs 12 4), .int .i64 0]) ∧ Hid (Up w w') := by
  have p12 := pg4 x.bs 12
  obtain ⟨C, hC⟩ : ∃ k, pgGet x.bs 12 4 = k := ⟨_, rfl⟩
  rw [hC] at p12 ⊢
  go_enter Tryz.func56, Tryz.ntmps56
  go_wp2_with (go_at_call 66; refine (hroot_calls w h p t m q mv last n L hh (hid (by have := hn.out; omega)) x hx).mono ?_; rintro en w2 ⟨g, c, rfl, hr⟩)
  have C12 := fget_calls w2 g c x.bs 512 12 4 (hid hr.out.2.2.1) (hid ⟨by decide, by decide, by decide, by decide, hr.out.2.2.2.1⟩) (hid hr.out.1.bytes)
  rw [hC, p12] at C12
  have UR := hid hr.out.2.1
  clear hr
  refine C12.mono ?_
  rintro en w3 ⟨rfl, hw⟩
  obtain rfl := hw.symm
  clear hw
  go_wp2
  go_ret2
  exact ⟨rfl, UR⟩
end Go.Proofs.YtbcghggkfnagoaaGreatDoor

namespace Go.Proofs.YtbcghggkfnagoaaGreatDoor
open Go Go.RowKit Go.Maps Hach

theorem w64p {k : Int} (h : 0 ≤ k ∧ k < 9223372036854775808) : wrap64 k = k := by unfold wrap64; omega
theorem p256_8 : (256 : Nat) ^ 8 = 18446744073709551616 := by decide
theorem be8_len (k : Nat) : (Oct.be k 8).length = 8 := Oct.be_length k 8
def updW (W : Nat → Int) (i : Nat) (N : Int) : Nat → Int := fun j => if j = i then N else W j
theorem RootB.word' {b : List UInt8} {f c : Nat} {W : Nat → Int} (h : RootB b f c W) (hb : b.length = 512) {i V : Nat} {N : Int} (hi : i < 60) (hV : V < 18446744073709551616) (hN : wrap64 (V : Int) = N) : RootB (mkPut b (16 + i * 8) (Oct.be V 8)) f c (updW W i N) := by
  have o : ∀ {j s : Nat}, j + s ≤ 16 + i * 8 ∨ 16 + i * 8 + 8 ≤ j → pgGet (mkPut b (16 + i * 8) (Oct.be V 8)) j s = pgGet b j s := fun h => pg_other (by rw [be8_len]; omega) (by rw [be8_len]; exact h)
  refine ⟨(o (.inl (by omega))).trans h.first, (o (.inl (by omega))).trans h.count, fun j hj => ?_, ?_⟩
  · unfold updW
    by_cases e : j = i
    · subst e
      rw [if_pos rfl, pg_same (by omega) (by rw [p256_8]; exact hV)]
      exact hN
    · rw [if_neg e, o (by omega)]
      exact h.words j hj
  · have : (mkPut b (16 + i * 8) (Oct.be V 8)).take 8 = b.take 8 := by
      apply List.ext_getElem?
      intro k
      rw [List.getElem?_take, List.getElem?_take]
      by_cases hk : k < 8
      · rw [if_pos hk, if_pos hk, mkPut_get (by rw [be8_len]; omega), if_pos (by omega)]
      · rw [if_neg hk, if_neg hk]
    exact this.trans h.magic
theorem HeapS.root' {L : PgL} {n : Nat} {T : List Trk} {W W' : Nat → Int} {U : Nat → List UInt8} (h : HeapS L n T W U) {b : List UInt8} (hb : b.length = 512) (hr : RootB b (headT T) (allT T).length W') (g c : Nat) : HeapS (gput L (1 : Nat) ⟨g, c, b⟩) n T W' U := by
  have h1 : 1 ∉ allT T := fun e => by have := h.inn 1 e; omega
  refine ⟨h.keys.put ⟨by omega, h.one⟩ _, gput_lens h.lens hb, h.one, ⟨⟨g, c, b⟩, by rw [gget_put, if_pos rfl], hr⟩, h.chain.put _ h1, h.nodup, h.inn, fun i h2 hi hn => ?_, full_put h.full⟩
  rw [gget_put, if_neg (by omega)]
  exact h.used i h2 hi hn
theorem countH_calls (w : World) (X : HpX) (n : Nat) (T : List Trk) (W : Nat → Int) (U : Nat → List UInt8) (hh : Hid (HeapW w X n T W U)) (hn : Hid (n ≤ 4000)) :
    Calls Tryz.prog 56 #[.pointer (some ⟨X.h, 0, none⟩)] w fun en w' => en = .returned (.tuple #[.int .i64 (allT T).length, .int .i64 0]) ∧ Hid (Up w w') := by
  obtain ⟨L, hp, hs⟩ := hh.out
  obtain ⟨x, hx, hr⟩ := hs.root
  have := hcount_calls w X.h X.p X.t X.m X.q X.mv X.last n L (hid hp) (hid ⟨hs.one, hn.out⟩) x (hid hx)
  rw [hr.count] at this
  exact this
theorem i64_of_u64 {N : Int} (h : (Lit.int .i64 N).wf = true) : ∃ V : Nat, IntKind.u64.wrap N = (V : Int) ∧ V < 18446744073709551616 ∧ wrap64 (V : Int) = N := by
  have hb := bounds_i64 h
  refine ⟨(N % 18446744073709551616).toNat, ?_, by omega, ?_⟩
  · rw [IntKind.wrap_u64]; omega
  · unfold wrap64; omega
section
variable (w : World) (X : HpX) (n : Nat) (T : List Trk) (W : Nat → Int) (U : Nat → List UInt8)
set_option maxRecDepth 100000 in
set_option maxHeartbeats 2000000 in
theorem wordBad_calls (i : Int) (hh : Hid (HeapW w X n T W U)) (hn : Hid (n ≤ 4000)) (hi : Hid (i < 0 ∨ 60 ≤ i)) :
    Calls Tryz.prog 61 #[.pointer (some ⟨X.h, 0, none⟩), .int .i64 i] w fun en w' => en = .returned (.tuple #[.int .i64 0, .int .i64 11]) ∧ Hid (Up w w') := by
  obtain ⟨L, hp, hs⟩ := hh.out
  have h1 := hid hs.one
  obtain ⟨x, hx, hr⟩ := hs.root
  obtain ⟨h, p, t, m, q, mv, last⟩ := X
  have HP := hid hp
  have HX := hid hx
  simp only at HP
  clear hp hx hs hr hh
  show Calls _ _ #[.pointer (some ⟨h, 0, none⟩), _] _ _
  by_cases hi1 : i < 0
  · go_enter Tryz.func61, Tryz.ntmps61
    go_wp2_with (go_at_call 66; refine (hroot_calls w h p t m q mv last n L HP (hid (by have := hn.out; have := h1.out; omega)) x HX).mono ?_; rintro en w2 ⟨g, c, rfl, hr⟩)
    go_ret2
    exact ⟨rfl, hid hr.out.2.1⟩
  · have hi2 : 60 ≤ i := hi.out.resolve_left hi1
    go_enter Tryz.func61, Tryz.ntmps61
    go_wp2_with (go_at_call 66; refine (hroot_calls w h p t m q mv last n L HP (hid (by have := hn.out; have := h1.out; omega)) x HX).mono ?_; rintro en w2 ⟨g, c, rfl, hr⟩)
    go_ret2
    exact ⟨rfl, hid hr.out.2.1⟩
set_option maxRecDepth 100000 in
set_option maxHeartbeats 2000000 in
theorem word_calls (i : Nat) (hh : Hid (HeapW w X n T W U)) (hn : Hid (n ≤ 4000)) (hi : Hid (i < 60)) :
    Calls Tryz.prog 61 #[.pointer (some ⟨X.h, 0, none⟩), .int .i64 i] w fun en w' => en = .returned (.tuple #[.int .i64 (W i), .int .i64 0]) ∧ Hid (Up w w') := by
  obtain ⟨L, hp, hs⟩ := hh.out
  have h1 := hid hs.one
  obtain ⟨x, hx, hr⟩ := hs.root
  obtain ⟨h, p, t, m, q, mv, last⟩ := X
  have HP := hid hp
  have HX := hid hx
  have HW := hid (hr.words i hi.out)
  have HLX := hid (hs.lens _ (gget_mem hx))
  simp only at HP
  have i0 : ¬ (i : Int) < 0 := by omega
  have i60 : ¬ 60 ≤ (i : Int) := by have := hi.out; omega
  have EW : Hid (wrap64 (16 + wrap64 ((i : Int) * 8)) = ((16 + i * 8 : Nat) : Int)) := hid (by have := hi.out; rw [w64p (k := (i : Int) * 8) (by omega), w64p (by omega)]; omega)
  have EW2 : Hid (16 + (i : Int) * 8 = ((16 + i * 8 : Nat) : Int)) := hid (by omega)
  clear hp hx hs hr hh
  show Calls _ _ #[.pointer (some ⟨h, 0, none⟩), _] _ _
  go_enter Tryz.func61, Tryz.ntmps61
  go_wp2_with (go_at_call 66; refine (hroot_calls w h p t m q mv last n L HP (hid (by have := hn.out; have := h1.out; omega)) x HX).mono ?_; rintro en w2 ⟨g, c, rfl, hr⟩)
  have CG := fget_calls w2 g c x.bs 512 (16 + i * 8) 8 (hid HLX.out) (hid ⟨by have := hi.out; omega, by decide, by decide, by decide, hr.out.2.2.2.1⟩) (hid hr.out.1.bytes)
  rw [HW.out] at CG
  have UR := hid hr.out.2.1
  clear hr
  first | rw [EW.out] | rw [EW2.out]
  refine CG.mono ?_
  rintro en w3 ⟨rfl, hw⟩
  obtain rfl := hw.symm
  clear hw CG
  go_wp2
  go_ret2
  exact ⟨rfl, UR⟩
set_option maxRecDepth 100000 in
set_option maxHeartbeats 2000000 in
theorem setBad_calls (i N : Int) (hh : Hid (HeapW w X n T W U)) (hn : Hid (n ≤ 4000)) (hi : Hid (i < 0 ∨ 60 ≤ i)) :
    Calls Tryz.prog 62 #[.pointer (some ⟨X.h, 0, none⟩), .int .i64 i, .int .i64 N] w fun en w' => en = .returned (.int .i64 11) ∧ Hid (Up w w') := by
  obtain ⟨L, hp, hs⟩ := hh.out
  have h1 := hid hs.one
  obtain ⟨x, hx, hr⟩ := hs.root
  obtain ⟨h, p, t, m, q, mv, last⟩ := X
  have HP := hid hp
  have HX := hid hx
  simp only at HP
  clear hp hx hs hr hh
  show Calls _ _ #[.pointer (some ⟨h, 0, none⟩), _, _] _ _
  by_cases hi1 : i < 0
  · go_enter Tryz.func62, Tryz.ntmps62
    go_wp2_with (go_at_call 66; refine (hroot_calls w h p t m q mv last n L HP (hid (by have := hn.out; have := h1.out; omega)) x HX).mono ?_; rintro en w2 ⟨g, c, rfl, hr⟩)
    go_ret
    exact ⟨rfl, hid hr.out.2.1⟩
  · have hi2 : 60 ≤ i := hi.out.resolve_left hi1
    go_enter Tryz.func62, Tryz.ntmps62
    go_wp2_with (go_at_call 66; refine (hroot_calls w h p t m q mv last n L HP (hid (by have := hn.out; have := h1.out; omega)) x HX).mono ?_; rintro en w2 ⟨g, c, rfl, hr⟩)
    go_ret
    exact ⟨rfl, hid hr.out.2.1⟩
set_option maxRecDepth 100000 in
set_option maxHeartbeats 2000000 in
theorem set_calls (i : Nat) (N : Int) (hh : Hid (HeapW w X n T W U)) (hn : Hid (n ≤ 4000)) (hi : Hid (i < 60)) (hN : Hid ((Lit.int .i64 N).wf = true)) :
    Calls Tryz.prog 62 #[.pointer (some ⟨X.h, 0, none⟩), .int .i64 i, .int .i64 N] w fun en w' => en = .returned (.int .i64 0) ∧ Hid (HeapW w' X n T (updW W i N) U ∧ Fr (HpS X) w w') := by
  obtain ⟨L, hp, hs⟩ := hh.out
  obtain ⟨V, hV1, hV2, hV3⟩ := i64_of_u64 hN.out
  have h1 := hid hs.one
  have HLL : Hid (L.length < 1000000) := hid (by have := hs.keys.len; have := hn.out; omega)
  obtain ⟨x, hx, hr⟩ := hs.root
  have HLX := hid (hs.lens _ (gget_mem hx))
  have lx : x.bs.length = 512 := HLX.out
  have ROOT : Hid (∀ g c, HeapS (gput L (1 : Nat) ⟨g, c, mkPut x.bs (16 + i * 8) (Oct.be V 8)⟩) n T (updW W i N) U) := hid (fun g c => hs.root' (by rw [mkPut_length (by rw [be8_len]; have := hi.out; omega)]; exact lx) (hr.word' lx hi.out hV2 hV3) g c)
  have ML : Hid ((mkPut x.bs (16 + i * 8) (Oct.be V 8)).length = 512) := hid (by rw [mkPut_length (by rw [be8_len]; have := hi.out; omega)]; exact lx)
  have V1 := hid hV1
  have V2 : Hid (V < 18446744073709551616) := hid hV2
  unfold HeapW HpS
  obtain ⟨h, p, t, m, q, mv, last⟩ := X
  have HP := hid hp
  have HX := hid hx
  simp only at HP
  have i0 : ¬ (i : Int) < 0 := by omega
  have i60 : ¬ 60 ≤ (i : Int) := by have := hi.out; omega
  have EW : Hid (wrap64 (16 + wrap64 ((i : Int) * 8)) = ((16 + i * 8 : Nat) : Int)) := hid (by have := hi.out; rw [w64p (k := (i : Int) * 8) (by omega), w64p (by omega)]; omega)
  have EW2 : Hid (16 + (i : Int) * 8 = ((16 + i * 8 : Nat) : Int)) := hid (by omega)
  clear hp hx hs hr hh hV1 hV2 hV3 lx
  show Calls _ _ #[.pointer (some ⟨h, 0, none⟩), _, _] _ _
  simp only
  go_enter Tryz.func62, Tryz.ntmps62
  go_wp2_with (go_at_call 66; refine (hroot_calls w h p t m q mv last n L HP (hid (by have := hn.out; have := h1.out; omega)) x HX).mono ?_; rintro en w2 ⟨g, c, rfl, hr⟩)
  have UR := hid hr.out.2.1
  have HP2 := hid (HP.out.up hr.out.2.1)
  have GR : Hid (w.heap.size ≤ g) := hid hr.out.2.2.2.2
  have CS := fset_calls w2 w.heap.size g c x.bs 512 (16 + i * 8) 8 N V V1 (hid (by have := V2.out; omega)) HLX (hid ⟨by have := hi.out; omega, by decide, by decide, by decide, hr.out.2.2.2.1⟩) (hid hr.out.1)
  clear hr
  first | rw [EW.out] | rw [EW2.out]
  refine CS.mono ?_
  rintro en w3 ⟨rfl, hr⟩
  have U3 : Hid (Up w w3) := hid (UR.out.trans (hr.out.2.below UR.out.size (fun k hk e => by have := GR.out; omega)))
  have HP3 := hid (HP.out.up U3.out)
  have B3 := hid hr.out.1.bytes
  clear hr CS HP2
  have e30 := HP3.out.cell
  go_wp2_with fail
  refine (pput_calls w3 p t m q mv last n L (hid HP3.out.tran) 1 (hid (by have := hn.out; have := h1.out; omega)) HLL _ _ c ML B3).mono ?_
  rintro en w4 ⟨rfl, g4, c4, hr⟩
  have RES := hid (show (∃ L', HeapP w4 h p q t m mv last n L' ∧ HeapS L' n T (updW W i N) U) ∧ Fr (fun k => k = t ∨ k = m) w w4 from ⟨⟨_, HP3.out.step hr.out.1 (hr.out.2.1.mono (fun k e => .inr e)), ROOT.out g4 c4⟩, ((Fr.of_below U3.out).mono (fun _ e => e.elim)).trans' (hr.out.2.1.mono (fun k e => .inr e))⟩)
  clear hr e30
  go_wp2
  go_ret
  exact ⟨rfl, RES⟩
end
end Go.Proofs.YtbcghggkfnagoaaGreatDoor
