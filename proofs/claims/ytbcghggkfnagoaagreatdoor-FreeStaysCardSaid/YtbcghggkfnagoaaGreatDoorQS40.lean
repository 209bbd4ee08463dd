/- PARTS OF A PROOF, one behind the other: FREE's heap, committed: what its pages are then; a pager's state put together again behind a transaction's steps. THE WALK of FreeStays. ARGUMENTS, opened: a slice of integers. CONDITIONS: none of this text's own. -/
import Derived.Test.YtbcghggkfnagoaaGreatDoorQS39
import Derived.Test.YtbcghggkfnagoaaGreatDoorQS38
import Derived.Test.YtbcghggkfnagoaaGreatDoorQS37
import Derived.Test.YtbcghggkfnagoaaGreatDoorQS8
import Derived.Test.YtbcghggkfnagoaaGreatDoorProg
import Derived.Test.YtbcghggkfnagoaaGreatDoorChecked
set_option linter.unusedVariables false
set_option linter.unusedSimpArgs false
namespace Go.Proofs.YtbcghggkfnagoaaGreatDoor
open Go Go.RowKit Go.Maps Hach

section
variable {L : PgL} {n : Nat} {T : List Trk} {W : Nat → Int} {U : Nat → List UInt8}
theorem new_page {k : Nat} {P : PgX → Prop} (h : ∃ x, gget L ((k : Nat) : Int) = some x ∧ P x) (h1 : 1 ≤ k) (h2 : k ≤ n) : ∃ b, (newS [] n (plainL L))[k - 1]? = some b ∧ ∃ x, gget L (k : Int) = some x ∧ b = x.bs ∧ P x := by
  obtain ⟨x, hx, hp⟩ := h
  refine ⟨x.bs, ?_, x, hx, rfl, hp⟩
  unfold newS
  rw [List.getElem?_map, List.getElem?_range (by omega)]
  show some ((getB (plainL L) ((k - 1 + 1 : Nat) : Int)).getD _) = _
  rw [show k - 1 + 1 = k by omega, getB_plain, hx]
  rfl
theorem newS_length (S : List (List UInt8)) (n : Nat) (L : List (Int × List UInt8)) : (newS S n L).length = n := by unfold newS; rw [List.length_map, List.length_range]
theorem heapF_of (hs : HeapS L n T W U) : HeapF (newS [] n (plainL L)) T W := by
  refine ⟨?_, fun k f ls r hd => ?_, hs.nodup, fun x hx => by rw [newS_length]; exact hs.inn x hx, by rw [newS_length]; exact hs.one⟩
  · obtain ⟨b, hb, x, _, rfl, hr⟩ := new_page (n := n) hs.root (Nat.le_refl _) hs.one
    exact ⟨x.bs, hb, hr⟩
  · have hT : T = T.take k ++ (f, ls) :: r := by rw [← hd, List.take_append_drop]
    have hall : allT T = allT (T.take k) ++ (f :: (ls ++ allT r)) := by
      have := congrArg allT hT
      rw [allT_app, allT_cons] at this
      exact this
    have hf := hs.inn f (by rw [hall]; simp)
    obtain ⟨b, hb, x, _, rfl, hr⟩ := new_page (n := n) (hs.chain.at hd) (by omega) hf.2
    exact ⟨x.bs, hb, hr⟩
theorem chOk_of (hs : HeapS L n T W U) (h4 : n ≤ 4000) : ChOk [] n (plainL L) := by
  refine ⟨?_, fun x hx => ?_, fun k h1 h2 => ?_, h4⟩
  · unfold plainL
    rw [List.pairwise_map]
    exact hs.keys.srt
  · unfold plainL at hx
    obtain ⟨y, hy, rfl⟩ := List.mem_map.1 hx
    have hi := hs.keys.inn y hy
    exact ⟨y.1.toNat, by show y.1 = _; omega, by omega, by omega, hs.lens y hy⟩
  · have h1 : 0 < k := h1
    obtain ⟨y, hy⟩ := hs.full k (by omega) h2
    exact ⟨((k : Int), y.bs), List.mem_map.2 ⟨_, gget_mem hy, rfl⟩, rfl⟩
theorem new_lens (hs : HeapS L n T W U) : ∀ b ∈ newS [] n (plainL L), b.length = 512 := by
  intro b hb
  obtain ⟨k, hk⟩ := List.mem_iff_getElem?.1 hb
  have hl := (List.getElem?_eq_some_iff.1 hk).1
  rw [newS_length] at hl
  obtain ⟨y, hy⟩ := hs.full (k + 1) (by omega) (by omega)
  obtain ⟨b', hb', x, _, rfl, hr⟩ := new_page (n := n) (P := fun x => x.bs.length = 512) ⟨y, hy, hs.lens _ (gget_mem hy)⟩ (by omega) (by omega : k + 1 ≤ n)
  rw [Nat.add_sub_cancel, hk] at hb'
  rw [Option.some.inj hb']
  exact hr
theorem plain_len (hs : HeapS L n T W U) : L.length ≤ n := by
  have h1 := nodup_le n (L.map fun x => x.1.toNat - 1) (by
    rw [List.Nodup, List.pairwise_map]
    refine List.Pairwise.imp_of_mem ?_ hs.keys.srt
    intro a b ha hb hlt2
    have := hs.keys.inn a ha
    have := hs.keys.inn b hb
    omega) (fun x hx => by
    obtain ⟨y, hy, rfl⟩ := List.mem_map.1 hx
    have := hs.keys.inn y hy
    omega)
  rw [List.length_map] at h1
  exact h1
end
theorem PgAt.tranEnd {w w' : World} {base p d : Nat} {B : PgB} {S : PgV} {q : PgN} {t m n : Nat} {L : PgL} (h : PgAt w base p d B S) (hd : S.dead = false) (hq : q = ⟨d, B.c, S.count, S.com, S.rep⟩) (hf : Fr (fun k => k = p) w w') (ht : TranAt w' p q t m (.slice none 0 0) 0 n L) (hk : L.Pairwise fun a b => a.1 < b.1) (hl : w.heap.size ≤ t ∧ w.heap.size ≤ m) :
    PgAt w' base p d { B with t := t, m := m, L := L, kA := none, kc := 0, ms := [] } { S with T := some ⟨n, plainL L, [], 0⟩ } ∧ Qp base w w' := by
  subst hq
  have hy : Tys w (fun k => k = p) (fun t => t = 80) (fun _ => False) := by
    rintro k rfl hl
    exact .inl ⟨_, _, _, h.own, rfl⟩
  obtain ⟨_, _, _, bm⟩ := h.cache.blk
  obtain ⟨_, _, b0⟩ := h.disk.map0.blk
  obtain ⟨_, _, b1⟩ := h.disk.map1.blk
  have l0 := (Array.getElem?_eq_some_iff.1 bm).1
  have l1 := (Array.getElem?_eq_some_iff.1 b0).1
  have l2 := (Array.getElem?_eq_some_iff.1 b1).1
  have hb := h.bs
  refine ⟨⟨by rw [hd]; exact ht.own, h.disk.tys hf hy (by decide) (by decide) (by decide) ⟨id, id⟩, h.cache.tys hf hy (by decide) (by decide) (by decide) id, fun T' hT' => ?_, h.off, h.low⟩, Qp.of hf hy (fun t e => .inr (.inr (.inr (.inr (.inl e))))) hb (fun k _ hk => by have := h.low; omega)⟩
  obtain rfl : (⟨n, plainL L, [], 0⟩ : TrV) = T' := Option.some.inj hT'
  exact ⟨ht.tran, ⟨ht.map, ht.rows, hk⟩, rfl, ⟨rfl, .inl ⟨rfl, rfl⟩⟩, fun x hx => (by cases hx), rfl, ⟨Nat.le_trans hb hl.1, Nat.le_trans hb hl.2⟩, by show m ≠ B.mp; omega, by show m ≠ B.pd.m0; omega, by show m ≠ B.pd.m1; omega⟩
end Go.Proofs.YtbcghggkfnagoaaGreatDoor

namespace Go.Proofs.YtbcghggkfnagoaaGreatDoor
open Go Go.RowKit Go.Maps Hach

theorem tab_low {w : World} (h : TabOk w) : 0 < w.heap.size := World.block_lt_of_cell? _ _ (h 0#32 (by decide))
theorem doc_first (w : World) (base : Nat) (h : base ≤ w.heap.size) : DocW (w.alloc (.cells (docCs (.slice none 0 0) 1 (wordsC fun _ => 0)) 99)) base w.heap.size 1 [] (wordsC fun _ => 0) :=
  ⟨[], none, 0, ⟨heap_alloc_new w _, h, Rd.nil _ _, fun b off e => (by cases e), Nat.le_refl _, fun d hd => (by cases hd)⟩, rfl⟩
theorem fr_below {S : Nat → Prop} {a b c : World} (h : Fr S a b) (k : Below a.heap.size b c) : Fr S a c := ⟨k.os.trans h.os, k.tape.trans h.tape, k.output.trans h.output, Nat.le_trans h.size k.size, fun i hi hs => (k.block i hi).trans (h.block i hi hs)⟩
@[reducible] def stX (h p t m d cB : Nat) (rp : Int) : HpX := ⟨h, p, t, m, ⟨d, cB, (0 : Nat), 0, rp⟩, .slice none 0 0, 0⟩
set_option maxRecDepth 100000 in
set_option maxHeartbeats 8000000 in
theorem freeStays_walk (w : World) (ht : Hid (TabOk w)) (A : Option Addr) (xs : List ActV8) (c : Nat) (hl : Hid (xs.length ≤ 9223372036854775807)) (hb : Hid (Rd w A (xs.flatMap actC8))) (hq : Hid (∀ x ∈ xs, ActWf8 x))
    (A2 : Option Addr) (zs : List Int) (c2 : Nat) (hl2 : Hid (zs.length ≤ 9223372036854775807)) (hb2 : Hid (Rd w A2 (zs.map iCell))) (hq2 : Hid (∀ z ∈ zs, (Lit.int .i64 z).wf = true)) :
    Calls Tryz.prog 12 #[.slice A xs.length c, .slice A2 zs.length c2] w fun en w' => en = .returned (.bool true) ∧ Below w.heap.size w w' := by
  obtain ⟨M, hM⟩ : ∃ M, xs.length = M := ⟨_, rfl⟩
  obtain ⟨Z, hZ⟩ : ∃ Z, zs.length = Z := ⟨_, rfl⟩
  have HM := hid hM
  have HZ := hid hZ
  rw [hM, hZ]
  clear hM hZ
  by_cases h100 : (100 : Int) < (M : Int)
  · go_enter Tryz.func12, Tryz.ntmps12
    go_wp2_with (go_at_call 13; refine (lives8_calls w).mono ?_; rintro en w1 ⟨rfl, u1⟩)
    have U1 := hid u1
    clear u1
    go_wp2
    go_ret
    exact ⟨rfl, U1.out⟩
  by_cases h60 : (60 : Int) < (Z : Int)
  · go_enter Tryz.func12, Tryz.ntmps12
    go_wp2_with (go_at_call 13; refine (lives8_calls w).mono ?_; rintro en w1 ⟨rfl, u1⟩)
    have U1 := hid u1
    clear u1
    go_wp2
    go_ret
    exact ⟨rfl, U1.out⟩
  have MZ : Hid (M ≤ 100 ∧ Z ≤ 60) := hid (by omega)
  go_enter Tryz.func12, Tryz.ntmps12
  go_wp2_with (go_at_call 20; refine (dnew_calls w 32768 (by decide) (by decide)).mono ?_; rintro e w1 ⟨d, rfl, h1⟩)
  have U1 : Hid (Up w w1) := hid h1.out.2
  have T0 : Hid (Tab w.heap.size w1) := hid ⟨ht.out.below' U1.out, tab_low ht.out⟩
  refine (openP_calls w1 w.heap.size d (newD 32768) 16 [] 1000 (hid h1.out.1) (hid U1.out.size) T0 (hid rfl) (hid (by show 0 < 1000000; decide)) (hid (new_rec 32768)) (hid (by decide)) (hid ⟨(new_fit 32768 (by decide)).less (by decide), by decide⟩) (hid ⟨by decide, by decide⟩)).mono ?_
  clear h1
  rintro en w2 hO
  rcases hO with ⟨p, rfl, hO⟩ | ⟨rfl, hO⟩
  rotate_left
  · exact absurd (by rw [new_open]) hO.out.1
  have P2 : Hid (∃ B rp, PgAt w2 w.heap.size p d B ⟨newD 32768, ⟨16, 0, 0, []⟩, 0, none, false, 0, rp⟩) := hid (by obtain ⟨_, _, _, B, rp, h, _⟩ := hO.out; rw [new_open] at h; exact ⟨B, rp, h⟩)
  have Q2 : Hid (Qp w.heap.size w1 w2) := hid hO.out.2.1
  clear hO
  obtain ⟨B, rp, P2⟩ := P2.out
  have P2 := hid P2
  go_wp2_with (go_at_call 47; refine (pbegin_calls w2 p ⟨d, B.c, (0 : Nat), 0, rp⟩ 0 (hid P2.out.own) (hid rfl)).mono ?_; rintro e w3 ⟨rfl, t, m, h3⟩)
  obtain ⟨T3, F3, t3, m3⟩ := h3.out
  have T3 := hid T3
  have F3 := hid F3
  have TM : Hid (w2.heap.size ≤ t ∧ w2.heap.size ≤ m) := hid ⟨t3, m3⟩
  have S3 : Hid (w2.heap.size ≤ w3.heap.size) := hid F3.out.size
  clear h3 t3 m3
  refine (make_calls w3 p t m _ _ 0 T3).mono ?_
  rintro en w4 ⟨h, g, c0, rfl, h4⟩
  have H4 : Hid (HeapW w4 (stX h p t m d B.c rp) 1 [] (fun _ => 0) (fun _ => [])) := hid ⟨_, h4.out.1, freshS g c0 _⟩
  have L4 : Hid (Below w2.heap.size w3 w4) := hid (h4.out.2.below S3.out (fun k hk e => by have := TM.out; omega))
  clear h4 T3
  have B4 : Hid (w2.heap.size ≤ w4.heap.size) := hid (Nat.le_trans S3.out L4.out.size)
  have START : Hid (ActI (w4.alloc (.cells (docCs (.slice none 0 0) 1 (wordsC fun _ => 0)) 99)) (stX h p t m d B.c rp) w2.heap.size w4.heap.size 1 [] (fun _ => 0) [] none 0 0 ∧ Below w2.heap.size w3 (w4.alloc (.cells (docCs (.slice none 0 0) 1 (wordsC fun _ => 0)) 99)) ∧ 1 ≤ 1 + 0) := hid (by
    have u2 := upAlD (Up.refl w4) (.cells (docCs (.slice none 0 0) 1 (wordsC fun _ => 0)) 99)
    exact ⟨⟨⟨_, H4.out.up u2⟩, doc_first w4 _ B4.out, ⟨Rd.nil _ _, fun b off e => (by cases e)⟩, rfl, Nat.le_refl _, List.nodup_nil, fun x hx => (by cases hx), fun t ht => (by cases ht), ⟨TM.out.1, TM.out.2, Nat.le_trans B4.out u2.size⟩⟩, L4.out.trans (Below.mono u2 B4.out), Nat.le_refl _⟩)
  obtain ⟨m0, hm0⟩ : ∃ m, w4.heap.size = m := ⟨_, rfl⟩
  rw [hm0] at START
  go_wp2_with fail
  try rw [hm0]
  clear hm0 H4 L4 B4
  have LO : Hid (Below w.heap.size w w3) := hid ((U1.out.trans Q2.out.low).trans (F3.out.below (Nat.le_trans U1.out.size Q2.out.low.size) (fun k hk e => by have := P2.out.low; omega)))
  have BS : Hid (w.heap.size ≤ w2.heap.size) := hid (Nat.le_trans U1.out.size Q2.out.low.size)
  go_loopw [11, 57] (fun tv iv wr => ∃ (j k : Nat) (A1 : Option Addr) (c1 : Nat) (l : List Nat) (n : Nat) (T : List Trk) (W : Nat → Int), tv = .slice A1 k c1 ∧ iv = .int .i64 j ∧ j ≤ M ∧ Hid (ActI wr (stX h p t m d B.c rp) w2.heap.size m0 n T W l A1 k c1 ∧ Below w2.heap.size w3 wr ∧ n ≤ 1 + j)) (fun _ iv _ => M - (intOf iv).toNat)
  case atStart => exact ⟨0, 0, none, 0, [], 1, [], _, rfl, rfl, Nat.zero_le _, START⟩
  case round =>
    clear START
    obtain ⟨j, k, A1, c1, l, n, T, W, rfl, rfl, hj, iv⟩ := hrel
    by_cases hlt : (j : Int) < M
    · obtain ⟨x, hx⟩ : ∃ x, xs[j]? = some x := ⟨_, List.getElem?_eq_getElem (by have := HM.out; omega)⟩
      obtain ⟨gb, go, rfl, hcells⟩ := hb.out.row (f := actC8) (k := 3) actC8_len hx (by decide)
      have hcw : ∀ j' u, (actC8 x)[j']? = some u → wr.cell? ⟨gb, go + (j * 3 + j'), none⟩ = some u := fun j' u hu => by
        have h1 := hcells j' u hu
        rw [(LO.out.trans (iv.out.2.1.mono BS.out)).cell (p := ⟨gb, go + (j * 3 + j'), none⟩) (World.block_lt_of_cell? _ _ h1)]
        exact h1
      have x0 := hcw 0 _ rfl
      have x1 := hcw 1 _ rfl
      have x2 := hcw 2 _ rfl
      rw [Nat.add_zero] at x0
      rw [← Nat.add_assoc] at x1 x2
      have WF := hid (hq.out x (List.mem_of_getElem? hx))
      have JM : Hid (j < M ∧ M ≤ 100) := hid (by have := MZ.out; omega)
      have IV := iv
      obtain ⟨wb, hwb⟩ : ∃ wb, wr.alloc (.cells #[.int .i64 x.a, .int .i64 x.b, .int .i64 x.c] 101) = wb := ⟨_, rfl⟩
      obtain ⟨bx, hbx⟩ : ∃ b, wr.heap.size = b := ⟨_, rfl⟩
      have ub : Up wr wb := by rw [← hwb]; exact upAlD (Up.refl wr) _
      have hbb : BoxA wb bx x.a x.b x.c := by rw [← hwb, ← hbx]; exact heap_alloc_new wr _
      obtain ⟨y0, y1, y2⟩ := hbb.cells
      have CA := act_calls wb (stX h p t m d B.c rp) w2.heap.size m0 n T W l A1 k c1 x (hid (IV.out.1.up ub)) (hid (by have := IV.out.2.2; have := JM.out; omega)) WF
      have UB := hid ub
      clear iv hx hcells hcw ub hbb hj
      go_wp2_with fail
      refine CA.mono ?_
      rintro en w5 ⟨n', T', W', l', A', k', c', rfl, hr⟩
      have NEXT : Hid (ActI w5 (stX h p t m d B.c rp) w2.heap.size m0 n' T' W' l' A' k' c' ∧ Below w2.heap.size w3 w5 ∧ n' ≤ 1 + (j + 1)) := hid ⟨hr.out.1, (IV.out.2.1.trans (Below.mono UB.out IV.out.1.low.2.2)).trans hr.out.2.1.low, by have := hr.out.2.2; have := IV.out.2.2; omega⟩
      clear hr CA x0 x1 x2 y0 y1 y2
      go_wp2
      go_roundw
      case rel => exact ⟨j + 1, k', A', c', l', n', T', W', rfl, by first | rfl | rw [wS (K := j + 1) (by have := JM.out; omega) rfl], JM.out.1, NEXT⟩
      case measure => have := JM.out; first | rw [wS (K := j + 1) (by omega) rfl] | skip
                      simp only [intOf]; omega
    · have IV := iv
      have NB : Hid (n ≤ 101) := hid (by have := iv.out.2.2; have := MZ.out; omega)
      clear iv hj
      go_wp2_with fail
      obtain ⟨U, HU⟩ := IV.out.1.heap
      have ST2 : Hid (HeapW wr (stX h p t m d B.c rp) n T W U ∧ Below w2.heap.size w3 wr ∧ ∀ (i : Nat) z, i < 0 → zs[i]? = some z → W i = z) := hid ⟨HU, IV.out.2.1, fun i z hi => by omega⟩
      obtain ⟨wa, rfl⟩ : ∃ wo : World, wo = wr := ⟨_, rfl⟩
      clear HU IV
      go_loopw [72] (fun iv wr => ∃ (i : Nat) (W : Nat → Int), iv = .int .i64 i ∧ i ≤ Z ∧ Hid (HeapW wr (stX h p t m d B.c rp) n T W U ∧ Below w2.heap.size w3 wr ∧ ∀ (j : Nat) z, j < i → zs[j]? = some z → W j = z)) (fun iv _ => Z - (intOf iv).toNat)
      case atStart => exact ⟨0, _, rfl, Nat.zero_le _, ST2⟩
      case round =>
        clear ST2
        obtain ⟨i, W2, rfl, hi, iv⟩ := hrel
        by_cases hlt : (i : Int) < Z
        · obtain ⟨z, hz⟩ : ∃ z, zs[i]? = some z := ⟨_, List.getElem?_eq_getElem (by have := HZ.out; omega)⟩
          obtain ⟨gb, go, rfl, hcell⟩ := hb2.out i (iCell z) (by rw [List.getElem?_map, hz]; rfl)
          have x0 : wr.cell? ⟨gb, go + i, none⟩ = some (.int .i64 z) := by
            rw [(LO.out.trans (iv.out.2.1.mono BS.out)).cell (p := ⟨gb, go + i, none⟩) (World.block_lt_of_cell? _ _ hcell)]
            exact hcell
          have IZ : Hid (i < Z ∧ Z ≤ 60) := hid (by have := MZ.out; omega)
          have CS := set_calls wr (stX h p t m d B.c rp) n T W2 U i z (hid iv.out.1) (hid (by have := NB.out; omega)) (hid (by have := IZ.out; omega)) (hid (hq2.out z (List.mem_of_getElem? hz)))
          have IV := iv
          have HZZ := hid hz
          clear iv hz hi hcell
          go_wp2_with fail
          refine CS.mono ?_
          rintro en w5 ⟨rfl, hr⟩
          have NEXT : Hid (HeapW w5 (stX h p t m d B.c rp) n T (updW W2 i z) U ∧ Below w2.heap.size w3 w5 ∧ ∀ (j : Nat) z', j < i + 1 → zs[j]? = some z' → updW W2 i z j = z') := hid ⟨hr.out.1, IV.out.2.1.trans (hr.out.2.below (Nat.le_trans S3.out IV.out.2.1.size) (fun k hk e => by have := TM.out; rcases e with e | e <;> (simp only [stX] at e; omega))), fun j z' hj hz' => by
            unfold updW
            split
            · rename_i e
              rw [e, HZZ.out] at hz'
              exact Option.some.inj hz'
            · exact IV.out.2.2 j z' (by omega) hz'⟩
          clear hr CS x0
          go_wp2
          go_roundw
          case rel => exact ⟨i + 1, _, by first | rfl | rw [wS (K := i + 1) (by have := IZ.out; omega) rfl], IZ.out.1, NEXT⟩
          case measure => have := IZ.out; first | rw [wS (K := i + 1) (by omega) rfl] | skip
                          simp only [intOf]; omega
        · have IV := iv
          have ALL : Hid (∀ (j : Nat) z, zs[j]? = some z → W2 j = z ∧ j < 60) := hid (fun j z hz => by
            have hj := (List.getElem?_eq_some_iff.1 hz).1
            exact ⟨iv.out.2.2 j z (by have := HZ.out; omega) hz, by have := HZ.out; have := MZ.out; omega⟩)
          clear iv hi
          have CA := allH_calls wr (stX h p t m d B.c rp) n T W2 U (hid IV.out.1) (hid (by have := NB.out; omega))
          go_wp2_with fail
          refine CA.mono ?_
          rintro en w6 ⟨A6, c6, k6, rfl, hr⟩
          have LN : Hid (k6 = (allT T).length) := hid hr.out.1
          have OW : Hid (OwnN w6 wr.heap.size A6 c6 (allT T)) := hid hr.out.2.1
          have B6 : Hid (Below w2.heap.size w3 w6) := hid (IV.out.2.1.trans (Below.mono hr.out.2.2 (Nat.le_trans S3.out IV.out.2.1.size)))
          obtain ⟨L, hpL, hsL⟩ := IV.out.1.up hr.out.2.2
          have HP6 := hid hpL
          have HS6 := hid hsL
          clear hr CA IV hpL hsL
          have HK6 : Hid (L.length ≤ 101 ∧ 1 ≤ n) := hid ⟨by have := plain_len HS6.out; have := NB.out; omega, HS6.out.one⟩
          obtain ⟨P6, Q6⟩ := P2.out.tranEnd rfl rfl ((fr_below F3.out B6.out)) HP6.out.tran HS6.out.keys.srt TM.out
          have P6 := hid P6
          have Q6 : Hid (Qp w.heap.size w1 w6) := hid (Q2.out.trans Q6)
          have CHK : Hid (ChOk [] n (plainL L)) := hid (chOk_of HS6.out (by have := NB.out; omega))
          have FT6 : Hid (Fit (newD 32768) (1000 + 10 + L.length + (0 : Nat)) ∧ (0 : Int) ≤ 1000) := hid ⟨(new_fit 32768 (by decide)).less (by have := HK6.out; omega), by decide⟩
          have CC := commit_calls w6 w.heap.size p d _ _ [] ⟨n, plainL L, [], 0⟩ 0 n 0 [] 1000 P6 (hid rfl) (hid rfl) (hid ⟨rfl, by have := NB.out; omega⟩) (hid ⟨rfl, rfl, by decide⟩) (hid (T0.out.qp Q6.out)) (hid (fun e => by have := HK6.out; have := e.2; omega)) CHK (hid rfl) FT6 (hid good0) (bef0 w6 w.heap.size p d _ _ P6 (hid rfl) (hid (fun v hv => (by cases hv))))
          obtain ⟨cR, hcR⟩ : ∃ cR, commitD (newD 32768) (hd0 [] [] 0 :: secsB (Jrn.recsB 0 [])) [hdY [] [] 0] (plainL L) n 0 [] = cR := ⟨_, rfl⟩
          rw [show commitD _ (hd0 [] [] 0 :: secsB (Jrn.recsB 0 [])) [hdY [] [] 0] (plainL L) n 0 [] = cR from hcR] at CC
          have KR : Hid (cR.2 = 0 ∧ QuietD cR.1 (newS [] n (plainL L)) ∧ cR.1.on = true ∧ cR.1.armed = 0 ∧ Fit cR.1 1000) := hid (by
            have hpl : (plainL L).length = L.length := by unfold plainL; rw [List.length_map]
            obtain ⟨k1, k2, k3, k4, k5⟩ := commit_spec (D := newD 32768) (m := 1000) (new_quiet 32768) CHK.out (jouP (L := plainL L) (n := n) good0 (by decide) 0 (by decide) (fun y h1 h2 => by have h2 : y ≤ 0 := h2; omega)) rfl (FT6.out.1.less (by rw [hpl, List.length_nil]; exact Int.le_refl _)) (by decide)
            rw [List.length_nil] at k1 k2 k3 k4 k5
            rw [hcR] at k1 k2 k3 k4 k5
            have e0 : cR.2 = 0 := by
              rcases k1.cs with e | e | e
              · exact e
              · have h1 := (k4 e).2
                rw [secsB_len, show (Jrn.recsB 0 []).length = 0 from rfl] at h1
                have h2 : (32768 : Int) < ((4 * max 0 n + (0 / 128 + 1) : Nat) : Int) := h1
                have := NB.out
                omega
              · exact absurd rfl (k1.off e).2
            exact ⟨e0, k3 e0, k1.on (by rw [e0]; decide), k1.arm rfl, k2⟩)
          clear hcR
          go_wp2_with (go_at_call 23; refine CC.mono ?_; rintro e w7 ⟨rfl, h7⟩; rw [KR.out.1])
          have M7 : Hid (DiskM w7 w.heap.size d cR.1 ∧ Qp w.heap.size w6 w7) := hid (by
            obtain ⟨q, pd, C, ⟨_, com, h, _⟩ | ⟨h, _⟩⟩ := h7.out
            · exact ⟨⟨_, h.disk⟩, q⟩
            · exact absurd KR.out.1 h)
          clear h7 CC P6
          obtain ⟨Sp, hSp⟩ : ∃ Sp, newS [] n (plainL L) = Sp := ⟨_, rfl⟩
          have HF : Hid (HeapF Sp T W2) := hid (by rw [← hSp]; exact heapF_of HS6.out)
          have SL : Hid (Sp.length = n ∧ ∀ b ∈ Sp, b.length = 512) := hid ⟨by rw [← hSp]; exact newS_length _ _ _, by rw [← hSp]; exact new_lens HS6.out⟩
          rw [hSp] at KR
          clear hSp
          have QB : Hid (Qp w.heap.size w1 w7) := hid (Q6.out.trans M7.out.2)
          have RC : Hid (RecD cR.1 Sp) := hid (.inl ⟨KR.out.2.1.data, KR.out.2.1.old, by rw [KR.out.2.1.sure, KR.out.2.1.now]; rfl, by rw [KR.out.2.1.now]; decide⟩)
          have FO : Hid (Fit cR.1 (500 + 3 + Sp.length) ∧ (0 : Int) ≤ 500) := hid ⟨KR.out.2.2.2.2.less (by have := SL.out.1; have := NB.out; omega), by decide⟩
          obtain ⟨rO, hrO⟩ : ∃ r, openR cR.1 = r := ⟨_, rfl⟩
          have KO : Hid (rO.2 = 0 ∧ QuietD rO.1 Sp ∧ rO.1.on = true) := hid (by
            obtain ⟨k1, k2, k3, k4⟩ := open_spec (m := 500) RC.out (by have := SL.out.1; have := NB.out; omega) KR.out.2.2.1 FO.out.1 (by decide)
            rw [hrO] at k1 k4
            have e0 : rO.2 = 0 := by
              rcases k1.cs with e | e
              · exact e
              · exact absurd KR.out.2.2.2.1 (k1.off e).2
            exact ⟨e0, k4 e0, k1.on e0⟩)
          refine (openP_calls w7 w.heap.size d cR.1 16 Sp 500 (hid M7.out.1) (hid (Nat.le_trans U1.out.size QB.out.low.size)) (hid (T0.out.qp QB.out)) (hid KR.out.2.2.1) (hid (by rw [KR.out.2.1.now]; decide)) RC (hid (by have := SL.out.1; have := NB.out; omega)) FO (hid ⟨by decide, by decide⟩)).mono ?_
          rintro en w8 hO
          rcases hO with ⟨p2, rfl, hO⟩ | ⟨rfl, hO⟩
          rotate_left
          · exact absurd (by rw [hrO]; exact KO.out.1) hO.out.1
          have P8 : Hid (∃ B rp, PgAt w8 w.heap.size p2 d B ⟨rO.1, ⟨16, 0, 0, []⟩, Sp.length, none, false, 0, rp⟩) := hid (by obtain ⟨_, _, _, B, rp, h, _⟩ := hO.out; rw [hrO] at h; exact ⟨B, rp, h⟩)
          have Q8 : Hid (Qp w.heap.size w7 w8) := hid hO.out.2.1
          clear hO hrO
          obtain ⟨B8, rp8, P8⟩ := P8.out
          have SP8 : Hid (SureP w8 w.heap.size p2 d B8 ⟨rO.1, ⟨16, 0, 0, []⟩, Sp.length, none, false, 0, rp8⟩ Sp) := hid ⟨P8, rfl, rfl, rfl, ⟨KO.out.2.1.data, KO.out.2.2, by have := SL.out.1; have := NB.out; omega, SL.out.2⟩, fun v hv => (by cases hv)⟩
          obtain ⟨S8, hS8⟩ : ∃ S : PgV, (⟨rO.1, ⟨16, 0, 0, []⟩, Sp.length, none, false, 0, rp8⟩ : PgV) = S := ⟨_, rfl⟩
          rw [hS8] at SP8
          clear P8 hS8
          obtain ⟨x, hx, hrx⟩ := HF.out.root
          have HX := hid hx
          have HRX := hid hrx
          clear hx hrx
          go_wp2_with (go_at_call 59; refine (qopen_calls w8 w.heap.size p2 d B8 S8 Sp SP8 x HX (hid HRX.out.magic)).mono ?_; rintro en w9 ⟨h9, C9, rfl, hr9⟩)
          have ST3 : Hid (HeapAt w9 h9 p2 ∧ SureP w9 w.heap.size p2 d B8 { S8 with C := C9 } Sp ∧ Qp w.heap.size w8 w9) := hr9
          clear hr9
          go_loopw [105] (fun iv wr => ∃ (i : Nat) (C : CaV), iv = .int .i64 i ∧ i ≤ Z ∧ Hid (HeapAt wr h9 p2 ∧ SureP wr w.heap.size p2 d B8 { S8 with C := C } Sp ∧ Qp w.heap.size w8 wr)) (fun iv _ => Z - (intOf iv).toNat)
          case atStart => exact ⟨0, C9, rfl, Nat.zero_le _, ST3⟩
          case round =>
            clear ST3
            obtain ⟨i, Ci, rfl, hi, iv⟩ := hrel
            by_cases hlt : (i : Int) < Z
            · obtain ⟨z, hz⟩ : ∃ z, zs[i]? = some z := ⟨_, List.getElem?_eq_getElem (by have := HZ.out; omega)⟩
              obtain ⟨gb, go, rfl, hcell⟩ := hb2.out i (iCell z) (by rw [List.getElem?_map, hz]; rfl)
              have x0 : wr.cell? ⟨gb, go + i, none⟩ = some (.int .i64 z) := by
                rw [(U1.out.trans ((QB.out.trans Q8.out).trans iv.out.2.2).low).cell (p := ⟨gb, go + i, none⟩) (World.block_lt_of_cell? _ _ hcell)]
                exact hcell
              have IZ : Hid (i < Z ∧ Z ≤ 60) := hid (by have := MZ.out; omega)
              have CW := qword_calls wr w.heap.size p2 d B8 { S8 with C := Ci } Sp h9 (hid iv.out.1) (hid iv.out.2.1) x HX i (hid (by have := IZ.out; omega)) z (hid (by rw [HRX.out.words i (by have := IZ.out; omega)]; exact (ALL.out i z hz).1))
              have IV := iv
              clear iv hz hi hcell
              go_wp2_with (go_at_call 61; refine CW.mono ?_; rintro en wn ⟨Cn, rfl, hr⟩)
              have NEXT : Hid (HeapAt wn h9 p2 ∧ SureP wn w.heap.size p2 d B8 { S8 with C := Cn } Sp ∧ Qp w.heap.size w8 wn) := hid ⟨IV.out.1.qp hr.out.2, hr.out.1, IV.out.2.2.trans hr.out.2⟩
              clear hr CW x0
              go_roundw
              case rel => exact ⟨i + 1, Cn, by first | rfl | rw [wS (K := i + 1) (by have := IZ.out; omega) rfl], IZ.out.1, NEXT⟩
              case measure => have := IZ.out; first | rw [wS (K := i + 1) (by omega) rfl] | skip
                              simp only [intOf]; omega
            · have IV := iv
              clear iv hi
              have CA := qall_calls wr w.heap.size p2 d B8 { S8 with C := Ci } Sp h9 T W2 (hid IV.out.1) (hid IV.out.2.1) HF
              go_wp2_with (go_at_call 17; refine CA.mono ?_; rintro en wx ⟨A9, c9, k9, C10, rfl, hr⟩)
              have QX : Hid (Qp w.heap.size w6 wx) := hid (((M7.out.2.trans Q8.out).trans IV.out.2.2).trans hr.out.2.2.2)
              have CI := intsN_calls wx A9 A6 (allT T) k9 k6 c9 c6 (hid hr.out.1) LN (hid (by have h1 := allT_len HF.out.nodup HF.out.inn; have := SL.out.1; have := NB.out; omega)) (hid (Rd.own hr.out.2.1)) (hid (Rd.own (QX.out.own OW.out (by unfold pgTy; decide))))
              clear hr CA
              go_wp2_with fail
              refine CI.mono ?_
              rintro en wy ⟨rfl, uy⟩
              have UY := hid uy
              clear uy CI
              go_wp2_with fail
              refine (lives8_calls _).mono ?_
              rintro en wz ⟨rfl, uz⟩
              have FIN : Hid (Below w.heap.size w wz) := hid (U1.out.trans ((Q6.out.trans QX.out).low.trans (Below.mono (UY.out.t uz) (by have h1 := U1.out.size; have h2 := (Q6.out.trans QX.out).low.size; omega))))
              clear uz
              go_wp2
              go_ret
              exact ⟨rfl, FIN.out⟩
end Go.Proofs.YtbcghggkfnagoaaGreatDoor

namespace Go.Proofs.YtbcghggkfnagoaaGreatDoor
open Go Go.RowKit Go.ChangeShapes Go.WideShapes Go.ChangeAt Go.Deep Go.Joins Hach

def iRow (x : Int) : List Value := [iCell x]
theorem ci_int : Tryz.prog.cellsOf 3 = 1 := by kernel_rfl
section
variable {H : Type} {enc : TypeId × Value → H} {W : World} {base : Nat} {sp : Nat → Bool} {held : Bool}
set_option maxRecDepth 100000 in
theorem trod_int1 {fuel : Nat} {cs : List Value} {x : DataW H × List MemPlace} (h : DataW.trod enc Tryz.prog W base sp held fuel 3 cs = some x) : ∃ a : Int, cs = iRow a ∧ (Lit.int .i64 a).wf = true := by
  obtain ⟨p, e, _, w⟩ := DataW.trod_int Tryz.underlying3 h
  exact ⟨p, e, w⟩
set_option maxRecDepth 100000 in
theorem open_ints {b0 : Nat} {v : Value} {d : DataW H} {ps : List MemPlace} (hok : Value.okWide Tryz.prog W .any b0 30 v) (h : DataW.Trod enc Tryz.prog W base sp held 30 v d ps) :
    ∃ (A : Option Addr) (l : List Int) (c : Nat), v = .slice A l.length c ∧ l.length ≤ 9223372036854775807 ∧ Rd W A (l.map iCell) ∧ l.length ≤ c ∧ ∀ a ∈ l, (Lit.int .i64 a).wf = true := by
  obtain ⟨A, l, c, h1, h2, h3, h4, h5⟩ := open_rows iRow (fun a => (Lit.int .i64 a).wf = true) 1 (fun _ => rfl) (by decide) Tryz.underlying30 ci_int (fun h => trod_int1 h) hok h
  refine ⟨A, l, c, h1, h2, ?_, h4, h5⟩
  have e : l.flatMap iRow = l.map iCell := by
    clear h1 h2 h3 h4 h5
    induction l with
    | nil => rfl
    | cons a r ih => rw [List.flatMap_cons, ih, List.map_cons]; rfl
  rw [← e]; exact h3
end
end Go.Proofs.YtbcghggkfnagoaaGreatDoor
