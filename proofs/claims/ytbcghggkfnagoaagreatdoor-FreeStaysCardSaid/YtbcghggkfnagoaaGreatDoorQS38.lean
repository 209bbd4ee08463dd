/- PARTS OF A PROOF, one behind the other: FREE's heap over a pager outside a transaction: root, trunk, Word. FREE's heap over a pager outside a transaction: All, Open. FREE's Open over sure pages. CONDITIONS: none of this text's own. -/
import Derived.Test.YtbcghggkfnagoaaGreatDoorQS37
import Derived.Test.YtbcghggkfnagoaaGreatDoorQS18
import Derived.Test.YtbcghggkfnagoaaGreatDoorQS17
set_option linter.unusedVariables false
set_option linter.unusedSimpArgs false
namespace Go.Proofs.YtbcghggkfnagoaaGreatDoor
open Go Go.RowKit Go.Maps Hach

structure SureP (w : World) (base p d : Nat) (B : PgB) (S : PgV) (Sp : List (List UInt8)) : Prop where
  pg : PgAt w base p d B S
  live : S.dead = false
  no : S.T = none
  count : S.count = Sp.length
  sure : SureD S.D Sp
  cache : CacheOk Sp S.C.V
def HeapAt (w : World) (h p : Nat) : Prop := w.heap[h]? = some (.cells #[.pointer (some ⟨p, 0, none⟩)] 110 (0, 0))
theorem HeapAt.qp {w w' : World} {base h p : Nat} (hh : HeapAt w h p) (hq : Qp base w w') : HeapAt w' h p := hq.keep h _ _ _ (by unfold pgTy; decide) hh
theorem HeapAt.cell {w : World} {h p : Nat} (hh : HeapAt w h p) : w.cell? ⟨h, 0, none⟩ = some (.pointer (some ⟨p, 0, none⟩)) := by rw [cell_of_row _ _ _ _ _ _ hh]; rfl
section
variable {w w' : World} {base p d : Nat} {B : PgB} {S : PgV} {Sp : List (List UInt8)}
theorem SureP.up (h : SureP w base p d B S Sp) (hu : Up w w') : SureP w' base p d B S Sp := ⟨h.pg.up hu, h.live, h.no, h.count, h.sure, h.cache⟩
theorem SureP.pages (h : SureP w base p d B S Sp) : pagesN S = Sp.length := by unfold pagesN; rw [h.no]; exact h.count
end
def QRet (w : World) (base p d : Nat) (B : PgB) (S : PgV) (Sp : List (List UInt8)) (b : List UInt8) (en : Ending) (w' : World) : Prop :=
  ∃ g c C, en = .returned (.tuple #[.slice (some ⟨g, 0, none⟩) 512 c, .int .i64 0]) ∧ Hid (SureP w' base p d B { S with C := C } Sp ∧ Qp base w w' ∧ w'.ownsRow 0 5 1 (.slice (some ⟨g, 0, none⟩) 512 c) 512 (b.map byteCell) ∧ Bytes w' (some ⟨g, 0, none⟩) b ∧ b.length = 512 ∧ 512 ≤ c)
section
variable (w : World) (base p d : Nat) (B : PgB) (S : PgV) (Sp : List (List UInt8))
theorem qget_calls (h : Hid (SureP w base p d B S Sp)) (i : Nat) (b : List UInt8) (hi : Hid (1 ≤ i)) (hb : Hid (Sp[i - 1]? = some b)) :
    Calls Tryz.prog 44 #[.pointer (some ⟨p, 0, none⟩), .int .i64 i] w (QRet w base p d B S Sp b) := by
  have hl := (List.getElem?_eq_some_iff.1 hb.out).1
  have hlen : b.length = 512 := h.out.sure.len b (List.mem_of_getElem? hb.out)
  refine (pgetS_calls w base p d B S Sp i b (hid h.out.pg) (hid h.out.live) (hid fun T hT => by rw [h.out.no] at hT; cases hT) (hid (by rw [h.out.pages]; have := h.out.sure.most; have := hi.out; omega)) (hid h.out.sure) (hid h.out.cache) hi hb).mono ?_
  rintro en w' ⟨A, c, C, rfl, hh⟩
  obtain ⟨⟨hp, hc, hr⟩, q, row⟩ := hh.out
  have row' : w'.ownsRow 0 5 1 (.slice A 512 c) 512 (b.map byteCell) := row
  rcases row.2 with ⟨_, h0⟩ | ⟨g, cap, cur, hv, _, hg, hnc, _⟩
  · cases h0
  · injection hv with e1 e2 e3
    subst e1; subst e3
    have hbt : Bytes w' (some ⟨g, 0, none⟩) b := Rd.bytes (Rd.own row')
    exact ⟨g, c, C, rfl, hid ⟨⟨hp, h.out.live, h.out.no, h.out.count, h.out.sure, hc⟩, q, row', hbt, hlen, hnc⟩⟩
theorem qpages_calls (h : Hid (SureP w base p d B S Sp)) : Calls Tryz.prog 18 #[.pointer (some ⟨p, 0, none⟩)] w fun en w' => en = .returned (.int .i64 Sp.length) ∧ w' = w := by
  have := ppagesW_calls' w base p d B S h.out.pg h.out.live
  rw [h.out.pages] at this
  exact this
set_option maxRecDepth 100000 in
set_option maxHeartbeats 2000000 in
theorem qmade_calls (hp : Nat) (hh : Hid (HeapAt w hp p)) : Calls Tryz.prog 110 #[.pointer (some ⟨hp, 0, none⟩)] w fun en w' => en = .returned (.bool true) ∧ w' = w := by
  have e0 := hh.out.cell
  go_enter Tryz.func110, Tryz.ntmps110
  go_wp2
  go_ret
  exact ⟨rfl, rfl⟩
set_option maxRecDepth 100000 in
set_option maxHeartbeats 2000000 in
theorem qroot_calls (hp : Nat) (hh : Hid (HeapAt w hp p)) (h : Hid (SureP w base p d B S Sp)) (b : List UInt8) (hb : Hid (Sp[0]? = some b)) :
    Calls Tryz.prog 66 #[.pointer (some ⟨hp, 0, none⟩)] w (QRet w base p d B S Sp b) := by
  have e0 := hh.out.cell
  go_enter Tryz.func66, Tryz.ntmps66
  go_wp2_with (go_at_call 110; refine (qmade_calls w p hp hh).mono ?_; rintro e w' ⟨rfl, hw⟩; obtain rfl := hw.symm)
  refine (qget_calls w base p d B S Sp h 1 b (hid (Nat.le_refl _)) hb).mono ?_
  rintro en w2 ⟨g, c, C, rfl, hr⟩
  go_wp2
  go_ret2
  exact ⟨g, c, C, rfl, hr⟩
set_option maxRecDepth 100000 in
set_option maxHeartbeats 2000000 in
theorem qtrunk_calls (hp : Nat) (hh : Hid (HeapAt w hp p)) (h : Hid (SureP w base p d B S Sp)) (i : Nat) (hi : Hid (1 < i)) (b : List UInt8) (hb : Hid (Sp[i - 1]? = some b)) (hlf : Hid (pgGet b 4 4 ≤ 126)) :
    Calls Tryz.prog 68 #[.pointer (some ⟨hp, 0, none⟩), .int .i64 i] w (QRet w base p d B S Sp b) := by
  have e0 := hh.out.cell
  have hl := (List.getElem?_eq_some_iff.1 hb.out).1
  obtain ⟨N, hN⟩ : ∃ N, Sp.length = N := ⟨_, rfl⟩
  have PG := qpages_calls w base p d B S Sp h
  rw [hN] at PG hl
  have h1 : ¬ (i : Int) ≤ 1 := by have := hi.out; omega
  have h2 : ¬ (N : Int) < i := by have := hi.out; omega
  have hwr : wrap64 (pgGet b 4 4 : Int) = (pgGet b 4 4 : Int) := by have := hlf.out; unfold wrap64; omega
  have h3 : (pgGet b 4 4 : Int) ≤ 126 := by have := hlf.out; omega
  clear hl hN
  go_enter Tryz.func68, Tryz.ntmps68
  go_wp2_with (go_at_call 18; refine PG.mono ?_; rintro e w' ⟨rfl, hw⟩; obtain rfl := hw.symm)
  refine (qget_calls w base p d B S Sp h i b (hid (by have := hi.out; omega)) hb).mono ?_
  rintro en w2 ⟨g, c, C, rfl, hr⟩
  go_wp2_with fail
  refine (fget_calls w2 g c b 512 4 4 (hid hr.out.2.2.2.2.1) (hid ⟨by decide, by decide, by decide, by decide, hr.out.2.2.2.2.2⟩) (hid hr.out.2.2.2.1)).mono ?_
  rintro en w3 ⟨rfl, hw⟩
  obtain rfl := hw
  rw [hwr]
  go_wp2
  go_ret2
  exact ⟨g, c, C, rfl, hr⟩
def WordQ (w : World) (base p d : Nat) (B : PgB) (S : PgV) (Sp : List (List UInt8)) (x : Int) (en : Ending) (w' : World) : Prop := ∃ C, en = .returned (.tuple #[.int .i64 x, .int .i64 0]) ∧ Hid (SureP w' base p d B { S with C := C } Sp ∧ Qp base w w')
set_option maxRecDepth 100000 in
set_option maxHeartbeats 2000000 in
theorem qword_calls (hp : Nat) (hh : Hid (HeapAt w hp p)) (h : Hid (SureP w base p d B S Sp)) (b : List UInt8) (hb : Hid (Sp[0]? = some b)) (i : Nat) (hi : Hid (i < 60)) (x : Int) (hx : Hid (wrap64 (pgGet b (16 + i * 8) 8 : Int) = x)) :
    Calls Tryz.prog 61 #[.pointer (some ⟨hp, 0, none⟩), .int .i64 i] w (WordQ w base p d B S Sp x) := by
  have i0 : ¬ (i : Int) < 0 := by omega
  have i60 : ¬ 60 ≤ (i : Int) := by have := hi.out; omega
  have EW : Hid (wrap64 (16 + wrap64 ((i : Int) * 8)) = ((16 + i * 8 : Nat) : Int)) := hid (by have := hi.out; rw [w64p (k := (i : Int) * 8) (by omega), w64p (by omega)]; omega)
  have EW2 : Hid (16 + (i : Int) * 8 = ((16 + i * 8 : Nat) : Int)) := hid (by omega)
  go_enter Tryz.func61, Tryz.ntmps61
  go_wp2_with (go_at_call 66; refine (qroot_calls w base p d B S Sp hp hh h b hb).mono ?_; rintro en w2 ⟨g, c, C, rfl, hr⟩)
  have CG := fget_calls w2 g c b 512 (16 + i * 8) 8 (hid hr.out.2.2.2.2.1) (hid ⟨by have := hi.out; omega, by decide, by decide, by decide, hr.out.2.2.2.2.2⟩) (hid hr.out.2.2.2.1)
  rw [hx.out] at CG
  have UR : Hid (SureP w2 base p d B { S with C := C } Sp ∧ Qp base w w2) := hid ⟨hr.out.1, hr.out.2.1⟩
  clear hr
  first | rw [EW.out] | rw [EW2.out]
  refine CG.mono ?_
  rintro en w3 ⟨rfl, hw⟩
  obtain rfl := hw.symm
  clear hw CG
  go_wp2
  go_ret2
  exact ⟨C, rfl, UR⟩
end
end Go.Proofs.YtbcghggkfnagoaaGreatDoor

namespace Go.Proofs.YtbcghggkfnagoaaGreatDoor
open Go Go.RowKit Go.Maps Hach

structure HeapF (Sp : List (List UInt8)) (T : List Trk) (W : Nat → Int) : Prop where
  root : ∃ b, Sp[0]? = some b ∧ RootB b (headT T) (allT T).length W
  chain : ∀ k f ls r, T.drop k = (f, ls) :: r → ∃ b, Sp[f - 1]? = some b ∧ TrunkB b (headT r) ls
  nodup : (allT T).Nodup
  inn : ∀ x ∈ allT T, 2 ≤ x ∧ x ≤ Sp.length
  one : 1 ≤ Sp.length
def LeafQ (w : World) (base p d : Nat) (B : PgB) (S : PgV) (Sp : List (List UInt8)) (wr : World) (gT : Nat) (ys : List UInt8) (pre ls : List Nat) (A : Option Addr) (n c i : Nat) : Prop :=
  (∃ C, SureP wr base p d B { S with C := C } Sp) ∧ Qp base w wr ∧ wr.ownsRow w.heap.size 3 1 (.slice A n c) n ((pre ++ ls.take i).map natCell) ∧ Bytes wr (some ⟨gT, 0, none⟩) ys ∧ (∀ k, (Value.slice A n c).ownBlock = some k → k ≠ gT) ∧ gT < wr.heap.size ∧ n = pre.length + i ∧ w.heap.size ≤ wr.heap.size
theorem LeafQ.grow {w wr w2 w3 : World} {base p d : Nat} {B : PgB} {S : PgV} {Sp : List (List UInt8)} {gT : Nat} {ys : List UInt8} {pre ls : List Nat} {A A3 : Option Addr} {n c i c3 : Nat} {x : Nat} (h : LeafQ w base p d B S Sp wr gT ys pre ls A n c i) (hbw : base ≤ w.heap.size) (hu : Up wr w2) (ho : w3.ownsRow w.heap.size 3 1 (.slice A3 (n + 1) c3) (n + 1) ((pre ++ ls.take i).map natCell ++ [natCell x])) (hg : w2.grownBy w3 (Value.slice A n c).ownBlock)
    (hd : (Value.slice A3 (n + 1) c3).ownBlock = (Value.slice A n c).ownBlock ∨ (Value.slice A3 (n + 1) c3).ownBlock = some w2.heap.size) (hx : ls.take (i + 1) = ls.take i ++ [x]) : LeafQ w base p d B S Sp w3 gT ys pre ls A3 (n + 1) c3 (i + 1) := by
  obtain ⟨⟨C, h1⟩, h0, h2, h3, h4, h5, h6, h7⟩ := h
  have hz := hu.size
  have hf := Fr.of_grown hg
  have s2 := h1.up hu
  have o2 : w2.ownsRow w.heap.size 3 1 (.slice A n c) n ((pre ++ ls.take i).map natCell) := (Fr.of_below hu).own h2 (fun _ _ e => e)
  have q2 : Qp base w w2 := h0.trans (Qp.up hu h1.pg.bs)
  have p3 := s2.pg.other hf (own_tys o2) (fun t e => by subst e; exact ⟨by unfold pgTy; decide, by decide, by decide⟩)
  refine ⟨⟨C, p3, s2.live, s2.no, s2.count, s2.sure, s2.cache⟩, q2.grown hg (fun k hk => (own_block o2 k hk).1) hbw, ?_, ?_, ?_, Nat.lt_of_lt_of_le (Nat.lt_of_lt_of_le h5 hz) hf.size, by omega, by have := hf.size; omega⟩
  · rw [hx, ← List.append_assoc, List.map_append (l₂ := [x])]; exact ho
  · refine ((h3.grown hu).rd.fr hf (fun b off e he => ?_)).bytes
    injection e with e
    injection e with e _ _
    subst e
    exact h4 _ he.symm rfl
  · intro k hk
    rcases hd with hd | hd
    · exact h4 k (hd ▸ hk)
    · rw [hd] at hk
      have := Option.some.inj hk
      omega
def AllQ (w : World) (base p d : Nat) (B : PgB) (S : PgV) (Sp : List (List UInt8)) (T : List Trk) (en : Ending) (w' : World) : Prop := ∃ A c k C, en = .returned (.tuple #[.slice A k c, .int .i64 0]) ∧ Hid (k = (allT T).length ∧ OwnN w' w.heap.size A c (allT T) ∧ SureP w' base p d B { S with C := C } Sp ∧ Qp base w w')
set_option maxRecDepth 100000 in
set_option maxHeartbeats 4000000 in
theorem qall_calls (w : World) (base p d : Nat) (B : PgB) (S : PgV) (Sp : List (List UInt8)) (h : Nat) (T : List Trk) (W : Nat → Int) (hh : Hid (HeapAt w h p)) (hs : Hid (SureP w base p d B S Sp)) (hF : Hid (HeapF Sp T W)) :
    Calls Tryz.prog 17 #[.pointer (some ⟨h, 0, none⟩)] w (AllQ w base p d B S Sp T) := by
  obtain ⟨x, hx, hr⟩ := hF.out.root
  obtain ⟨n, hnn⟩ : ∃ n, Sp.length = n := ⟨_, rfl⟩
  have NN : Hid (Sp.length = n ∧ n ≤ 4000) := hid ⟨hnn, by have := hs.out.sure.most; omega⟩
  have HS := hF
  have HX := hid hx
  have hl := allT_len hF.out.nodup hF.out.inn
  have h1 := hF.out.one
  rw [hnn] at hl h1
  obtain ⟨N, hN⟩ : ∃ N, (allT T).length = N := ⟨_, rfl⟩
  have HN : Hid ((allT T).length = N ∧ N ≤ 4000 ∧ 1 ≤ n ∧ n < 1000000) := hid ⟨hN, by have := NN.out; omega, h1, by have := NN.out; omega⟩
  obtain ⟨F, hF0⟩ : ∃ F, headT T = F := ⟨_, rfl⟩
  have HF := hid hF0
  have P12 : Hid (wrap64 (pgGet x 12 4 : Int) = (N : Int)) := hid ((pg4 x 12).trans (by rw [hr.count, hN]))
  have P8 : Hid (wrap64 (pgGet x 8 4 : Int) = (F : Int)) := hid ((pg4 x 8).trans (by rw [hr.first, hF0]))
  have BW : Hid (base ≤ w.heap.size) := hid hs.out.pg.bs
  clear hx hr hl h1 hN hF0 hnn
  go_enter Tryz.func17, Tryz.ntmps17
  go_wp2_with fail
  go_step3
  go_wp2_with (go_at_call 66; refine (qroot_calls w base p d B S Sp h hh hs x HX).mono ?_; rintro en w2 ⟨g, c, C2, rfl, hr⟩)
  have C12 := fget_calls w2 g c x 512 12 4 (hid hr.out.2.2.2.2.1) (hid ⟨by decide, by decide, by decide, by decide, hr.out.2.2.2.2.2⟩) (hid hr.out.2.2.2.1)
  have C8 := fget_calls w2 g c x 512 8 4 (hid hr.out.2.2.2.2.1) (hid ⟨by decide, by decide, by decide, by decide, hr.out.2.2.2.2.2⟩) (hid hr.out.2.2.2.1)
  rw [P12.out] at C12
  rw [P8.out] at C8
  have U2 : Hid ((∃ C, SureP w2 base p d B { S with C := C } Sp) ∧ Qp base w w2 ∧ w.heap.size ≤ w2.heap.size) := hid ⟨⟨C2, hr.out.1⟩, hr.out.2.1, hr.out.2.1.low.size⟩
  clear hr
  refine C12.mono ?_
  rintro en w3 ⟨rfl, hw⟩
  obtain rfl := hw.symm
  clear hw C12
  go_wp2_with fail
  go_step3
  go_wp2_with fail
  refine C8.mono ?_
  rintro en w3 ⟨rfl, hw⟩
  obtain rfl := hw.symm
  clear hw C8
  go_wp2
  have START : Hid (((∃ C, SureP w2 base p d B { S with C := C } Sp) ∧ Qp base w w2 ∧ w.heap.size ≤ w2.heap.size) ∧ OwnN w2 w.heap.size none 0 (allT (T.take 0)) ∧ F = headT (T.drop 0) ∧ 0 = (allT (T.take 0)).length) := hid ⟨U2.out, own_nil _ _ _ _, HF.out.symm, rfl⟩
  go_loopw [6, 8] (fun lv nv wr => ∃ (k : Nat) (A : Option Addr) (c j f : Nat), lv = .slice A j c ∧ nv = .int .i64 f ∧ Hid (((∃ C, SureP wr base p d B { S with C := C } Sp) ∧ Qp base w wr ∧ w.heap.size ≤ wr.heap.size) ∧ OwnN wr w.heap.size A c (allT (T.take k)) ∧ f = headT (T.drop k) ∧ j = (allT (T.take k)).length)) (fun lv _ _ => N - lenV lv)
  case atStart => exact ⟨0, none, 0, 0, F, rfl, rfl, START⟩
  case round =>
    obtain ⟨k, A, c, j, f, rfl, rfl, iv⟩ := hrel
    cases hd : T.drop k with
    | nil =>
      have e0 : f = 0 := by rw [iv.out.2.2.1, hd]; rfl
      have ht : T.take k = T := List.take_of_length_le (List.drop_eq_nil_iff.1 hd)
      have RES : Hid (j = N ∧ OwnN wr w.heap.size A c (allT T) ∧ Qp base w wr) := hid ⟨by rw [iv.out.2.2.2, ht]; exact HN.out.1, by have := iv.out.2.1; rwa [ht] at this, iv.out.1.2.1⟩
      obtain ⟨C9, SP9⟩ := iv.out.1.1
      have SP9 := hid SP9
      subst e0
      obtain rfl := RES.out.1
      clear iv ht hd START
      go_wp2
      go_ret2
      exact ⟨A, c, _, C9, rfl, hid ⟨HN.out.1.symm, RES.out.2.1, SP9.out, RES.out.2.2⟩⟩
    | cons tr r =>
      obtain ⟨f', ls⟩ := tr
      have ef : f = f' := by rw [iv.out.2.2.1, hd]; rfl
      subst ef
      obtain ⟨y, hy, hb⟩ := HS.out.chain k f ls r hd
      have hT : T = T.take k ++ (f, ls) :: r := by rw [← hd, List.take_append_drop]
      have hall : allT T = allT (T.take k) ++ (f :: (ls ++ allT r)) := by
        have := congrArg allT hT
        rw [allT_app, allT_cons] at this
        exact this
      have hk1 : T.take (k + 1) = T.take k ++ [(f, ls)] := by
        have hl1 : k < T.length := by
          have := congrArg List.length hd
          rw [List.length_drop, List.length_cons] at this
          omega
        rw [List.take_succ_eq_append_getElem hl1]
        have : T[k]? = some (f, ls) := by
          have h0 : (T.drop k)[0]? = some (f, ls) := by rw [hd]; rfl
          rw [List.getElem?_drop] at h0
          exact h0
        rw [List.getElem?_eq_getElem hl1] at this
        rw [Option.some.inj this]
      have hd1 : T.drop (k + 1) = r := by rw [List.drop_add_one_eq_tail_drop, hd]; rfl
      have ff := HS.out.inn f (by rw [hall]; simp)
      obtain ⟨M, hM⟩ : ∃ M, ls.length = M := ⟨_, rfl⟩
      have hlen := congrArg List.length hall
      simp only [List.length_append, List.length_cons] at hlen
      have JB : Hid (j + 1 + M ≤ N ∧ N ≤ 4000 ∧ M ≤ 126 ∧ ls.length = M) := hid (by have h1 := HN.out; have h2 := iv.out.2.2.2; have h3 := hb.most; omega)
      have f0 : (0 : Int) < (f : Int) := by omega
      have jN : ¬ (N : Int) ≤ (j : Int) := by have := JB.out; omega
      have FF : Hid (1 < f) := hid (by omega)
      have Q4 : Hid (wrap64 (pgGet y 4 4 : Int) = (M : Int)) := hid ((pg4 y 4).trans (by rw [hb.count, hM]))
      have Q0 : Hid (wrap64 (pgGet y 0 4 : Int) = ((headT r : Nat) : Int)) := hid ((pg4 y 0).trans (by rw [hb.next]))
      have HY := hid hy
      have HB := hid hb
      have K1 := hid (And.intro hk1 hd1)
      have HPr := hid (hh.out.qp iv.out.1.2.1)
      obtain ⟨Cr, SPr⟩ := iv.out.1.1
      have SPr := hid SPr
      have OL := hid iv.out.2.1
      have UL := hid iv.out.1.2
      have JL : Hid (j = (allT (T.take k)).length) := hid iv.out.2.2.2
      clear iv hd hT hall hk1 hd1 hlen hM ff hy hb START
      go_wp2_with fail
      refine (qtrunk_calls wr base p d B { S with C := Cr } Sp h HPr SPr f FF y HY (hid (by have := HB.out.count; have := JB.out; omega))).mono ?_
      rintro en w4 ⟨gT, cT, C4, rfl, hr⟩
      have U4 : Hid (Qp base w w4 ∧ w.heap.size ≤ w4.heap.size) := hid ⟨UL.out.1.trans hr.out.2.1, Nat.le_trans UL.out.2 hr.out.2.1.low.size⟩
      have SP4 : Hid (SureP w4 base p d B { S with C := C4 } Sp) := hid hr.out.1
      have O4 : Hid (OwnN w4 w.heap.size A c (allT (T.take k))) := hid (hr.out.2.1.own OL.out (by unfold pgTy; decide))
      have YB : Hid (Bytes w4 (some ⟨gT, 0, none⟩) y ∧ y.length = 512 ∧ 512 ≤ cT) := hid ⟨hr.out.2.2.2.1, hr.out.2.2.2.2.1, hr.out.2.2.2.2.2⟩
      have GT : Hid (gT < w4.heap.size ∧ ∀ b, (Value.slice A (allT (T.take k)).length c).ownBlock = some b → b ≠ gT) := hid ⟨(own_block hr.out.2.2.1 gT rfl).2, fun b hb e => by
        obtain ⟨cs1, fr1, e1⟩ := ownRow_blk O4.out hb
        obtain ⟨cs2, fr2, e2⟩ := ownRow_blk hr.out.2.2.1 (k := gT) rfl
        rw [e, e2] at e1
        injection e1 with e1
        injection e1 with _ e1 _
        exact absurd e1 (by decide)⟩
      clear hr OL UL HPr SPr
      have o4 : w4.ownsRow w.heap.size 3 1 (.slice A j c) j ((allT (T.take k)).map natCell) := by have := O4.out; unfold OwnN at this; rw [← JL.out] at this; exact this
      have o5 := World.ownsRow.alloc o4 (.cells #[.int .i64 f] 3)
      have u5 : Up w4 (w4.alloc (.cells #[.int .i64 f] 3)) := upAlD (Up.refl w4) _
      have hs5 := Nat.le_trans U4.out.2 u5.size
      have L4 : LeafQ w base p d B S Sp w4 gT y (allT (T.take k)) [f] A j c 0 := ⟨⟨C4, SP4.out⟩, U4.out.1, by rw [List.take_zero, List.append_nil]; exact o4, YB.out.1, by have := GT.out.2; rwa [← JL.out] at this, GT.out.1, JL.out, U4.out.2⟩
      have HL4 := hid L4
      have HU5 := hid u5
      clear u5 o4 O4 L4
      go_wp2_with (at_builtin; refine hold ?_)
      refine hid (wl_append elemIN rfl (.tmp 41) (.tmp 43) rfl rfl o5 rfl (Rd.new w4 3 (0, 0) [.int .i64 f]) rfl (by simp [Value.oneCell']) (by have := JB.out; simp only [maxLen]; omega) (by have := JB.out; omega) hs5 ?_)
      intro A6 c6 w6 o6 g6 d6
      have L6 := HL4.out.grow (x := f) (A3 := A6) (c3 := c6) BW.out HU5.out (by rw [List.take_zero, List.append_nil]; exact o6) g6 d6 rfl
      obtain ⟨pre, hpre⟩ : ∃ pre, allT (T.take k) ++ [f] = pre := ⟨_, rfl⟩
      have START2 : Hid (LeafQ w base p d B S Sp w6 gT y pre ls A6 (j + 1) c6 0) := hid (by
        obtain ⟨a0, a1, a2, a3, a4, a5, a6, a7⟩ := L6
        refine ⟨a0, a1, ?_, a3, a4, a5, by rw [← hpre, List.length_append]; simpa using a6, a7⟩
        rw [← hpre, List.take_zero, List.append_nil]
        exact a2)
      have HPRE := hid hpre
      clear L6 hpre o6 g6 d6 o5 hs5 HU5
      have C4 := fget_calls w6 gT cT y 512 4 4 (hid YB.out.2.1) (hid ⟨by decide, by decide, by decide, by decide, YB.out.2.2⟩) (hid START2.out.2.2.2.1)
      rw [Q4.out] at C4
      go_wp2_with fail
      refine C4.mono ?_
      rintro en w7 ⟨rfl, hw⟩
      obtain rfl := hw.symm
      clear hw C4
      obtain ⟨wo, rfl⟩ : ∃ wo : World, wo = wr := ⟨_, rfl⟩
      go_wp2
      go_loopw [6, 47] (fun lv nv wr2 => ∃ (i : Nat) (A2 : Option Addr) (c2 n2 : Nat), i ≤ M ∧ lv = .slice A2 n2 c2 ∧ nv = .int .i64 i ∧ Hid (LeafQ w base p d B S Sp wr2 gT y pre ls A2 n2 c2 i)) (fun _ nv _ => M - (intOf nv).toNat)
      case atStart => exact ⟨0, A6, c6, j + 1, Nat.zero_le _, rfl, rfl, START2⟩
      case round =>
        obtain ⟨i, A2, c2, n2, hi, rfl, rfl, iv⟩ := hrel
        by_cases hlt : (i : Int) < M
        · obtain ⟨z, hz⟩ : ∃ z, ls[i]? = some z := ⟨_, List.getElem?_eq_getElem (by have := JB.out; omega)⟩
          have hz1 : ls.take (i + 1) = ls.take i ++ [z] := by rw [List.take_add_one, hz]; rfl
          have I8 : Hid (i < M ∧ i < 200 ∧ n2 < 4000) := hid (by have h1 := JB.out; have h2 := iv.out.2.2.2.2.2.2.1; have h3 := HPRE.out; have h4 := congrArg List.length h3; rw [List.length_append, ← JL.out] at h4; simp only [List.length_cons, List.length_nil] at h4; omega)
          have EW : Hid (wrap64 (8 + wrap64 ((i : Int) * 4)) = ((8 + i * 4 : Nat) : Int)) := hid (by rw [wM4 (K := i * 4) (by have := I8.out; omega) rfl, w8p (K := 8 + i * 4) (by have := I8.out; omega) rfl])
          have CI := fget_calls wr gT cT y 512 (8 + i * 4) 4 (hid YB.out.2.1) (hid ⟨by have := JB.out; omega, by decide, by decide, by decide, YB.out.2.2⟩) (hid iv.out.2.2.2.1)
          rw [(pg4 y (8 + i * 4)).trans (by rw [HB.out.leaf i z hz])] at CI
          have HZ1 := hid hz1
          have HI := iv
          have o9 := World.ownsRow.alloc iv.out.2.2.1 (.cells #[.int .i64 z] 3)
          have hs9 := Nat.le_trans iv.out.2.2.2.2.2.2.2 (upAlD (Up.refl wr) (.cells #[.int .i64 z] 3)).size
          clear hz hz1 iv
          go_wp2_with fail
          rw [EW.out]
          refine CI.mono ?_
          rintro en w7 ⟨rfl, hw⟩
          obtain rfl := hw.symm
          clear hw CI
          go_wp2_with (at_builtin; refine hold ?_)
          refine hid (wl_append elemIN rfl (.tmp 50) (.tmp 56) rfl rfl o9 rfl (Rd.new wr 3 (0, 0) [.int .i64 z]) rfl (by simp [Value.oneCell']) (by have := I8.out; simp only [maxLen]; omega) (by have := I8.out; omega) hs9 ?_)
          intro A9 c9 w9 o9' g9 d9
          have L9 := hid (HI.out.grow (x := z) (A3 := A9) (c3 := c9) BW.out (upAlD (Up.refl wr) _) o9' g9 d9 HZ1.out)
          clear o9 o9' g9 d9 hs9
          go_wp2
          go_roundw
          case rel => exact ⟨i + 1, A9, c9, n2 + 1, I8.out.1, rfl, by rw [wS (K := i + 1) (by have := I8.out; omega) rfl], L9⟩
          case measure => have := I8.out; rw [wS (K := i + 1) (by omega) rfl]; simp only [intOf]; omega
        · have hiM : i = M := by omega
          have ELS : Hid (ls.take i = ls ∧ i = M) := hid ⟨List.take_of_length_le (by have := JB.out; omega), hiM⟩
          have HI := iv
          have C0 := fget_calls wr gT cT y 512 0 4 (hid YB.out.2.1) (hid ⟨by decide, by decide, by decide, by decide, YB.out.2.2⟩) (hid iv.out.2.2.2.1)
          rw [Q0.out] at C0
          clear iv hiM
          go_wp2_with fail
          refine C0.mono ?_
          rintro en w7 ⟨rfl, hw⟩
          obtain rfl := hw.symm
          clear hw C0
          have REL : Hid (((∃ C, SureP wr base p d B { S with C := C } Sp) ∧ Qp base w wr ∧ w.heap.size ≤ wr.heap.size) ∧ OwnN wr w.heap.size A2 c2 (allT (T.take (k + 1))) ∧ headT r = headT (T.drop (k + 1)) ∧ n2 = (allT (T.take (k + 1))).length) := hid (by
            obtain ⟨a0, a1, a2, a3, a4, a5, a6, a7⟩ := HI.out
            have e1 : allT (T.take (k + 1)) = pre ++ ls := by
              rw [K1.out.1, allT_app, ← HPRE.out, List.append_assoc]
              congr 1
              rw [allT_cons]; simp [allT]
            have e2 : n2 = (allT (T.take (k + 1))).length := by rw [e1, List.length_append, a6]; have := JB.out; have := ELS.out.2; omega
            refine ⟨⟨a0, a1, a7⟩, ?_, by rw [K1.out.2], e2⟩
            rw [ELS.out.1, ← e1] at a2
            unfold OwnN
            rw [← e2]
            exact a2)
          have MB : Hid (j < n2 ∧ n2 ≤ N) := hid (by have h2 := HI.out.2.2.2.2.2.2.1; have h4 := congrArg List.length HPRE.out; rw [List.length_append, ← JL.out] at h4; simp only [List.length_cons, List.length_nil] at h4; have := JB.out; have := ELS.out.2; omega)
          clear HI
          go_wp2
          go_roundw
          case rel => exact ⟨k + 1, A2, c2, n2, _, rfl, rfl, REL⟩
          case measure => simp only [lenV]; have := MB.out; omega
end Go.Proofs.YtbcghggkfnagoaaGreatDoor

namespace Go.Proofs.YtbcghggkfnagoaaGreatDoor
open Go Go.RowKit Go.Maps Hach

def OpenQ (w : World) (base p d : Nat) (B : PgB) (S : PgV) (Sp : List (List UInt8)) (en : Ending) (w' : World) : Prop := ∃ h C, en = .returned (.tuple #[.pointer (some ⟨h, 0, none⟩), .int .i64 0]) ∧ Hid (HeapAt w' h p ∧ SureP w' base p d B { S with C := C } Sp ∧ Qp base w w')
set_option maxRecDepth 100000 in
set_option maxHeartbeats 2000000 in
theorem qopen_calls (w : World) (base p d : Nat) (B : PgB) (S : PgV) (Sp : List (List UInt8)) (h : Hid (SureP w base p d B S Sp)) (b : List UInt8) (hb : Hid (Sp[0]? = some b)) (hm : Hid (b.take 8 = magicB)) :
    Calls Tryz.prog 59 #[.pointer (some ⟨p, 0, none⟩)] w (OpenQ w base p d B S Sp) := by
  go_enter Tryz.func59, Tryz.ntmps59
  have HS : (str magicB).toList = [104, 97, 99, 104, 117, 114, 101, 49] := str_toList _
  have SF : Hid (∀ w2 g c, w2.ownsRow 0 5 1 (.slice (some ⟨g, 0, none⟩) 512 c) 512 (b.map byteCell) → Bytes w2 (some ⟨g, 0, none⟩) b → b.length = 512 → 512 ≤ c → (convert 64 9 (.slice (some ⟨g, 0, none⟩) 8 c)).run Tryz.prog w2 = .ok (.string (str magicB)) w2 ∧ ¬ (c : Int) < 8) := hid (fun w2 g c _ hb2 hl hc => by
    refine ⟨?_, by omega⟩
    refine run_conv w2 (some ⟨g, 0, none⟩) magicB c (by decide) ?_
    intro j hj
    have h8 : magicB.length = 8 := rfl
    obtain ⟨bb, off, e, hcl⟩ := hb2 j (by omega)
    refine ⟨bb, off, e, ?_⟩
    rw [hcl]
    have h2 : magicB[j]? = b[j]? := by rw [← hm.out, List.getElem?_take, if_pos (by omega)]
    rw [h2])
  go_wp2_with (go_at_call 44; refine (qget_calls w base p d B S Sp h 1 b (hid (Nat.le_refl _)) hb).mono ?_; rintro en w2 ⟨g, c, C, rfl, hr⟩; obtain ⟨CV, hcap⟩ := SF.out w2 g c hr.out.2.2.1 hr.out.2.2.2.1 hr.out.2.2.2.2.1 hr.out.2.2.2.2.2)
  have u := upAlD (Up.refl w2) (.cells #[.pointer (some ⟨p, 0, none⟩)] 110)
  have RES : Hid (HeapAt (w2.alloc (.cells #[.pointer (some ⟨p, 0, none⟩)] 110)) w2.heap.size p ∧ SureP (w2.alloc (.cells #[.pointer (some ⟨p, 0, none⟩)] 110)) base p d B { S with C := C } Sp ∧ Qp base w (w2.alloc (.cells #[.pointer (some ⟨p, 0, none⟩)] 110))) := hid ⟨heap_alloc_new w2 _, hr.out.1.up u, hr.out.2.1.trans (Qp.up u hr.out.1.pg.bs)⟩
  clear hr u
  go_ret2
  exact ⟨w2.heap.size, C, rfl, RES⟩
end Go.Proofs.YtbcghggkfnagoaaGreatDoor
