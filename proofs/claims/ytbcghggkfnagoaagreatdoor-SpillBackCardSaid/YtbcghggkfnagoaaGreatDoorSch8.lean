/- THE WALK of spill.Write, where no page is free. SMALL WALKS for layer 10's statements: a new heap, refusals; what comes of reading wrongly. -/
import Derived.Test.YtbcghggkfnagoaaGreatDoorSch7
set_option linter.unusedVariables false
set_option linter.unusedSimpArgs false
namespace Go.Proofs.YtbcghggkfnagoaaGreatDoor
open Go Go.RowKit Go.Shelf Go.Maps Hach

attribute [local go_sem] Oper.semAt_some
def WriteSp (w : World) (X : HpX) (n : Nat) (Wd : Nat → Int) (U : Nat → List UInt8) (xs : List UInt8) (en : Ending) (w' : World) : Prop :=
  en = .returned (.tuple #[.int .i64 ((n + 1 : Nat) : Int), .int .i64 0]) ∧ Hid (∃ U', HeapW w' X (n + cnt xs.length) [] Wd U' ∧ Chained U' (n + 1) xs ∧ (∀ i, i ≤ n → U' i = U i) ∧ Fr (HpS X) w w')
set_option maxRecDepth 100000 in
set_option maxHeartbeats 4000000 in
theorem write_in (w : World) (X : HpX) (n : Nat) (Wd : Nat → Int) (U : Nat → List UInt8) (hh : Hid (HeapW w X n [] Wd U)) (xs : List UInt8) (A : Option Addr) (c base k : Nat) (hx : Hid (OwnB w base A c xs)) (hk : Hid (xs.length = k ∧ 1 ≤ k ∧ k ≤ 20000)) (hn : Hid (1 ≤ n ∧ n + cnt k < 3000)) :
    CallsIn Fence.wide 20 Tryz.prog 33 #[.pointer (some ⟨X.h, 0, none⟩), .slice A k c] w (WriteSp w X n Wd U xs) := by
  obtain ⟨C, hC⟩ : ∃ C, cnt k = C := ⟨_, rfl⟩
  have HCB : Hid (1 ≤ C ∧ C ≤ 40) := hid (by rw [← hC]; have := hk.out; unfold cnt; omega)
  have HC := hid hC
  have HR : Hid (decide (1 ≤ (k : Int) ∧ (k : Int) ≤ 20000) = true) := hid (decide_eq_true (by have := hk.out; omega))
  have CC : ∀ W, Calls Tryz.prog 36 #[.int .i64 k] W fun en w' => en = .returned (.int .i64 C) ∧ w' = W := fun W => by
    have := count_calls W k (hid (by have := hk.out; omega))
    rw [hC] at this
    exact this
  have NB : Hid (1 ≤ n ∧ n + C < 3000) := hid (by have := hn.out; rw [hC] at this; exact this)
  clear hC
  obtain ⟨⟨g, rfl⟩, hkc⟩ := own_addr (n := xs.length) hx.out (by have := hk.out; omega)
  have HKC : Hid (k ≤ c) := hid (by have := hk.out; omega)
  clear hkc
  have HPG : ∀ W, (∃ j U', HeapW W X j [] Wd U') → Calls Tryz.prog 37 #[.pointer (some ⟨X.h, 0, none⟩)] W fun en w' => en = .returned (.pointer (some ⟨X.p, 0, none⟩)) ∧ w' = W := fun W ⟨j, U', L, hp, _⟩ => hpager_calls W X.h X.p X.t X.m X.q X.mv X.last j L (hid hp)
  refine callsIn_of_wp_marks Tryz.func33 rfl trivial ?_ rfl
  simp only [Tryz.ntmps33, List.size_toArray, List.length_cons, List.length_nil, Nat.reduceAdd, Nat.reduceSub, Array.replicate_succ, Array.replicate_zero, List.push_toArray, List.append_toArray, List.nil_append, List.cons_append]
  gi_wp2_with (refine ⟨trivial, ?_⟩; first
    | (gi_at_call 37; refine (callsIn_wide.2 (HPG _ ⟨_, _, hh.out.up (upAlD (upAlD (upAlD (Up.refl w) _) _) _)⟩)).mono ?_; rintro e w' ⟨rfl, hw⟩; obtain rfl := hw.symm)
    | (gi_at_call 104; refine (callsIn_wide.2 (right_calls _ k)).mono ?_; rintro e w' ⟨rfl, hw⟩; obtain rfl := hw.symm; rw [HR.out])
    | (gi_at_call 36; refine (callsIn_wide.2 (CC _)).mono ?_; rintro e w' ⟨rfl, hw⟩; obtain rfl := hw.symm))
  obtain ⟨UL, sL, b1, b2, b3, b4⟩ := al4 w (.cells #[.pointer (some ⟨X.h, 0, none⟩)] 26) (.cells #[.int .i64 0] 3) (.cells #[.int .i64 0] 31) (.cells #[.slice none 0 0] 30)
  have START : Hid (PutI w X n (n + 0) Wd U (fun _ => True) (putRow n 0) none 0 ((((w.alloc (.cells #[.pointer (some ⟨X.h, 0, none⟩)] 26)).alloc (.cells #[.int .i64 0] 3)).alloc (.cells #[.int .i64 0] 31)).alloc (.cells #[.slice none 0 0] 30))) :=
    hid ⟨(Fr.of_below UL).mono (fun _ e => e.elim), ⟨U, hh.out.up UL, fun _ _ => rfl, trivial⟩, b1, b2, b3, b4, own_nil _ _ _ _⟩
  clear UL sL b1 b2 b3 b4
  generalize (((w.alloc (.cells #[.pointer (some ⟨X.h, 0, none⟩)] 26)).alloc (.cells #[.int .i64 0] 3)).alloc (.cells #[.int .i64 0] 31)).alloc (.cells #[.slice none 0 0] 30) = w0 at *
  obtain ⟨z0, hz0⟩ : ∃ z0, w.heap.size = z0 := ⟨_, rfl⟩
  have HZ0 := hid hz0
  rw [hz0]
  clear hz0
  refine wpIn_wide.2 ?_
  go_loopw [26] (fun i wr => ∃ (j : Nat) (A1 : Option Addr) (c1 : Nat), j ≤ C ∧ i = .int .i64 j ∧ Hid (PutI w X n (n + j) Wd U (fun _ => True) (putRow n j) A1 c1 wr)) (fun i _ => C - (intOf i).toNat)
  case atStart => exact ⟨0, none, 0, Nat.zero_le _, rfl, START⟩
  case round =>
    clear START
    obtain ⟨j, A1, c1, hj, rfl, iv⟩ := hrel
    by_cases hlt : (j : Int) < C
    · have KB : Hid (j < C ∧ C ≤ 40 ∧ n + C < 3000) := hid (by have := HCB.out; have := NB.out; omega)
      obtain ⟨x, hx⟩ : ∃ x, n + j + 1 = x := ⟨_, rfl⟩
      obtain ⟨U1, hU1, hU2, _⟩ := iv.out.heap
      have HU2 := hid hU2
      have CT := takeH_calls wr X (n + j) [] Wd U1 (hid hU1) (hid (by have := KB.out; omega))
      unfold TakeH at CT
      rw [show takeV [] (n + j) = (x, x, []) by rw [← hx]; rfl] at CT
      have HX := hid hx
      obtain ⟨a1, a2⟩ := cell_box iv.out.hb
      rw [HZ0.out] at a1 a2
      have IV := iv
      clear iv hU1 hU2 hx
      go_wp2_with fail
      refine CT.mono ?_
      rintro en w5 ⟨rfl, hr⟩
      obtain ⟨p1, p2⟩ := cell_box (IV.out.keep hh.out hr.out.2 IV.out.pb (by omega))
      have RP := IV.out.row
      have RP5 := hid ((hr.out.2).own IV.out.row (fun k hk e => by have := HpS.low hh.out k e; have := (own_block IV.out.row k hk).1; omega))
      rw [putRow_len] at p1 RP5
      rw [HZ0.out] at p1 p2
      have HR5 := hid hr.out
      clear hr CT RP a1 a2
      have S5 : Hid (w.heap.size + 1 + 1 + 1 + 1 ≤ w5.heap.size) := hid (by have := (Array.getElem?_eq_some_iff.1 (IV.out.keep hh.out HR5.out.2 IV.out.pb (by omega))).1; omega)
      go_wp2_with (at_builtin; refine hold ?_)
      refine hid (wl_append elemIN rfl (.tmp 36) (.tmp 38) rfl rfl (World.ownsRow.alloc RP5.out _) rfl (Rd.new w5 3 (0, 0) [.int .i64 x]) rfl (by simp [Value.oneCell']) (by have := KB.out; simp only [maxLen]; omega) (by have := KB.out; omega) (by have := S5.out; simp; omega) ?_)
      intro A6 c6 w6 o6 g6 d6
      have ST := IV.out.take hh.out HU2.out (by rw [HX.out]; exact HR5.out.1) HR5.out.2 g6 (by rw [HX.out]; exact o6)
      rw [HZ0.out] at ST
      obtain ⟨q1, q2⟩ := ST
      have Q2 := hid q2
      obtain ⟨p6, p7⟩ := cell_box q1
      clear o6 g6 d6 q1 q2 p1 p2
      have W1 : Hid (wrap64 ((j : Int) + 1) = ((j + 1 : Nat) : Int)) := hid (by have := KB.out; unfold wrap64; omega)
      go_wp2
      go_roundw
      case rel => exact ⟨j + 1, A6, c6, by have := KB.out; omega, by rw [W1.out], Q2⟩
      case measure => rw [W1.out]; have := KB.out; simp only [intOf]; omega
    · obtain rfl : C = j := by omega
      go_wp2
      gi_wp2_with (refine ⟨trivial, ?_⟩; gi_at_call 105; refine (callsIn_wide.2 (piece_calls _ _ _ _)).mono ?_; rintro e w' ⟨rfl, hw⟩)
      subst hw
      obtain ⟨UL, sL, b1, b2, b3⟩ := al3 wr (.cells #[.int .i64 0] 3) (.cells #[.slice (some ⟨g, 0, none⟩) k c] 64) (.cells #[.int .i64 508] 3)
      have RW := iv.out.row
      rw [putRow_len] at RW
      have J0 : WrJ w X n C Wd U xs A1 c1 wr.heap.size [] (((wr.alloc (.cells #[.int .i64 0] 3)).alloc (.cells #[.slice (some ⟨g, 0, none⟩) k c] 64)).alloc (.cells #[.int .i64 508] 3)) :=
        ⟨(iv.out.imp (fun U' _ => fun p x hp => by simp at hp)).more (S := No) (Fr.of_below UL) (fun k e => e.elim) (fun k _ e => e.elim), b1, by have := (Array.getElem?_eq_some_iff.1 iv.out.pb).1; omega, fun k hk => (own_block RW k hk).2⟩
      have HHB := hid hh.out
      have hlow : Hid (∀ k, HpS X k → k < w.heap.size) := hid (HpS.low hh.out)
      generalize ((wr.alloc (.cells #[.int .i64 0] 3)).alloc (.cells #[.slice (some ⟨g, 0, none⟩) k c] 64)).alloc (.cells #[.int .i64 508] 3) = wL at *
      clear RW iv
      generalize wr.heap.size = zi at *
      have KB : ∀ (W : World) (l : Nat) (o9 o9' : Obj), wL.heap.size ≤ l → W.heap[l]? = some o9 → o9.isCells = false → o9.isWalk = false → CpK (zi + 1) (zi + 1 + 1) W (W.putObj l o9') := fun W l o9 o9' hl _ _ _ =>
        ⟨fun v hv => (grownBy_putObj' W l o9').cell hv (fun e => by have := Option.some.inj e; simp only at this; omega), fun v hv => (grownBy_putObj' W l o9').cell hv (fun e => by have := Option.some.inj e; simp only at this; omega)⟩
      have HSEQ := piece_stops 19 (by decide) (zi + 1) (zi + 1 + 1) g 0 C k c (hid (by have h1 := HCB.out; have h2 := HC.out; have h3 := hk.out; have h4 := cnt_room k h3.2.1; unfold cnt at *; omega)) (hid HKC.out) wL (bx_cell b2) (bx_cell b3)
      refine wpIn_rangeFunc_ownG rfl (by decide) (gf := 151) (lb := #[.pointer (some ⟨zi + 1, 0, none⟩), .pointer (some ⟨zi + 1 + 1, 0, none⟩)]) rfl trivial piece1_ent
        HSEQ (fun h k => h.t k) KB (Below.refl _ _) (fun _ => rfl)
        (fun pre W => WrJ w X n C Wd U xs A1 c1 zi pre W) (fun _ _ _ => False)
        (fun s W W' row hs hg hr => hs.odd HHB.out (Odd.of (W' := W') hr) (Fr.of_grown hg) (by omega)) (fun _ _ _ _ _ hs _ _ => hs) J0
        (fun x => { tmps := #[Value.pointer (some { block := X.h, off := 0 }), Value.slice (some ⟨g, 0, none⟩) k c,
          Value.pointer (some { block := z0, off := 0 }), undef, Value.pointer (some { block := z0 + 1, off := 0 }),
          Value.pointer (some { block := z0 + 1 + 1, off := 0 }),
          Value.pointer (some { block := z0 + 1 + 1 + 1, off := 0 }), u7, u8,
          Value.pointer (some { block := zi, off := 0 }), cpV g 0 k x.1, undef, undef, undef, Value.bool false,
          Value.pointer (some { block := X.h, off := 0 }), Value.pointer (some { block := X.p, off := 0 }),
          Value.bool false, Value.bool false, Value.slice (some ⟨g, 0, none⟩) k c, Value.int IntKind.i64 k, Value.bool true,
          Value.bool false, Value.slice (some ⟨g, 0, none⟩) k c, Value.int IntKind.i64 k, Value.int IntKind.i64 C,
          Value.int IntKind.i64 C, Value.bool false, u28, u29, u30, u31, u32, u33, u34, u35, u36, u37, u38, u39, u40,
          Value.slice (some ⟨g, 0, none⟩) k c,
          Value.func (Fn.func 151) #[]
            #[Value.pointer (some { block := zi + 1, off := 0 }),
              Value.pointer (some { block := zi + 1 + 1, off := 0 })],
          cpV g 0 k x.1, undef, undef, undef, undef, undef, undef, undef, undef, undef, undef, undef, undef, undef, undef,
          undef, undef, undef, undef, undef, undef, undef, undef, undef, undef, undef, undef, undef, undef, undef,
          undef, undef, undef, undef, undef, undef, undef, undef, undef, undef, undef, undef], defers := [] }) ?assign ?body ?done ?stop
      case assign =>
        intro l x W K hK
        gi_wp2
        exact hK
      case body =>
        intro l pre x W hI hlt
        obtain ⟨p, hp⟩ : ∃ p, pre.length = p := ⟨_, rfl⟩
        have HP := hid hp
        have ib := hI.ib
        rw [hp] at ib hlt
        obtain ⟨i1, i2⟩ := cell_box ib
        obtain ⟨a1, a2⟩ := cell_box hI.put.hb
        obtain ⟨p1, p2⟩ := cell_box hI.put.pb
        rw [putRow_len] at p1
        rw [HZ0.out] at a1 p1
        obtain ⟨nv, hnv⟩ : ∃ nv, spNext (n + 1) C p = nv := ⟨_, rfl⟩
        have HNV := hid hnv
        have PC := hid hlt
        have HI := hid hI
        have RDP : Hid (∀ i, i < C → ∃ gb go, A1 = some ⟨gb, go, none⟩ ∧ W.cell? ⟨gb, go + i, none⟩ = some (.int .i64 ((n + 1 + i : Nat) : Int))) := hid (fun i hi => by
          have h1 := hI.put.row
          obtain ⟨b, off, e, hc⟩ := (Rd.own h1) i (natCell (n + 1 + i)) (by rw [List.getElem?_map, putRow_at hi]; rfl)
          exact ⟨b, off, e, hc⟩)
        have w1 : wrap64 ((p : Int) + 1) = ((p + 1 : Nat) : Int) := by have := HCB.out; unfold wrap64; omega
        obtain ⟨gb, go, hA1, hcp⟩ := RDP.out p hlt
        subst hA1
        clear ib hI hp
        unfold cpV
        obtain ⟨cl, hcl⟩ : ∃ cl, cpL k x.1 = cl := ⟨_, rfl⟩
        rw [hcl]
        have HCL := hid hcl
        have CLB : Hid (cl ≤ 508 ∧ 1 ≤ cl) := hid (by
          rw [← hcl]
          have h1 := HC.out; have h3 := hk.out; have h4 := cnt_room k h3.2.1
          have h5 := x.2
          unfold cpL
          unfold cnt at *
          omega)
        obtain ⟨PC2, hPC2⟩ : ∃ P, (xs.drop (x.1 * 508)).take 508 = P := ⟨_, rfl⟩
        have HPC2 := hid hPC2
        have PLEN : Hid (PC2.length = cl) := hid (by rw [← hPC2, piece_len, hk.out.1, hcl])
        obtain ⟨U1, hU1, hU2, hU3⟩ := HI.out.put.heap
        have HW1 := hid hU1
        have HW2 := hid (And.intro hU2 hU3)
        have RPC : Hid (Rd W (some ⟨g, x.1 * 508, none⟩) (PC2.map byteCell)) := hid (by
          have ho := links_kept hh.out HI.out.put.fr (by decide) hx.out
          have h1 := ((Rd.own ho).drop (x.1 * 508)).take 508
          rw [Nat.zero_add, ← List.map_drop, ← List.map_take, hPC2] at h1
          exact h1)
        obtain ⟨of, hof⟩ : ∃ of, x.1 * 508 = of := ⟨_, rfl⟩
        rw [hof] at RPC ⊢
        have HOF := hid hof
        have NVB : Hid (nv < 100000) := hid (by rw [← hnv]; unfold spNext; have := NB.out; split <;> omega)
        have wu : IntKind.u64.wrap (nv : Int) = (nv : Int) := by have := NVB.out; simp [IntKind.wrap, IntKind.signed, IntKind.bits]; omega
        have X4 : Hid ((Oct.be nv 4).length = 4) := hid (Oct.be_length _ _)
        have CPUT : ∀ (W' : World) (N : Int), N = (nv : Int) → Calls Tryz.prog 106 #[.slice none 0 0, .int .u64 N, .int .i64 4, .bool false] W' (fun en w' => ∃ A3 c3, en = .returned (.slice A3 4 c3) ∧ Hid (w'.ownsRow W'.heap.size 5 1 (.slice A3 4 c3) 4 ((Oct.be nv 4).map byteCell) ∧ Up W' w')) := fun W' N hN => by
          subst hN
          refine (put_calls W' none [] 0 nv 4 (by have := NVB.out; omega) (by decide) (by decide) (by decide) (hid (bytes_nil _ _))).mono ?_
          rintro en w' ⟨A3, c3, rfl, h3, h4⟩
          rw [List.nil_append] at h3 ⊢
          unfold OwnB at h3
          rw [X4.out] at h3 ⊢
          exact ⟨A3, c3, rfl, hid ⟨h3, h4⟩⟩
        have CPUT := hid CPUT
        obtain ⟨L4, hL4⟩ : ∃ L4, 4 + cl = L4 := ⟨_, rfl⟩
        have HL4 := hid hL4
        obtain ⟨Z, hZ⟩ : ∃ Z, 512 - L4 = Z := ⟨_, rfl⟩
        have HZ := hid hZ
        have ZB : Hid (L4 + Z = 512) := hid (by have := CLB.out; omega)
        have hl0 : (0 : Int) ≤ L4 := by omega
        have w512 : wrap64 (512 - (L4 : Int)) = (Z : Int) := by have := CLB.out; unfold wrap64; omega
        have hmo : Tryz.prog.follows .mixedOrders = true := by kernel_rfl
        clear hcl hPC2 hU1 hU2 hU3 hof hL4 hZ
        have pre1 : Hid (p + 1 < C ∧ n + 1 + (p + 1) = nv ∨ ¬ p + 1 < C ∧ nv = 0) := hid (by
          rw [← hnv]; unfold spNext
          by_cases h : p + 1 < C
          · exact .inl ⟨h, by rw [if_pos h]; omega⟩
          · exact .inr ⟨h, by rw [if_neg h]⟩)
        clear hnv
        rcases pre1.out with ⟨hnx, env⟩ | ⟨hnx, env⟩
        case' inl =>
          obtain ⟨gb', go', hA1, hcn⟩ := RDP.out (p + 1) hnx
          injection hA1 with hA1
          injection hA1 with e1 e2 _
          subst e1; subst e2
          rw [env] at hcn
          clear env pre1
          repeat (first | (refine stop_region 19 ?_) | gi_step | gi_upon | (simp only [Int.not_lt, Int.not_le] at *; go_simp))
        case' inr =>
          have ENV := hid env
          clear pre1 env
          repeat (first | (refine stop_region 19 ?_) | gi_step | gi_upon | (simp only [Int.not_lt, Int.not_le] at *; go_simp))
        all_goals
          refine ⟨?_⟩
          refine region_round (id := 19) ?_ ?_ ?_
          · exact fun ⟨_, _, h⟩ => h
          · rfl
          go_wp2_with (first | (go_at_call 106; refine (CPUT.out _ _ (by first | rfl | (have := ENV.out; omega))).mono ?_; rintro e w3 ⟨A3, c3, rfl, h3⟩) | (with_reducible refine hold_at 58 ?_))
          refine hid (wl_append elemB rfl (.tmp 56) (.tmp 57) rfl rfl h3.out.1 rfl (RPC.out.grown h3.out.2) (by rw [List.length_map, PLEN.out, Nat.mul_one]) (byteCells_one _) (by have := CLB.out; simp only [maxLen]; omega) (by have := CLB.out; omega) h3.out.2.size ?_)
          intro A4 c4 w4 o4 g4 d4
          rw [HL4.out] at o4 ⊢
          have U4 : Hid (Up W w4) := hid (below_append h3.out.2 (Nat.le_refl _) h3.out.2.size h3.out.1 g4)
          obtain ⟨⟨g5, hA4⟩, hc4⟩ := own_addr o4 (by have := CLB.out; have := HL4.out; omega)
          subst hA4
          have O4 := hid o4
          have hc4i : (L4 : Int) ≤ (c4 : Int) := by omega
          clear o4 g4 d4 h3
          go_wp2
          repeat (first | (refine stop_region 20 ?_) | gi_step)
          refine ⟨?_⟩
          refine region_round (id := 20) ?_ ?_ ?_
          · exact fun ⟨_, _, h⟩ => h
          · rfl
          go_wp2_with (with_reducible refine hold_at 68 ?_)
          have PG : Hid (Oct.be nv 4 ++ spBody xs x.1 = Oct.be nv 4 ++ PC2 ++ List.replicate Z 0) := hid (by
            rw [List.append_assoc]
            congr 1
            unfold spBody
            rw [HPC2.out]
            congr 2
            have h1 := HCL.out; have h2 := HZ.out; have h3 := HL4.out; have h4 := CLB.out
            unfold cpL at h1
            rw [hk.out.1]
            omega)
          by_cases hz : Z = 0
          case' pos =>
            refine hid (wl_append_zeros_none elemB Tryz.underlying3 rfl (.tmp 64) (.tmp 67) rfl rfl ⟨g5, 0, rfl⟩ (Nat.le_refl _) rfl (by rw [w512, hz]; rfl) ?_)
            have L512 : L4 = 512 := by have := ZB.out; omega
            obtain ⟨A5, hA5⟩ : ∃ A5 : Option Addr, some ⟨g5, 0, none⟩ = A5 := ⟨_, rfl⟩
            have P5 : Hid (Up W w4 ∧ Bytes w4 A5 (Oct.be nv 4 ++ spBody xs x.1)) := hid ⟨U4.out, by
              rw [← hA5, PG.out, hz, List.replicate_zero, List.append_nil]
              have := Rd.own O4.out
              rw [← List.map_append] at this
              exact this.bytes⟩
            obtain ⟨w5, rfl⟩ : ∃ w5 : World, w5 = w4 := ⟨_, rfl⟩
            obtain ⟨c5, hc5⟩ : ∃ c5, L4 = c5 := ⟨_, rfl⟩
            have eS : Value.slice (some ⟨g5, 0, none⟩) L4 L4 = Value.slice A5 512 c5 := by rw [← hc5, ← hA5, L512]
            rw [eS]
            clear hc5 L512 eS hA5
            go_wp2
            repeat (first | (refine stop_region 21 ?_) | gi_step)
          case' neg =>
            refine hid (wl_append_zeros_full elemB Tryz.underlying3 rfl (.tmp 64) (.tmp 67) rfl Z rfl (Rd.own O4.out) (by rw [List.length_append, List.length_map, List.length_map, X4.out, PLEN.out, HL4.out, Nat.mul_one]) rfl w512 (by omega) (by omega) (by have := ZB.out; simp only [maxLen]; omega) (by have := ZB.out; omega) ?_)
            intro A5 c5 w5 o5 u5
            rw [ZB.out]
            have P5 : Hid (Up W w5 ∧ Bytes w5 A5 (Oct.be nv 4 ++ spBody xs x.1)) := hid ⟨U4.out.t u5, by
              rw [PG.out]
              have := Rd.own o5
              rw [show (Builtin.zeroCells (Value.int IntKind.u8 0).cells Z).toList = (List.replicate Z (0 : UInt8)).map byteCell by rw [zcB], ← List.map_append, ← List.map_append] at this
              exact this.bytes⟩
            clear o5 u5
            go_wp2
            repeat (first | (refine stop_region 21 ?_) | gi_step)
          all_goals
            refine ⟨?_⟩
            have HU5 := hid (HW1.out.up P5.out.1)
            have US : w5.drew.cell? ⟨z0, 0, none⟩ = some (.pointer (some ⟨X.h, 0, none⟩)) ∧ w5.drew.cell? ⟨z0 + 1 + 1 + 1, 0, none⟩ = some (.slice (some ⟨gb, go, none⟩) C c1) ∧ w5.drew.cell? ⟨zi, 0, none⟩ = some (.int .i64 p) ∧ w5.drew.cell? ⟨gb, go + p, none⟩ = some (.int .i64 ((n + 1 + p : Nat) : Int)) := ⟨P5.out.1.c a1, P5.out.1.c p1, P5.out.1.c i1, P5.out.1.c hcp⟩
            have hpC : p < C := PC.out
            obtain ⟨nq, hnq⟩ : ∃ nq, n + 1 + p = nq := ⟨_, rfl⟩
            have HNQ := hid hnq
            rw [hnq] at US hcp
            clear hnq
            refine s_round (fun w9 => w9.cell? ⟨z0, 0, none⟩ = some (.pointer (some ⟨X.h, 0, none⟩)) ∧ w9.cell? ⟨z0 + 1 + 1 + 1, 0, none⟩ = some (.slice (some ⟨gb, go, none⟩) C c1) ∧ w9.cell? ⟨zi, 0, none⟩ = some (.int .i64 p) ∧ w9.cell? ⟨gb, go + p, none⟩ = some (.int .i64 (nq : Int))) hmo ?_ ?_ ?_
            · exact fun ⟨_, _, h⟩ => h
            · rfl
            refine s_take 0 (some 69) (v := ?_) US rfl rfl (by kernel_rfl) (by kernel_rfl) (by kernel_rfl) (fun _ _ _ h => h) (by rfl) (fun w9 hS => ?_) ?_
            rotate_left
            · obtain ⟨s0, s1, s2, s3⟩ := hS; go_simp <;> with_reducible rfl
            try simp only [Act.put, List.setIfInBounds_toArray, List.set_cons_zero, List.set_cons_succ]
            refine s_take 2 (some 71) (v := ?_) US rfl rfl (by kernel_rfl) (by kernel_rfl) (by kernel_rfl) (fun _ _ _ h => h) (by rfl) (fun w9 hS => ?_) ?_
            rotate_left
            · obtain ⟨s0, s1, s2, s3⟩ := hS; go_simp <;> with_reducible rfl
            try simp only [Act.put, List.setIfInBounds_toArray, List.set_cons_zero, List.set_cons_succ]
            refine s_take 3 (some 72) (v := ?_) US rfl rfl (by kernel_rfl) (by kernel_rfl) (by kernel_rfl) (fun _ _ _ h => h) (by rfl) (fun w9 hS => ?_) ?_
            rotate_left
            · obtain ⟨s0, s1, s2, s3⟩ := hS; go_simp <;> with_reducible rfl
            try simp only [Act.put, List.setIfInBounds_toArray, List.set_cons_zero, List.set_cons_succ]
            refine s_take 4 (some 73) (v := ?_) US rfl rfl (by kernel_rfl) (by kernel_rfl) (by kernel_rfl) (fun _ _ _ h => h) (by rfl) (fun w9 hS => ?_) ?_
            rotate_left
            · obtain ⟨s0, s1, s2, s3⟩ := hS; go_simp <;> with_reducible rfl
            try simp only [Act.put, List.setIfInBounds_toArray, List.set_cons_zero, List.set_cons_succ]
            refine s_take 5 (some 74) (v := ?_) US rfl rfl (by kernel_rfl) (by kernel_rfl) (by kernel_rfl) (fun _ _ _ h => h) (by rfl) (fun w9 hS => ?_) ?_
            rotate_left
            · obtain ⟨s0, s1, s2, s3⟩ := hS; go_simp <;> with_reducible rfl
            try simp only [Act.put, List.setIfInBounds_toArray, List.set_cons_zero, List.set_cons_succ]
            refine s_take 6 (some 75) (v := ?_) US rfl rfl (by kernel_rfl) (by kernel_rfl) (by kernel_rfl) (fun _ _ _ h => h) (by rfl) (fun w9 hS => ?_) ?_
            rotate_left
            · obtain ⟨s0, s1, s2, s3⟩ := hS; go_simp <;> with_reducible rfl
            try simp only [Act.put, List.setIfInBounds_toArray, List.set_cons_zero, List.set_cons_succ]
            refine s_op 1 (by kernel_rfl) rfl (by rfl) (fun K9 hK9 => ?_)
            go_simp
            go_at_call 37
            refine (HPG _ ⟨_, _, HU5.out.up (Up.drew w5)⟩).mono ?_
            rintro en w7 ⟨rfl, hw7⟩
            obtain rfl := hw7.symm
            refine hK9.out _ _ US ?_
            clear hK9 K9 hw7
            try simp only [Act.put, List.setIfInBounds_toArray, List.set_cons_zero, List.set_cons_succ]
            refine s_op 7 (by kernel_rfl) rfl (by rfl) (fun K9 hK9 => ?_)
            go_simp
            go_at_call 48
            refine (putH_calls _ X (n + C) [] Wd U1 (hid (HU5.out.up (Up.drew w5))) nq (hid ⟨by have := HNQ.out; have := NB.out; omega, by have := HNQ.out; omega, by simp [allT], by have := NB.out; omega⟩) A5 (Oct.be nv 4 ++ spBody xs x.1) c5 (hid (by rw [List.length_append, X4.out, spBody_len])) (hid (P5.out.2.grown (Up.drew w5)))).mono ?_
            rintro en w6 ⟨rfl, hr6⟩
            have HST := hid (WrJ.step HI.out HHB.out (show zi < wL.heap.size by omega) (by rw [HP.out]; exact hpC) HW2.out.1 HW2.out.2 (P5.out.1.t (Up.drew w5)) (by rw [HP.out, HNQ.out, HNV.out]; exact hr6.out.1) hr6.out.2)
            obtain ⟨q1, q2⟩ := HST.out
            have Q2 := hid q2
            rw [HP.out] at q1
            obtain ⟨r1, r2⟩ := cell_box q1
            have fS := hr6.out.2
            have lowS := hlow.out
            have hlowi : w.heap.size ≤ zi := by have := HI.out.low; omega
            replace US : w6.cell? ⟨z0, 0, none⟩ = some (.pointer (some ⟨X.h, 0, none⟩)) ∧ w6.cell? ⟨z0 + 1 + 1 + 1, 0, none⟩ = some (.slice (some ⟨gb, go, none⟩) C c1) ∧ w6.cell? ⟨zi, 0, none⟩ = some (.int .i64 p) ∧ w6.cell? ⟨gb, go + p, none⟩ = some (.int .i64 (nq : Int)) :=
              ⟨fS.cell US.1 (fun e => by have := lowS _ e; have := HZ0.out; simp only at *; omega), fS.cell US.2.1 (fun e => by have := lowS _ e; have := HZ0.out; simp only at *; omega), r1, fS.cell US.2.2.2 (fun e => by
                have h1 := lowS _ e
                have h2 := (own_block HI.out.put.row gb rfl).1
                simp only at h1
                omega)⟩
            refine hK9.out _ _ US ?_
            clear hK9 K9
            try simp only [Act.put, List.setIfInBounds_toArray, List.set_cons_zero, List.set_cons_succ]
            refine s_take 8 (some 13) (v := ?_) US rfl rfl (by kernel_rfl) (by kernel_rfl) (by kernel_rfl) (fun _ _ _ h => h) (by rfl) (fun w9 hS => ?_) ?_
            rotate_left
            · go_simp <;> with_reducible rfl
            try simp only [Act.put, List.setIfInBounds_toArray, List.set_cons_zero, List.set_cons_succ]
            refine s_done (by kernel_rfl) ?_
            clear US fS lowS hlowi q1 q2
            first | (rename_i K1 h1; refine h1 _ _ ?_; clear h1 K1) | skip
            gi_wp2
            rw [show ((p : Int) + 1) = ((pre.length + 1 : Nat) : Int) by rw [HP.out]; rfl]
            refine ⟨Q2.out.1, ⟨fun v hv => ?_, fun v hv => ?_⟩, Q2.out.2.2⟩
            · have hlt9 := World.block_lt_of_cell? _ _ hv
              exact (World.cell?_of_block ((Q2.out.2.1 (zi + 1) _ (by omega) (Array.getElem?_eq_getElem hlt9)).trans (Array.getElem?_eq_getElem hlt9).symm)).trans hv
            · have hlt9 := World.block_lt_of_cell? _ _ hv
              exact (World.cell?_of_block ((Q2.out.2.1 (zi + 1 + 1) _ (by omega) (Array.getElem?_eq_getElem hlt9)).trans (Array.getElem?_eq_getElem hlt9).symm)).trans hv
      case done =>
        rintro D9 ys W hD rfl hI hK
        obtain ⟨p1, p2⟩ := cell_box hI.put.pb
        obtain ⟨r1, r2⟩ := cell_box hI.put.rb
        obtain ⟨e1, e2⟩ := cell_box hI.put.eb
        rw [putRow_len] at p1
        rw [HZ0.out] at p1 r1 r2 e1 e2
        have h0C : 0 < C := HCB.out.1
        obtain ⟨gb, go, hA1, hcp⟩ : ∃ gb go, A1 = some ⟨gb, go, none⟩ ∧ W.cell? ⟨gb, go, none⟩ = some (.int .i64 ((n + 1 : Nat) : Int)) := by
          obtain ⟨b, off, e, hc⟩ := (Rd.own hI.put.row) 0 (natCell (n + 1 + 0)) (by rw [List.getElem?_map, putRow_at h0C]; rfl)
          exact ⟨b, off, e, hc⟩
        subst hA1
        have FI := hI.finish hh.out (by rw [hk.out.1]; exact HC.out) (show zi < D9 by omega) hK ((n + 1 : Nat) : Int)
        rw [HZ0.out] at FI
        have FI := hid FI
        obtain ⟨nq, hnq⟩ : ∃ nq, n + 1 = nq := ⟨_, rfl⟩
        have HNQ := hid hnq
        rw [hnq] at hcp FI
        clear hI p2 hnq
        gi_wp2
        obtain ⟨g1, g2, g3, g4⟩ := FI.out
        refine ⟨by simp, .inl ⟨_, _, rfl, run_takeDeferred g1, ?_⟩⟩
        refine ⟨.tuple #[.int .i64 nq, .int .i64 0], by simp [results, Tryz.results33, go_sem, g2, g3], by rw [← HNQ.out], hid ?_⟩
        rw [hk.out.1, HC.out, HNQ.out]
        exact g4
      case stop =>
        rintro D9 c9 pre W _ _ h9 _
        exact h9.elim
theorem write_calls (w : World) (X : HpX) (n : Nat) (Wd : Nat → Int) (U : Nat → List UInt8) (hh : Hid (HeapW w X n [] Wd U)) (xs : List UInt8) (A : Option Addr) (c base k : Nat) (hx : Hid (OwnB w base A c xs)) (hk : Hid (xs.length = k ∧ 1 ≤ k ∧ k ≤ 20000)) (hn : Hid (1 ≤ n ∧ n + cnt k < 3000)) :
    Calls Tryz.prog 33 #[.pointer (some ⟨X.h, 0, none⟩), .slice A k c] w (WriteSp w X n Wd U xs) := (callsIn_wide (n := 20)).1 (write_in w X n Wd U hh xs A c base k hx hk hn)
end Go.Proofs.YtbcghggkfnagoaaGreatDoor

namespace Go.Proofs.YtbcghggkfnagoaaGreatDoor
open Go Go.RowKit Go.Maps Hach

theorem readV_bad {n : Nat} {B : Nat → List UInt8} {page : Int} {k : Nat} (h : page < 2 ∨ (n : Int) < page) (hk : 1 ≤ k ∧ k ≤ 20000) : (readV n B page k).2 = 9 := by
  have hv : allV n B page k = none := by
    have hc := cnt_pos k
    unfold allV
    simp only
    unfold chainE
    by_cases h0 : page = 0
    · rw [if_pos h0]
      rw [if_neg (by decide), if_neg (by rw [List.length_nil]; omega)]
    · rw [if_neg h0, if_pos (show page ≤ 1 ∨ (n : Int) < page by omega), if_pos (by decide)]
  unfold readV
  rw [if_neg (show ¬ ((k : Int) < 1 ∨ 20000 < (k : Int)) by omega), Int.toNat_natCast, hv]
def FreshS (w : World) (en : Ending) (w' : World) : Prop :=
  ∃ X : HpX, en = .returned (.tuple #[.pointer (some ⟨X.h, 0, none⟩), .bool true]) ∧ Hid (HeapW w' X 1 [] (fun _ => 0) (fun _ => []) ∧ Up w w' ∧ w.heap.size ≤ X.t ∧ w.heap.size ≤ X.m)
set_option maxRecDepth 100000 in
set_option maxHeartbeats 2000000 in
theorem fresh10_calls (w : World) : Calls Tryz.prog 32 #[] w (FreshS w) := by
  go_enter Tryz.func32, Tryz.ntmps32
  go_wp2_with (go_at_call 20; refine (dnew_calls w 32768 (by decide) (by decide)).mono ?_; rintro e w1 ⟨d, rfl, h1⟩)
  refine (open0_calls w1 w.heap.size d (newD 32768) 16 (hid h1.out.1) (hid rfl) (hid ⟨rfl, rfl⟩) (hid ⟨by decide, by decide⟩)).mono ?_
  rintro en w2 ⟨p, q, rfl, h2⟩
  have U2 : Hid (Up w w2) := hid (h1.out.2.t h2.out.2.2.1)
  have P2 := hid h2.out.1
  have Q2 : Hid (q.count = ((0 : Nat) : Int)) := hid h2.out.2.1.1
  have PB : Hid (w.heap.size ≤ p) := hid (by have := h1.out.2.size; have := h2.out.2.2.2; omega)
  clear h1 h2
  go_wp2_with (go_at_call 47; refine (pbegin_calls w2 p q 0 P2 Q2).mono ?_; rintro e w3 ⟨rfl, t, m, h3⟩)
  have T3 := hid h3.out.1
  have U3 : Hid (Up w w3) := hid (U2.out.trans (h3.out.2.1.below U2.out.size (fun k hk e => by have := PB.out; omega)))
  have TB : Hid (w.heap.size ≤ t ∧ w.heap.size ≤ m) := hid ⟨Nat.le_trans U2.out.size h3.out.2.2.1, Nat.le_trans U2.out.size h3.out.2.2.2⟩
  clear h3 U2
  refine (make_calls w3 p t m q _ 0 T3).mono ?_
  rintro en w4 ⟨h, g, c, rfl, h4⟩
  have RES := hid (show HeapW w4 ⟨h, p, t, m, q, .slice none 0 0, 0⟩ 1 [] (fun _ => 0) (fun _ => []) ∧ Up w w4 ∧ w.heap.size ≤ t ∧ w.heap.size ≤ m from ⟨⟨_, h4.out.1, freshS g c _⟩, U3.out.trans (h4.out.2.below U3.out.size (fun k hk e => by have := TB.out; omega)), TB.out.1, TB.out.2⟩)
  clear h4 T3
  go_wp2
  exact bodyPost_ret (v := .tuple #[.pointer (some ⟨h, 0, none⟩), .bool true]) (by simp [results, Tryz.results32, go_sem]) rfl ⟨⟨h, p, t, m, q, .slice none 0 0, 0⟩, rfl, RES⟩
set_option maxRecDepth 100000 in
set_option maxHeartbeats 1000000 in
/-- Bytes that may not be. -/
theorem writeNo_calls (w : World) (X : HpX) (n : Nat) (T : List Trk) (Wd : Nat → Int) (U : Nat → List UInt8) (hh : Hid (HeapW w X n T Wd U)) (A : Option Addr) (c k : Nat) (hk : Hid (k < 1 ∨ 20000 < k)) :
    Calls Tryz.prog 33 #[.pointer (some ⟨X.h, 0, none⟩), .slice A k c] w fun en w' => en = .returned (.tuple #[.int .i64 0, .int .i64 2]) ∧ Up w w' := by
  have HR : Hid (decide (1 ≤ (k : Int) ∧ (k : Int) ≤ 20000) = false) := hid (decide_eq_false (by have := hk.out; omega))
  have HPG : ∀ W, Up w W → Calls Tryz.prog 37 #[.pointer (some ⟨X.h, 0, none⟩)] W fun en w' => en = .returned (.pointer (some ⟨X.p, 0, none⟩)) ∧ w' = W := fun W hu => by
    obtain ⟨L, hp, _⟩ := hh.out
    exact hpager_calls W X.h X.p X.t X.m X.q X.mv X.last n L (hid (hp.up hu))
  go_enter Tryz.func33, Tryz.ntmps33
  go_wp2_with (first
    | (go_at_call 37; refine (HPG _ (upAlD (upAlD (upAlD (Up.refl w) _) _) _)).mono ?_; rintro e w' ⟨rfl, hw⟩; obtain rfl := hw.symm)
    | (go_at_call 104; refine (right_calls _ k).mono ?_; rintro e w' ⟨rfl, hw⟩; obtain rfl := hw.symm; rw [HR.out]))
  go_returns
  exact ⟨rfl, upAlD (upAlD (upAlD (Up.refl w) _) _) _⟩
theorem Chained.agree {U B : Nat → List UInt8} {s : Nat} {b : List UInt8} (h : Chained U s b) (hs : ∀ i, s ≤ i → i < s + cnt b.length → B i = U i) : Chained B s b := fun t ht => (hs (s + t) (by omega) (by omega)).trans (h t ht)
end Go.Proofs.YtbcghggkfnagoaaGreatDoor
