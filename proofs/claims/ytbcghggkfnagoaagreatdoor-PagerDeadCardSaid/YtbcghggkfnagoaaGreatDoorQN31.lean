/- PARTS OF A PROOF, one behind the other: THE PAGER's before: the pages that are changed, or go, as they are on the disk. CONDITIONS: none of this text's own. -/
import Derived.Test.YtbcghggkfnagoaaGreatDoorQN30
import Derived.Test.YtbcghggkfnagoaaGreatDoorQN26
set_option linter.unusedVariables false
set_option linter.unusedSimpArgs false
namespace Go.Proofs.YtbcghggkfnagoaaGreatDoor
open Go Go.RowKit Go.Maps Hach

theorem getB_plain (L : PgL) (k : Int) : getB (plainL L) k = (gget L k).map (·.bs) := by
  unfold getB plainL gget
  rw [List.find?_map, Option.map_map, Option.map_map]
  rfl
theorem Qp.own {w w' : World} {base b n : Nat} {e : TypeId} {size : Nat} {v : Value} {xs : List Value} (hq : Qp base w w') (h : w.ownsRow b e size v n xs) (hn : ¬ pgTy e) : w'.ownsRow b e size v n xs := by
  refine ⟨h.1, ?_⟩
  rcases h.2 with hv | ⟨g, cap, cur, hv, hb, hg, rest⟩
  · exact .inl hv
  · exact .inr ⟨g, cap, cur, hv, hb, hq.keep _ _ _ _ hn hg, rest⟩
theorem RecsRow.qp {w w' : World} {base : Nat} {l : List (Int × List UInt8)} {xs : List Value} (h : RecsRow w 0 l xs) (hq : Qp base w w') : RecsRow w' 0 l xs := h.keep fun _ _ _ o => hq.own o (by unfold pgTy; decide)
/-- A row of records. -/
def RecOwn (w : World) (b0 : Nat) (A : Option Addr) (k c : Nat) (R : List (Int × List UInt8)) : Prop := R.length = k ∧ k ≤ c ∧ ∃ cells, w.ownsRow b0 205 2 (.slice A k c) k cells ∧ RecsRow w 0 R cells
theorem RecOwn.qp {w w' : World} {base b0 k c : Nat} {A : Option Addr} {R : List (Int × List UInt8)} (h : RecOwn w b0 A k c R) (hq : Qp base w w') : RecOwn w' b0 A k c R := by
  obtain ⟨h1, h2, cells, h3, h4⟩ := h
  exact ⟨h1, h2, cells, hq.own h3 (by unfold pgTy; decide), h4.qp hq⟩
theorem RecOwn.up {w w' : World} {b0 k c : Nat} {A : Option Addr} {R : List (Int × List UInt8)} (h : RecOwn w b0 A k c R) (hu : Up w w') : RecOwn w' b0 A k c R := h.qp (base := 0) (Qp.up hu (Nat.zero_le _))
theorem PgAt.other {w w' : World} {base p d : Nat} {B : PgB} {S : PgV} {X : Nat → Prop} {ok : TypeId → Prop} (h : PgAt w base p d B S) (hf : Fr X w w') (ht : Tys w X ok (fun _ => False)) (h1 : ∀ t, ok t → ¬ pgTy t ∧ t ≠ 5 ∧ t ≠ 4) : PgAt w' base p d B S :=
  have k : ∀ t, pgTy t → ¬ ok t := fun t ht ho => (h1 t ho).1 ht
  ⟨h.own.tys hf ht (k _ (by unfold pgTy; decide)), h.disk.tys hf ht (k _ (by unfold pgTy; decide)) (k _ (by unfold pgTy; decide)) (fun ho => (h1 _ ho).2.2 rfl) ⟨id, id⟩, h.cache.tys hf ht (k _ (by unfold pgTy; decide)) (k _ (by unfold pgTy; decide)) (fun ho => (h1 _ ho).2.1 rfl) id,
    fun T hT => (h.tran T hT).tys hf ht (k _ (by unfold pgTy; decide)) (k _ (by unfold pgTy; decide)) (fun ho => (h1 _ ho).2.1 rfl) ⟨id, fun _ _ => id⟩, h.off, h.low⟩
/-- A row of one's own grows. -/
theorem Qp.grown {w w2 w4 : World} {base : Nat} {row : Option Nat} (h : Qp base w w2) (g : w2.grownBy w4 row) (hrow : ∀ k, row = some k → w.heap.size ≤ k) (hb : base ≤ w.heap.size) : Qp base w w4 := by
  have hf := Fr.of_grown g
  have hs := h.low.size
  refine ⟨h.low.trans (hf.below (by omega) (fun k hk e => by have := hrow k e.symm; omega)), fun k cs ty fr hn hk => ?_⟩
  have hk2 := h.keep k cs ty fr hn hk
  exact (hf.block k (Array.getElem?_eq_some_iff.1 hk2).1 (fun e => by have := hrow k e.symm; have := (Array.getElem?_eq_some_iff.1 hk).1; omega)).trans hk2
theorem own_tys {w : World} {b n : Nat} {e : TypeId} {size : Nat} {v : Value} {xs : List Value} (h : w.ownsRow b e size v n xs) : Tys w (fun k => some k = v.ownBlock) (fun t => t = e) (fun _ => False) := fun k hk _ => by
  obtain ⟨cs, fr, hb⟩ := ownRow_blk h hk.symm
  exact .inl ⟨cs, e, fr, hb, rfl⟩
def recsBelow (Sp : List (List UInt8)) (n : Nat) (L : List (Int × List UInt8)) (pg : Nat) : List (Int × List UInt8) :=
  ((List.range (pg - 1)).filter fun i => inX n L (i + 1)).map fun i => (((i + 1 : Nat) : Int), Sp[i]?.getD [])
theorem recsBelow_succ {Sp : List (List UInt8)} {n : Nat} {L : List (Int × List UInt8)} {pg : Nat} (h : 1 ≤ pg) : recsBelow Sp n L (pg + 1) = recsBelow Sp n L pg ++ (if inX n L pg = true then [((pg : Int), Sp[pg - 1]?.getD [])] else []) := by
  obtain ⟨k, rfl⟩ : ∃ k, pg = k + 1 := ⟨pg - 1, by omega⟩
  unfold recsBelow
  rw [Nat.add_sub_cancel, Nat.add_sub_cancel, List.range_succ, List.filter_append, List.map_append]
  congr 1
  rw [List.filter_cons]
  split <;> rfl
/-- The state behind some pages. -/
def BefI (w : World) (base p d : Nat) (B : PgB) (S : PgV) (Sp : List (List UInt8)) (n : Nat) (wr : World) (pg k : Nat) (A : Option Addr) (c : Nat) : Prop :=
  ∃ C, (PgAt wr base p d B { S with C := C } ∧ CacheOk Sp C.V ∧ C.room = S.C.room) ∧ Qp base w wr ∧ RecOwn wr w.heap.size A k c (recsBelow Sp n (plainL B.L) pg) ∧ w.heap.size ≤ wr.heap.size
def BefRet (w : World) (base p d : Nat) (B : PgB) (S : PgV) (Sp : List (List UInt8)) (R : List (Int × List UInt8)) (en : Ending) (w' : World) : Prop :=
  ∃ A k c C, en = .returned (.tuple #[.slice A k c, .int .i64 0]) ∧ Hid ((PgAt w' base p d B { S with C := C } ∧ CacheOk Sp C.V ∧ C.room = S.C.room) ∧ Qp base w w' ∧ RecOwn w' w.heap.size A k c R)
theorem len_below {Sp : List (List UInt8)} {n : Nat} {L : List (Int × List UInt8)} {pg : Nat} : (recsBelow Sp n L pg).length ≤ pg - 1 := by
  unfold recsBelow
  rw [List.length_map]
  exact Nat.le_trans (List.length_filter_le _ _) (by rw [List.length_range]; exact Nat.le_refl _)
set_option maxRecDepth 100000 in
set_option maxHeartbeats 4000000 in
theorem before_calls (w : World) (base p d : Nat) (B : PgB) (S : PgV) (Sp : List (List UInt8)) (T : TrV) (cnt n : Nat) (h : Hid (PgAt w base p d B S)) (hd : Hid (S.dead = false)) (hT : Hid (S.T = some T)) (hn : Hid (T.n = n ∧ n ≤ 4000)) (hcn : Hid (S.count = cnt ∧ Sp.length = cnt)) (hs : Hid (SureD S.D Sp)) (hc : Hid (CacheOk Sp S.C.V)) :
    Calls Tryz.prog 87 #[.pointer (some ⟨p, 0, none⟩)] w (BefRet w base p d B S Sp (recsFor Sp n (plainL B.L))) := by
  have CM : Hid (cnt ≤ 4000) := hid (by have := hs.out.most; rw [hcn.out.2] at this; exact this)
  go_enter Tryz.func87, Tryz.ntmps87
  go_wp2
  go_loopw [4, 5] (fun l i wr => ∃ (pg k : Nat) (A : Option Addr) (c : Nat), 1 ≤ pg ∧ pg ≤ cnt + 1 ∧ i = .int .i64 pg ∧ l = .slice A k c ∧ Hid (BefI w base p d B S Sp n wr pg k A c)) (fun _ i _ => cnt + 1 - (intOf i).toNat)
  case atStart => exact ⟨1, 0, none, 0, Nat.le_refl _, by omega, rfl, rfl, hid ⟨S.C, ⟨h.out, hc.out, rfl⟩, Qp.refl _ _, ⟨rfl, Nat.le_refl _, [], own_nil _ _ _ _, trivial⟩, Nat.le_refl _⟩⟩
  case round =>
    obtain ⟨pg, k, A, c, hp1, hp2, rfl, rfl, iv⟩ := hrel
    obtain ⟨C, ⟨PA, CO, CR⟩, QP, RO, SZ⟩ := iv.out
    have o := PA.own
    rw [show ({ S with C := C } : PgV).T = some T from hT.out, show ({ S with C := C } : PgV).dead = false from hd.out] at o
    obtain ⟨_, _, e2, e3, _⟩ := o.cells
    replace e2 : wr.cell? ⟨p, 2, none⟩ = some (.int .i64 cnt) := by rw [e2]; show some (Value.int .i64 (S.count : Int)) = _; rw [hcn.out.1]
    replace e3 : wr.cell? ⟨p, 3, none⟩ = some (.pointer (some ⟨B.t, 0, none⟩)) := e3
    have TA := PA.tran T hT.out
    have f0 : wr.cell? ⟨B.t, 0, none⟩ = some (.int .i64 n) := by rw [cell_of_row _ _ _ _ _ _ TA.own, ← hn.out.1]; rfl
    have f1 : wr.cell? ⟨B.t, 1, none⟩ = some (.map (some B.m)) := by rw [cell_of_row _ _ _ _ _ _ TA.own]; rfl
    by_cases hlt : (pg : Int) ≤ cnt
    · have PB : Hid (1 ≤ pg ∧ pg ≤ cnt ∧ cnt ≤ 4000) := hid ⟨hp1, by omega, CM.out⟩
      have lk := TA.pgs.map.look (p := (pg : Int)) (wf_nat (by have := PB.out; omega))
      obtain ⟨b, hb⟩ : ∃ b, Sp[pg - 1]? = some b := ⟨_, List.getElem?_eq_getElem (by have := PB.out; have := hcn.out; omega)⟩
      have SC := sure_calls wr base p d B { S with C := C } Sp pg b (hid PA) hs (hid CO) (hid hp1) (hid hb)
      have SU := recsBelow_succ (Sp := Sp) (n := n) (L := plainL B.L) hp1
      have XI : inX n (plainL B.L) pg = ((gget B.L (pg : Int)).isSome || decide (n < pg)) := by unfold inX; rw [getB_plain, Option.isSome_map]
      have J1 : Hid (wrap64 ((pg : Int) + 1) = ((pg + 1 : Nat) : Int)) := hid (by have := PB.out; unfold wrap64; omega)
      have IV := iv
      clear iv o
      by_cases hx : inX n (plainL B.L) pg = true
      · rw [if_pos hx, hb] at SU
        have SU := hid SU
        have SZ := hid SZ
        have QP := hid QP
        have RO := hid RO
        have CR := hid CR
        have HBL : Hid (b.length = 512) := hid (hs.out.len b (List.mem_of_getElem? hb))
        unfold SureRet at SC
        have tail : ∀ wq : World, True := fun _ => trivial
        clear hb PA CO TA hp1 hp2 tail
        have hcase : ∃ v : Value, (Instr.lookup 128 (.map (some B.m)) (.int .i64 pg) true).run Tryz.prog wr = .ok (.tuple #[v, .bool true]) wr ∨ ((Instr.lookup 128 (.map (some B.m)) (.int .i64 pg) true).run Tryz.prog wr = .ok (.tuple #[v, .bool false]) wr ∧ (n : Int) < pg) := by
          refine ⟨pgAt B.L pg, ?_⟩
          cases hg : (gget B.L (pg : Int)).isSome with
          | true => left; rw [lk, hg]
          | false =>
            right
            rw [XI, hg, Bool.false_or] at hx
            have := of_decide_eq_true hx
            exact ⟨by rw [lk, hg], by omega⟩
        clear lk XI hx
        have BSZ : Hid (base ≤ w.heap.size) := hid h.out.bs
        have LEN : Hid (k < 1000000) := hid (by have := RO.out.1; have := len_below (Sp := Sp) (n := n) (L := plainL B.L) (pg := pg); have := PB.out; omega)
        obtain ⟨v, lk | ⟨lk, hnp⟩⟩ := hcase
        all_goals
          go_wp2_with fail
          refine SC.mono ?_
          rintro en w2 ⟨A2, c2, C2, rfl, hh⟩
          clear SC lk
          go_wp2_with (at_builtin; refine hold ?_)
          obtain ⟨⟨k1, k2, k3⟩, k4, k5⟩ := hh.out
          obtain ⟨r1, r2, cells, r3, r4⟩ := RO.out.qp k4
          have UA : Up w2 (w2.alloc (.cells #[.int .i64 pg, .slice A2 512 c2] 205)) := upAlD (Up.refl w2) _
          have o3 := World.ownsRow.alloc r3 (.cells #[.int .i64 pg, .slice A2 512 c2] 205)
          refine hid (wl_append elemR rfl (.tmp 52) (.tmp 56) rfl rfl o3 rfl (Rd.new w2 205 (0, 0) [.int .i64 pg, .slice A2 512 c2]) rfl (by simp [Value.oneCell']) (by have := LEN.out; simp only [maxLen]; omega) (by have := LEN.out; omega) (Nat.le_trans SZ.out (Nat.le_trans k4.low.size UA.size)) ?_)
          intro A4 c4 w4 o4 g4 _
          have GF := Fr.of_grown g4
          have GT := own_tys o3
          have hcap : k + 1 ≤ c4 := by
            obtain ⟨_, _, he, hle⟩ := own_form o4
            injection he with _ _ he
            omega
          have NI : Hid (BefI w base p d B S Sp n w4 (pg + 1) (k + 1) A4 c4) := by
            have q4 : Qp base w w4 := Qp.grown ((QP.out.trans k4).trans (Qp.up UA k1.bs)) g4 (fun k hk => (own_block o3 k hk).1) BSZ.out
            refine hid ⟨C2, ⟨(k1.up UA).other GF GT (fun t e => by subst e; exact ⟨by unfold pgTy; decide, by decide, by decide⟩), k2, k3.trans CR.out⟩, q4, ?_, q4.low.size⟩
            rw [SU.out]
            refine ⟨by rw [List.length_append, r1]; rfl, hcap, _, o4, ?_⟩
            have r4' : RecsRow w4 0 (recsBelow Sp n (plainL B.L) pg) cells := r4.keep fun _ _ _ o => GF.own (World.ownsRow.alloc o _) (GT.row (World.ownsRow.alloc o _) (by decide))
            have k5' : PageR w4 A2 c2 b := GF.own (World.ownsRow.alloc k5 _) (GT.row (World.ownsRow.alloc k5 _) (by decide))
            have := r4'.snoc pg b A2 c2 (by unfold PageR at k5'; unfold OwnB; rw [HBL.out]; exact k5')
            rw [HBL.out] at this
            exact this
          clear GF GT o3 o4 g4 UA r1 r2 r3 r4 k1 k2 k3 k4 k5 hh QP RO SU CR
          go_wp2
          go_roundw
          case rel => exact ⟨pg + 1, k + 1, A4, c4, by omega, by have := PB.out; omega, by first | rfl | rw [J1.out], rfl, NI⟩
          case measure => have := PB.out; rw [J1.out]; simp only [intOf]; omega
      · rw [if_neg hx, List.append_nil] at SU
        have NI : Hid (BefI w base p d B S Sp n wr (pg + 1) k A c) := hid (by
          refine ⟨C, ⟨PA, CO, CR⟩, QP, ?_, SZ⟩
          rw [SU]; exact RO)
        have hb2 : (gget B.L (pg : Int)).isSome = false ∧ ¬ n < pg := by
          rw [XI] at hx
          cases hg : (gget B.L (pg : Int)).isSome with
          | true => rw [hg] at hx; exact absurd rfl hx
          | false => refine ⟨rfl, fun e => hx ?_⟩; rw [decide_eq_true e, Bool.or_true]
        rw [hb2.1] at lk
        have hnp : (pg : Int) ≤ n := by have := hb2.2; omega
        generalize pgAt B.L (pg : Int) = v at lk
        clear hb hb2 hx XI SU RO QP CR SZ PA CO SC TA hp1 hp2
        go_wp2
        go_roundw
        case rel => exact ⟨pg + 1, k, A, c, by omega, by have := PB.out; omega, by first | rfl | rw [J1.out], rfl, NI⟩
        case measure => have := PB.out; rw [J1.out]; simp only [intOf]; omega
    · have HE : pg = cnt + 1 := by omega
      have RES : Hid ((PgAt wr base p d B { S with C := C } ∧ CacheOk Sp C.V ∧ C.room = S.C.room) ∧ Qp base w wr ∧ RecOwn wr w.heap.size A k c (recsFor Sp n (plainL B.L))) := hid ⟨⟨PA, CO, CR⟩, QP, by
        have e : recsFor Sp n (plainL B.L) = recsBelow Sp n (plainL B.L) pg := by unfold recsFor recsBelow; rw [HE, hcn.out.2, Nat.add_sub_cancel]
        rw [e]; exact RO⟩
      clear iv PA CO CR QP RO SZ TA o HE
      go_wp2
      go_ret2
      exact ⟨A, k, c, C, rfl, RES⟩
end Go.Proofs.YtbcghggkfnagoaaGreatDoor
