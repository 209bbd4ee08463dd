/- THE WALK of free's All. -/
import Derived.Test.YtbcghggkfnagoaaGreatDoorFreB
set_option linter.unusedVariables false
set_option linter.unusedSimpArgs false
namespace Go.Proofs.YtbcghggkfnagoaaGreatDoor
open Go Go.RowKit Go.Maps Hach

theorem elemIN : Elem Tryz.prog 30 3 (.int .i64 0) 1 8 := ⟨Tryz.underlying30, by kernel_rfl, rfl, by decide⟩
def natCell (x : Nat) : Value := .int .i64 (x : Int)
theorem natCell_one (l : List Nat) : ∀ u ∈ l.map natCell, u.oneCell' = true := by
  intro u hu; obtain ⟨x, _, rfl⟩ := List.mem_map.1 hu; rfl
def lenV : Value → Nat
  | .slice _ n _ => n
  | _ => 0
/-- A row of numbers of the call's own. -/
def OwnN (w : World) (base : Nat) (A : Option Addr) (c : Nat) (l : List Nat) : Prop := w.ownsRow base 3 1 (.slice A l.length c) l.length (l.map natCell)
theorem ChainT.at {L : PgL} {T : List Trk} (h : ChainT L T) {k : Nat} {f : Nat} {ls : List Nat} {r : List Trk} (hd : T.drop k = (f, ls) :: r) : ∃ y, gget L f = some y ∧ TrunkB y.bs (headT r) ls := by
  induction T generalizing k with
  | nil => simp at hd
  | cons t T ih =>
    cases k with
    | zero =>
      rw [List.drop_zero] at hd
      injection hd with e1 e2
      subst e1; subst e2
      exact h.1
    | succ k => exact ih h.2 (by simpa using hd)
theorem allT_app (a b : List Trk) : allT (a ++ b) = allT a ++ allT b := by unfold allT; rw [List.flatMap_append]
/-- Inside a trunk: what has been gathered, and the trunk's bytes. -/
def LeafI (w wr : World) (gT : Nat) (ys : List UInt8) (pre ls : List Nat) (A : Option Addr) (n c i : Nat) : Prop :=
  Up w wr ∧ wr.ownsRow w.heap.size 3 1 (.slice A n c) n ((pre ++ ls.take i).map natCell) ∧ Bytes wr (some ⟨gT, 0, none⟩) ys ∧ (∀ k, (Value.slice A n c).ownBlock = some k → k ≠ gT) ∧ gT < wr.heap.size ∧ n = pre.length + i
theorem LeafI.grow {w wr w2 w3 : World} {gT : Nat} {ys : List UInt8} {pre ls : List Nat} {A A3 : Option Addr} {n c i c3 : Nat} {x : Nat} (h : LeafI w wr gT ys pre ls A n c i) (hu : Up wr w2) (ho : w3.ownsRow w.heap.size 3 1 (.slice A3 (n + 1) c3) (n + 1) ((pre ++ ls.take i).map natCell ++ [natCell x])) (hg : w2.grownBy w3 (Value.slice A n c).ownBlock)
    (hd : (Value.slice A3 (n + 1) c3).ownBlock = (Value.slice A n c).ownBlock ∨ (Value.slice A3 (n + 1) c3).ownBlock = some w2.heap.size) (hx : ls.take (i + 1) = ls.take i ++ [x]) : LeafI w w3 gT ys pre ls A3 (n + 1) c3 (i + 1) := by
  obtain ⟨h1, h2, h3, h4, h5, h6⟩ := h
  have hz := hu.size
  have hf := Fr.of_grown hg
  refine ⟨below_append (h1.t hu) (Nat.le_refl _) (Nat.le_trans h1.size hz) ((Fr.of_below hu).own h2 (fun _ _ e => e)) hg, ?_, ?_, ?_, Nat.lt_of_lt_of_le (Nat.lt_of_lt_of_le h5 hz) hf.size, by omega⟩
  · rw [hx, ← List.append_assoc, List.map_append (l₂ := [x])]; exact ho
  · refine ((h3.grown hu).rd.fr hf (fun b off e he => ?_)).bytes
    injection e with e
    injection e with e _ _
    subst e
    exact h4 _ he.symm rfl
  · intro k hk
    rcases hd with hd | hd
    · exact h4 k (hd ▸ hk)
    · rw [hd] at hk
      have := Option.some.inj hk
      omega
def AllRet (w : World) (T : List Trk) (en : Ending) (w' : World) : Prop := ∃ A c k, en = .returned (.tuple #[.slice A k c, .int .i64 0]) ∧ Hid (k = (allT T).length ∧ OwnN w' w.heap.size A c (allT T) ∧ Up w w')
set_option maxRecDepth 100000 in
set_option maxHeartbeats 4000000 in
theorem allH_calls (w : World) (X : HpX) (n : Nat) (T : List Trk) (W : Nat → Int) (U : Nat → List UInt8) (hh : Hid (HeapW w X n T W U)) (hn : Hid (n ≤ 4000)) :
    Calls Tryz.prog 17 #[.pointer (some ⟨X.h, 0, none⟩)] w (AllRet w T) := by
  obtain ⟨L, hp, hs⟩ := hh.out
  obtain ⟨x, hx, hr⟩ := hs.root
  obtain ⟨h, p, t, m, q, mv, last⟩ := X
  have HP := hid hp
  have HS := hid hs
  have HX := hid hx
  have hl := allT_len hs.nodup hs.inn
  have h1 := hs.one
  obtain ⟨N, hN⟩ : ∃ N, (allT T).length = N := ⟨_, rfl⟩
  have HN : Hid ((allT T).length = N ∧ N ≤ 4000 ∧ 1 ≤ n ∧ n < 1000000) := hid ⟨hN, by have := hn.out; omega, h1, by have := hn.out; omega⟩
  obtain ⟨F, hF⟩ : ∃ F, headT T = F := ⟨_, rfl⟩
  have HF := hid hF
  have P12 : Hid (wrap64 (pgGet x.bs 12 4 : Int) = (N : Int)) := hid ((pg4 x.bs 12).trans (by rw [hr.count, hN]))
  have P8 : Hid (wrap64 (pgGet x.bs 8 4 : Int) = (F : Int)) := hid ((pg4 x.bs 8).trans (by rw [hr.first, hF]))
  simp only at HP
  clear hp hx hs hr hl h1 hN hF hh
  show Calls _ _ #[.pointer (some ⟨h, 0, none⟩)] _ _
  go_enter Tryz.func17, Tryz.ntmps17
  go_wp2_with fail
  go_step3
  go_wp2_with (go_at_call 66; refine (hroot_calls w h p t m q mv last n L HP (hid (by have := HN.out; omega)) x HX).mono ?_; rintro en w2 ⟨g, c, rfl, hr⟩)
  have C12 := fget_calls w2 g c x.bs 512 12 4 (hid hr.out.2.2.1) (hid ⟨by decide, by decide, by decide, by decide, hr.out.2.2.2.1⟩) (hid hr.out.1.bytes)
  have C8 := fget_calls w2 g c x.bs 512 8 4 (hid hr.out.2.2.1) (hid ⟨by decide, by decide, by decide, by decide, hr.out.2.2.2.1⟩) (hid hr.out.1.bytes)
  rw [P12.out] at C12
  rw [P8.out] at C8
  have U2 := hid hr.out.2.1
  clear hr
  refine C12.mono ?_
  rintro en w3 ⟨rfl, hw⟩
  obtain rfl := hw.symm
  clear hw C12
  go_wp2_with fail
  go_step3
  go_wp2_with fail
  refine C8.mono ?_
  rintro en w3 ⟨rfl, hw⟩
  obtain rfl := hw.symm
  clear hw C8
  go_wp2
  have START : Hid (Up w w2 ∧ OwnN w2 w.heap.size none 0 (allT (T.take 0)) ∧ F = headT (T.drop 0) ∧ 0 = (allT (T.take 0)).length) := hid ⟨U2.out, own_nil _ _ _ _, HF.out.symm, rfl⟩
  go_loopw [6, 8] (fun lv nv wr => ∃ (k : Nat) (A : Option Addr) (c j f : Nat), lv = .slice A j c ∧ nv = .int .i64 f ∧ Hid (Up w wr ∧ OwnN wr w.heap.size A c (allT (T.take k)) ∧ f = headT (T.drop k) ∧ j = (allT (T.take k)).length)) (fun lv _ _ => N - lenV lv)
  case atStart => exact ⟨0, none, 0, 0, F, rfl, rfl, START⟩
  case round =>
    obtain ⟨k, A, c, j, f, rfl, rfl, iv⟩ := hrel
    cases hd : T.drop k with
    | nil =>
      have e0 : f = 0 := by rw [iv.out.2.2.1, hd]; rfl
      have ht : T.take k = T := List.take_of_length_le (List.drop_eq_nil_iff.1 hd)
      have RES : Hid (j = N ∧ OwnN wr w.heap.size A c (allT T) ∧ Up w wr) := hid ⟨by rw [iv.out.2.2.2, ht]; exact HN.out.1, by have := iv.out.2.1; rwa [ht] at this, iv.out.1⟩
      subst e0
      obtain rfl := RES.out.1
      clear iv ht hd START
      go_wp2
      go_ret2
      exact ⟨A, c, _, rfl, hid ⟨HN.out.1.symm, RES.out.2⟩⟩
    | cons tr r =>
      obtain ⟨f', ls⟩ := tr
      have ef : f = f' := by rw [iv.out.2.2.1, hd]; rfl
      subst ef
      obtain ⟨y, hy, hb⟩ := HS.out.chain.at hd
      have hT : T = T.take k ++ (f, ls) :: r := by rw [← hd, List.take_append_drop]
      have hall : allT T = allT (T.take k) ++ (f :: (ls ++ allT r)) := by
        have := congrArg allT hT
        rw [allT_app, allT_cons] at this
        exact this
      have hk1 : T.take (k + 1) = T.take k ++ [(f, ls)] := by
        have hl1 : k < T.length := by
          have := congrArg List.length hd
          rw [List.length_drop, List.length_cons] at this
          omega
        rw [List.take_succ_eq_append_getElem hl1]
        have : T[k]? = some (f, ls) := by
          have h0 : (T.drop k)[0]? = some (f, ls) := by rw [hd]; rfl
          rw [List.getElem?_drop] at h0
          exact h0
        rw [List.getElem?_eq_getElem hl1] at this
        rw [Option.some.inj this]
      have hd1 : T.drop (k + 1) = r := by rw [List.drop_add_one_eq_tail_drop, hd]; rfl
      have ff := HS.out.inn f (by rw [hall]; simp)
      obtain ⟨M, hM⟩ : ∃ M, ls.length = M := ⟨_, rfl⟩
      have hlen := congrArg List.length hall
      simp only [List.length_append, List.length_cons] at hlen
      have JB : Hid (j + 1 + M ≤ N ∧ N ≤ 4000 ∧ M ≤ 126 ∧ ls.length = M) := hid (by have h1 := HN.out; have h2 := iv.out.2.2.2; have h3 := hb.most; omega)
      have f0 : (0 : Int) < (f : Int) := by omega
      have jN : ¬ (N : Int) ≤ (j : Int) := by have := JB.out; omega
      have FF : Hid (1 < f ∧ f ≤ n ∧ n < 1000000) := hid (by have := HN.out; omega)
      have Q4 : Hid (wrap64 (pgGet y.bs 4 4 : Int) = (M : Int)) := hid ((pg4 y.bs 4).trans (by rw [hb.count, hM]))
      have Q0 : Hid (wrap64 (pgGet y.bs 0 4 : Int) = ((headT r : Nat) : Int)) := hid ((pg4 y.bs 0).trans (by rw [hb.next]))
      have HY := hid hy
      have HB := hid hb
      have K1 := hid (And.intro hk1 hd1)
      have HPr := hid (HP.out.up iv.out.1)
      have OL := hid iv.out.2.1
      have UL := hid iv.out.1
      have JL : Hid (j = (allT (T.take k)).length) := hid iv.out.2.2.2
      clear iv hd hT hall hk1 hd1 hlen hM ff hy hb START
      go_wp2_with fail
      refine (htrunk_calls wr h p t m q mv last n L HPr f FF y HY (hid (by have := HB.out.count; have := JB.out; omega))).mono ?_
      rintro en w4 ⟨gT, cT, rfl, hr⟩
      have U4 : Hid (Up w w4) := hid (UL.out.t hr.out.2.1)
      have O4 : Hid (OwnN w4 w.heap.size A c (allT (T.take k))) := hid ((Fr.of_below hr.out.2.1).own OL.out (fun _ _ => id))
      have YB : Hid (Bytes w4 (some ⟨gT, 0, none⟩) y.bs ∧ y.bs.length = 512 ∧ 512 ≤ cT) := hid ⟨hr.out.1.bytes, hr.out.2.2.1, hr.out.2.2.2.1⟩
      have GT : Hid (gT < w4.heap.size ∧ ∀ b, (Value.slice A (allT (T.take k)).length c).ownBlock = some b → b ≠ gT) := hid ⟨(own_block hr.out.1 gT rfl).2, fun b hb e => by have h1 := (own_block OL.out b hb).2; have h2 := hr.out.2.2.2.2; omega⟩
      clear hr OL UL HPr
      have o4 : w4.ownsRow w.heap.size 3 1 (.slice A j c) j ((allT (T.take k)).map natCell) := by have := O4.out; unfold OwnN at this; rw [← JL.out] at this; exact this
      have o5 := World.ownsRow.alloc o4 (.cells #[.int .i64 f] 3)
      have u5 : Up w4 (w4.alloc (.cells #[.int .i64 f] 3)) := upAlD (Up.refl w4) _
      have hs5 := Nat.le_trans U4.out.size u5.size
      have L4 : LeafI w w4 gT y.bs (allT (T.take k)) [f] A j c 0 := ⟨U4.out, by rw [List.take_zero, List.append_nil]; exact o4, YB.out.1, by have := GT.out.2; rwa [← JL.out] at this, GT.out.1, JL.out⟩
      have HL4 := hid L4
      have HU5 := hid u5
      clear u5 o4 O4 L4
      go_wp2_with (at_builtin; refine hold ?_)
      refine hid (wl_append elemIN rfl (.tmp 41) (.tmp 43) rfl rfl o5 rfl (Rd.new w4 3 (0, 0) [.int .i64 f]) rfl (by simp [Value.oneCell']) (by have := JB.out; simp only [maxLen]; omega) (by have := JB.out; omega) hs5 ?_)
      intro A6 c6 w6 o6 g6 d6
      have L6 := HL4.out.grow (x := f) (A3 := A6) (c3 := c6) HU5.out (by rw [List.take_zero, List.append_nil]; exact o6) g6 d6 rfl
      obtain ⟨pre, hpre⟩ : ∃ pre, allT (T.take k) ++ [f] = pre := ⟨_, rfl⟩
      have START2 : Hid (LeafI w w6 gT y.bs pre ls A6 (j + 1) c6 0) := hid (by
        obtain ⟨a1, a2, a3, a4, a5, a6⟩ := L6
        refine ⟨a1, ?_, a3, a4, a5, by rw [← hpre, List.length_append]; simpa using a6⟩
        rw [← hpre, List.take_zero, List.append_nil]
        exact a2)
      have HPRE := hid hpre
      clear L6 hpre o6 g6 d6 o5 hs5 HU5
      have C4 := fget_calls w6 gT cT y.bs 512 4 4 (hid YB.out.2.1) (hid ⟨by decide, by decide, by decide, by decide, YB.out.2.2⟩) (hid START2.out.2.2.1)
      rw [Q4.out] at C4
      go_wp2_with fail
      refine C4.mono ?_
      rintro en w7 ⟨rfl, hw⟩
      obtain rfl := hw.symm
      clear hw C4
      obtain ⟨wo, rfl⟩ : ∃ wo : World, wo = wr := ⟨_, rfl⟩
      go_wp2
      go_loopw [6, 47] (fun lv nv wr2 => ∃ (i : Nat) (A2 : Option Addr) (c2 n2 : Nat), i ≤ M ∧ lv = .slice A2 n2 c2 ∧ nv = .int .i64 i ∧ Hid (LeafI w wr2 gT y.bs pre ls A2 n2 c2 i)) (fun _ nv _ => M - (intOf nv).toNat)
      case atStart => exact ⟨0, A6, c6, j + 1, Nat.zero_le _, rfl, rfl, START2⟩
      case round =>
        obtain ⟨i, A2, c2, n2, hi, rfl, rfl, iv⟩ := hrel
        by_cases hlt : (i : Int) < M
        · obtain ⟨z, hz⟩ : ∃ z, ls[i]? = some z := ⟨_, List.getElem?_eq_getElem (by have := JB.out; omega)⟩
          have hz1 : ls.take (i + 1) = ls.take i ++ [z] := by rw [List.take_add_one, hz]; rfl
          have I8 : Hid (i < M ∧ i < 200 ∧ n2 < 4000) := hid (by have h1 := JB.out; have h2 := iv.out.2.2.2.2.2; have h3 := HPRE.out; have h4 := congrArg List.length h3; rw [List.length_append, ← JL.out] at h4; simp only [List.length_cons, List.length_nil] at h4; omega)
          have EW : Hid (wrap64 (8 + wrap64 ((i : Int) * 4)) = ((8 + i * 4 : Nat) : Int)) := hid (by rw [wM4 (K := i * 4) (by have := I8.out; omega) rfl, w8p (K := 8 + i * 4) (by have := I8.out; omega) rfl])
          have CI := fget_calls wr gT cT y.bs 512 (8 + i * 4) 4 (hid YB.out.2.1) (hid ⟨by have := JB.out; omega, by decide, by decide, by decide, YB.out.2.2⟩) (hid iv.out.2.2.1)
          rw [(pg4 y.bs (8 + i * 4)).trans (by rw [HB.out.leaf i z hz])] at CI
          have HZ1 := hid hz1
          have HI := iv
          have o9 := World.ownsRow.alloc iv.out.2.1 (.cells #[.int .i64 z] 3)
          have hs9 := Nat.le_trans iv.out.1.size (upAlD (Up.refl wr) (.cells #[.int .i64 z] 3)).size
          clear hz hz1 iv
          go_wp2_with fail
          rw [EW.out]
          refine CI.mono ?_
          rintro en w7 ⟨rfl, hw⟩
          obtain rfl := hw.symm
          clear hw CI
          go_wp2_with (at_builtin; refine hold ?_)
          refine hid (wl_append elemIN rfl (.tmp 50) (.tmp 56) rfl rfl o9 rfl (Rd.new wr 3 (0, 0) [.int .i64 z]) rfl (by simp [Value.oneCell']) (by have := I8.out; simp only [maxLen]; omega) (by have := I8.out; omega) hs9 ?_)
          intro A9 c9 w9 o9' g9 d9
          have L9 := hid (HI.out.grow (x := z) (A3 := A9) (c3 := c9) (upAlD (Up.refl wr) _) o9' g9 d9 HZ1.out)
          clear o9 o9' g9 d9 hs9
          go_wp2
          go_roundw
          case rel => exact ⟨i + 1, A9, c9, n2 + 1, I8.out.1, rfl, by rw [wS (K := i + 1) (by have := I8.out; omega) rfl], L9⟩
          case measure => have := I8.out; rw [wS (K := i + 1) (by omega) rfl]; simp only [intOf]; omega
        · have hiM : i = M := by omega
          have ELS : Hid (ls.take i = ls ∧ i = M) := hid ⟨List.take_of_length_le (by have := JB.out; omega), hiM⟩
          have HI := iv
          have C0 := fget_calls wr gT cT y.bs 512 0 4 (hid YB.out.2.1) (hid ⟨by decide, by decide, by decide, by decide, YB.out.2.2⟩) (hid iv.out.2.2.1)
          rw [Q0.out] at C0
          clear iv hiM
          go_wp2_with fail
          refine C0.mono ?_
          rintro en w7 ⟨rfl, hw⟩
          obtain rfl := hw.symm
          clear hw C0
          have REL : Hid (Up w wr ∧ OwnN wr w.heap.size A2 c2 (allT (T.take (k + 1))) ∧ headT r = headT (T.drop (k + 1)) ∧ n2 = (allT (T.take (k + 1))).length) := hid (by
            obtain ⟨a1, a2, a3, a4, a5, a6⟩ := HI.out
            have e1 : allT (T.take (k + 1)) = pre ++ ls := by
              rw [K1.out.1, allT_app, ← HPRE.out, List.append_assoc]
              congr 1
              rw [allT_cons]; simp [allT]
            have e2 : n2 = (allT (T.take (k + 1))).length := by rw [e1, List.length_append, a6]; have := JB.out; have := ELS.out.2; omega
            refine ⟨a1, ?_, by rw [K1.out.2], e2⟩
            rw [ELS.out.1, ← e1] at a2
            unfold OwnN
            rw [← e2]
            exact a2)
          have MB : Hid (j < n2 ∧ n2 ≤ N) := hid (by have h2 := HI.out.2.2.2.2.2; have h4 := congrArg List.length HPRE.out; rw [List.length_append, ← JL.out] at h4; simp only [List.length_cons, List.length_nil] at h4; have := JB.out; have := ELS.out.2; omega)
          clear HI
          go_wp2
          go_roundw
          case rel => exact ⟨k + 1, A2, c2, n2, _, rfl, rfl, REL⟩
          case measure => simp only [lenV]; have := MB.out; omega
end Go.Proofs.YtbcghggkfnagoaaGreatDoor
