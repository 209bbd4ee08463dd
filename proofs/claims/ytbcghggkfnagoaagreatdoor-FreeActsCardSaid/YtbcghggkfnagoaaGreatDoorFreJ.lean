/- THE WALK of free's Trim. THE WALK of free's Trim. -/
import Derived.Test.YtbcghggkfnagoaaGreatDoorFreI
import Derived.Test.YtbcghggkfnagoaaGreatDoorSrt
set_option linter.unusedVariables false
set_option linter.unusedSimpArgs false
namespace Go.Proofs.YtbcghggkfnagoaaGreatDoor
open Go Go.RowKit Go.Maps Hach

/-! ### plain laws -/
theorem srt_eq : ∀ {l1 l2 : List Nat}, l1.Pairwise (· < ·) → l2.Pairwise (· < ·) → (∀ x, x ∈ l1 ↔ x ∈ l2) → l1 = l2
  | [], [], _, _, _ => rfl
  | [], b :: r, _, _, h => absurd ((h b).2 List.mem_cons_self) (by simp)
  | a :: r, [], _, _, h => absurd ((h a).1 List.mem_cons_self) (by simp)
  | a :: r1, b :: r2, h1, h2, h => by
    rw [List.pairwise_cons] at h1 h2
    have hab : a = b := by
      have ha := (h a).1 List.mem_cons_self
      have hb := (h b).2 List.mem_cons_self
      rcases List.mem_cons.1 ha with e | e
      · exact e
      · rcases List.mem_cons.1 hb with e2 | e2
        · exact e2.symm
        · have := h2.1 a e; have := h1.1 b e2; omega
    subst hab
    rw [srt_eq h1.2 h2.2 fun x => ?_]
    constructor
    · intro hx
      have := h1.1 x hx
      rcases List.mem_cons.1 ((h x).1 (List.mem_cons_of_mem _ hx)) with e | e
      · omega
      · exact e
    · intro hx
      have := h2.1 x hx
      rcases List.mem_cons.1 ((h x).2 (List.mem_cons_of_mem _ hx)) with e | e
      · omega
      · exact e
def trimL (T : List Trk) (k : Nat) : List Nat := (List.range (k + 1)).filter fun x => decide (x ∈ allT T)
def trimV (T : List Trk) (k : Nat) : List Trk := (trimL T k).foldl giveV []
theorem foldG_mem (l : List Nat) : ∀ (T : List Trk) (z : Nat), z ∈ allT (l.foldl giveV T) ↔ z ∈ l ∨ z ∈ allT T := by
  induction l with
  | nil => intro T z; simp
  | cons a r ih =>
    intro T z
    rw [List.foldl_cons, ih, giveV_mem, List.mem_cons]
    constructor
    · rintro (h | h | h)
      · exact .inl (.inr h)
      · exact .inl (.inl h)
      · exact .inr h
    · rintro ((h | h) | h)
      · exact .inr (.inl h)
      · exact .inl h
      · exact .inr (.inr h)
theorem lt_of_le_nodup {l : List Nat} (h : l.Pairwise (· ≤ ·)) (hn : l.Nodup) : l.Pairwise (· < ·) := by
  have := h.and hn
  exact this.imp (fun ⟨a, b⟩ => by omega)
theorem cut_eq {T : List Trk} {r : List Nat} {k s : Nat} (hp : r.Perm (allT T)) (hs : r.Pairwise (· < ·)) (h1 : ∀ x ∈ r.take s, x ≤ k) (h2 : ∀ x ∈ r.drop s, k < x) : r.take s = trimL T k := by
  refine srt_eq (hs.sublist (List.take_sublist _ _)) (List.pairwise_lt_range.filter _) fun x => ?_
  unfold trimL
  rw [List.mem_filter, List.mem_range, decide_eq_true_eq, ← hp.mem_iff]
  constructor
  · intro hx
    exact ⟨by have := h1 x hx; omega, List.mem_of_mem_take hx⟩
  · rintro ⟨hk, hx⟩
    rw [← List.take_append_drop s r, List.mem_append] at hx
    rcases hx with hx | hx
    · exact hx
    · have := h2 x hx; omega
theorem rising_nat (l : List Nat) : ∃ r : List Nat, (rising (l.map fun x : Nat => (x : Int))) = r.map (fun x : Nat => (x : Int)) ∧ r.Perm l ∧ r.Pairwise (· ≤ ·) := by
  have hp : (rising (l.map fun x : Nat => (x : Int))).Perm (l.map fun x : Nat => (x : Int)) := List.mergeSort_perm _ _
  have hs : (rising (l.map fun x : Nat => (x : Int))).Pairwise fun a b => (decide (a ≤ b)) = true := List.pairwise_mergeSort (fun a b c h1 h2 => by simp at *; omega) (fun a b => by simp; omega) _
  refine ⟨(rising (l.map fun x : Nat => (x : Int))).map Int.toNat, ?_, ?_, ?_⟩
  · rw [List.map_map]
    conv => lhs; rw [← List.map_id (rising (l.map fun x : Nat => (x : Int)))]
    refine List.map_congr_left fun x hx => ?_
    obtain ⟨y, _, rfl⟩ := List.mem_map.1 (hp.mem_iff.1 hx)
    simp
  · have := hp.map Int.toNat
    rw [List.map_map] at this
    refine this.trans ?_
    have e : l.map (Int.toNat ∘ fun x : Nat => (x : Int)) = l := by
      conv => rhs; rw [← List.map_id l]
      exact List.map_congr_left fun x _ => by simp
    rw [e]
  · rw [List.pairwise_map]
    exact hs.imp fun h => by have := of_decide_eq_true h; omega
theorem HeapS.zero {L : PgL} {n : Nat} {T : List Trk} {W : Nat → Int} {U : Nat → List UInt8} (h : HeapS L n T W U) {x : PgX} (hx : gget L (1 : Nat) = some x) : ∃ U', ∀ g c, HeapS (gput L (1 : Nat) ⟨g, c, mkPut (mkPut x.bs 8 (Oct.be 0 4)) 12 (Oct.be 0 4)⟩) n [] W U' := by
  obtain ⟨x', hx', hr⟩ := h.root
  obtain rfl : x = x' := Option.some.inj (hx.symm.trans hx')
  have lx := h.lens _ (gget_mem hx)
  have R1 := hr.first' lx (f' := 0) (by decide)
  have R2 := R1.count' (mk4_len lx (by decide) _) (c' := 0) (by decide)
  refine ⟨fun i => ((gget L i).map PgX.bs).getD [], fun g c => ⟨h.keys.put ⟨by omega, h.one⟩ _, gput_lens h.lens (mk4_len (mk4_len lx (by decide) _) (by decide) _), h.one, ⟨⟨g, c, _⟩, ?_, R2⟩, trivial, List.nodup_nil, fun z hz => by simp [allT] at hz, fun i h2 hi hn => ?_, full_put h.full⟩⟩
  · rw [gget_put, if_pos rfl]; try rfl
  · rw [gget_put, if_neg (by omega)]
    obtain ⟨y, hy⟩ := h.full i (by omega) hi
    exact ⟨y, hy, by rw [hy]; rfl⟩
section
variable (w : World) (X : HpX) (n : Nat) (T : List Trk) (W : Nat → Int) (U : Nat → List UInt8)
set_option maxRecDepth 100000 in
set_option maxHeartbeats 2000000 in
theorem trimBad_calls (i : Int) (hh : Hid (HeapW w X n T W U)) (hn : Hid (n ≤ 4000)) (hi : Hid (i < 1 ∨ (n : Int) < i)) :
    Calls Tryz.prog 63 #[.pointer (some ⟨X.h, 0, none⟩), .int .i64 i] w fun en w' => en = .returned (.int .i64 11) ∧ Hid (Up w w') := by
  have CA := allH_calls w X n T W U hh hn
  by_cases hi1 : i < 1
  · go_enter Tryz.func63, Tryz.ntmps63
    go_wp2_with (go_at_call 17; refine CA.mono ?_; rintro en w2 ⟨A, c, k, rfl, hr⟩)
    go_ret
    exact ⟨rfl, hid hr.out.2.2⟩
  · have hi2 : (n : Int) < i := hi.out.resolve_left hi1
    obtain ⟨L, hp, hs⟩ := hh.out
    obtain ⟨h, p, t, m, q, mv, last⟩ := X
    have HP := hid hp
    simp only at HP
    have CA' : Calls _ _ #[.pointer (some ⟨h, 0, none⟩)] w _ := CA
    clear hp hs hh CA
    show Calls _ _ #[.pointer (some ⟨h, 0, none⟩), _] _ _
    go_enter Tryz.func63, Tryz.ntmps63
    go_wp2_with (go_at_call 17; refine CA'.mono ?_; rintro en w2 ⟨A, c, k, rfl, hr⟩; have e20 := (HP.out.up hr.out.2.2).cell)
    have U2 := hid hr.out.2.2
    have HP2 := hid (HP.out.up hr.out.2.2)
    clear hr
    refine (ppages_calls w2 p t m q mv last n L (hid HP2.out.tran)).mono ?_
    rintro en w' ⟨rfl, hw⟩
    obtain rfl := hw.symm
    clear hw e20
    go_wp2
    go_ret
    exact ⟨rfl, U2⟩
end
end Go.Proofs.YtbcghggkfnagoaaGreatDoor

namespace Go.Proofs.YtbcghggkfnagoaaGreatDoor
open Go Go.RowKit Go.Maps Hach

/-- The pages that stay are given, one by one. -/
def TrimI (w wr : World) (X : HpX) (n : Nat) (W : Nat → Int) (U : Nat → List UInt8) (r : List Nat) (A : Option Addr) (s : Nat) : Prop :=
  HeapW wr X n ((r.take s).foldl giveV []) W U ∧ Fr (HpS X) w wr ∧ Rd wr A (r.map natCell) ∧ ∀ b off, A = some ⟨b, off, none⟩ → w.heap.size ≤ b
set_option maxRecDepth 100000 in
set_option maxHeartbeats 4000000 in
theorem trim_calls (w : World) (X : HpX) (n : Nat) (T : List Trk) (W : Nat → Int) (U : Nat → List UInt8) (k : Nat) (hh : Hid (HeapW w X n T W U)) (hn : Hid (n ≤ 4000)) (hk : Hid (1 ≤ k ∧ k ≤ n)) :
    Calls Tryz.prog 63 #[.pointer (some ⟨X.h, 0, none⟩), .int .i64 k] w fun en w' => en = .returned (.int .i64 0) ∧ ∃ U', Hid (HeapW w' X k (trimV T k) W U' ∧ Fr (HpS X) w w') := by
  have CA := allH_calls w X n T W U hh hn
  have XT : Hid (X.t < w.heap.size ∧ X.m < w.heap.size) := hid (HeapW.step (w' := w) hh.out)
  obtain ⟨L, hp, hs⟩ := hh.out
  have hi1 : ¬ (k : Int) < 1 := by have := hk.out; omega
  have hi2 : ¬ (n : Int) < (k : Int) := by have := hk.out; omega
  have INN := hid hs.inn
  have ND := hid hs.nodup
  have N1 : Hid (1 ≤ n) := hid hs.one
  have HLL : Hid (L.length < 900000) := hid (by have := hs.keys.len; have := hn.out; omega)
  obtain ⟨x, hx, hr⟩ := hs.root
  have HLX := hid (hs.lens _ (gget_mem hx))
  obtain ⟨U', hz⟩ := hs.zero hx
  have HZ := hid hz
  have HX := hid hx
  have HP := hid hp
  clear hp hs hx hr hz hh
  obtain ⟨h, p, t, m, q, mv, last⟩ := X
  simp only at HP
  obtain ⟨RB, hRB⟩ : ∃ r, mkPut (mkPut x.bs 8 (Oct.be 0 4)) 12 (Oct.be 0 4) = r := ⟨_, rfl⟩
  rw [hRB] at HZ
  have HRB := hid hRB
  clear hRB
  have CA' : Calls _ _ #[.pointer (some ⟨h, 0, none⟩)] w _ := CA
  clear CA
  show Calls _ _ #[.pointer (some ⟨h, 0, none⟩), _] _ _
  go_enter Tryz.func63, Tryz.ntmps63
  go_wp2_with (go_at_call 17; refine CA'.mono ?_; rintro en w2 ⟨A, c, kk, rfl, hr⟩; have e20 := (HP.out.up hr.out.2.2).cell)
  have U2 := hid hr.out.2.2
  have HP2 := hid (HP.out.up hr.out.2.2)
  have OA := hid hr.out.2.1
  have KK : Hid (kk = (allT T).length) := hid hr.out.1
  clear hr CA'
  refine (ppages_calls w2 p t m q mv last n L (hid HP2.out.tran)).mono ?_
  rintro en w' ⟨rfl, hw⟩
  obtain rfl := hw.symm
  clear hw
  go_wp2_with (go_at_call 66; refine (hroot_calls w2 h p t m q mv last n L HP2 (hid (by have := hn.out; have := N1.out; omega)) x HX).mono ?_; rintro en w3 ⟨g, c3, rfl, hr⟩)
  have U3 : Hid (Up w w3) := hid (U2.out.t hr.out.2.1)
  have OR := hid hr.out.1
  have GR : Hid (w2.heap.size ≤ g) := hid hr.out.2.2.2.2
  have XL : Hid (x.bs.length = 512 ∧ 512 ≤ c3) := hid ⟨hr.out.2.2.1, hr.out.2.2.2.1⟩
  have OA3 : Hid (OwnN w3 w.heap.size A c (allT T)) := hid ((Fr.of_below hr.out.2.1).own OA.out (fun _ _ => id))
  have AB : Hid (∀ b, (Value.slice A (allT T).length c).ownBlock = some b → b ≠ g) := hid (fun b hb e => by have := (own_block OA.out b hb).2; have := GR.out; omega)
  clear hr OA e20
  refine (fset_calls w3 w2.heap.size g c3 x.bs 512 8 4 (0 : Int) 0 (hid (u64w (by decide))) (hid (by decide)) (hid XL.out.1) (hid ⟨by decide, by decide, by decide, by decide, XL.out.2⟩) OR).mono ?_
  rintro en w4 ⟨rfl, hr⟩
  have O4 := hid hr.out.1
  have F4 : Hid (Fr (fun k => k = g) w3 w4) := hid hr.out.2
  clear hr OR
  go_wp2_with fail
  refine (fset_calls w4 w2.heap.size g c3 _ 512 12 4 (0 : Int) 0 (hid (u64w (by decide))) (hid (by decide)) (hid (mk4_len XL.out.1 (by decide) 0)) (hid ⟨by decide, by decide, by decide, by decide, XL.out.2⟩) O4).mono ?_
  rintro en w5 ⟨rfl, hr⟩
  have O5 := hid hr.out.1
  have RL : Hid ((mkPut (mkPut x.bs 8 (Oct.be 0 4)) 12 (Oct.be 0 4)).length = 512) := hid (mk4_len (mk4_len XL.out.1 (by decide) 0) (by decide) 0)
  rw [HRB.out] at O5 RL
  have F5 : Hid (Fr (fun k => k = g) w3 w5) := hid (F4.out.trans' hr.out.2)
  have U5 : Hid (Up w w5) := hid (U3.out.trans (F5.out.below U3.out.size (fun k hk e => by have := GR.out; have := U2.out.size; omega)))
  have OA5 : Hid (OwnN w5 w.heap.size A c (allT T)) := hid (F5.out.own OA3.out (fun b hb e => AB.out b hb e))
  have HP5 := hid (HP.out.up U5.out)
  clear hr O4 F4 F5 OA3 HP2
  have e50 := HP5.out.cell
  go_wp2_with fail
  refine (pput_calls w5 p t m q mv last n L (hid HP5.out.tran) 1 (hid (by have := hn.out; have := N1.out; omega)) (hid (by have := HLL.out; omega)) _ RB c3 RL (hid O5.out.bytes)).mono ?_
  rintro en w6 ⟨rfl, g6, c6, hr⟩
  have HW6 : Hid (HeapW w6 ⟨h, p, t, m, q, mv, last⟩ n [] W U') := hid ⟨_, HP5.out.step hr.out.1 (hr.out.2.1.mono (fun k e => .inr e)), HZ.out g6 c6⟩
  have F6 : Hid (Fr (fun b => b = t ∨ b = m) w w6) := hid (((Fr.of_below U5.out).mono (fun _ e => e.elim)).trans' (hr.out.2.1.mono (fun k e => .inr e)))
  have OA6 : Hid (OwnN w6 w.heap.size A c (allT T)) := hid (hr.out.2.1.own OA5.out (fun b hb e => by have := (own_block OA5.out b hb).1; have h9 := XT.out.2; omega))
  clear hr OA5 e50 O5 HP5 U5
  have CS := sort_calls w6 w.heap.size kk c A ((allT T).map fun x : Nat => (x : Int)) (hid (by rw [List.length_map]; exact KK.out)) (hid (by
    have h9 := OA6.out
    unfold OwnN at h9
    rw [← KK.out] at h9
    rw [List.map_map]
    exact h9)) (hid (by have h1 := KK.out; have h2 := allT_len ND.out INN.out; have h3 := hn.out; omega))
  go_wp2_with fail
  refine CS.mono ?_
  rintro en w7 ⟨rfl, hr⟩
  obtain ⟨r, hr1, hr2, hr3⟩ := rising_nat (allT T)
  have START : Hid (TrimI w w7 ⟨h, p, t, m, q, mv, last⟩ n W U' r A 0) := hid (by
    have h7 := hr.out
    rw [hr1, List.map_map] at h7
    have hb := own_block h7.1
    have hf := Fr.of_grown h7.2
    have ho6 := OA6.out
    unfold OwnN at ho6
    rw [← KK.out] at ho6
    refine ⟨HW6.out.fr hf (fun b _ e => apart_own (A := none) (c := 0) (base := w.heap.size) (n := kk) (l := allT T) ho6 e.symm), F6.out.trans hf (fun b hb9 e => absurd (own_block ho6 b e.symm).1 (by omega)), Rd.own h7.1, fun b off e => ?_⟩
    subst e
    exact (hb b rfl).1)
  have SRT : Hid (r.Perm (allT T) ∧ r.Pairwise (· < ·) ∧ r.length = kk) := hid ⟨hr2, lt_of_le_nodup hr3 (hr2.nodup_iff.2 ND.out), by rw [hr2.length_eq]; exact KK.out.symm⟩
  clear hr CS hr1 hr2 hr3 OA6 HW6 F6
  go_wp2
  go_loopw [58] (fun iv wr => ∃ s : Nat, iv = .int .i64 s ∧ s ≤ kk ∧ Hid (TrimI w wr ⟨h, p, t, m, q, mv, last⟩ n W U' r A s ∧ ∀ x ∈ r.take s, x ≤ k)) (fun iv _ => kk - (intOf iv).toNat)
  case atStart => exact ⟨0, rfl, Nat.zero_le _, hid ⟨START.out, fun x hx => by simp at hx⟩⟩
  case round =>
    clear START
    obtain ⟨s, rfl, hs, iv⟩ := hrel
    by_cases hgo : ∃ x, r[s]? = some x ∧ x ≤ k
    · obtain ⟨z, hz, hzk⟩ := hgo
      obtain ⟨ab, ao, rfl, hcz⟩ := iv.out.1.2.2.1 s (natCell z) (by rw [List.getElem?_map, hz]; rfl)
      unfold natCell at hcz
      have hsk : s < kk := by rw [← SRT.out.2.2]; exact (List.getElem?_eq_some_iff.1 hz).1
      have hlt : (s : Int) < kk := by omega
      have hzk2 : ¬ (k : Int) < (z : Int) := by omega
      have htk : r.take (s + 1) = r.take s ++ [z] := by rw [List.take_add_one, hz]; rfl
      have hzm := SRT.out.1.mem_iff.1 (List.mem_of_getElem? hz)
      have hnx : z ∉ allT ((r.take s).foldl giveV []) := by
        rw [foldG_mem]
        rintro (hm | hm)
        · have h2 := SRT.out.2.1.sublist (List.take_sublist (s + 1) r)
          rw [htk, List.pairwise_append] at h2
          have := h2.2.2 z hm z (List.mem_singleton.2 rfl)
          omega
        · simp [allT] at hm
      have CG := giveH_calls wr ⟨h, p, t, m, q, mv, last⟩ n _ W U' z (hid iv.out.1.1) hn (hid ⟨(INN.out z hzm).1, (INN.out z hzm).2, hnx⟩)
      have CG' : Calls _ _ #[.pointer (some ⟨h, 0, none⟩), _] wr _ := CG
      have TK := hid (And.intro htk (show z ≤ k ∧ s < kk ∧ kk ≤ 4000 from ⟨hzk, hsk, by rw [KK.out]; have := allT_len ND.out INN.out; have := hn.out; omega⟩))
      have IV := iv
      clear iv hz hzk hsk htk hzm hnx CG hs
      go_wp2_with fail
      refine CG'.mono ?_
      rintro en w8 ⟨rfl, hr⟩
      have NEXT : Hid (TrimI w w8 ⟨h, p, t, m, q, mv, last⟩ n W U' r (some ⟨ab, ao, none⟩) (s + 1) ∧ ∀ x ∈ r.take (s + 1), x ≤ k) := hid (by
        refine ⟨⟨?_, IV.out.1.2.1.trans' hr.out.2, IV.out.1.2.2.1.fr hr.out.2 (fun b off e hb => ?_), IV.out.1.2.2.2⟩, fun x hx => ?_⟩
        · rw [TK.out.1, List.foldl_append]; exact hr.out.1
        · have h1 := IV.out.1.2.2.2 b off e
          have h2 := XT.out
          rcases hb with hb | hb
          · have hb' : b = t := hb
            omega
          · have hb' : b = m := hb
            omega
        · rw [TK.out.1, List.mem_append] at hx
          rcases hx with hx | hx
          · exact IV.out.2 x hx
          · rw [List.mem_singleton.1 hx]; exact TK.out.2.1)
      clear hr CG'
      go_wp2
      go_roundw
      case rel => exact ⟨s + 1, by first | rfl | rw [wS (K := s + 1) (by have := TK.out; omega) rfl], TK.out.2.2.1, NEXT⟩
      case measure => have := TK.out; first | rw [wS (K := s + 1) (by omega) rfl] | skip
                      simp only [intOf]; omega
    · have stop : (∃ z, r[s]? = some z ∧ k < z) ∨ ¬ (s : Int) < kk := by
        by_cases hsk : s < kk
        · obtain ⟨z, hz⟩ : ∃ z, r[s]? = some z := ⟨_, List.getElem?_eq_getElem (by rw [SRT.out.2.2]; exact hsk)⟩
          exact .inl ⟨z, hz, Nat.lt_of_not_le fun e => hgo ⟨z, hz, e⟩⟩
        · exact .inr (by omega)
      have FIN : Hid (r.take s = trimL T k) := hid (by
        refine cut_eq SRT.out.1 SRT.out.2.1 iv.out.2 fun x hx => ?_
        rcases stop with ⟨z, hz, hzk⟩ | hsk
        · rw [List.drop_eq_getElem_cons (List.getElem?_eq_some_iff.1 hz).1, (List.getElem?_eq_some_iff.1 hz).2] at hx
          rcases List.mem_cons.1 hx with rfl | hx
          · exact hzk
          · have h2 := SRT.out.2.1.sublist (List.drop_sublist s r)
            rw [List.drop_eq_getElem_cons (List.getElem?_eq_some_iff.1 hz).1, (List.getElem?_eq_some_iff.1 hz).2, List.pairwise_cons] at h2
            have := h2.1 x hx
            omega
        · rw [List.drop_of_length_le (by rw [SRT.out.2.2]; omega)] at hx; simp at hx)
      have H8 : Hid (HeapW wr ⟨h, p, t, m, q, mv, last⟩ n (trimV T k) W U' ∧ Fr (HpS ⟨h, p, t, m, q, mv, last⟩) w wr) := hid ⟨by have := iv.out.1.1; rw [FIN.out] at this; exact this, iv.out.1.2.1⟩
      have RD := hid iv.out.1.2.2.1
      clear iv hs hgo
      refine Or.elim stop ?stopA ?stopB
      case' stopA =>
        rintro ⟨z, hz, hzk⟩
        obtain ⟨ab, ao, rfl, hcz⟩ := RD.out s (natCell z) (by rw [List.getElem?_map, hz]; rfl)
        unfold natCell at hcz
        have hsk : s < kk := by rw [← SRT.out.2.2]; exact (List.getElem?_eq_some_iff.1 hz).1
        have hlt : (s : Int) < kk := by omega
        have hzk2 : (k : Int) < (z : Int) := by omega
        clear hz hsk hzk
      case' stopB => intro hlt
      all_goals
        clear stop
        obtain ⟨L8, hp8, hs8⟩ := H8.out.1
        have HP8 : Hid (HeapP wr h p q t m mv last n L8) := hid hp8
        have HS8 := hid hs8
        have e80 := HP8.out.cell
        clear hp8 hs8
        go_wp2_with fail
        refine (pshrink_calls wr p t m q mv last n L8 (hid HP8.out.tran) k (hid (by have := hk.out; have := hn.out; omega))).mono ?_
        rintro en w9 ⟨rfl, hr⟩
        have RES : Hid (HeapW w9 ⟨h, p, t, m, q, mv, last⟩ k (trimV T k) W U' ∧ Fr (HpS ⟨h, p, t, m, q, mv, last⟩) w w9) := hid ⟨⟨_, HP8.out.step hr.out.1 hr.out.2, HS8.out.shrink hk.out.1 hk.out.2 (fun x hx => by
          unfold trimV at hx
          rw [foldG_mem] at hx
          rcases hx with hx | hx
          · unfold trimL at hx
            have := List.mem_range.1 (List.mem_filter.1 hx).1
            omega
          · simp [allT] at hx)⟩, H8.out.2.trans' hr.out.2⟩
        clear hr e80
        go_wp2
        go_ret
        exact ⟨rfl, U', RES⟩
end Go.Proofs.YtbcghggkfnagoaaGreatDoor
