/- THE DOCUMENT's HEAP: Trim. -/
import Derived.Test.YtbcghggkfnagoaaGreatDoorDoc3
import Derived.Test.YtbcghggkfnagoaaGreatDoorFreJ
set_option linter.unusedVariables false
set_option linter.unusedSimpArgs false
namespace Go.Proofs.YtbcghggkfnagoaaGreatDoor
open Go Go.RowKit Go.Maps Hach

def Small (T : List Trk) : Prop := ∀ t ∈ T, t.2.length ≤ 126
theorem giveV_small {T : List Trk} (h : Small T) (i : Nat) : Small (giveV T i) := by
  match T, h with
  | [], _ => intro t ht; rw [List.mem_singleton.1 ht]; exact Nat.zero_le _
  | (f, ls) :: r, h =>
    unfold giveV
    simp only
    by_cases hl : ls.length < 126
    · rw [if_pos hl]
      intro t ht
      rcases List.mem_cons.1 ht with rfl | ht
      · show (ls ++ [i]).length ≤ 126
        rw [List.length_append]; simp only [List.length_cons, List.length_nil]; omega
      · exact h t (List.mem_cons_of_mem _ ht)
    · rw [if_neg hl]
      intro t ht
      rcases List.mem_cons.1 ht with rfl | ht
      · exact Nat.zero_le _
      · exact h t ht
theorem foldG_small (l : List Nat) : ∀ {T : List Trk}, Small T → Small (l.foldl giveV T) := by
  induction l with
  | nil => intro T h; exact h
  | cons a r ih => intro T h; exact ih (giveV_small h a)
theorem foldG_len (l : List Nat) : ∀ (T : List Trk), (allT (l.foldl giveV T)).length = l.length + (allT T).length := by
  induction l with
  | nil => intro T; simp
  | cons a r ih => intro T; rw [List.foldl_cons, ih, giveV_len, List.length_cons]; omega
theorem takeV_small {T : List Trk} (h : Small T) (n : Nat) : Small (takeV T n).2.2 := by
  match T, h with
  | [], h => exact h
  | (f, ls) :: r, h =>
    cases hg : ls.getLast? with
    | none =>
      rw [show takeV ((f, ls) :: r) n = (f, n, r) by unfold takeV; simp only [hg]]
      exact fun t ht => h t (List.mem_cons_of_mem _ ht)
    | some x =>
      rw [show takeV ((f, ls) :: r) n = (x, n, (f, ls.dropLast) :: r) by unfold takeV; simp only [hg]]
      intro t ht
      rcases List.mem_cons.1 ht with rfl | ht
      · have := h (f, ls) List.mem_cons_self
        show ls.dropLast.length ≤ 126
        rw [List.length_dropLast]; simp only at this; omega
      · exact h t (List.mem_cons_of_mem _ ht)
/-- The pages below j that are free are given, one by one. -/
def trimP (T : List Trk) (j : Nat) : List Trk := ((List.range j).filter fun x => decide (x ∈ allT T)).foldl giveV []
theorem trimP_succ (T : List Trk) (j : Nat) : trimP T (j + 1) = if j ∈ allT T then giveV (trimP T j) j else trimP T j := by
  unfold trimP
  rw [List.range_succ, List.filter_append, List.foldl_append]
  by_cases h : j ∈ allT T
  · rw [if_pos h, List.filter_cons, if_pos (decide_eq_true h)]; rfl
  · rw [if_neg h, List.filter_cons, if_neg (by simpa using h)]; rfl
theorem trimP_len (T : List Trk) (j : Nat) : (allT (trimP T j)).length ≤ j := by
  unfold trimP
  rw [foldG_len]
  have := List.length_filter_le (fun x => decide (x ∈ allT T)) (List.range j)
  rw [List.length_range] at this
  show _ + 0 ≤ _
  omega
theorem trimP_small (T : List Trk) (j : Nat) : Small (trimP T j) := foldG_small _ (fun t ht => by cases ht)
/-- A row of numbers, read; it lies in a block of numbers. -/
def IntRow (w : World) (A : Option Addr) (l : List Nat) : Prop := Rd w A (l.map natCell) ∧ ∀ b off, A = some ⟨b, off, none⟩ → ∃ cs fr, w.heap[b]? = some (.cells cs 3 fr)
theorem IntRow.own {w : World} {base n c : Nat} {A : Option Addr} {l : List Nat} (h : w.ownsRow base 3 1 (.slice A n c) n (l.map natCell)) : IntRow w A l := ⟨Rd.own h, fun b off e => by subst e; exact own_obj h rfl⟩
theorem IntRow.up {w w' : World} {A : Option Addr} {l : List Nat} (h : IntRow w A l) (hu : Up w w') : IntRow w' A l := ⟨h.1.grown hu, fun b off e => by
  obtain ⟨cs, fr, hb⟩ := h.2 b off e
  exact ⟨cs, fr, (hu.block b (blk_lt hb)).trans hb⟩⟩
theorem IntRow.fr {w w' : World} {A : Option Addr} {l : List Nat} {S : Nat → Prop} (h : IntRow w A l) (hf : Fr S w w') (hS : ∀ k cs fr, S k → w.heap[k]? ≠ some (.cells cs 3 fr)) : IntRow w' A l := ⟨h.1.fr hf fun b off e hs => by
  obtain ⟨cs, fr, hb⟩ := h.2 b off e
  exact hS _ _ _ hs hb, fun b off e => by
  obtain ⟨cs, fr, hb⟩ := h.2 b off e
  exact ⟨cs, fr, (hf.block b (blk_lt hb) (fun hs => hS _ _ _ hs hb)).trans hb⟩⟩
theorem DocW.notInt {w : World} {base m n : Nat} {T : List Trk} {ws : List Value} (h : DocW w base m n T ws) : ∀ k cs fr, DocB w base m k → w.heap[k]? ≠ some (.cells cs 3 fr) := by
  obtain ⟨D, A, c, hd, _⟩ := h
  rintro k cs fr ⟨_, rfl | ⟨cs', hb⟩⟩ e
  · rw [hd.own] at e; injection e with e; injection e with _ e _; exact absurd e (by decide)
  · rw [hb] at e; injection e with e; injection e with _ e _; exact absurd e (by decide)
theorem fr_docs {w a b : World} {base m : Nat} (h1 : Fr (DocB w base m) w a) (h2 : Fr (DocB a base m) a b) : Fr (DocB w base m) w b := by
  refine h1.trans h2 fun k hk ⟨hb, hm⟩ => ⟨hb, ?_⟩
  rcases hm with e | ⟨cs, hc⟩
  · exact .inl e
  · by_cases hd : DocB w base m k
    · exact hd.2
    · exact .inr ⟨cs, (h1.block k hk hd).symm.trans hc⟩
set_option maxRecDepth 100000 in
set_option maxHeartbeats 2000000 in
theorem dtrimBad_calls (w : World) (base m n : Nat) (T : List Trk) (ws : List Value) (i : Int) (h : Hid (DocW w base m n T ws)) (hi : Hid (i < 1 ∨ (n : Int) < i)) :
    Calls Tryz.prog 127 #[.pointer (some ⟨m, 0, none⟩), .int .i64 i] w fun en w' => en = .returned (.int .i64 11) ∧ w' = w := by
  obtain ⟨D, A, c, hd, rfl⟩ := h.out
  have e1 := hd.c1
  clear hd h
  by_cases h1 : i < 1
  · go_enter Tryz.func127, Tryz.ntmps127
    go_wp2
    go_ret
    exact ⟨rfl, rfl⟩
  · have h2 := hi.out.resolve_left h1
    go_enter Tryz.func127, Tryz.ntmps127
    go_wp2
    go_ret
    exact ⟨rfl, rfl⟩
set_option maxRecDepth 100000 in
set_option maxHeartbeats 4000000 in
theorem dtrim_calls (w : World) (base m n : Nat) (T : List Trk) (ws : List Value) (k : Nat) (h : Hid (DocW w base m n T ws)) (hk : Hid (1 ≤ k ∧ k ≤ n ∧ n ≤ 4000)) (hbs : Hid (base ≤ w.heap.size)) (hnd : Hid ((allT T).Nodup)) (hin : Hid (∀ x ∈ allT T, 2 ≤ x ∧ x ≤ n)) (hT : Hid ((allT T).length < 100000)) :
    Calls Tryz.prog 127 #[.pointer (some ⟨m, 0, none⟩), .int .i64 k] w (DocStep w base m k (trimV T k) ws (.int .i64 0)) := by
  obtain ⟨D, A, c, hd, e⟩ := h.out
  have e1 := hd.c1
  have hdl : D.length < 100000 := by
    have h9 := hT.out
    rw [e] at h9
    have : D.length ≤ (allT (D.map dtT)).length := by
      clear h9 e1 hd e
      induction D with
      | nil => simp
      | cons a r ih => rw [List.map_cons, allT_cons]; simp only [List.length_cons, List.length_append]; omega
    omega
  have CA := dall_calls w base m n D ws A c (hid hd) (hid (by rw [← e]; exact hT.out)) (hid hdl)
  rw [← e] at CA
  have HD := hid hd
  have i1 : ¬ (k : Int) < 1 := by have := hk.out; omega
  have i2 : ¬ (n : Int) < (k : Int) := by have := hk.out; omega
  clear hd hdl h e
  go_enter Tryz.func127, Tryz.ntmps127
  go_wp2_with fail
  refine CA.mono ?_
  rintro en w2 ⟨A2, c2, kk, rfl, hr⟩
  have D2 := HD.out.up hr.out.2.2
  have c20 := D2.c0
  have f20 := D2.fz 0
  have S2 := D2.setOwn (i := 0) (v := .slice none 0 0) (n' := n) (D' := []) (ws' := ws) (A' := none) (c' := 0) rfl (Rd.nil _ _) (fun b off e => by cases e) (Nat.zero_le _) (fun d hd => by cases hd)
  have START : Hid (DocW (w2.setCell ⟨m, 0, none⟩ (.slice none 0 0)) base m n (trimP T 2) ws ∧ Fr (DocB w base m) w (w2.setCell ⟨m, 0, none⟩ (.slice none 0 0)) ∧ IntRow (w2.setCell ⟨m, 0, none⟩ (.slice none 0 0)) A2 (allT T)) := hid (by
    refine ⟨⟨[], none, 0, S2.1, ?_⟩, ?_, ?_⟩
    · have e0 : 0 ∉ allT T := fun e => by have := hin.out 0 e; omega
      have e1 : 1 ∉ allT T := fun e => by have := hin.out 1 e; omega
      rw [trimP_succ, if_neg e1, trimP_succ, if_neg e0]; rfl
    · exact ((Fr.of_below hr.out.2.2).mono (fun _ e => e.elim)).trans' (S2.2.mono fun k e => ⟨by rw [e]; exact HD.out.low, .inl e⟩)
    · refine (IntRow.own hr.out.2.1).fr S2.2 fun k cs fr e he => ?_
      subst e
      rw [D2.own] at he; injection he with he; injection he with _ he _; exact absurd he (by decide))
  have KK : Hid (kk = (allT T).length) := hid hr.out.1
  clear hr D2 S2 CA
  go_wp2
  obtain ⟨w3, hw3⟩ : ∃ w3, w2.setCell ⟨m, 0, none⟩ (.slice none 0 0) = w3 := ⟨_, rfl⟩
  rw [hw3] at START ⊢
  clear hw3 c20 f20 e1
  go_loopw [6] (fun iv wr => ∃ j : Nat, iv = .int .i64 j ∧ 2 ≤ j ∧ j ≤ k + 1 ∧ Hid (DocW wr base m n (trimP T j) ws ∧ Fr (DocB w base m) w wr ∧ IntRow wr A2 (allT T))) (fun iv _ => k + 1 - (intOf iv).toNat)
  case atStart => exact ⟨2, rfl, Nat.le_refl _, by have := hk.out; omega, START⟩
  case round =>
    clear START
    obtain ⟨j, rfl, h2, hj, iv⟩ := hrel
    by_cases hjk : (j : Int) ≤ k
    · have JK : Hid (2 ≤ j ∧ j ≤ k ∧ k ≤ n ∧ n ≤ 4000) := hid (by have := hk.out; omega)
      have START2 : Hid (DocW wr base m n (if j ∈ (allT T).take 0 then giveV (trimP T j) j else trimP T j) ws ∧ Fr (DocB w base m) w wr ∧ IntRow wr A2 (allT T)) := hid (by rw [List.take_zero, if_neg (by simp)]; exact iv.out)
      clear iv h2 hj
      obtain ⟨wo, rfl⟩ : ∃ wo : World, wo = wr := ⟨_, rfl⟩
      go_wp2
      go_loopw [31] (fun iv wr => ∃ s : Nat, iv = .int .i64 s ∧ s ≤ kk ∧ Hid (DocW wr base m n (if j ∈ (allT T).take s then giveV (trimP T j) j else trimP T j) ws ∧ Fr (DocB w base m) w wr ∧ IntRow wr A2 (allT T))) (fun iv _ => kk - (intOf iv).toNat)
      case atStart => exact ⟨0, rfl, Nat.zero_le _, START2⟩
      case round =>
        clear START2
        obtain ⟨s, rfl, hs, iv⟩ := hrel
        by_cases hlt : (s : Int) < kk
        · obtain ⟨x, hx⟩ : ∃ x, (allT T)[s]? = some x := ⟨_, List.getElem?_eq_getElem (by have := KK.out; omega)⟩
          obtain ⟨ab, ao, rfl, hcx⟩ := iv.out.2.2.1 s (natCell x) (by rw [List.getElem?_map, hx]; rfl)
          unfold natCell at hcx
          have htk : (allT T).take (s + 1) = (allT T).take s ++ [x] := by rw [List.take_add_one, hx]; rfl
          have SK : Hid (s < kk ∧ kk < 100000) := hid ⟨by omega, by rw [KK.out]; exact hT.out⟩
          by_cases hxj : x = j
          · subst hxj
            have hnx : x ∉ (allT T).take s := by
              have h3 := hnd.out.sublist (List.take_sublist (s + 1) (allT T))
              rw [htk, List.nodup_append] at h3
              exact fun e => h3.2.2 x e x (List.mem_singleton.2 rfl) rfl
            have IV : Hid (DocW wr base m n (trimP T x) ws ∧ Fr (DocB w base m) w wr ∧ IntRow wr (some ⟨ab, ao, none⟩) (allT T)) := hid (by have := iv.out; rw [if_neg hnx] at this; exact this)
            have HIN : Hid (x ∈ (allT T).take (s + 1)) := hid (by rw [htk]; simp)
            have CG := dgive_calls wr base m n _ ws x (hid IV.out.1) (hid (by have := JK.out; omega)) (hid (Nat.le_trans hbs.out IV.out.2.1.size)) (hid (by have := trimP_len T x; have := JK.out; omega)) (hid (trimP_small T x))
            clear iv hx htk hnx hs
            go_wp2_with fail
            refine CG.mono ?_
            rintro en w8 ⟨rfl, hr⟩
            have NEXT : Hid (DocW w8 base m n (if x ∈ (allT T).take (s + 1) then giveV (trimP T x) x else trimP T x) ws ∧ Fr (DocB w base m) w w8 ∧ IntRow w8 (some ⟨ab, ao, none⟩) (allT T)) := hid (by
              rw [if_pos HIN.out]
              exact ⟨hr.out.1, fr_docs IV.out.2.1 hr.out.2, IV.out.2.2.fr hr.out.2 IV.out.1.notInt⟩)
            clear hr CG
            go_wp2
            go_roundw
            case rel => exact ⟨s + 1, by first | rfl | rw [wS (K := s + 1) (by have := SK.out; omega) rfl], SK.out.1, NEXT⟩
            case measure => have := SK.out; first | rw [wS (K := s + 1) (by omega) rfl] | skip
                            simp only [intOf]; omega
          · have hxi : ¬ (x : Int) = (j : Int) := by omega
            have NEXT : Hid (DocW wr base m n (if j ∈ (allT T).take (s + 1) then giveV (trimP T j) j else trimP T j) ws ∧ Fr (DocB w base m) w wr ∧ IntRow wr (some ⟨ab, ao, none⟩) (allT T)) := hid (by
              have e : (j ∈ (allT T).take (s + 1)) ↔ (j ∈ (allT T).take s) := by
                rw [htk, List.mem_append, List.mem_singleton]
                exact ⟨fun h => h.elim id (fun e => absurd e.symm hxj), .inl⟩
              have h9 := iv.out
              by_cases hm : j ∈ (allT T).take s
              · rw [if_pos hm] at h9
                rw [if_pos (e.2 hm)]
                exact h9
              · rw [if_neg hm] at h9
                rw [if_neg (fun h => hm (e.1 h))]
                exact h9)
            clear iv hx htk hs hxj
            go_wp2
            go_roundw
            case rel => exact ⟨s + 1, by first | rfl | rw [wS (K := s + 1) (by have := SK.out; omega) rfl], SK.out.1, NEXT⟩
            case measure => have := SK.out; first | rw [wS (K := s + 1) (by omega) rfl] | skip
                            simp only [intOf]; omega
        · have ht : (allT T).take s = allT T := List.take_of_length_le (by have := KK.out; omega)
          have NEXT : Hid (DocW wr base m n (trimP T (j + 1)) ws ∧ Fr (DocB w base m) w wr ∧ IntRow wr A2 (allT T)) := hid (by
            have h9 := iv.out
            rw [ht] at h9
            rw [trimP_succ]
            exact h9)
          clear iv ht hs
          go_wp2
          go_roundw
          case rel => exact ⟨j + 1, by first | rfl | rw [wS (K := j + 1) (by have := JK.out; omega) rfl], by have := JK.out; omega, by have := JK.out; omega, NEXT⟩
          case measure => have := JK.out; first | rw [wS (K := j + 1) (by omega) rfl] | skip
                          simp only [intOf]; omega
    · have hjk1 : j = k + 1 := by omega
      subst hjk1
      obtain ⟨D9, A9, c9, d9, e9⟩ := iv.out.1
      have c91 := d9.c1
      have f91 := d9.fz 1
      have S9 := d9.setOwn (i := 1) (v := .int .i64 k) (n' := k) (D' := D9) (ws' := ws) (A' := A9) (c' := c9) rfl d9.row (fun b off e => ⟨off, e⟩) d9.cap (fun d hd => hd)
      have RES : Hid (DocW (wr.setCell ⟨m, 1, none⟩ (.int .i64 k)) base m k (trimV T k) ws ∧ Fr (DocB w base m) w (wr.setCell ⟨m, 1, none⟩ (.int .i64 k))) := hid ⟨⟨D9, A9, c9, S9.1, e9⟩, iv.out.2.1.trans' (S9.2.mono fun b e => ⟨by rw [e]; exact HD.out.low, .inl e⟩)⟩
      clear iv d9 e9 S9 h2 hj
      go_wp2
      go_ret
      exact ⟨rfl, RES⟩
end Go.Proofs.YtbcghggkfnagoaaGreatDoor
