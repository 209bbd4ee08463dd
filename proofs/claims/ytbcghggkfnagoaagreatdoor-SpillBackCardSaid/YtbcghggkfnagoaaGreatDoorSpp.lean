/- PLAIN LAWS of chains of pages: what a chain's pages hold, what comes when it is read. No program in sight. THE WALKS of spill's small functions, and of layer 10's examples and bytes. -/
import Derived.Test.YtbcghggkfnagoaaGreatDoorSch1
set_option linter.unusedVariables false
set_option linter.unusedSimpArgs false
namespace Go.Proofs.YtbcghggkfnagoaaGreatDoor
open Go Go.RowKit Go.Maps Hach

/-- How many pages so many bytes need (one byte at least). -/
def cnt (k : Nat) : Nat := (k - 1) / 508 + 1
def spNext (s c t : Nat) : Nat := if t + 1 < c then s + t + 1 else 0
def spBody (b : List UInt8) (t : Nat) : List UInt8 := (b.drop (t * 508)).take 508 ++ List.replicate (508 - (b.length - t * 508)) 0
def spPage (s c : Nat) (b : List UInt8) (t : Nat) : List UInt8 := Oct.be (spNext s c t) 4 ++ spBody b t
/-- A chain of consecutive pages from s on that holds b. -/
def Chained (U : Nat → List UInt8) (s : Nat) (b : List UInt8) : Prop := ∀ t, t < cnt b.length → U (s + t) = spPage s (cnt b.length) b t
theorem spBody_len (b : List UInt8) (t : Nat) : (spBody b t).length = 508 := by
  unfold spBody
  rw [List.length_append, List.length_take, List.length_drop, List.length_replicate]
  omega
theorem spPage_len (s c : Nat) (b : List UInt8) (t : Nat) : (spPage s c b t).length = 512 := by
  unfold spPage; rw [List.length_append, Oct.be_length, spBody_len]
theorem spPage_next {s c : Nat} (b : List UInt8) (t : Nat) (h : s + c < 4294967296) : nextP (spPage s c b t) = (spNext s c t : Int) := by
  unfold nextP spPage
  rw [List.take_append_of_le_length (by rw [Oct.be_length]; omega), List.take_of_length_le (by rw [Oct.be_length]; omega), Oct.val_be, p256, Nat.mod_eq_of_lt]
  unfold spNext; split <;> omega
theorem spPage_drop (s c : Nat) (b : List UInt8) (t : Nat) : (spPage s c b t).drop 4 = spBody b t := by
  unfold spPage
  rw [List.drop_append_of_le_length (by rw [Oct.be_length]; omega), List.drop_of_length_le (by rw [Oct.be_length]; omega), List.nil_append]
/-- What comes of a chain of pages, j of them from the t-th on. -/
def spE (s c : Nat) (b : List UInt8) : Nat → Nat → List (Int × List UInt8 × Int)
  | _, 0 => []
  | t, j + 1 => (((s + t : Nat) : Int), spPage s c b t, 0) :: spE s c b (t + 1) j
theorem spE_len (s c : Nat) (b : List UInt8) (t j : Nat) : (spE s c b t j).length = j := by
  induction j generalizing t with
  | zero => rfl
  | succ j ih => show (spE s c b (t + 1) j).length + 1 = _; rw [ih]
theorem spE_ok (s c : Nat) (b : List UInt8) (t j : Nat) : (spE s c b t j).any (fun x => decide (x.2.2 ≠ 0)) = false := by
  induction j generalizing t with
  | zero => rfl
  | succ j ih => show (decide _ || _) = false; rw [ih]; rfl
theorem chainE_chained {n s : Nat} {b : List UInt8} {U : Nat → List UInt8} (hc : Chained U s b) (hs : 2 ≤ s) (hn : s + cnt b.length ≤ n + 1) (hn2 : n < 1000000) :
    ∀ m t, t < cnt b.length → chainE n U m ((s + t : Nat) : Int) = spE s (cnt b.length) b t (min m (cnt b.length - t)) := by
  intro m
  induction m with
  | zero => intro t _; rw [Nat.zero_min]; rfl
  | succ m ih =>
    intro t ht
    unfold chainE
    rw [if_neg (by omega), if_neg (by omega), Int.toNat_natCast, hc t ht, spPage_next _ _ (by omega)]
    by_cases hl : t + 1 < cnt b.length
    · rw [show min (m + 1) (cnt b.length - t) = min m (cnt b.length - (t + 1)) + 1 by omega]
      unfold spE
      rw [show spNext s (cnt b.length) t = s + (t + 1) by unfold spNext; rw [if_pos hl]; omega, ih (t + 1) hl]
    · rw [show min (m + 1) (cnt b.length - t) = 0 + 1 by omega]
      unfold spE
      rw [show spNext s (cnt b.length) t = 0 by unfold spNext; rw [if_neg hl]]
      congr 1
      cases m <;> rfl
/-- What all tells: the pages, or none. -/
def allV (n : Nat) (B : Nat → List UInt8) (page : Int) (k : Nat) : Option (List (Int × List UInt8 × Int)) :=
  let E := chainE n B (cnt k + 1) page
  if E.any (fun x => decide (x.2.2 ≠ 0)) = true then none else if E.length = cnt k then some E else none
theorem cnt_pos (k : Nat) : 1 ≤ cnt k := by unfold cnt; omega
theorem allV_chained {n s k : Nat} {b : List UInt8} {U : Nat → List UInt8} (hc : Chained U s b) (hs : 2 ≤ s) (hn : s + cnt b.length ≤ n + 1) (hn2 : n < 1000000) :
    allV n U (s : Int) k = if cnt k = cnt b.length then some (spE s (cnt b.length) b 0 (cnt b.length)) else none := by
  have h := chainE_chained hc hs hn hn2 (cnt k + 1) 0 (cnt_pos _)
  rw [show s + 0 = s from rfl, Nat.sub_zero] at h
  unfold allV
  simp only
  rw [h, spE_ok, spE_len]
  by_cases e : cnt k = cnt b.length
  · rw [if_neg (by decide), if_pos (by omega), if_pos e, e, Nat.min_eq_right (by omega)]
  · rw [if_neg (by decide), if_neg (by omega), if_neg e]
/-- The bytes of a row of pages. -/
def bodies (E : List (Int × List UInt8 × Int)) : List UInt8 := E.flatMap fun x => x.2.1.drop 4
set_option maxRecDepth 100000 in
theorem bodies_sp (s c : Nat) (b : List UInt8) (j t : Nat) (h : (t + j) * 508 < b.length + 508 ∨ j = 0) :
    bodies (spE s c b t j) = (b.drop (t * 508)).take (j * 508) ++ List.replicate (j * 508 - (b.length - t * 508)) 0 := by
  induction j generalizing t with
  | zero => rw [Nat.zero_mul, Nat.zero_sub, List.take_zero, List.replicate_zero]; rfl
  | succ j ih =>
    have h : (t + (j + 1)) * 508 < b.length + 508 := h.resolve_right (by omega)
    show (spPage s c b t).drop 4 ++ bodies (spE s c b (t + 1) j) = _
    rw [ih (t + 1) (.inl (by rw [show t + 1 + j = t + (j + 1) by omega]; exact h)), spPage_drop]
    unfold spBody
    rcases Nat.lt_or_ge j 1 with hj | hj
    · obtain rfl : j = 0 := by omega
      rw [show (0 + 1) * 508 = 508 from rfl, Nat.zero_mul, Nat.zero_sub, List.take_zero, List.replicate_zero, List.append_nil, List.append_nil]
    · have e0 : 508 - (b.length - t * 508) = 0 := by omega
      rw [e0, List.replicate_zero, List.append_nil, ← List.append_assoc]
      congr 1
      · rw [show (j + 1) * 508 = 508 + j * 508 by omega, List.take_add, List.drop_drop]
        congr 3; omega
      · congr 1; omega
theorem cnt_room (k : Nat) (h : 1 ≤ k) : k ≤ cnt k * 508 ∧ cnt k * 508 < k + 508 := by unfold cnt; omega
theorem bodies_all {s : Nat} {b : List UInt8} (h : 1 ≤ b.length) : bodies (spE s (cnt b.length) b 0 (cnt b.length)) = b ++ List.replicate (cnt b.length * 508 - b.length) 0 := by
  have hr := cnt_room _ h
  rw [bodies_sp _ _ _ _ _ (.inl (by omega)), Nat.zero_mul, List.drop_zero, List.take_of_length_le hr.1, Nat.sub_zero]
def nz (x : UInt8) : Bool := decide (x ≠ 0)
theorem nz_rep (m : Nat) : (List.replicate m (0 : UInt8)).any nz = false := by
  induction m with
  | zero => rfl
  | succ m ih => rw [List.replicate_succ, List.any_cons, ih]; rfl
/-- What Read tells: bytes, error. -/
def readV (n : Nat) (B : Nat → List UInt8) (page k : Int) : List UInt8 × Int :=
  if k < 1 ∨ 20000 < k then ([], 2) else
  match allV n B page k.toNat with
  | none => ([], 9)
  | some E => if ((bodies E).drop k.toNat).any nz = true then ([], 9) else ((bodies E).take k.toNat, 0)
/-- Reading what was written. -/
theorem readV_back {n s : Nat} {b : List UInt8} {U : Nat → List UInt8} (hc : Chained U s b) (hs : 2 ≤ s) (hn : s + cnt b.length ≤ n + 1) (hn2 : n < 1000000) (h1 : 1 ≤ b.length) (h2 : b.length ≤ 20000) : readV n U (s : Int) (b.length : Int) = (b, 0) := by
  unfold readV
  rw [if_neg (by omega), Int.toNat_natCast, allV_chained hc hs hn hn2, if_pos rfl]
  simp only
  rw [bodies_all h1, List.drop_append_of_le_length (Nat.le_refl _), List.drop_length, List.nil_append, nz_rep, if_neg (by decide), List.take_append_of_le_length (Nat.le_refl _), List.take_length]
/-- Reading what was written, at another length. -/
theorem readV_ask {n s : Nat} {b : List UInt8} {U : Nat → List UInt8} (hc : Chained U s b) (hs : 2 ≤ s) (hn : s + cnt b.length ≤ n + 1) (hn2 : n < 1000000) (h1 : 1 ≤ b.length) (ask : Int) :
    (readV n U (s : Int) ask).2 = (if ask < 1 ∨ 20000 < ask then 2 else if cnt ask.toNat ≠ cnt b.length then 9 else if (b.length : Int) ≤ ask then 0 else if (b.drop ask.toNat).any nz = true then 9 else 0) ∧
    (0 < (readV n U (s : Int) ask).1.length ↔ (readV n U (s : Int) ask).2 = 0) := by
  unfold readV
  by_cases ha : ask < 1 ∨ 20000 < ask
  · rw [if_pos ha, if_pos ha]; exact ⟨rfl, by simp⟩
  · rw [if_neg ha, if_neg ha]
    obtain ⟨k, rfl⟩ : ∃ k : Nat, ask = (k : Int) := ⟨ask.toNat, by omega⟩
    rw [Int.toNat_natCast, allV_chained hc hs hn hn2]
    by_cases hk : cnt k = cnt b.length
    · rw [if_pos hk, if_neg (fun e => e hk)]
      simp only
      rw [bodies_all h1]
      have hroom := cnt_room k (by omega)
      by_cases hle : (b.length : Int) ≤ k
      · rw [if_pos hle]
        have e : ((b ++ List.replicate (cnt b.length * 508 - b.length) (0 : UInt8)).drop k).any nz = false := by
          rw [List.drop_append, List.drop_of_length_le (by omega), List.nil_append, List.drop_replicate, nz_rep]
        rw [e, if_neg (by decide)]
        refine ⟨rfl, fun _ => rfl, fun _ => ?_⟩
        simp only
        rw [List.length_take, List.length_append, List.length_replicate]
        omega
      · rw [if_neg hle]
        have e : ((b ++ List.replicate (cnt b.length * 508 - b.length) (0 : UInt8)).drop k).any nz = (b.drop k).any nz := by
          rw [List.drop_append_of_le_length (by omega), List.any_append, nz_rep, Bool.or_false]
        rw [e]
        by_cases hz : (b.drop k).any nz = true
        · rw [if_pos hz, if_pos hz]; exact ⟨rfl, by simp⟩
        · rw [if_neg hz, if_neg hz]
          refine ⟨rfl, fun _ => rfl, fun _ => ?_⟩
          simp only
          rw [List.length_take, List.length_append, List.length_replicate]
          omega
    · rw [if_neg hk, if_pos hk]; exact ⟨rfl, by simp⟩
/-- The pages' bytes. -/
def PgB (L : PgL) (n : Nat) (B : Nat → List UInt8) : Prop := ∀ i, 2 ≤ i → i ≤ n → ∃ x, gget L (i : Nat) = some x ∧ x.bs = B i
theorem HeapS.pgB {L : PgL} {n : Nat} {T : List Trk} {W : Nat → Int} {U : Nat → List UInt8} (h : HeapS L n T W U) : ∃ B, PgB L n B ∧ ∀ i, 2 ≤ i → i ≤ n → i ∉ allT T → B i = U i := by
  refine ⟨fun i => ((gget L (i : Nat)).map PgX.bs).getD [], fun i h2 hi => ?_, fun i h2 hi hT => ?_⟩
  · obtain ⟨x, hx⟩ := h.full i (by omega) hi
    exact ⟨x, hx, by simp only [hx]; rfl⟩
  · obtain ⟨x, hx, hb⟩ := h.used i h2 hi hT
    simp only [hx, Option.map_some, Option.getD_some]; exact hb
/-- A used page is put. -/
theorem HeapS.put {L : PgL} {n : Nat} {T : List Trk} {W : Nat → Int} {U : Nat → List UInt8} (h : HeapS L n T W U) {i : Nat} (h2 : 2 ≤ i) (hi : i ≤ n) (hT : i ∉ allT T) {x : PgX} (hx : x.bs.length = 512) : HeapS (gput L (i : Nat) x) n T W (upd U i x.bs) := by
  obtain ⟨r, hr, hR⟩ := h.root
  refine ⟨h.keys.put ⟨by omega, hi⟩ _, gput_lens h.lens hx, h.one, ⟨r, ?_, hR⟩, h.chain.put _ hT, h.nodup, h.inn, fun j hj2 hj hjT => ?_, full_put h.full⟩
  · rw [gget_put, if_neg (by omega)]; exact hr
  · unfold upd
    rw [gget_put]
    by_cases e : j = i
    · subst e
      rw [if_pos rfl, if_pos rfl]
      exact ⟨_, rfl, rfl⟩
    · rw [if_neg (by omega), if_neg e]
      exact h.used j hj2 hj hjT
end Go.Proofs.YtbcghggkfnagoaaGreatDoor

namespace Go.Proofs.YtbcghggkfnagoaaGreatDoor
open Go Go.RowKit Go.Maps Hach

theorem cnt_tdiv {k : Nat} (h : 1 ≤ k) : ((k : Int) - 1).tdiv 508 + 1 = (cnt k : Int) := by
  rw [Int.tdiv_eq_ediv_of_nonneg (by omega)]
  unfold cnt
  omega
set_option maxRecDepth 100000 in
theorem count_calls (w : World) (k : Nat) (hk : Hid (1 ≤ k ∧ k ≤ 20001)) : Calls Tryz.prog 36 #[.int .i64 k] w fun en w' => en = .returned (.int .i64 (cnt k)) ∧ w' = w := by
  have e1 := cnt_tdiv hk.out.1
  have hc : cnt k ≤ 20002 := by have := hk.out; unfold cnt; omega
  have t0 : ¬ (k : Int) < 1 := by have := hk.out; omega
  obtain ⟨d, hd⟩ : ∃ d : Nat, ((k : Int) - 1).tdiv 508 = (d : Int) := ⟨cnt k - 1, by have := cnt_pos k; omega⟩
  rw [hd] at e1
  have w1 : wrap64 ((k : Int) - 1) = (k : Int) - 1 := by have := hk.out; unfold wrap64; omega
  have w2 : wrap64 (((k : Int) - 1).tdiv 508) = (d : Int) := by rw [hd]; unfold wrap64; omega
  have w3 : wrap64 ((d : Int) + 1) = (cnt k : Int) := by rw [e1]; unfold wrap64; omega
  obtain ⟨C, hC⟩ : ∃ C, cnt k = C := ⟨_, rfl⟩
  rw [hC] at w3 ⊢
  clear e1 hd hC hc
  go_enter Tryz.func36, Tryz.ntmps36
  go_wp2
  go_ret
  exact ⟨rfl, rfl⟩
theorem count0_calls (w : World) : Calls Tryz.prog 36 #[.int .i64 0] w fun en w' => en = .returned (.int .i64 0) ∧ w' = w := by
  go_enter Tryz.func36, Tryz.ntmps36
  go_wp2
  go_ret
  exact ⟨rfl, rfl⟩
theorem right_calls (w : World) (k : Int) : Calls Tryz.prog 104 #[.int .i64 k] w fun en w' => en = .returned (.bool (decide (1 ≤ k ∧ k ≤ 20000))) ∧ w' = w := by
  by_cases h1 : k < 1
  · rw [decide_eq_false (fun h => by omega)]
    go_enter Tryz.func104, Tryz.ntmps104
    go_wp2
    go_ret
    exact ⟨rfl, rfl⟩
  · by_cases h2 : 20000 < k
    · rw [decide_eq_false (fun h => by omega)]
      go_enter Tryz.func104, Tryz.ntmps104
      go_wp2
      go_ret
      exact ⟨by first | rfl | (simp; done) | (simp; omega), rfl⟩
    · rw [decide_eq_true (by omega)]
      go_enter Tryz.func104, Tryz.ntmps104
      go_wp2
      go_ret
      exact ⟨by first | rfl | (simp; done) | (simp; omega), rfl⟩
/-- spill.chain: the arguments are boxed. -/
theorem chain_calls (w : World) (h : Nat) (page most : Int) : Calls Tryz.prog 153 #[.pointer (some ⟨h, 0, none⟩), .int .i64 page, .int .i64 most] w fun e w' =>
    e = .returned (.func (.func 184) #[] #[.pointer (some ⟨w.heap.size + 1, 0, none⟩), .pointer (some ⟨w.heap.size + 1 + 1, 0, none⟩), .pointer (some ⟨w.heap.size, 0, none⟩)]) ∧
    w' = ((w.alloc (.cells #[.pointer (some ⟨h, 0, none⟩)] 26)).alloc (.cells #[.int .i64 page] 3)).alloc (.cells #[.int .i64 most] 3) := by
  go_enter Tryz.func153, Tryz.ntmps153
  go_wp2
  go_ret
  exact ⟨rfl, rfl⟩
theorem count509 (w : World) : Calls Tryz.prog 36 #[.int .i64 509] w fun en w' => en = .returned (.int .i64 2) ∧ w' = w := by
  have h := count_calls w 509 (hid (by decide))
  rw [show cnt 509 = 2 from rfl, show ((509 : Nat) : Int) = 509 from rfl, show ((2 : Nat) : Int) = 2 from rfl] at h
  exact h
theorem count508 (w : World) : Calls Tryz.prog 36 #[.int .i64 508] w fun en w' => en = .returned (.int .i64 1) ∧ w' = w := by
  have h := count_calls w 508 (hid (by decide))
  rw [show cnt 508 = 1 from rfl, show ((508 : Nat) : Int) = 508 from rfl, show ((1 : Nat) : Int) = 1 from rfl] at h
  exact h
set_option maxRecDepth 100000 in
theorem lives10_calls (w : World) : Calls Tryz.prog 38 #[] w fun en w' => en = .returned (.bool true) ∧ w' = w := by
  go_enter Tryz.func38, Tryz.ntmps38
  go_wp2_with fail
  refine (count509 w).mono ?_
  rintro e w' ⟨rfl, hw⟩
  obtain rfl := hw.symm
  clear hw
  go_wp2_with fail
  refine (count508 w).mono ?_
  rintro e w' ⟨rfl, hw⟩
  obtain rfl := hw.symm
  clear hw
  go_wp2_with fail
  refine (count0_calls w).mono ?_
  rintro e w' ⟨rfl, hw⟩
  obtain rfl := hw.symm
  clear hw
  go_wp2
  go_ret
  exact ⟨rfl, rfl⟩
/-- The i-th of bytes that begin with a number. -/
def seedB (s i : Nat) : UInt8 := UInt8.ofNat (s + i + i / 251)
def bytesV (n s : Nat) : List UInt8 := (List.range n).map (seedB s)
theorem bytesV_len (n s : Nat) : (bytesV n s).length = n := by unfold bytesV; rw [List.length_map, List.length_range]
theorem bytesV_step (n s k : Nat) (hk : k < n) : ((bytesV k s ++ List.replicate (n - k) (0 : UInt8)).map byteCell).set k (byteCell (seedB s k)) = (bytesV (k + 1) s ++ List.replicate (n - (k + 1)) (0 : UInt8)).map byteCell := by
  rw [← List.map_set]
  congr 1
  rw [List.set_append, if_neg (by rw [bytesV_len]; omega), bytesV_len, Nat.sub_self, show n - k = n - (k + 1) + 1 by omega, List.replicate_succ, List.set_cons_zero]
  unfold bytesV
  rw [List.range_succ, List.map_append, List.append_assoc]
  rfl
def BytesRet (w : World) (xs : List UInt8) (en : Ending) (w' : World) : Prop := ∃ A c, en = .returned (.slice A xs.length c) ∧ Hid (OwnB w' w.heap.size A c xs ∧ Up w w')
set_option maxRecDepth 100000 in
set_option maxHeartbeats 1000000 in
theorem bytes10_calls (w : World) (n s : Nat) (hn : Hid (n ≤ 20000)) (hs : Hid (s ≤ 100)) : Calls Tryz.prog 34 #[.int .i64 n, .int .i64 s] w (BytesRet w (bytesV n s)) := by
  go_enter Tryz.func34, Tryz.ntmps34
  go_wp2_with (at_make; refine hold ?_)
  refine hid (wl_make elemB rfl (.tmp 7) (.tmp 7) rfl w.heap.size n rfl rfl rfl rfl (by have := hn.out; omega) (by have := hn.out; simp only [maxLen]; omega) (Nat.le_refl _) ?_)
  intro w2 o2 b2 z2
  have hz : (madeCells (Value.int IntKind.u8 0).cells (n * 1)).toList = (bytesV 0 s ++ List.replicate (n - 0) (0 : UInt8)).map byteCell := by
    rw [Nat.mul_one]; show (madeCells #[Value.int IntKind.u8 0] n).toList = _
    rw [toList_madeCells_one, show bytesV 0 s = [] from rfl, List.nil_append, List.map_replicate]; rfl
  rw [hz] at o2
  have F0 : Hid (Up w w2 ∧ w2.ownsRow w.heap.size 5 1 (.slice (some ⟨w.heap.size, 0, none⟩) n n) n ((bytesV 0 s ++ List.replicate (n - 0) (0 : UInt8)).map byteCell)) := hid ⟨b2, o2⟩
  clear o2 b2 z2 hz
  go_wp2
  go_loopw [11] (fun i wr => ∃ k : Nat, k ≤ n ∧ i = .int .i64 k ∧ Hid (Up w wr ∧ wr.ownsRow w.heap.size 5 1 (.slice (some ⟨w.heap.size, 0, none⟩) n n) n ((bytesV k s ++ List.replicate (n - k) (0 : UInt8)).map byteCell))) (fun i _ => n - (intOf i).toNat)
  case atStart => exact ⟨0, by omega, rfl, F0⟩
  case round =>
    obtain ⟨k, hk, rfl, iv⟩ := hrel
    by_cases hlt : (k : Int) < n
    · obtain ⟨u, o⟩ := iv.out
      have hkn : k < n := by omega
      have e0 := o.cellAt k (by omega)
      rw [List.getElem?_eq_getElem (by rw [List.length_map, List.length_append, bytesV_len, List.length_replicate]; omega)] at e0
      have f0 := o.frozenAt k
      have hst := (o.stored k (byteCell (seedB s k))).1
      rw [bytesV_step n s k hkn] at hst
      have O := hid hst
      have U := hid u
      have VB : Hid (wrap64 (wrap64 ((s : Int) + (k : Int)) + wrap64 ((k : Int) / 251)) % 256 = n8 (seedB s k)) := hid (by
        have h1 := hn.out
        have h2 := hs.out
        have w2 : wrap64 ((k : Int) / 251) = ((k / 251 : Nat) : Int) := by unfold wrap64; omega
        have w3 : wrap64 ((s : Int) + (k : Int) + ((k / 251 : Nat) : Int)) = ((s + k + k / 251 : Nat) : Int) := by unfold wrap64; omega
        rw [w2, show wrap64 ((s : Int) + (k : Int)) = (s : Int) + (k : Int) by unfold wrap64; omega, w3]
        unfold n8 seedB
        rw [UInt8.toNat_ofNat']
        rfl)
      have w4 : wrap64 ((k : Int) + 1) = ((k + 1 : Nat) : Int) := by have := hn.out; unfold wrap64; omega
      have HKN := hid hkn
      clear o u iv hst hkn
      have K4 := hid w4
      clear w4
      go_wp2
      go_roundw
      case rel => exact ⟨k + 1, HKN.out, by rw [K4.out], hid ⟨U.out.setCell (p := ⟨w.heap.size, k, none⟩) (Nat.le_refl _) _, by rw [VB.out]; exact O.out⟩⟩
      case measure => rw [K4.out]; simp only [intOf]; have := HKN.out; omega
    · obtain rfl : k = n := by omega
      have iv2 := iv
      rw [Nat.sub_self, List.replicate_zero, List.append_nil] at iv2
      clear iv
      go_wp2
      go_ret
      refine ⟨some ⟨w.heap.size, 0, none⟩, k, ?_, hid ⟨?_, iv2.out.1⟩⟩
      · rw [bytesV_len]; rfl
      · unfold OwnB; rw [bytesV_len]; exact iv2.out.2
end Go.Proofs.YtbcghggkfnagoaaGreatDoor
