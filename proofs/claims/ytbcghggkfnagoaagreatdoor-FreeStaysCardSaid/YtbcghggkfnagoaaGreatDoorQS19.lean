/- PARTS OF A PROOF, one behind the other: THE WALK of maps.DeleteFunc at a map of sectors, as Cut calls it. THE WALK of Cut. THE WALK of Cut, and of the refusals. CONDITIONS: none of this text's own. -/
import Derived.Test.YtbcghggkfnagoaaGreatDoorQS15
import Derived.Lib.SlMapFilter
import Derived.Maps.Ext
import Derived.Maps.RangeWalk
import Derived.Laws.IdiomRangeMap
import Derived.Deep.LoopGhost
set_option linter.unusedVariables false
set_option linter.unusedSimpArgs false
namespace Go.Proofs.YtbcghggkfnagoaaGreatDoor
open Go Go.RowKit Go.Maps Hach
theorem cut11_calls (w : World) (k lim : Int) (cs : Array Value) (bx : Nat) (hb : w.cell? ⟨bx, 0, none⟩ = some (.int .i64 lim)) :
    Calls Tryz.prog 170 #[.int .i64 k, .agg cs, .pointer (some ⟨bx, 0, none⟩)] w (fun en w' => en = .returned (.bool (decide (lim ≤ k))) ∧ Hid (Up w w')) := by
  have hb2 := (upAlD (Up.refl w) (.cells cs 173)).c hb
  have UU := hid (upAlD (Up.refl w) (.cells cs 173))
  clear hb
  go_enter Tryz.func170, Tryz.ntmps170
  go_wp2
  go_ret
  exact ⟨rfl, UU⟩
def cutP (lim : Int) (kl : Lit) (_ : DataW Unit) : Bool := match kl with | .int _ x => decide (lim ≤ x) | _ => false
def cutL (L : Olds) (lim : Int) : Olds := L.filter fun p => decide (p.1 < lim)
theorem cutL_dat (L : Olds) (lim : Int) : Lib.deleteFuncD (cutP lim) (datL L) = datL (cutL L lim) := by
  show DataW.map ((L.map entL).filter _) = _
  unfold datL cutL
  rw [List.filter_map]
  congr 2
  refine List.filter_congr (fun p _ => ?_)
  show (!decide (lim ≤ p.1)) = decide (p.1 < lim)
  by_cases h : lim ≤ p.1
  · rw [decide_eq_true h, decide_eq_false (by omega)]; rfl
  · rw [decide_eq_false h, decide_eq_true (by omega)]; rfl
theorem secInv (v : Value) (y : DataW Unit × List MemPlace) (h : secElem v = some y) : ∃ s, v = secV s := by
  unfold secElem at h
  split at h
  · rename_i cs
    cases h1 : bytesOf cs.toList with
    | none => rw [h1] at h; cases h
    | some l => exact ⟨l, by unfold secV secC; rw [← bytesOf_inv h1]⟩
  · cases h
theorem atKey_found {es : List (Lit × DataW Unit)} {kl : Lit} {y : DataW Unit} (h : ∀ zd, (DataW.map es).atKey kl zd = y) (hy : y ≠ .nil) : ∃ p ∈ es, p.2 = y := by
  have h0 := h .nil
  unfold DataW.atKey at h0
  simp only at h0
  cases hf : es.find? (fun p => p.1.sameKey kl) with
  | none => rw [hf] at h0; exact absurd h0.symm hy
  | some p => rw [hf] at h0; exact ⟨p, List.mem_of_find?_eq_some hf, h0⟩
theorem secElem_fst {s : Sec} {y : DataW Unit × List MemPlace} (h : secElem (secV s) = some y) : y.1 = .lit (.string s) := by
  rw [secElem_mk] at h; injection h with h; rw [← h]
set_option maxRecDepth 100000 in
set_option maxHeartbeats 4000000 in
theorem del_calls (w : World) (m n : Nat) (D : DataW Unit) (lim : Int) (bx : Nat) (hown : w.ownsMap Tryz.prog 3 secElem m n D) (hb : w.cell? ⟨bx, 0, none⟩ = some (.int .i64 lim)) (hall : Hid (∀ es, D = .map es → ∀ p ∈ es, ∃ s : Sec, p.2 = .lit (.string s) ∧ s.length = 128)) :
    Calls Tryz.prog 169 #[.map (some m), .func (.func 170) #[] #[.pointer (some ⟨bx, 0, none⟩)]] w (fun e w' => e = .returned (.tuple #[]) ∧ Hid (w'.ownsMap Tryz.prog 3 secElem m n (Lib.deleteFuncD (cutP lim) D) ∧ w.grownBy w' (some m))) := by
  obtain ⟨es0, rfl, hap, hkeys⟩ := hown.entries keyI
  have HB := hid hb
  have HAP := hid hap
  go_enter Tryz.func169, Tryz.ntmps169
  go_wp2_with (first
    | (at_range; refine wpList_range_own _ rfl _ 82 rfl 3 173 keyI Tryz.underlying82 secElem m n _ rfl hown ?_; intro w0 hrg0 hg0 hs0)
    | go_in)
  go_frame
  go_loopw [8] (fun _ wr => ∃ (left : Lit → Bool) (cnt : Nat), wr.ranges Tryz.prog 3 secElem m w.heap.size n (Fk (cutP lim) es0 left) left cnt ∧ w.grownBy wr (some m))
    (fun _ wr => wr.rangeLeft m w.heap.size)
  case atStart => exact ⟨_, _, by rw [Fk_start hkeys]; exact hrg0, hg0.but _⟩
  case round =>
    obtain ⟨left, cnt, hrg, hgw⟩ := hrel
    go_wp2_with (first
      | (at_next; refine wpList_next_ranges _ rfl _ rfl 3 keyI secElem (Value.int .i64) secV (fun key kl hkey => by obtain ⟨x, rfl, _⟩ := Maps.keyOf_int_inv Tryz.underlying3 hkey; exact ⟨x, rfl⟩) secInv m w.heap.size n _ _ _ rfl hrg ?_ ?_)
      | go_in)
    · intro _ hl0
      go_wp2
      go_end0
      exact ⟨rfl, hid ⟨by rw [← Fk_end hl0]; exact hrg.owns, hgw⟩⟩
    · intro x s kl y1 y2 w1 cnt1 hkey hlx hv hat hrg1 hlt hg1 hs1 hen
      obtain rfl : y1 = .lit (.string s) := secElem_fst hv
      have hs : s.length = 128 := by
        obtain ⟨p, hp, hp2⟩ := atKey_found hat (by intro e; cases e)
        obtain ⟨s', h1, h2⟩ := hall.out es0 rfl p (List.mem_filter.1 hp).1
        rw [hp2] at h1
        injection h1 with h1
        injection h1 with h1
        subst h1
        exact h2
      have HS := hid hs
      have hgw1 := hgw.andThen hg1 (fun j hj => by cases hj; exact Or.inl (Nat.le_refl _))
      have hrgA := hrg1.kept (World.grownBy_alloc w1 (.cells (secC s).toArray 173) none) (by simp) (by simp)
      have hgwA := hgw1.andThen (World.grownBy_alloc w1 (.cells (secC s).toArray 173) none) (fun j hj => by cases hj)
      have hbn : ¬ bx = m := by
        rintro rfl
        obtain ⟨es9, clock9, hb9, _⟩ := hown
        have := HB.out
        unfold World.cell? at this
        rw [show (⟨bx, 0, none⟩ : Addr).block = bx from rfl, hb9] at this
        cases this
      have hbA := hgwA.cell HB.out (fun e => hbn (Option.some.inj e))
      have hc := cut11_calls (w1.alloc (.cells (secC s).toArray 173)) x lim (secC s).toArray bx hbA
      have HRA := hid hrgA
      have HGA := hid hgwA
      have HKEY := hid hkey
      have HKL : Hid (kl = .int .i64 x) := hid (by obtain ⟨x', e1, e2, _⟩ := Maps.keyOf_int_inv Tryz.underlying3 hkey; injection e1 with _ e1; rw [e2, e1])
      have HLX := hid hlx
      have HAT := hid hat
      have HRG := hid hrg
      have HLT := hid hlt
      have SEC := hid (show (w1.alloc (.cells (secC s).toArray 173)).rangeAt w1.heap.size 0 (secC s) from fun j9 v9 hv9 => by
        rw [Nat.zero_add, cell_of_row _ _ _ _ _ _ (heap_alloc_new w1 _)]
        simpa using hv9)
      have HOWN := hid hown
      have HKS := hid hkeys
      clear hs hs1 hgw1 hrgA hgwA hbn hbA hgw hrg hrg1 hg1 hb hown hkeys hap
      go_wp2_with (with_reducible refine hold_st 173 ?_)
      refine hid (wl_storeNew rfl (.tmp 5) (.tmp 12) rfl HS.out rfl rfl ?_)
      go_wp2_with (with_reducible refine hold_at 15 ?_)
      refine hid (wl_loadS rfl (.tmp 5) rfl rfl SEC.out HS.out ?_)
      cases hp : cutP lim (.int .i64 x) (.lit (.string s))
      · have hcp : decide (lim ≤ x) = false := hp
        rw [hcp] at hc
        have HP := hid hp
        clear hp hcp
        go_wp2_with (first
          | (go_at_call 170; refine hc.mono ?_; clear hc; rintro e w2 ⟨rfl, hu2⟩)
          | go_in)
        have hg2 : World.grownBy _ w2 none := Fr.grownBy ((Fr.of_below hu2.out).mono (fun _ e => e.elim))
        have hrg2 := HRA.out.kept hg2 (by simp) (by simp)
        go_roundw
        case rel => exact ⟨_, cnt1, by rw [← Fk_stays HAP.out (keyI.key HKEY.out) HLX.out (by rw [HKL.out]; exact HP.out) HAT.out]; exact hrg2, HGA.out.andThen hg2 (fun j hj => by cases hj)⟩
        case measure => rw [hrg2.left_eq, HRG.out.left_eq]; exact HLT.out
      · have hcp : decide (lim ≤ x) = true := hp
        rw [hcp] at hc
        have HP := hid hp
        clear hp hcp
        go_wp2_with (first
          | (go_at_call 170; refine hc.mono ?_; clear hc; rintro e w2 ⟨rfl, hu2⟩; have hg2 : World.grownBy _ w2 none := Fr.grownBy ((Fr.of_below hu2.out).mono (fun _ e => e.elim)); have hrg2 := HRA.out.kept hg2 (by simp) (by simp))
          | (at_delete; refine wpList_delete_ranges _ rfl _ _ 82 3 rfl 173 keyI Tryz.underlying82 secElem m w.heap.size n _ _ _ rfl hrg2 _ _ rfl HKEY.out ?_; intro w3 cnt3 hrg3 hle hturn; go_frame)
          | go_in)
        rw [strike_twice] at hrg3
        go_roundw
        case rel => exact ⟨_, cnt3, by rw [← Fk_struck HAP.out (keyI.key HKEY.out) HLX.out (by rw [HKL.out]; exact HP.out) HAT.out]; exact hrg3, (HGA.out.andThen hg2 (fun j hj => by cases hj)).andThen hturn.grown (fun j hj => by cases hj; exact Or.inr rfl)⟩
        case measure => rw [hrg3.left_eq, HRG.out.left_eq]; have := HLT.out; omega
theorem delete_calls (w : World) (m : Nat) (L : Olds) (lim : Int) (bx : Nat) (h : Hid (MapS w m L)) (hL : Hid (∀ p ∈ L, p.2.length = 128)) (hb : w.cell? ⟨bx, 0, none⟩ = some (.int .i64 lim)) :
    Calls Tryz.prog 169 #[.map (some m), .func (.func 170) #[] #[.pointer (some ⟨bx, 0, none⟩)]] w (fun e w' => e = .returned (.tuple #[]) ∧ Hid (MapS w' m (cutL L lim) ∧ w.grownBy w' (some m))) := by
  refine (del_calls w m L.length (datL L) lim bx h.out hb (hid fun es he p hp => ?_)).mono ?_
  · injection he with he
    rw [← he] at hp
    obtain ⟨q, hq, rfl⟩ := List.mem_map.1 hp
    exact ⟨q.2, rfl, hL.out q hq⟩
  · rintro e w' ⟨rfl, hh⟩
    exact ⟨rfl, hid ⟨MapS.of hh.out.1 (cutL_dat L lim), hh.out.2⟩⟩
end Go.Proofs.YtbcghggkfnagoaaGreatDoor

namespace Go.Proofs.YtbcghggkfnagoaaGreatDoor
open Go Go.RowKit Go.Maps Hach

def cutF (k : Nat) (f : FileV) : FileV := ⟨f.now.take k, cutL f.old k, k⟩
def cutV (b : Bool) (k : Nat) (D : DiskV) : DiskV := D.setF b (cutF k (D.fl b))
theorem FileOk.cutOk {f : FileV} (h : FileOk f) {k : Nat} (hk : k ≤ f.now.length) : FileOk (cutF k f) := by
  refine ⟨fun s hs => h.now s (List.mem_of_mem_take hs), fun p hp => h.old p (List.mem_filter.1 hp).1, h.keys.sublist (List.filter_sublist.map _), fun p hp => ?_, ?_⟩
  · have h1 := List.mem_filter.1 hp
    have h2 := h.rng p h1.1
    have h3 : p.1 < (k : Int) := of_decide_eq_true h1.2
    refine ⟨h2.1, ?_⟩
    show p.1 < ((f.now.take k).length : Int)
    rw [List.length_take]; omega
  · show k ≤ (f.now.take k).length
    rw [List.length_take]; omega
section
variable {w : World} {base d o m c : Nat} {cs : Array Value} {t : TypeId} {A : Option Addr} {f : FileV}
theorem FileAt.rowed (h : FileAt w base d cs t o A c m f) {k : Nat} {A3 : Option Addr} {c3 : Nat} (hk : k ≤ f.now.length) (ho : w.ownsRow base 173 128 (.slice A3 k c3) k ((f.now.take k).flatMap secC)) :
    FileAt (w.setCell ⟨d, o, none⟩ (.slice A3 k c3)) base d (cs.setIfInBounds o (.slice A3 k c3)) t o A3 c3 m { f with now := f.now.take k } ∧ Fr (fun k => k = d) w (w.setCell ⟨d, o, none⟩ (.slice A3 k c3)) := by
  have hl : (f.now.take k).length = k := by rw [List.length_take]; omega
  have f2 : Fr (fun k => k = d) w (w.setCell ⟨d, o, none⟩ (.slice A3 k c3)) := (Fr.refl (fun k => k = d) w).setCell (p := ⟨d, o, none⟩) (fun _ => rfl) _
  have ne := h.ne
  have hlt := (Array.getElem?_eq_some_iff.1 h.c0).1
  refine ⟨⟨heap_setCell_same w d o cs t _ h.own, ?_, ?_, ?_, ?_, h.map.kept f2 (fun e => ne.1 e.symm), fun s hs => h.len s (List.mem_of_mem_take hs), h.low, h.ty⟩, f2⟩
  · rw [hl]; simp [hlt]
  · rw [Array.getElem?_setIfInBounds_ne (by omega)]; exact h.c1
  · rw [Array.getElem?_setIfInBounds_ne (by omega)]; exact h.c2
  · rw [hl]; exact f2.own ho (fun k9 hk9 e => row_blk ho h.own (fun e9 => h.ty.1 e9.symm) k9 hk9 e)
theorem FileAt.sured (h : FileAt w base d cs t o A c m f) (k : Nat) :
    FileAt (w.setCell ⟨d, o + 2, none⟩ (.int .i64 k)) base d (cs.setIfInBounds (o + 2) (.int .i64 k)) t o A c m { f with sure := k } ∧ Fr (fun k => k = d) w (w.setCell ⟨d, o + 2, none⟩ (.int .i64 k)) := by
  have f2 : Fr (fun k => k = d) w (w.setCell ⟨d, o + 2, none⟩ (.int .i64 k)) := (Fr.refl (fun k => k = d) w).setCell (p := ⟨d, o + 2, none⟩) (fun _ => rfl) _
  have ne := h.ne
  have hlt := (Array.getElem?_eq_some_iff.1 h.c2).1
  refine ⟨⟨heap_setCell_same w d (o + 2) cs t _ h.own, ?_, ?_, ?_, f2.own h.row (fun k hk e => (ne.2 k hk).1 e), h.map.kept f2 (fun e => ne.1 e.symm), h.len, h.low, h.ty⟩, f2⟩
  · rw [Array.getElem?_setIfInBounds_ne (by omega)]; exact h.c0
  · rw [Array.getElem?_setIfInBounds_ne (by omega)]; exact h.c1
  · simp [hlt]
end
theorem cut1_ent (args : Array Value) (w : World) : (callFunc 167 args).run Tryz.prog w = .ok (.enter 167 args) w := by go_simp
set_option maxRecDepth 100000 in
set_option maxHeartbeats 2000000 in
theorem cut1_calls (w : World) (base d : Nat) (p : DiskP) (D : DiskV) (b : Bool) (k bx by9 : Nat) (h : Hid (DiskAt w base d p D)) (hk : Hid (k ≤ (D.fl b).now.length ∧ k < 1000000)) (hb : w.heap[bx]? = some (.cells #[.pointer (some ⟨d, off b, none⟩)] 156 (0, 0))) (hb9 : w.heap[by9]? = some (.cells #[.int .i64 k] 3 (0, 0))) :
    Calls Tryz.prog 167 #[.pointer (some ⟨bx, 0, none⟩), .pointer (some ⟨by9, 0, none⟩)] w (StepF w (foot d p D) base d (cutV b k D) (.int .i64 0)) := by
  have F0 := hid (h.out.fileB b)
  have OK := hid (h.out.okB b)
  obtain ⟨f, hf⟩ : ∃ f, D.fl b = f := ⟨_, rfl⟩
  rw [hf] at F0 OK hk
  have HFL := hid hf
  obtain ⟨o, hoo⟩ : ∃ o, off b = o := ⟨_, rfl⟩
  rw [hoo] at F0 hb
  have HOO := hid hoo
  obtain ⟨A, hA⟩ : ∃ A, p.rA b = A := ⟨_, rfl⟩
  obtain ⟨c, hc⟩ : ∃ A, p.rc b = A := ⟨_, rfl⟩
  obtain ⟨m, hm⟩ : ∃ A, p.mm b = A := ⟨_, rfl⟩
  rw [hA, hc, hm] at F0
  have PA := hid (And.intro hA (And.intro hc hm))
  have HB := hid hb
  have HB9 := hid hb9
  obtain ⟨len, hlen⟩ : ∃ z, f.now.length = z := ⟨_, rfl⟩
  have HLEN := hid hlen
  have e0 := F0.out.cell0.1
  rw [hlen] at e0
  have b0 : w.cell? ⟨bx, 0, none⟩ = some (.pointer (some ⟨d, o, none⟩)) := by rw [cell_of_row _ _ _ _ _ _ hb]; rfl
  have b9 : w.cell? ⟨by9, 0, none⟩ = some (.int .i64 k) := by rw [cell_of_row _ _ _ _ _ _ hb9]; rfl
  have hkc : k ≤ c := by
    obtain ⟨A9, c9, e9, h9⟩ := own_form F0.out.row
    injection e9 with _ e1 e2
    have := hk.out
    omega
  have hkci : (k : Int) ≤ (c : Int) := by omega
  clear hf hoo hA hc hm hlen hb hb9
  go_enter Tryz.func167, Tryz.ntmps167
  go_wp2
  have US : w.drew.cell? ⟨bx, 0, none⟩ = some (.pointer (some ⟨d, o, none⟩)) ∧ w.drew.cell? ⟨by9, 0, none⟩ = some (.int .i64 k) ∧ w.drew.cell? ⟨d, o, none⟩ = some (.slice A len c) := ⟨b0, b9, e0⟩
  have HXL : Hid (((f.now.take k).flatMap secC).length = k * 128) := hid (by rw [flatS_length (fun s hs => F0.out.len s (List.mem_of_mem_take hs)), List.length_take]; have := hk.out; rw [Nat.min_eq_left (by omega)])
  have RD : Hid (Rd w.drew A ((f.now.take k).flatMap secC)) := hid ((by
    have := (Rd.own F0.out.row).take (k * 128)
    rw [flatS_take F0.out.len k (by have := hk.out; omega)] at this
    exact this : Rd w A ((f.now.take k).flatMap secC)).grown (Up.drew w))
  have NBD : Hid (bx ≠ d ∧ by9 ≠ d) := by
    refine hid ⟨?_, ?_⟩
    · rintro rfl
      have h1 := HB.out; have h2 := F0.out.own; rw [h2] at h1; injection h1 with h1; injection h1 with _ h1 _; revert h1; decide
    · rintro rfl
      have h1 := HB9.out; have h2 := F0.out.own; rw [h2] at h1; injection h1 with h1; injection h1 with _ h1 _; revert h1; decide
  have NBM : Hid (bx ≠ m ∧ by9 ≠ m) := by
    refine hid ⟨?_, ?_⟩
    · rintro rfl
      obtain ⟨es, clock, h2⟩ := F0.out.map.isMap
      rw [HB.out] at h2; cases h2
    · rintro rfl
      obtain ⟨es, clock, h2⟩ := F0.out.map.isMap
      rw [HB9.out] at h2; cases h2
  refine t_start (fun w9 => w9.cell? ⟨bx, 0, none⟩ = some (.pointer (some ⟨d, o, none⟩)) ∧ w9.cell? ⟨by9, 0, none⟩ = some (.int .i64 k) ∧ w9.cell? ⟨d, o, none⟩ = some (.slice A len c)) 10 (by kernel_rfl) ?_
  refine t_tk 0 3 (v := ?_) US (fun w9 hS => ?_) ?_
  rotate_left
  · obtain ⟨s0, s1, s2⟩ := hS; go_simp <;> with_reducible rfl
  try simp only [pz]
  refine t_tk 1 4 (v := ?_) US (fun w9 hS => ?_) ?_
  rotate_left
  · obtain ⟨s0, s1, s2⟩ := hS; go_simp <;> with_reducible rfl
  try simp only [pz]
  refine t_tk 2 5 (v := ?_) US (fun w9 hS => ?_) ?_
  rotate_left
  · go_simp <;> with_reducible rfl
  try simp only [pz]
  refine t_tk 3 6 (v := ?_) US (fun w9 hS => ?_) ?_
  rotate_left
  · go_simp <;> with_reducible rfl
  try simp only [pz]
  refine t_tk 4 7 (v := ?_) US (fun w9 hS => ?_) ?_
  rotate_left
  · obtain ⟨s0, s1, s2⟩ := hS; go_simp <;> with_reducible rfl
  try simp only [pz]
  refine t_tk 5 8 (v := ?_) US (fun w9 hS => ?_) ?_
  rotate_left
  · obtain ⟨s0, s1, s2⟩ := hS; go_simp <;> with_reducible rfl
  try simp only [pz]
  refine t_tk 6 9 (v := ?_) US (fun w9 hS => ?_) ?_
  rotate_left
  · go_simp <;> with_reducible rfl
  try simp only [pz]
  refine t_op 7 (by kernel_rfl) rfl (by rfl) (fun K9 hK9 => ?_)
  go_simp
  go_at_call 168
  refine (cloneSec_calls _ A ((f.now.take k).flatMap secC) k c HXL.out (by have := hk.out; omega) (flatS_one _) RD).mono ?_
  rintro e w3 ⟨A3, c3, rfl, hh⟩
  have O3 := hid hh.out.1
  have U3 : Hid (Up w w3) := hid ((Up.drew w).t hh.out.2)
  clear hh
  replace US := (show w3.cell? ⟨bx, 0, none⟩ = some (.pointer (some ⟨d, o, none⟩)) ∧ w3.cell? ⟨by9, 0, none⟩ = some (.int .i64 k) ∧ w3.cell? ⟨d, o, none⟩ = some (.slice A len c) from ⟨U3.out.c US.1, U3.out.c US.2.1, U3.out.c US.2.2⟩)
  have F3 := hid (F0.out.up U3.out)
  have z0 := US.2.2
  have zf := F3.out.free o
  refine hK9.out _ _ US ?_
  clear hK9 K9
  try simp only [pz]
  refine t_op 8 (by kernel_rfl) rfl (by rfl) (fun K9 hK9 => ?_)
  go_simp
  refine hK9.out _ _ US ?_
  clear hK9 K9
  try simp only [pz]
  refine t_tk 9 12 (v := ?_) US (fun w9 hS => ?_) ?_
  rotate_left
  · go_simp <;> with_reducible rfl
  try simp only [pz]
  refine t_last (by kernel_rfl) rfl (by rfl) (fun K9 hK9 => ?_)
  go_simp
  obtain ⟨r4, f4⟩ := F3.out.rowed (k := k) (A3 := A3) (c3 := c3) (by have := hk.out; omega) (own_base O3.out (Nat.le_trans F0.out.bs (Nat.le_refl _)))
  have R4 := hid r4
  have FR4 := hid f4
  clear r4 f4 z0 zf
  have B4 : Hid ((w3.setCell ⟨d, o, none⟩ (.slice A3 k c3)).cell? ⟨bx, 0, none⟩ = some (.pointer (some ⟨d, o, none⟩)) ∧ (w3.setCell ⟨d, o, none⟩ (.slice A3 k c3)).cell? ⟨by9, 0, none⟩ = some (.int .i64 k)) := hid ⟨FR4.out.cell US.1 NBD.out.1, FR4.out.cell US.2.1 NBD.out.2⟩
  have US9 := US
  clear US
  refine hK9.out _ _ ?_
  clear hK9 K9
  try simp only [pz]
  refine t_done (by kernel_rfl) ?_
  rename_i K1 h1
  first | (refine h1 _ _ ?_; clear h1 K1) | skip
  clear US9 e0 b0 b9
  generalize w3.setCell ⟨d, o, none⟩ (.slice A3 k c3) = w4 at *
  obtain ⟨b0, b9⟩ := B4.out
  have e1 := R4.out.cell0.2.1
  have DEL := delete_calls w4 m f.old k by9 (hid R4.out.map) (hid OK.out.old) b9
  go_wp2_with (go_at_call 169; refine DEL.mono ?_; clear DEL; rintro e w5 ⟨rfl, hh⟩; obtain ⟨r5, _, f5⟩ := R4.out.marked hh.out.1 hh.out.2; have R5 := hid r5; have FR5 := hid f5; have z2 := R5.out.cell0.2.2; have zf := R5.out.free (o + 2); replace b0 := FR5.out.cell b0 NBM.out.1; replace b9 := FR5.out.cell b9 NBM.out.2; clear r5 f5 e1 hh)
  go_ret
  obtain ⟨r6, f6⟩ := R5.out.sured k
  refine ⟨rfl, hid ?_⟩
  have FL := HFL.out
  have hkl : (f.now.take k).length = k := by rw [List.length_take]; have := hk.out; omega
  have G := h.out.goes (b := b) (A := A3) (c := c3) (f := cutF k f) (w' := w5.setCell ⟨d, o + 2, none⟩ (.int .i64 k)) (cs := ((diskCs p D).setIfInBounds o (.slice A3 k c3)).setIfInBounds (o + 2) (.int .i64 k))
    (by rw [PA.out.2.2, HOO.out]; exact r6)
    (by
      have := diskCs_set p D b A3 c3 (cutF k f)
      rw [HOO.out, show (cutF k f).now.length = k from hkl] at this
      exact this)
    (by
      rw [PA.out.1, PA.out.2.1, PA.out.2.2]
      exact ((((Fr.of_below U3.out).mono (fun _ e => e.elim)).trans' (FR4.out.mono (fun k9 e => .inl e))).trans' (FR5.out.mono (fun k9 e => .inr (.inl e)))).trans' (f6.mono (fun k9 e => .inl e)))
    (by
      rw [show (cutF k f).now.length = k from hkl]
      cases hob : (Value.slice A3 k c3).ownBlock with
      | none => exact .inr (.inl rfl)
      | some k9 => exact .inr (.inr ⟨k9, (own_block O3.out k9 hob).1, rfl⟩))
    (by have := OK.out.cutOk (k := k) (by have := hk.out; omega); exact this)
  unfold cutV
  rw [FL]
  exact G
end Go.Proofs.YtbcghggkfnagoaaGreatDoor

namespace Go.Proofs.YtbcghggkfnagoaaGreatDoor
open Go Go.RowKit Go.Maps Hach

theorem tick_fl (D : DiskV) (b : Bool) : (tick D).fl b = D.fl b := by cases b <;> rfl
set_option maxRecDepth 100000 in
set_option maxHeartbeats 2000000 in
theorem cut_calls (w : World) (base d : Nat) (p : DiskP) (D : DiskV) (b : Bool) (k : Nat) (h : Hid (DiskAt w base d p D)) (ho : Hid (D.on = true)) (hn : Hid (NumOk D)) (hkl : Hid (D.keep.length < 1000000)) (hk : Hid (k ≤ (D.fl b).now.length)) :
    Calls Tryz.prog 134 #[.pointer (some ⟨d, 0, none⟩), .int .i64 (idx b), .int .i64 k] w (StepF w (foot d p D) base d (opV D (cutV b k (tick D))) (.int .i64 (opR D 0))) := by
  have hsz : (D.fl b).now.length < 40000 := by
    have h1 := hn.out.size
    have h2 := h.out.room
    cases b
    · show D.f0.now.length < 40000; omega
    · show D.f1.now.length < 40000; omega
  have HSZ := hid hsz
  obtain ⟨o, hoo⟩ : ∃ o, off b = o := ⟨_, rfl⟩
  have HOO := hid hoo
  have UA := upAlD (Up.refl w) (.cells #[.int .i64 k] 3)
  have UB := upAlD (Up.refl (w.alloc (.cells #[.int .i64 k] 3))) (.cells #[.pointer (some ⟨d, o, none⟩)] 156)
  have CF := fileB_calls (w.alloc (.cells #[.int .i64 k] 3)) base d D b (hid ⟨p, h.out.up UA⟩) ho.out
  rw [hoo] at CF
  have s1 : (w.alloc (.cells #[.int .i64 k] 3)).heap.size = w.heap.size + 1 := by simp
  have BA := UB.block w.heap.size (by omega) |>.trans (heap_alloc_new w (.cells #[.int .i64 k] 3))
  have BB := heap_alloc_new (w.alloc (.cells #[.int .i64 k] 3)) (.cells #[.pointer (some ⟨d, o, none⟩)] 156)
  rw [s1] at BB
  have UC := UA.t (UB.t (Up.drew _))
  have F0 := (h.out.up UC).fileB b
  rw [hoo] at F0
  have e0 := F0.cell0.1
  obtain ⟨len, hlen⟩ : ∃ z, (D.fl b).now.length = z := ⟨_, rfl⟩
  rw [hlen] at e0
  have h0 : ¬ (k : Int) < 0 := by omega
  have hkle : ¬ (len : Int) < (k : Int) := by have := hk.out; omega
  have a0 : ((w.alloc (.cells #[.int .i64 k] 3)).alloc (.cells #[.pointer (some ⟨d, o, none⟩)] 156)).drew.cell? ⟨w.heap.size, 0, none⟩ = some (.int .i64 k) := by
    show World.cell? _ _ = _
    rw [show (((w.alloc (.cells #[.int .i64 k] 3)).alloc (.cells #[.pointer (some ⟨d, o, none⟩)] 156)).drew).cell? ⟨w.heap.size, 0, none⟩ = ((w.alloc (.cells #[.int .i64 k] 3)).alloc (.cells #[.pointer (some ⟨d, o, none⟩)] 156)).cell? ⟨w.heap.size, 0, none⟩ from rfl, cell_of_row _ _ _ _ _ _ BA]; rfl
  have a1 : ((w.alloc (.cells #[.int .i64 k] 3)).alloc (.cells #[.pointer (some ⟨d, o, none⟩)] 156)).drew.cell? ⟨w.heap.size + 1, 0, none⟩ = some (.pointer (some ⟨d, o, none⟩)) := by
    rw [show (((w.alloc (.cells #[.int .i64 k] 3)).alloc (.cells #[.pointer (some ⟨d, o, none⟩)] 156)).drew).cell? ⟨w.heap.size + 1, 0, none⟩ = ((w.alloc (.cells #[.int .i64 k] 3)).alloc (.cells #[.pointer (some ⟨d, o, none⟩)] 156)).cell? ⟨w.heap.size + 1, 0, none⟩ from rfl, cell_of_row _ _ _ _ _ _ BB]; rfl
  have OP := op_calls ((w.alloc (.cells #[.int .i64 k] 3)).alloc (.cells #[.pointer (some ⟨d, o, none⟩)] 156)).drew base d p D (hid (h.out.up UC)) ho hn hkl 167 #[.pointer (some ⟨w.heap.size + 1, 0, none⟩), .pointer (some ⟨w.heap.size, 0, none⟩)] cut1_ent 0 (cutV b k (tick D)) (hid fun w1 h1 f1 => by
    have hd := (Array.getElem?_eq_some_iff.1 h.out.own).1
    have z1 : ((w.alloc (.cells #[.int .i64 k] 3)).alloc (.cells #[.pointer (some ⟨d, o, none⟩)] 156)).drew.heap.size = w.heap.size + 1 + 1 := by show ((w.alloc (.cells #[.int .i64 k] 3)).alloc (.cells #[.pointer (some ⟨d, o, none⟩)] 156)).heap.size = _; simp
    exact cut1_calls w1 base d p (tick D) b k (w.heap.size + 1) w.heap.size (hid h1) (hid (by rw [tick_fl]; have h1 := hk.out; have h2 := HSZ.out; exact ⟨h1, by omega⟩)) ((f1.block (w.heap.size + 1) (by omega) (by omega)).trans (by rw [HOO.out]; exact BB)) ((f1.block w.heap.size (by omega) (by omega)).trans BA))
  have UC := hid UC
  clear hoo BA BB UA UB F0 hlen hsz
  generalize idx b = ib at *
  go_enter Tryz.func134, Tryz.ntmps134
  go_wp2_with (go_at_call 161; refine CF.mono ?_; rintro e w' ⟨rfl, hw⟩; subst hw)
  go_region
  go_wp2_with (go_at_call 166; refine OP.mono ?_; rintro e w6 ⟨rfl, hh⟩)
  all_goals
    go_ret
    exact ⟨rfl, hid (hh.out.pre UC.out)⟩
end Go.Proofs.YtbcghggkfnagoaaGreatDoor
