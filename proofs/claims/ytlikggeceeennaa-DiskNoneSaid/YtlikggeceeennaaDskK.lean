/- THE WALK of the disk's Crash, power on. -/
import Derived.Test.YtlikggeceeennaaDskJ
set_option linter.unusedVariables false
set_option linter.unusedSimpArgs false
namespace Go.Proofs.Ytlikggeceeennaa
open Go Go.RowKit Go.Maps Hach

def bOf (k : Nat) : Bool := decide (k = 1)
theorem off_of {k : Nat} (h : k < 2) : 1 + k * 3 = off (bOf k) := by
  rcases (by omega : k = 0 ∨ k = 1) with rfl | rfl <;> rfl
theorem stage_succ (keep : List Bool) (torn : Int) (D : DiskV) {k : Nat} (h : k < 2) : stage keep torn D (k + 1) = crash1 keep torn (bOf k) (stage keep torn D k) := by
  rcases (by omega : k = 0 ∨ k = 1) with rfl | rfl <;> rfl
theorem stage_fl (keep : List Bool) (torn : Int) (D : DiskV) {k : Nat} (h : k < 2) : (stage keep torn D k).1.fl (bOf k) = D.fl (bOf k) := by
  rcases (by omega : k = 0 ∨ k = 1) with rfl | rfl <;> rfl
theorem stage_n (keep : List Bool) (torn : Int) (D : DiskV) {k : Nat} (h : k < 2) : (stage keep torn D k).2.1 ≤ D.f0.old.length := by
  rcases (by omega : k = 0 ∨ k = 1) with rfl | rfl
  · exact Nat.zero_le _
  · show (crashRow keep torn ⟨D.f0.now, D.f0.sure, 0, true⟩ D.f0.old).n ≤ _
    rw [crashRow_n]; show 0 + _ ≤ _; omega
theorem fl_len (D : DiskV) (h : D.f0.now.length < 400000 ∧ D.f1.now.length < 400000) (b : Bool) : (D.fl b).now.length < 400000 := by
  cases b
  · exact h.1
  · exact h.2
theorem getL_at {L : Olds} (hk : (L.map (·.1)).Pairwise (· < ·)) {j : Nat} (hj : j < L.length) : getL L L[j].1 = some L[j].2 := by
  induction L generalizing j with
  | nil => cases hj
  | cons x r ih =>
    rw [List.map_cons, List.pairwise_cons] at hk
    unfold getL
    cases j with
    | zero => simp
    | succ j =>
      rw [List.find?_cons]
      have hj' : j < r.length := by simpa using hj
      have hne : decide (x.1 = (x :: r)[j + 1].1) = false := by
        have := hk.1 r[j].1 (List.mem_map.2 ⟨r[j], List.getElem_mem hj', rfl⟩)
        rw [List.getElem_cons_succ]
        exact decide_eq_false (by omega)
      rw [hne, List.getElem_cons_succ]
      exact ih hk.2 hj'
theorem diskCs_set (p : DiskP) (D : DiskV) (b : Bool) (A : Option Addr) (c : Nat) (f : FileV) : ((diskCs p D).setIfInBounds (off b) (.slice A f.now.length c)).setIfInBounds (off b + 2) (.int .i64 f.sure) = diskCs (p.setR b A c) (D.setF b f) := by
  cases b <;> rfl
/-- Between the sectors of a file. -/
def SeInv (w wi : World) (base d o : Nat) (cs : Array Value) (A : Option Addr) (c mm : Nat) (f : FileV) (s : CSt) : Prop :=
  FileAt wi base d cs 98 o A c mm { f with now := s.now } ∧ Fr (fun k => (Value.slice A f.now.length c).ownBlock = some k) w wi
/-- Between the files. -/
def CrInv (w wr : World) (F : Nat → Prop) (base d : Nat) (D : DiskV) (keep : List Bool) (torn : Int) (bx : Nat) (KA : Option Addr) (kl kc k : Nat) : Prop :=
  Goes w F base d (stage keep torn D k).1 wr ∧ wr.heap[bx]? = some (.cells #[.slice KA kl kc, .int .i64 torn] 77 (0, 0))
set_option pp.deepTerms true in
set_option pp.maxSteps 10000000 in
set_option maxRecDepth 100000 in
set_option maxHeartbeats 2000000 in
theorem crashOn_calls (w : World) (base d : Nat) (p : DiskP) (D : DiskV) (h : Hid (DiskAt w base d p D)) (ho : Hid (D.on = true)) (hsz : Hid (D.f0.now.length < 400000 ∧ D.f1.now.length < 400000))
    (KA : Option Addr) (keep : List Bool) (kc : Nat) (torn : Int) (hkl : Hid (keep.length < 1000000)) (hk : Hid (∀ w', Fr (foot d p D) w w' → Rd w' KA (keep.map .bool))) :
    Calls Try.prog 51 #[.pointer (some ⟨d, 0, none⟩), .agg #[.slice KA keep.length kc, .int .i64 torn]] w (StepF w (foot d p D) base d (crashV keep torn D) (.bool true)) := by
  obtain ⟨kl, hkl2⟩ : ∃ z, keep.length = z := ⟨_, rfl⟩
  have HKL := hid hkl2
  rw [hkl2]
  have UA := upAlD (Up.refl w) (.cells #[.slice KA kl kc, .int .i64 torn] 77)
  have hA := h.out.up UA
  have E0 := hA.reads.1
  have E7 := hA.reads.2.2.2.2.2.2.2.1
  have E9 := hA.reads.2.2.2.2.2.2.2.2.2.1
  rw [ho.out] at E7
  have f7 := hA.free 7
  have f9 := hA.free 9
  have HR := hid h.out.room.1
  have HA := hid hA
  have UA := hid UA
  have DLT := hid (Array.getElem?_eq_some_iff.1 h.out.own).1
  have BB := hid (heap_alloc_new w (.cells #[.slice KA kl kc, .int .i64 torn] 77))
  clear hA hkl2
  go_enter Try.func51, Try.ntmps51
  go_wp2_with (go_at_call 107; refine (dmade_calls _ d _ E0 HR).mono ?_; rintro e w' ⟨rfl, rfl⟩)
  have START : Hid (CrInv w (((w.alloc (.cells #[.slice KA kl kc, .int .i64 torn] 77)).setCell ⟨d, 7, none⟩ (.bool false)).setCell ⟨d, 9, none⟩ (.int .i64 0)) (foot d p D) base d D keep torn w.heap.size KA kl kc 0) := by
    have k1 := heap_setCell_same _ d 7 (diskCs p D) _ (.bool false) HA.out.own
    have k2 := heap_setCell_same _ d 9 _ _ (.int .i64 0) k1
    have hf : Fr (fun k => k = d) (w.alloc (.cells #[.slice KA kl kc, .int .i64 torn] 77)) (((w.alloc (.cells #[.slice KA kl kc, .int .i64 torn] 77)).setCell ⟨d, 7, none⟩ (.bool false)).setCell ⟨d, 9, none⟩ (.int .i64 0)) := ((Fr.refl (fun k => k = d) _).setCell (p := ⟨d, 7, none⟩) (fun _ => rfl) _).setCell (p := ⟨d, 9, none⟩) (fun _ => rfl) _
    refine hid ⟨⟨⟨p, HA.out.nums hf k2 rfl rfl rfl rfl, fun k hk => .inl hk⟩, ((Fr.of_below UA.out).mono (fun _ e => e.elim)).trans' (hf.mono (fun k e => .inl e))⟩, ?_⟩
    exact (hf.block w.heap.size (by simp) (by have := DLT.out; omega)).trans BB.out
  have BX := hid (show d < w.heap.size ∧ w.heap.size ≤ w.heap.size from ⟨DLT.out, Nat.le_refl _⟩)
  clear E0 E7 E9 f7 f9 HA UA BB
  generalize ((w.alloc (.cells #[.slice KA kl kc, .int .i64 torn] 77)).setCell ⟨d, 7, none⟩ (.bool false)).setCell ⟨d, 9, none⟩ (.int .i64 0) = W1 at *
  generalize hbx : w.heap.size = bx at *
  have HBX := hid hbx
  clear hbx
  go_loopw [5, 6, 31] (fun n t i wr => ∃ k : Nat, k ≤ 2 ∧ i = .int .i64 k ∧ n = .int .i64 (stage keep torn D k).2.1 ∧ t = .bool (stage keep torn D k).2.2 ∧ Hid (CrInv w wr (foot d p D) base d D keep torn bx KA kl kc k)) (fun _ _ i _ => 2 - (numV i).toNat)
  case atStart => exact ⟨0, by omega, rfl, rfl, rfl, START⟩
  case round =>
    obtain ⟨wo, rfl⟩ : ∃ x, x = wr := ⟨wr, rfl⟩
    obtain ⟨k, hk2, rfl, rfl, rfl, iv⟩ := hrel
    by_cases hlt : (k : Int) < 2
    · have K2 := hid (show k < 2 by omega)
      obtain ⟨⟨⟨p', h', hf'⟩, fr⟩, bxc⟩ := iv.out
      have F0 := h'.fileB (bOf k)
      rw [← off_of K2.out] at F0
      have OK := h'.okB (bOf k)
      have FL := stage_fl keep torn D K2.out
      rw [FL] at F0 OK
      have SN := hid (stage_n keep torn D K2.out)
      obtain ⟨nn, hnn⟩ : ∃ z, (stage keep torn D k).2.1 = z := ⟨_, rfl⟩
      obtain ⟨wh, hwh⟩ : ∃ z, (stage keep torn D k).2.2 = z := ⟨_, rfl⟩
      have NN := hid hnn
      have WH := hid hwh
      rw [hnn, hwh]
      have LEN := hid (fl_len D hsz.out (bOf k))
      have OL := hid OK.olds
      obtain ⟨f, hf⟩ : ∃ f, D.fl (bOf k) = f := ⟨_, rfl⟩
      rw [hf] at F0 OK LEN OL
      have HFL := hid hf
      obtain ⟨e0, e1, e2⟩ := F0.cell0
      obtain ⟨A, hA⟩ : ∃ A, p'.rA (bOf k) = A := ⟨_, rfl⟩
      obtain ⟨c, hc⟩ : ∃ c, p'.rc (bOf k) = c := ⟨_, rfl⟩
      obtain ⟨mm, hm⟩ : ∃ c, p'.mm (bOf k) = c := ⟨_, rfl⟩
      have PA := hid (And.intro hA (And.intro hc hm))
      rw [hA, hc, hm] at F0
      rw [hA, hc] at e0
      rw [hm] at e1
      have FF := hid F0
      have HOK := hid OK
      have HP := hid h'
      have HPF := hid hf'
      have FRR := hid fr
      have BXC := hid bxc
      obtain ⟨len, hlen⟩ : ∃ z, f.now.length = z := ⟨_, rfl⟩
      rw [hlen] at e0
      have HLEN := hid hlen
      obtain ⟨sure, hsure⟩ : ∃ z, f.sure = z := ⟨_, rfl⟩
      rw [hsure] at e2
      have HSURE := hid hsure
      clear iv h' hf' fr bxc F0 OK FL hnn hwh hf hA hc hm hlen hsure hk2
      go_wp2_with (first
        | (go_at_call 111; refine (keys_calls _ mm).mono ?_; rintro e w' ⟨rfl, rfl⟩)
        | (go_at_call 110; refine (sorted_calls _ mm wo.heap.size f.old (hid (FF.out.map.up (upAlD (Up.refl wo) _))) (hid (by have := LEN.out; have := OL.out; omega)) (hid HOK.out.keys) (hid (heap_alloc_new wo _))).mono ?_; rintro e w2 ⟨AK, cK, rfl, hh⟩))
      have UW : Hid (Up wo w2) := hid ((upAlD (Up.refl wo) _).t hh.out.2)
      have KR := hid (own_base hh.out.1 (show wo.heap.size ≤ _ by simp))
      obtain ⟨ol, hol⟩ : ∃ z, f.old.length = z := ⟨_, rfl⟩
      rw [hol] at KR ⊢
      have HOL := hid hol
      clear hh hol e0 e1 e2
      have START2 : Hid (SeInv w2 w2 base d (1 + k * 3) (diskCs p' (stage keep torn D k).1) A c mm f (crashRow keep torn ⟨f.now, sure, nn, wh⟩ (f.old.take 0))) := hid ⟨FF.out.up UW.out, Fr.refl _ _⟩
      go_loopw [5, 6, 9, 50] (fun n t l i wi => ∃ j : Nat, j ≤ ol ∧ i = .int .i64 j ∧ n = .int .i64 (crashRow keep torn ⟨f.now, sure, nn, wh⟩ (f.old.take j)).n ∧ t = .bool (crashRow keep torn ⟨f.now, sure, nn, wh⟩ (f.old.take j)).wh ∧ l = .int .i64 (crashRow keep torn ⟨f.now, sure, nn, wh⟩ (f.old.take j)).last ∧
        Hid (SeInv w2 wi base d (1 + k * 3) (diskCs p' (stage keep torn D k).1) A c mm f (crashRow keep torn ⟨f.now, sure, nn, wh⟩ (f.old.take j)))) (fun _ _ _ i _ => ol - (numV i).toNat)
      case atStart => exact ⟨0, by omega, rfl, rfl, rfl, rfl, START2⟩
      case round =>
        obtain ⟨j, hj, rfl, rfl, rfl, rfl, iv⟩ := hrel
        by_cases hjl : (j : Int) < ol
        · have HJ : Hid (j < f.old.length) := hid (by have := HOL.out; omega)
          have SN2 := hid (crashRow_n keep torn (f.old.take j) ⟨f.now, sure, nn, wh⟩)
          have SOK : Hid (CStOk f.now.length (crashRow keep torn ⟨f.now, sure, nn, wh⟩ (f.old.take j))) := hid (by
            have := (HOK.out.cst nn wh).row keep torn (L := f.old.take j) (fun p hp => ⟨HOK.out.rng p (List.mem_of_mem_take hp), HOK.out.old p (List.mem_of_mem_take hp)⟩)
            rw [HSURE.out] at this; exact this)
          have NEXT := hid (crashRow_take keep torn f.old ⟨f.now, sure, nn, wh⟩ HJ.out)
          have GET := hid (getL_at HOK.out.keys HJ.out)
          have RNG := hid (HOK.out.rng _ (List.getElem_mem HJ.out))
          have OLD := hid (HOK.out.old _ (List.getElem_mem HJ.out))
          obtain ⟨s, hs⟩ : ∃ s, crashRow keep torn ⟨f.now, sure, nn, wh⟩ (f.old.take j) = s := ⟨_, rfl⟩
          rw [hs] at SN2 SOK NEXT iv ⊢
          obtain ⟨q, hq⟩ : ∃ q, f.old[j]'HJ.out = q := ⟨_, rfl⟩
          rw [hq] at NEXT GET RNG OLD
          have HQ := hid hq
          clear hs hq
          obtain ⟨ki, so⟩ := q
          obtain ⟨i, hi⟩ : ∃ i : Nat, ki = (i : Int) := ⟨ki.toNat, by have := RNG.out.1; simp only at this; omega⟩
          subst hi
          obtain ⟨nw, sl, sn, sw⟩ := s
          obtain ⟨⟨sv, tr⟩, hst⟩ : ∃ r, staysV keep torn sn sw = r := ⟨_, rfl⟩
          have HST := hid hst
          have SVL : Hid (sv ≤ 128) := hid (by have := staysV_le keep torn sn sw; rwa [hst] at this)
          have NX : Hid (crashRow keep torn ⟨f.now, sure, nn, wh⟩ (f.old.take (j + 1)) = ⟨crashSec nw i sv so, if 0 < sv then max sl (i + 1) else sl, sn + 1, sw && !tr⟩) := hid (by
            rw [NEXT.out]; unfold crashStep; simp only [hst]; rfl)
          clear hst NEXT
          have SNB : Hid (sn < 900000) := hid (by have h1 := SN2.out; simp only at h1; rw [List.length_take] at h1; have h2 := SN.out; have h3 := NN.out; have h4 := hsz.out; have h5 := OL.out; have h6 := LEN.out; have h7 := HJ.out; have h8 := h.out.ok0.olds; omega)
          obtain ⟨fi, fri⟩ := iv.out
          have hil : i < f.now.length := by have := RNG.out.2; simp only at this; omega
          have hinw : i < nw.length := by have := SOK.out.len; simp only at this; omega
          obtain ⟨g, hAg, hsec⟩ := fi.sec hinw
          obtain ⟨c0, c1, c2⟩ := fi.cell0
          rw [show ({ f with now := nw } : FileV).now.length = len from SOK.out.len.trans HLEN.out] at c0
          have NWL := hid hinw
          have ILT := hid hil
          rw [hAg] at c0
          have HAG := hid hAg
          have FI := hid fi
          have FRI := hid fri
          have b0 : wr.heap[bx]? = some (.cells #[.slice KA kl kc, .int .i64 torn] 77 (0, 0)) := (fri.block bx (Nat.lt_of_lt_of_le (Array.getElem?_eq_some_iff.1 BXC.out).1 UW.out.size) (fun e => row_blk FF.out.row BXC.out (by decide) bx e rfl)).trans ((UW.out.block bx (Array.getElem?_eq_some_iff.1 BXC.out).1).trans BXC.out)
          have AB : ∀ k9, (Value.slice A f.now.length c).ownBlock = some k9 → k9 < wo.heap.size := fun k9 hk9 => (own_block FF.out.row k9 hk9).2
          have FW : Hid (Fr (foot d p D) w wr) := hid ((FRR.out.trans (Fr.of_below UW.out) (fun _ _ e => e.elim)).trans fri (fun k9 hk9 e => by
            have h1 : foot d p' (stage keep torn D k).1 k9 := foot_own (bOf k) (.inr (.inr (by rw [PA.out.1]; exact (ownBlock_len A _ _ _ _).trans e)))
            rcases HPF.out k9 h1 with h2 | h2
            · exact h2
            · omega))
          have KRI := FRI.out.own KR.out (fun k9 hk9 e => by have h1 := (own_block KR.out k9 hk9).1; have h2 := AB k9 e; omega)
          obtain ⟨kb, kcell⟩ : ∃ kb, AK = some ⟨kb, 0, none⟩ ∧ wr.cell? ⟨kb, j, none⟩ = some (.int .i64 i) := by
            rcases KRI.2 with ⟨hv, h0⟩ | ⟨kb, cap, cur, hv, _⟩
            · have := HJ.out; have := HOL.out; omega
            · injection hv with e1 e2 e3
              subst e1
              refine ⟨kb, rfl, ?_⟩
              have := KRI.cellAt j (by have := HJ.out; have := HOL.out; omega)
              rw [this, List.getElem?_map, List.getElem?_eq_getElem HJ.out, HQ.out]; rfl
          obtain ⟨hAK, kcell⟩ := kcell
          have ST : Calls Try.prog 112 #[.agg #[.slice KA kl kc, .int .i64 torn], .int .i64 sn, .bool sw] wr (fun en w' => en = .returned (.tuple #[.int .i64 sv, .bool tr]) ∧ Hid (Up wr w')) := by
            have := stays_calls wr KA keep kc torn sn sw (hid (hk.out wr FW.out)) hkl (hid (by have := SNB.out; omega))
            rw [HKL.out] at this
            exact this.mono (fun en w' h => ⟨by rw [h.1, HST.out], h.2⟩)
          have bc0 : wr.cell? ⟨bx, 0, none⟩ = some (.slice KA kl kc) := by rw [cell_of_row _ _ _ _ _ _ b0]; rfl
          have bc1 : wr.cell? ⟨bx, 1, none⟩ = some (.int .i64 torn) := by rw [cell_of_row _ _ _ _ _ _ b0]; rfl
          have kil : (j : Int) < (ol : Int) := hjl
          subst hAK
          have WF : Hid ((Lit.int .i64 (i : Int)).wf = true) := hid (wf_nat (by have := ILT.out; have := LEN.out; omega))
          clear AB KRI b0 fi fri hAg hsec hil hinw c2 iv
          dsimp only
          have hil : i < len := by have := ILT.out; have := HLEN.out; omega
          have hil : i < len := by have := ILT.out; have := HLEN.out; omega
          have hil : i < len := by have := ILT.out; have := HLEN.out; omega
          have hil : i < len := by have := ILT.out; have := HLEN.out; omega
          have hil : i < len := by have := ILT.out; have := HLEN.out; omega
          have hil : i < len := by have := ILT.out; have := HLEN.out; omega
          by_cases h8 : sv = 128
          · subst h8
            have SVX : Hid (128 ≤ 128) := hid (Nat.le_refl _)
            clear SVL
            go_wp2_with (first
              | (go_at_call 112; refine ST.mono ?_; clear ST; rintro e w3 ⟨rfl, U3⟩; have hget := (FI.out.map.up U3.out).get WF.out; rw [GET.out, Option.getD_some] at hget; replace c0 := U3.out.c c0; replace c1 := U3.out.c c1; clear bc0 bc1 kcell)
              | (with_reducible refine hold_st 137 ?_))
            all_goals
              refine hid (wl_storeNew rfl (.tmp 14) (.tmp 73) rfl OLD.out rfl rfl ?_)
              replace c0 := (upAlD (Up.refl w3) (.cells (secC so).toArray 137)).c c0
              have U4 : Hid (Up wr (w3.alloc (.cells (secC so).toArray 137)).drew) := hid ((U3.out.t (upAlD (Up.refl w3) _)).t (Up.drew _))
              have HOLD : Hid ((w3.alloc (.cells (secC so).toArray 137)).drew.rangeAt w3.heap.size 0 (secC so)) := hid (fun j9 v9 hv9 => by
                show (w3.alloc (.cells (secC so).toArray 137)).cell? ⟨w3.heap.size, 0 + j9, none⟩ = some v9
                rw [Nat.zero_add, cell_of_row _ _ _ _ _ _ (heap_alloc_new w3 _)]
                simpa using hv9)
              have FI4 := hid (FI.out.up U4.out)
              go_wp2
              have US : (w3.alloc (.cells (secC so).toArray 137)).drew.cell? ⟨d, 1 + k * 3, none⟩ = some (.slice (some ⟨g, 0, none⟩) len c) := c0
              have W4 := hid (show w3.heap.size = w3.heap.size from rfl)
              clear hget
              generalize w3.alloc (.cells (secC so).toArray 137) = w4 at *
              generalize w3.heap.size = bs at *
              refine s_start (fun w9 => w9.cell? ⟨d, 1 + k * 3, none⟩ = some (.slice (some ⟨g, 0, none⟩) len c)) (by kernel_rfl) ?_
              refine s_take 0 (some 74) (v := ?_) US rfl rfl (by kernel_rfl) (by kernel_rfl) (by kernel_rfl) (fun _ _ _ h => h) (by rfl) (fun w9 hS => ?_) ?_
              rotate_left
              · go_simp <;> with_reducible rfl
              try simp only [Act.put, List.setIfInBounds_toArray, List.set_cons_zero, List.set_cons_succ]
              refine s_take 1 (some 75) (v := ?_) US rfl rfl (by kernel_rfl) (by kernel_rfl) (by kernel_rfl) (fun _ _ _ h => h) (by rfl) (fun w9 hS => ?_) ?_
              rotate_left
              · go_simp <;> with_reducible rfl
              try simp only [Act.put, List.setIfInBounds_toArray, List.set_cons_zero, List.set_cons_succ]
              refine s_take 2 (some 76) (v := ?_) US rfl rfl (by kernel_rfl) (by kernel_rfl) (by kernel_rfl) (fun _ _ _ h => h) (by rfl) (fun w9 hS => ?_) ?_
              rotate_left
              · go_simp <;> with_reducible rfl
              try simp only [Act.put, List.setIfInBounds_toArray, List.set_cons_zero, List.set_cons_succ]
              refine s_take 3 (some 77) (v := ?_) US rfl rfl (by kernel_rfl) (by kernel_rfl) (by kernel_rfl) (fun _ _ _ h => h) (by rfl) (fun w9 hS => ?_) ?_
              rotate_left
              · have e0 := hS; go_simp <;> with_reducible rfl
              try simp only [Act.put, List.setIfInBounds_toArray, List.set_cons_zero, List.set_cons_succ]
              refine s_take 4 (some 78) (v := ?_) US rfl rfl (by kernel_rfl) (by kernel_rfl) (by kernel_rfl) (fun _ _ _ h => h) (by rfl) (fun w9 hS => ?_) ?_
              rotate_left
              · go_simp <;> with_reducible rfl
              try simp only [Act.put, List.setIfInBounds_toArray, List.set_cons_zero, List.set_cons_succ]
              refine s_take 5 (some 79) (v := ?_) US rfl rfl (by kernel_rfl) (by kernel_rfl) (by kernel_rfl) (fun _ _ _ h => h) (by rfl) (fun w9 hS => ?_) ?_
              rotate_left
              · go_simp <;> with_reducible rfl
              try simp only [Act.put, List.setIfInBounds_toArray, List.set_cons_zero, List.set_cons_succ]
              refine s_take 6 (some 80) (v := ?_) US rfl rfl (by kernel_rfl) (by kernel_rfl) (by kernel_rfl) (fun _ _ _ h => h) (by rfl) (fun w9 hS => ?_) ?_
              rotate_left
              · go_simp <;> with_reducible rfl
              try simp only [Act.put, List.setIfInBounds_toArray, List.set_cons_zero, List.set_cons_succ]
              refine s_take 7 (some 81) (v := ?_) US rfl rfl (by kernel_rfl) (by kernel_rfl) (by kernel_rfl) (fun _ _ _ h => h) (by rfl) (fun w9 hS => ?_) ?_
              rotate_left
              · go_simp <;> with_reducible rfl
              try simp only [Act.put, List.setIfInBounds_toArray, List.set_cons_zero, List.set_cons_succ]
              refine s_take 8 (some 82) (v := ?_) US rfl rfl (by kernel_rfl) (by kernel_rfl) (by kernel_rfl) (fun _ _ _ h => h) (by rfl) (fun w9 hS => ?_) ?_
              rotate_left
              · go_simp <;> with_reducible rfl
              try simp only [Act.put, List.setIfInBounds_toArray, List.set_cons_zero, List.set_cons_succ]
              refine s_take 9 (some 83) (v := ?_) US rfl rfl (by kernel_rfl) (by kernel_rfl) (by kernel_rfl) (fun _ _ _ h => h) (by rfl) (fun w9 hS => ?_) ?_
              rotate_left
              · go_simp <;> with_reducible rfl
              try simp only [Act.put, List.setIfInBounds_toArray, List.set_cons_zero, List.set_cons_succ]
              refine s_op 10 (by kernel_rfl) rfl (by rfl) (fun K9 hK9 => ?_)
              refine wp_copyS FI4.out NWL.out HAG.out HOLD.out OLD.out SVX.out (.tmp 81) (.tmp 83) rfl rfl rfl rfl (fun e9 => absurd e9 (by omega)) ?_
              intro w5 fi5 fr5
              have FI5 := hid fi5
              have FR5 := hid fr5
              have US5 : w5.cell? ⟨d, 1 + k * 3, none⟩ = some (.slice (some ⟨g, 0, none⟩) len c) := by
                have h5 := FI5.out.cell0.1
                rw [HAG.out] at h5
                rw [h5]
                have h6 : (crashSec nw i 128 so).length = len := (crashSec_length _ _ _ _).trans (SOK.out.len.trans HLEN.out)
                rw [← h6]
              replace US := US5
              clear US5 fi5 fr5
              refine hK9.out _ _ US ?_
              clear hK9 K9
              try simp only [Act.put, List.setIfInBounds_toArray, List.set_cons_zero, List.set_cons_succ]
              refine s_done (by kernel_rfl) ?_
              rename_i K1 h1
              first | (refine h1 _ _ ?_; clear h1 K1) | skip
              clear US c0 c1
              have RES : Hid (SeInv w2 w5 base d (1 + k * 3) (diskCs p' (stage keep torn D k).1) A c mm f (crashRow keep torn ⟨f.now, sure, nn, wh⟩ (f.old.take (j + 1)))) := by
                rw [NX.out]
                refine hid ⟨FI5.out, (FRI.out.trans' ((Fr.of_below U4.out).mono (fun _ e => e.elim))).trans FR5.out (fun k9 hk9 e => ?_)⟩
                subst e
                exact (ownBlock_len A _ _ _ _).trans (show (Value.slice A 0 0).ownBlock = some _ by rw [HAG.out]; rfl)
              go_wp2
              all_goals
                go_roundw
                case measure => have := HJ.out; have := HOL.out; have := OL.out; have := LEN.out; rw [show wrap64 ((j : Int) + 1) = ((j + 1 : Nat) : Int) by unfold wrap64; omega]; simp only [numV]; omega
                case rel =>
                  refine ⟨j + 1, by have := HJ.out; have := HOL.out; omega, ?_, ?_, ?_, ?_, RES⟩
                  · have := HJ.out; have := HOL.out; have := OL.out; have := LEN.out; rw [show wrap64 ((j : Int) + 1) = ((j + 1 : Nat) : Int) by unfold wrap64; omega]
                  · rw [NX.out]; have := SNB.out; refine congrArg (Value.int .i64) ?_; show wrap64 ((sn : Int) + 1) = ((sn + 1 : Nat) : Int); unfold wrap64; omega
                  · rw [NX.out]; cases sw <;> cases tr <;> first | rfl | contradiction
                  · rw [NX.out]; refine congrArg (Value.int .i64) ?_; show _ = ((if 0 < 128 then max sl (i + 1) else sl : Nat) : Int); rw [if_pos (by omega)]; have := ILT.out; have := LEN.out; first | omega | (unfold wrap64; omega)

          · have SVX : Hid (sv ≤ 128) := SVL
            have hsv : sv ≤ 128 := SVL.out
            have hsi : (sv : Int) ≤ 128 := by omega
            clear SVL
            go_wp2_with (first
              | (go_at_call 112; refine ST.mono ?_; clear ST; rintro e w3 ⟨rfl, U3⟩; have hget := (FI.out.map.up U3.out).get WF.out; rw [GET.out, Option.getD_some] at hget; replace c0 := U3.out.c c0; replace c1 := U3.out.c c1; clear bc0 bc1 kcell)
              | (with_reducible refine hold_st 137 ?_))
            all_goals
              refine hid (wl_storeNew rfl (.tmp 14) (.tmp 73) rfl OLD.out rfl rfl ?_)
              replace c0 := (upAlD (Up.refl w3) (.cells (secC so).toArray 137)).c c0
              have U4 : Hid (Up wr (w3.alloc (.cells (secC so).toArray 137)).drew) := hid ((U3.out.t (upAlD (Up.refl w3) _)).t (Up.drew _))
              have HOLD : Hid ((w3.alloc (.cells (secC so).toArray 137)).drew.rangeAt w3.heap.size 0 (secC so)) := hid (fun j9 v9 hv9 => by
                show (w3.alloc (.cells (secC so).toArray 137)).cell? ⟨w3.heap.size, 0 + j9, none⟩ = some v9
                rw [Nat.zero_add, cell_of_row _ _ _ _ _ _ (heap_alloc_new w3 _)]
                simpa using hv9)
              have FI4 := hid (FI.out.up U4.out)
              go_wp2
              have US : (w3.alloc (.cells (secC so).toArray 137)).drew.cell? ⟨d, 1 + k * 3, none⟩ = some (.slice (some ⟨g, 0, none⟩) len c) := c0
              have W4 := hid (show w3.heap.size = w3.heap.size from rfl)
              clear hget
              generalize w3.alloc (.cells (secC so).toArray 137) = w4 at *
              generalize w3.heap.size = bs at *
              refine s_start (fun w9 => w9.cell? ⟨d, 1 + k * 3, none⟩ = some (.slice (some ⟨g, 0, none⟩) len c)) (by kernel_rfl) ?_
              refine s_take 0 (some 74) (v := ?_) US rfl rfl (by kernel_rfl) (by kernel_rfl) (by kernel_rfl) (fun _ _ _ h => h) (by rfl) (fun w9 hS => ?_) ?_
              rotate_left
              · go_simp <;> with_reducible rfl
              try simp only [Act.put, List.setIfInBounds_toArray, List.set_cons_zero, List.set_cons_succ]
              refine s_take 1 (some 75) (v := ?_) US rfl rfl (by kernel_rfl) (by kernel_rfl) (by kernel_rfl) (fun _ _ _ h => h) (by rfl) (fun w9 hS => ?_) ?_
              rotate_left
              · go_simp <;> with_reducible rfl
              try simp only [Act.put, List.setIfInBounds_toArray, List.set_cons_zero, List.set_cons_succ]
              refine s_take 2 (some 76) (v := ?_) US rfl rfl (by kernel_rfl) (by kernel_rfl) (by kernel_rfl) (fun _ _ _ h => h) (by rfl) (fun w9 hS => ?_) ?_
              rotate_left
              · go_simp <;> with_reducible rfl
              try simp only [Act.put, List.setIfInBounds_toArray, List.set_cons_zero, List.set_cons_succ]
              refine s_take 3 (some 77) (v := ?_) US rfl rfl (by kernel_rfl) (by kernel_rfl) (by kernel_rfl) (fun _ _ _ h => h) (by rfl) (fun w9 hS => ?_) ?_
              rotate_left
              · have e0 := hS; go_simp <;> with_reducible rfl
              try simp only [Act.put, List.setIfInBounds_toArray, List.set_cons_zero, List.set_cons_succ]
              refine s_take 4 (some 78) (v := ?_) US rfl rfl (by kernel_rfl) (by kernel_rfl) (by kernel_rfl) (fun _ _ _ h => h) (by rfl) (fun w9 hS => ?_) ?_
              rotate_left
              · go_simp <;> with_reducible rfl
              try simp only [Act.put, List.setIfInBounds_toArray, List.set_cons_zero, List.set_cons_succ]
              refine s_take 5 (some 79) (v := ?_) US rfl rfl (by kernel_rfl) (by kernel_rfl) (by kernel_rfl) (fun _ _ _ h => h) (by rfl) (fun w9 hS => ?_) ?_
              rotate_left
              · go_simp <;> with_reducible rfl
              try simp only [Act.put, List.setIfInBounds_toArray, List.set_cons_zero, List.set_cons_succ]
              refine s_take 6 (some 80) (v := ?_) US rfl rfl (by kernel_rfl) (by kernel_rfl) (by kernel_rfl) (fun _ _ _ h => h) (by rfl) (fun w9 hS => ?_) ?_
              rotate_left
              · go_simp <;> with_reducible rfl
              try simp only [Act.put, List.setIfInBounds_toArray, List.set_cons_zero, List.set_cons_succ]
              refine s_take 7 (some 81) (v := ?_) US rfl rfl (by kernel_rfl) (by kernel_rfl) (by kernel_rfl) (fun _ _ _ h => h) (by rfl) (fun w9 hS => ?_) ?_
              rotate_left
              · go_simp <;> with_reducible rfl
              try simp only [Act.put, List.setIfInBounds_toArray, List.set_cons_zero, List.set_cons_succ]
              refine s_take 8 (some 82) (v := ?_) US rfl rfl (by kernel_rfl) (by kernel_rfl) (by kernel_rfl) (fun _ _ _ h => h) (by rfl) (fun w9 hS => ?_) ?_
              rotate_left
              · go_simp <;> with_reducible rfl
              try simp only [Act.put, List.setIfInBounds_toArray, List.set_cons_zero, List.set_cons_succ]
              refine s_take 9 (some 83) (v := ?_) US rfl rfl (by kernel_rfl) (by kernel_rfl) (by kernel_rfl) (fun _ _ _ h => h) (by rfl) (fun w9 hS => ?_) ?_
              rotate_left
              · go_simp <;> with_reducible rfl
              try simp only [Act.put, List.setIfInBounds_toArray, List.set_cons_zero, List.set_cons_succ]
              refine s_op 10 (by kernel_rfl) rfl (by rfl) (fun K9 hK9 => ?_)
              refine wp_copyS FI4.out NWL.out HAG.out HOLD.out OLD.out SVX.out (.tmp 81) (.tmp 83) rfl rfl rfl rfl (fun e9 => ⟨by first | rfl | rw [if_neg (by omega)], by first | rfl | rw [if_neg (by omega)]⟩) ?_
              intro w5 fi5 fr5
              have FI5 := hid fi5
              have FR5 := hid fr5
              have US5 : w5.cell? ⟨d, 1 + k * 3, none⟩ = some (.slice (some ⟨g, 0, none⟩) len c) := by
                have h5 := FI5.out.cell0.1
                rw [HAG.out] at h5
                rw [h5]
                have h6 : (crashSec nw i sv so).length = len := (crashSec_length _ _ _ _).trans (SOK.out.len.trans HLEN.out)
                rw [← h6]
              replace US := US5
              clear US5 fi5 fr5
              refine hK9.out _ _ US ?_
              clear hK9 K9
              try simp only [Act.put, List.setIfInBounds_toArray, List.set_cons_zero, List.set_cons_succ]
              refine s_done (by kernel_rfl) ?_
              rename_i K1 h1
              first | (refine h1 _ _ ?_; clear h1 K1) | skip
              clear US c0 c1
              have RES : Hid (SeInv w2 w5 base d (1 + k * 3) (diskCs p' (stage keep torn D k).1) A c mm f (crashRow keep torn ⟨f.now, sure, nn, wh⟩ (f.old.take (j + 1)))) := by
                rw [NX.out]
                refine hid ⟨FI5.out, (FRI.out.trans' ((Fr.of_below U4.out).mono (fun _ e => e.elim))).trans FR5.out (fun k9 hk9 e => ?_)⟩
                subst e
                exact (ownBlock_len A _ _ _ _).trans (show (Value.slice A 0 0).ownBlock = some _ by rw [HAG.out]; rfl)
              go_wp2
              all_goals
                go_roundw
                case measure => have := HJ.out; have := HOL.out; have := OL.out; have := LEN.out; rw [show wrap64 ((j : Int) + 1) = ((j + 1 : Nat) : Int) by unfold wrap64; omega]; simp only [numV]; omega
                case rel =>
                  refine ⟨j + 1, by have := HJ.out; have := HOL.out; omega, ?_, ?_, ?_, ?_, RES⟩
                  · have := HJ.out; have := HOL.out; have := OL.out; have := LEN.out; rw [show wrap64 ((j : Int) + 1) = ((j + 1 : Nat) : Int) by unfold wrap64; omega]
                  · rw [NX.out]; have := SNB.out; refine congrArg (Value.int .i64) ?_; show wrap64 ((sn : Int) + 1) = ((sn + 1 : Nat) : Int); unfold wrap64; omega
                  · rw [NX.out]; cases sw <;> cases tr <;> first | rfl | contradiction
                  · rw [NX.out]; refine congrArg (Value.int .i64) ?_; have := ILT.out; have := LEN.out; show _ = ((if 0 < sv then max sl (i + 1) else sl : Nat) : Int); split <;> first | omega | (unfold wrap64; omega)

        · obtain rfl : j = ol := by omega
          have RR : crashRow keep torn ⟨f.now, sure, nn, wh⟩ (f.old.take j) = crashFile keep torn f nn wh := by
            unfold crashFile; rw [HSURE.out, List.take_of_length_le (by have := HOL.out; omega)]
          have SS : Hid (stage keep torn D (k + 1) = ((stage keep torn D k).1.setF (bOf k) (fileOf (crashFile keep torn f nn wh)), (crashFile keep torn f nn wh).n, (crashFile keep torn f nn wh).wh)) := hid (by
            rw [stage_succ keep torn D K2.out]; unfold crash1; rw [stage_fl keep torn D K2.out, HFL.out, NN.out, WH.out])
          have CO := hid (HOK.out.crashed keep torn nn wh)
          have FOK := hid (HOK.out.ofCrash keep torn nn wh)
          rw [RR] at iv ⊢
          obtain ⟨r, hr⟩ : ∃ r, crashFile keep torn f nn wh = r := ⟨_, rfl⟩
          rw [hr] at iv SS CO FOK ⊢
          clear RR hr
          obtain ⟨rn, rl, rk, rw9⟩ := r
          dsimp only
          obtain ⟨fi, fri⟩ := iv.out
          have hrl : rl ≤ rn.length := by have h1 := CO.out.len; have h2 := CO.out.last; simp only at h1 h2; omega
          have hrt : (rn.take rl).length = rl := by rw [List.length_take]; omega
          have hlc : rl ≤ c := by
            obtain ⟨A9, c9, e9, h9⟩ := own_form fi.row
            injection e9 with _ e1 e2
            show rl ≤ c
            rw [e2]
            exact Nat.le_trans hrl h9
          obtain ⟨c0, c1, c2⟩ := fi.cell0
          rw [show ({ f with now := rn } : FileV).now.length = len from CO.out.len.trans HLEN.out] at c0
          have fz := fi.free (1 + k * 3)
          obtain ⟨sh, shf⟩ := fi.short (k := rl) (n := rl) hrl hrt
          have SH := hid sh
          have SHF := hid shf
          have FRI := hid fri
          have HRT := hid hrt
          clear sh shf fi fri iv hrl hrt c1 c2
          have hlci : (rl : Int) ≤ (c : Int) := by omega
          go_wp2_with (go_at_call 105; refine (settle_calls _ base d _ _ (1 + k * 3) A c mm _ SH).mono ?_; rintro e w6 ⟨rfl, hh⟩)
          all_goals
            clear c0 fz
            obtain ⟨h61, _, h63⟩ := hh.out
            have EQ : settleF { now := rn.take rl, old := f.old, sure := f.sure } = fileOf ⟨rn, rl, rk, rw9⟩ := by
              unfold settleF fileOf
              simp only [HRT.out]
            have FRW : Fr (fun k9 => k9 = d ∨ k9 = mm ∨ (Value.slice A f.now.length c).ownBlock = some k9) wo w6 :=
              (((((Fr.of_below UW.out).mono (fun _ e => e.elim)).trans' (FRI.out.mono (fun k9 e => .inr (.inr e)))).trans' (SHF.out.mono (fun k9 e => .inl e))).trans' (h63.mono (fun k9 e => by
                rcases e with e | e
                · exact .inl e
                · exact .inr (.inl e))))
            have RES : Hid (CrInv w w6 (foot d p D) base d D keep torn bx KA kl kc (k + 1)) := by
              have HB := HP.out.back (n := 0) (b := bOf k) (A := A) (c := c) (f := fileOf ⟨rn, rl, rk, rw9⟩) (w' := w6) (cs := ((diskCs p' (stage keep torn D k).1).setIfInBounds (1 + k * 3) (.slice A rl c)).setIfInBounds (1 + k * 3 + 2) (.int .i64 (List.take rl rn).length))
                (by rw [PA.out.2.2, ← off_of K2.out, ← EQ]; exact h61)
                (by
                  rw [off_of K2.out, HRT.out]
                  have e1 : (fileOf ⟨rn, rl, rk, rw9⟩).now.length = rl := HRT.out
                  have := diskCs_set p' (stage keep torn D k).1 (bOf k) A c (fileOf ⟨rn, rl, rk, rw9⟩)
                  rw [e1] at this
                  exact this)
                (by rw [PA.out.1, PA.out.2.1, PA.out.2.2, stage_fl keep torn D K2.out, HFL.out]; exact FRW)
                (.inl (by rw [PA.out.1]; exact ownBlock_len A _ _ _ _)) FOK.out
              have FOOTS : ∀ k9, (k9 = d ∨ k9 = mm ∨ (Value.slice A f.now.length c).ownBlock = some k9) → plus (foot d p D) w k9 := fun k9 hk9 => HPF.out k9 (foot_own (bOf k) (by rw [PA.out.1, PA.out.2.1, PA.out.2.2, stage_fl keep torn D K2.out, HFL.out]; exact hk9))
              have FWW : Fr (foot d p D) w w6 := FRR.out.trans FRW (fun k9 hk9 e => by
                rcases FOOTS k9 e with h2 | h2
                · exact h2
                · omega)
              refine hid ⟨⟨⟨_, by rw [SS.out]; exact HB.1, fun k9 hk9 => ?_⟩, FWW⟩, ?_⟩
              · rw [SS.out] at hk9
                rcases HB.2 k9 hk9 with h2 | h2
                · exact HPF.out k9 h2
                · exact .inr (Nat.le_trans FRR.out.size h2)
              · refine (FRW.block bx (Array.getElem?_eq_some_iff.1 BXC.out).1 ?_).trans BXC.out
                rintro (e | e | e)
                · have := BX.out.1; omega
                · obtain ⟨es, clock, hb⟩ := FF.out.map.isMap
                  rw [← e, BXC.out] at hb
                  cases hb
                · exact row_blk FF.out.row BXC.out (by decide) bx e rfl
            clear hh h61 h63 FRW EQ
            go_wp2
            go_roundw
            case measure => have := K2.out; simp only [numV]; (try unfold wrap64); omega
            case rel =>
              refine ⟨k + 1, by have := K2.out; omega, ?_, ?_, ?_, RES⟩
              · have := K2.out; refine congrArg (Value.int .i64) ?_; (try unfold wrap64); omega
              · rw [SS.out]
              · rw [SS.out]
    · obtain rfl : k = 2 := by omega
      go_wp2
      go_ret
      exact ⟨rfl, hid iv.out.1⟩
end Go.Proofs.Ytlikggeceeennaa
