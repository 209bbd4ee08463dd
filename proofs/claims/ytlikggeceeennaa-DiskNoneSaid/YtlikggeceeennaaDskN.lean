/- THE WALK of maps.DeleteFunc at a map of sectors, as Cut calls it. -/
import Derived.Test.YtlikggeceeennaaDskM
import Derived.Lib.SlMapFilter
import Derived.Maps.Ext
import Derived.Maps.RangeWalk
import Derived.Laws.IdiomRangeMap
import Derived.Deep.LoopGhost
set_option linter.unusedVariables false
set_option linter.unusedSimpArgs false
namespace Go.Proofs.Ytlikggeceeennaa
open Go Go.RowKit Go.Maps Hach

theorem cut11_ent (args : Array Value) (w : World) : (callFunc 116 args).run Try.prog w = .ok (.enter 116 args) w := by go_simp
theorem cut11_calls (w : World) (k lim : Int) (cs : Array Value) (bx : Nat) (hb : w.cell? ⟨bx, 0, none⟩ = some (.int .i64 lim)) :
    Calls Try.prog 116 #[.int .i64 k, .agg cs, .pointer (some ⟨bx, 0, none⟩)] w (fun en w' => en = .returned (.bool (decide (lim ≤ k))) ∧ Hid (Up w w')) := by
  have hb2 := (upAlD (Up.refl w) (.cells cs 137)).c hb
  have UU := hid (upAlD (Up.refl w) (.cells cs 137))
  clear hb
  go_enter Try.func116, Try.ntmps116
  go_wp2
  go_ret
  exact ⟨rfl, UU⟩
def cutP (lim : Int) (kl : Lit) (_ : DataW Unit) : Bool := match kl with | .int _ x => decide (lim ≤ x) | _ => false
def cutL (L : Olds) (lim : Int) : Olds := L.filter fun p => decide (p.1 < lim)
theorem cutL_dat (L : Olds) (lim : Int) : Lib.deleteFuncD (cutP lim) (datL L) = datL (cutL L lim) := by
  show DataW.map ((L.map entL).filter _) = _
  unfold datL cutL
  rw [List.filter_map]
  congr 2
  refine List.filter_congr (fun p _ => ?_)
  show (!decide (lim ≤ p.1)) = decide (p.1 < lim)
  by_cases h : lim ≤ p.1
  · rw [decide_eq_true h, decide_eq_false (by omega)]; rfl
  · rw [decide_eq_false h, decide_eq_true (by omega)]; rfl
theorem secInv (v : Value) (y : DataW Unit × List MemPlace) (h : secElem v = some y) : ∃ s, v = secV s := by
  unfold secElem at h
  split at h
  · rename_i cs
    cases h1 : bytesOf cs.toList with
    | none => rw [h1] at h; cases h
    | some l => exact ⟨l, by unfold secV secC; rw [← bytesOf_inv h1]⟩
  · cases h
theorem atKey_found {es : List (Lit × DataW Unit)} {kl : Lit} {y : DataW Unit} (h : ∀ zd, (DataW.map es).atKey kl zd = y) (hy : y ≠ .nil) : ∃ p ∈ es, p.2 = y := by
  have h0 := h .nil
  unfold DataW.atKey at h0
  simp only at h0
  cases hf : es.find? (fun p => p.1.sameKey kl) with
  | none => rw [hf] at h0; exact absurd h0.symm hy
  | some p => rw [hf] at h0; exact ⟨p, List.mem_of_find?_eq_some hf, h0⟩
theorem secElem_fst {s : Sec} {y : DataW Unit × List MemPlace} (h : secElem (secV s) = some y) : y.1 = .lit (.string s) := by
  rw [secElem_mk] at h; injection h with h; rw [← h]
set_option maxRecDepth 100000 in
set_option maxHeartbeats 4000000 in
theorem del_calls (w : World) (m n : Nat) (D : DataW Unit) (lim : Int) (bx : Nat) (hown : w.ownsMap Try.prog 3 secElem m n D) (hb : w.cell? ⟨bx, 0, none⟩ = some (.int .i64 lim)) (hall : Hid (∀ es, D = .map es → ∀ p ∈ es, ∃ s : Sec, p.2 = .lit (.string s) ∧ s.length = 128)) :
    Calls Try.prog 115 #[.map (some m), .func (.func 116) #[] #[.pointer (some ⟨bx, 0, none⟩)]] w (fun e w' => e = .returned (.tuple #[]) ∧ Hid (w'.ownsMap Try.prog 3 secElem m n (Lib.deleteFuncD (cutP lim) D) ∧ w.grownBy w' (some m))) := by
  obtain ⟨es0, rfl, hap, hkeys⟩ := hown.entries keyI
  have HB := hid hb
  have HAP := hid hap
  go_enter Try.func115, Try.ntmps115
  go_wp2_with (first
    | (at_range; refine wpList_range_own _ rfl _ 93 rfl 3 137 keyI Try.underlying93 secElem m n _ rfl hown ?_; intro w0 hrg0 hg0 hs0)
    | go_in)
  go_frame
  go_loopw [8] (fun _ wr => ∃ (left : Lit → Bool) (cnt : Nat), wr.ranges Try.prog 3 secElem m w.heap.size n (Fk (cutP lim) es0 left) left cnt ∧ w.grownBy wr (some m))
    (fun _ wr => wr.rangeLeft m w.heap.size)
  case atStart => exact ⟨_, _, by rw [Fk_start hkeys]; exact hrg0, hg0.but _⟩
  case round =>
    obtain ⟨left, cnt, hrg, hgw⟩ := hrel
    go_wp2_with (first
      | (at_next; refine wpList_next_ranges _ rfl _ rfl 3 keyI secElem (Value.int .i64) secV (fun key kl hkey => by obtain ⟨x, rfl, _⟩ := Maps.keyOf_int_inv Try.underlying3 hkey; exact ⟨x, rfl⟩) secInv m w.heap.size n _ _ _ rfl hrg ?_ ?_)
      | go_in)
    · intro _ hl0
      go_wp2
      go_end0
      exact ⟨rfl, hid ⟨by rw [← Fk_end hl0]; exact hrg.owns, hgw⟩⟩
    · intro x s kl y1 y2 w1 cnt1 hkey hlx hv hat hrg1 hlt hg1 hs1 hen
      obtain rfl : y1 = .lit (.string s) := secElem_fst hv
      have hs : s.length = 128 := by
        obtain ⟨p, hp, hp2⟩ := atKey_found hat (by intro e; cases e)
        obtain ⟨s', h1, h2⟩ := hall.out es0 rfl p (List.mem_filter.1 hp).1
        rw [hp2] at h1
        injection h1 with h1
        injection h1 with h1
        subst h1
        exact h2
      have HS := hid hs
      have hgw1 := hgw.andThen hg1 (fun j hj => by cases hj; exact Or.inl (Nat.le_refl _))
      have hrgA := hrg1.kept (World.grownBy_alloc w1 (.cells (secC s).toArray 137) none) (by simp) (by simp)
      have hgwA := hgw1.andThen (World.grownBy_alloc w1 (.cells (secC s).toArray 137) none) (fun j hj => by cases hj)
      have hbn : ¬ bx = m := by
        rintro rfl
        obtain ⟨es9, clock9, hb9, _⟩ := hown
        have := HB.out
        unfold World.cell? at this
        rw [show (⟨bx, 0, none⟩ : Addr).block = bx from rfl, hb9] at this
        cases this
      have hbA := hgwA.cell HB.out (fun e => hbn (Option.some.inj e))
      have hc := cut11_calls (w1.alloc (.cells (secC s).toArray 137)) x lim (secC s).toArray bx hbA
      have HRA := hid hrgA
      have HGA := hid hgwA
      have HKEY := hid hkey
      have HKL : Hid (kl = .int .i64 x) := hid (by obtain ⟨x', e1, e2, _⟩ := Maps.keyOf_int_inv Try.underlying3 hkey; injection e1 with _ e1; rw [e2, e1])
      have HLX := hid hlx
      have HAT := hid hat
      have HRG := hid hrg
      have HLT := hid hlt
      have SEC := hid (show (w1.alloc (.cells (secC s).toArray 137)).rangeAt w1.heap.size 0 (secC s) from fun j9 v9 hv9 => by
        rw [Nat.zero_add, cell_of_row _ _ _ _ _ _ (heap_alloc_new w1 _)]
        simpa using hv9)
      have HOWN := hid hown
      have HKS := hid hkeys
      clear hs hs1 hgw1 hrgA hgwA hbn hbA hgw hrg hrg1 hg1 hb hown hkeys hap
      go_wp2_with (with_reducible refine hold_st 137 ?_)
      refine hid (wl_storeNew rfl (.tmp 5) (.tmp 12) rfl HS.out rfl rfl ?_)
      go_wp2_with (with_reducible refine hold_at 15 ?_)
      refine hid (wl_loadS rfl (.tmp 5) rfl rfl SEC.out HS.out ?_)
      cases hp : cutP lim (.int .i64 x) (.lit (.string s))
      · have hcp : decide (lim ≤ x) = false := hp
        rw [hcp] at hc
        have HP := hid hp
        clear hp hcp
        go_wp2_with (first
          | (go_at_call 116; refine hc.mono ?_; clear hc; rintro e w2 ⟨rfl, hu2⟩)
          | go_in)
        have hg2 : World.grownBy _ w2 none := Fr.grownBy ((Fr.of_below hu2.out).mono (fun _ e => e.elim))
        have hrg2 := HRA.out.kept hg2 (by simp) (by simp)
        go_roundw
        case rel => exact ⟨_, cnt1, by rw [← Fk_stays HAP.out (keyI.key HKEY.out) HLX.out (by rw [HKL.out]; exact HP.out) HAT.out]; exact hrg2, HGA.out.andThen hg2 (fun j hj => by cases hj)⟩
        case measure => rw [hrg2.left_eq, HRG.out.left_eq]; exact HLT.out
      · have hcp : decide (lim ≤ x) = true := hp
        rw [hcp] at hc
        have HP := hid hp
        clear hp hcp
        go_wp2_with (first
          | (go_at_call 116; refine hc.mono ?_; clear hc; rintro e w2 ⟨rfl, hu2⟩; have hg2 : World.grownBy _ w2 none := Fr.grownBy ((Fr.of_below hu2.out).mono (fun _ e => e.elim)); have hrg2 := HRA.out.kept hg2 (by simp) (by simp))
          | (at_delete; refine wpList_delete_ranges _ rfl _ _ 93 3 rfl 137 keyI Try.underlying93 secElem m w.heap.size n _ _ _ rfl hrg2 _ _ rfl HKEY.out ?_; intro w3 cnt3 hrg3 hle hturn; go_frame)
          | go_in)
        rw [strike_twice] at hrg3
        go_roundw
        case rel => exact ⟨_, cnt3, by rw [← Fk_struck HAP.out (keyI.key HKEY.out) HLX.out (by rw [HKL.out]; exact HP.out) HAT.out]; exact hrg3, (HGA.out.andThen hg2 (fun j hj => by cases hj)).andThen hturn.grown (fun j hj => by cases hj; exact Or.inr rfl)⟩
        case measure => rw [hrg3.left_eq, HRG.out.left_eq]; have := HLT.out; omega
/-- DeleteFunc, as Cut calls it. -/
theorem delete_calls (w : World) (m : Nat) (L : Olds) (lim : Int) (bx : Nat) (h : Hid (MapS w m L)) (hL : Hid (∀ p ∈ L, p.2.length = 128)) (hb : w.cell? ⟨bx, 0, none⟩ = some (.int .i64 lim)) :
    Calls Try.prog 115 #[.map (some m), .func (.func 116) #[] #[.pointer (some ⟨bx, 0, none⟩)]] w (fun e w' => e = .returned (.tuple #[]) ∧ Hid (MapS w' m (cutL L lim) ∧ w.grownBy w' (some m))) := by
  refine (del_calls w m L.length (datL L) lim bx h.out hb (hid fun es he p hp => ?_)).mono ?_
  · injection he with he
    rw [← he] at hp
    obtain ⟨q, hq, rfl⟩ := List.mem_map.1 hp
    exact ⟨q.2, rfl, hL.out q hq⟩
  · rintro e w' ⟨rfl, hh⟩
    exact ⟨rfl, hid ⟨MapS.of hh.out.1 (cutL_dat L lim), hh.out.2⟩⟩
end Go.Proofs.Ytlikggeceeennaa
