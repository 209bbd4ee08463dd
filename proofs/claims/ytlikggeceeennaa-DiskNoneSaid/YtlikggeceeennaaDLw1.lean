/- THE WALK of hachurelaw04.sectors. -/
import Derived.Test.YtlikggeceeennaaDskW
set_option linter.unusedVariables false
set_option linter.unusedSimpArgs false
namespace Go.Proofs.Ytlikggeceeennaa
open Go Go.RowKit Go.Maps Hach

def cntV (n : Int) : Nat := if n < 0 ∨ 40 < n then 0 else n.toNat
def secsV (m : Nat) (seed : UInt8) : List Sec := (List.range m).map fun j => List.replicate 128 (seed + UInt8.ofNat j)
def fullB (m : Nat) (seed : UInt8) : List UInt8 := (List.range (m * 128)).map fun i => seed + UInt8.ofNat (i / 128)
theorem fullB_length (m : Nat) (seed : UInt8) : (fullB m seed).length = m * 128 := by unfold fullB; rw [List.length_map, List.length_range]
theorem secsV_length (m : Nat) (seed : UInt8) : (secsV m seed).length = m := by unfold secsV; rw [List.length_map, List.length_range]
theorem secsV_whole (m : Nat) (seed : UInt8) : Whole (secsV m seed) := fun s hs => by
  obtain ⟨j, _, rfl⟩ := List.mem_map.1 hs
  exact List.length_replicate
theorem fullB_flat (m : Nat) (seed : UInt8) : (fullB m seed).map byteCell = (secsV m seed).flatMap secC := by
  induction m with
  | zero => rfl
  | succ m ih =>
    have e1 : fullB (m + 1) seed = fullB m seed ++ List.replicate 128 (seed + UInt8.ofNat m) := by
      unfold fullB
      rw [show (m + 1) * 128 = m * 128 + 128 by omega, List.range_add, List.map_append, List.map_map]
      congr 1
      refine List.ext_getElem (by simp) (fun i h1 h2 => ?_)
      rw [List.length_map, List.length_range] at h1
      rw [List.getElem_map, List.getElem_range, List.getElem_replicate]
      show seed + UInt8.ofNat ((m * 128 + i) / 128) = _
      rw [show (m * 128 + i) / 128 = m by omega]
    have e2 : secsV (m + 1) seed = secsV m seed ++ [List.replicate 128 (seed + UInt8.ofNat m)] := by
      unfold secsV
      rw [List.range_succ, List.map_append]; rfl
    rw [e1, e2, List.map_append, List.flatMap_append, ih]
    simp [secC]
def SecRet (w : World) (m : Nat) (seed : UInt8) (en : Ending) (w' : World) : Prop :=
  ∃ A c, en = .returned (.slice A (m * 128) c) ∧ Hid (Up w w' ∧ w'.ownsRow w.heap.size 5 1 (.slice A (m * 128) c) (m * 128) ((secsV m seed).flatMap secC) ∧ SecBytes w' A (m * 128) c (secsV m seed))
theorem own_secBytes {w : World} {base c : Nat} {A : Option Addr} {ss : List Sec} {n : Nat} (hn : n = ss.length * 128) (hW : Whole ss) (h : w.ownsRow base 5 1 (.slice A n c) n (ss.flatMap secC)) : SecBytes w A n c ss := by
  refine ⟨hn, hW, ?_⟩
  rcases h.2 with ⟨hv, h0⟩ | ⟨g, cap, cur, hv, hb, hg, hnc, _⟩
  · left
    cases ss with
    | nil => rfl
    | cons x r => rw [h0] at hn; simp at hn
  · injection hv with e1 e2 e3
    subst e1; subst e3
    refine .inr ⟨g, 0, rfl, hnc, fun j s hj => ⟨⟨cur, (0, 0), hg⟩, fun q v hq => ?_⟩⟩
    have hjl := (List.getElem?_eq_some_iff.1 hj).1
    have hjs := (List.getElem?_eq_some_iff.1 hj).2
    have hql := (List.getElem?_eq_some_iff.1 hq).1
    rw [secC_length, hW s (List.mem_of_getElem? hj)] at hql
    rw [Nat.zero_add, h.cellAt (j * 128 + q) (by omega), flatS_at hW hjl hql, hjs]
    exact hq
theorem fullB_set (m : Nat) (seed : UInt8) {k : Nat} (hk : k < m * 128) : (((fullB m seed).take k ++ List.replicate (m * 128 - k) 0).map byteCell).set k (.int .u8 (n8 (seed + UInt8.ofNat (k / 128)))) = ((fullB m seed).take (k + 1) ++ List.replicate (m * 128 - (k + 1)) 0).map byteCell := by
  have hkl : k < (fullB m seed).length := by rw [fullB_length]; exact hk
  show List.set _ _ (byteCell (seed + UInt8.ofNat (k / 128))) = _
  rw [← List.map_set, List.set_append_right _ _ (by rw [List.length_take]; omega), List.length_take, Nat.min_eq_left (by omega), Nat.sub_self, show m * 128 - k = (m * 128 - (k + 1)) + 1 by omega, List.replicate_succ, List.set_cons_zero,
    List.take_succ_eq_append_getElem hkl, List.append_assoc]
  congr 2
  have h : (fullB m seed)[k]? = some (seed + UInt8.ofNat (k / 128)) := by unfold fullB; rw [List.getElem?_map, List.getElem?_range hk]; rfl
  rw [List.getElem?_eq_getElem hkl] at h
  rw [Option.some.inj h]
  rfl
theorem n8_add (a b : UInt8) : (n8 a + n8 b) % 256 = n8 (a + b) := by
  unfold n8
  rw [UInt8.toNat_add]
  omega
set_option maxRecDepth 100000 in
set_option maxHeartbeats 2000000 in
theorem sectors_calls (w : World) (n : Int) (seed : UInt8) :
    Calls Try.prog 46 #[.int .i64 n, .int .u8 (n8 seed)] w (SecRet w (cntV n) seed) := by
  obtain ⟨m, hm⟩ : ∃ m, cntV n = m := ⟨_, rfl⟩
  rw [hm]
  have hml : m ≤ 40 := by rw [← hm]; unfold cntV; split <;> omega
  have HM := hid hm
  have HML := hid hml
  have LOOP : ∀ (wr : World) (L : Nat), True := fun _ _ => trivial
  clear hm hml LOOP
  by_cases hn : n < 0 ∨ 40 < n
  · obtain rfl : m = 0 := by rw [← HM.out]; unfold cntV; rw [if_pos hn]
    have hcond : (decide (n < 0) || decide (40 < n)) = true := by
      rcases hn with h | h
      · rw [decide_eq_true h]; rfl
      · rw [decide_eq_true h, Bool.or_true]
    by_cases h1 : n < 0
    · clear hn hcond
      go_enter Try.func46, Try.ntmps46
      go_wp2_with (at_make; refine hold ?_)
      refine hid (wl_make elemD8 rfl (.tmp 14) (.tmp 14) rfl w.heap.size 0 rfl rfl rfl rfl (by decide) (by decide) (Nat.le_refl _) ?_)
      intro w2 o2 b2 z2
      have hz : (madeCells (Value.int IntKind.u8 0).cells (0 * 1)).toList = (secsV 0 seed).flatMap secC := by
        show (madeCells #[Value.int IntKind.u8 0] 0).toList = []
        rw [toList_madeCells_one]; rfl
      rw [hz] at o2
      have O2 := hid o2
      have B2 := hid b2
      clear o2 b2 hz
      go_wp2
      go_loopw [18] (fun i wi => i = .int .i64 0 ∧ wi = w2) (fun _ _ => 0)
      case atStart => exact ⟨rfl, rfl⟩
      case round =>
        obtain ⟨rfl, rfl⟩ := hrel
        go_wp2
        go_ret
        exact ⟨_, _, rfl, hid ⟨B2.out, O2.out, own_secBytes rfl (secsV_whole _ _) O2.out⟩⟩
    · have h2 : 40 < n := hn.resolve_left h1
      clear hn hcond
      go_enter Try.func46, Try.ntmps46
      go_wp2_with (at_make; refine hold ?_)
      refine hid (wl_make elemD8 rfl (.tmp 14) (.tmp 14) rfl w.heap.size 0 rfl rfl rfl rfl (by decide) (by decide) (Nat.le_refl _) ?_)
      intro w2 o2 b2 z2
      have hz : (madeCells (Value.int IntKind.u8 0).cells (0 * 1)).toList = (secsV 0 seed).flatMap secC := by
        show (madeCells #[Value.int IntKind.u8 0] 0).toList = []
        rw [toList_madeCells_one]; rfl
      rw [hz] at o2
      have O2 := hid o2
      have B2 := hid b2
      clear o2 b2 hz
      go_wp2
      go_loopw [18] (fun i wi => i = .int .i64 0 ∧ wi = w2) (fun _ _ => 0)
      case atStart => exact ⟨rfl, rfl⟩
      case round =>
        obtain ⟨rfl, rfl⟩ := hrel
        go_wp2
        go_ret
        exact ⟨_, _, rfl, hid ⟨B2.out, O2.out, own_secBytes rfl (secsV_whole _ _) O2.out⟩⟩
  · have hnm : n = (m : Int) := by rw [← HM.out]; unfold cntV; rw [if_neg hn]; omega
    subst hnm
    have h1 : decide ((m : Int) < 0) = false := decide_eq_false (by omega)
    have h2 : ¬ (40 : Int) < (m : Int) := by omega
    clear hn
    obtain ⟨L, hL⟩ : ∃ L, m * 128 = L := ⟨_, rfl⟩
    have hw : wrap64 ((m : Int) * 128) = (L : Int) := by have := HML.out; unfold wrap64; omega
    have HL := hid hL
    clear hL
    go_enter Try.func46, Try.ntmps46
    go_wp2_with (at_make; refine hold ?_)
    refine hid (wl_make elemD8 rfl (.tmp 14) (.tmp 14) rfl w.heap.size L rfl rfl (by have := HL.out; omega) (by have := HL.out; omega) (by have := HL.out; have := HML.out; omega) (by have := HL.out; have := HML.out; simp only [maxLen]; omega) (Nat.le_refl _) ?_)
    intro w2 o2 b2 z2
    have hz : (madeCells (Value.int IntKind.u8 0).cells (L * 1)).toList = ((fullB m seed).take 0 ++ List.replicate (L - 0) (0 : UInt8)).map byteCell := by
      rw [Nat.mul_one]; show (madeCells #[Value.int IntKind.u8 0] L).toList = _
      rw [toList_madeCells_one, List.take_zero, List.nil_append, List.map_replicate]; rfl
    rw [hz] at o2
    have O2 := hid o2
    have B2 := hid b2
    clear hz o2 b2
    have GSZ0 := B2.out.size
    obtain ⟨g, hg⟩ : ∃ g, w.heap.size = g := ⟨_, rfl⟩
    have GEQ := hid hg
    rw [hg] at O2 B2 GSZ0 ⊢
    have GSZ : Hid (g ≤ w2.heap.size) := hid GSZ0
    clear hg GSZ0
    go_wp2
    go_loopw [18] (fun i wi => ∃ j : Nat, j ≤ L ∧ i = .int .i64 j ∧ Hid (wi.ownsRow g 5 1 (.slice (some ⟨g, 0, none⟩) L L) L (((fullB m seed).take j ++ List.replicate (L - j) (0 : UInt8)).map byteCell)) ∧ Hid (Fr (fun k => k = g) w2 wi)) (fun i _ => L - (numV i).toNat)
    case atStart => exact ⟨0, Nat.zero_le _, rfl, O2, hid (Fr.refl _ _)⟩
    case round =>
      obtain ⟨j, hj, rfl, oj, fj⟩ := hrel
      by_cases hjn : (j : Int) < L
      · have k2 := oj.out.frozenAt j
        have HJ := hid (show j < L ∧ L ≤ 5120 from ⟨by omega, by have := HL.out; have := HML.out; omega⟩)
        have hfl : ((fullB m seed).take j).length = j := by rw [List.length_take, fullB_length]; have := HL.out; omega
        have k3 : wr.cell? ⟨g, j, none⟩ = some (.int .u8 (n8 0)) := by
          rw [oj.out.cellAt j (by omega), List.getElem?_map, List.getElem?_append_right (by omega), hfl, Nat.sub_self, List.getElem?_replicate, if_pos (by omega)]; rfl
        have hq : (j : Int).tdiv 128 = ((j / 128 : Nat) : Int) := rfl
        obtain ⟨q, hqq⟩ : ∃ q, j / 128 = q := ⟨_, rfl⟩
        rw [hqq] at hq
        have hq8 : Hid (q < 40) := hid (by have := HJ.out; have := HL.out; have := HML.out; omega)
        have HQ := hid hqq
        clear hfl hqq
        go_wp2
        have hv : (n8 seed + wrap64 (q : Int)) % 256 = n8 (seed + UInt8.ofNat q) := by
          have hq9 : wrap64 (q : Int) = (q : Int) := by have := hq8.out; unfold wrap64; omega
          have hnq : n8 (UInt8.ofNat q) = (q : Int) := by unfold n8; rw [UInt8.toNat_ofNat']; have := hq8.out; omega
          rw [hq9, ← n8_add, hnq]
        rw [hv]
        go_roundw
        case rel =>
          obtain ⟨o1, _⟩ := oj.out.stored j (.int .u8 (n8 (seed + UInt8.ofNat q)))
          have hset := fullB_set m seed (k := j) (by have := HL.out; have := HJ.out; omega)
          rw [HL.out, HQ.out] at hset
          rw [hset] at o1
          exact ⟨j + 1, HJ.out.1, (by have := HJ.out; rw [show wrap64 ((j : Int) + 1) = ((j + 1 : Nat) : Int) by unfold wrap64; omega]), hid o1, hid (fj.out.setCell (fun _ => rfl) _)⟩
        case measure => have := HJ.out; rw [show wrap64 ((j : Int) + 1) = ((j + 1 : Nat) : Int) by unfold wrap64; omega]; simp only [numV]; omega
      · obtain rfl : j = L := by omega
        have hfin := oj.out
        rw [Nat.sub_self, List.replicate_zero, List.append_nil, List.take_of_length_le (by rw [fullB_length]; have := HL.out; omega), fullB_flat] at hfin
        have FIN := hid hfin
        clear hfin
        go_wp2
        go_ret
        have u : Up w wr := by
          show Below w.heap.size w wr
          rw [GEQ.out]
          exact B2.out.trans (fj.out.below GSZ.out (fun k hk e => by omega))
        refine ⟨some ⟨g, 0, none⟩, j, by rw [HL.out]; rfl, hid ⟨u, ?_, ?_⟩⟩
        · rw [HL.out]
          rw [GEQ.out]
          exact FIN.out
        · rw [HL.out]
          exact own_secBytes (by rw [secsV_length, HL.out]) (secsV_whole _ _) FIN.out
end Go.Proofs.Ytlikggeceeennaa
