/- THE WALK of the disk's Read. -/
import Derived.Test.YtbcghggkfnagoaaGreatDoorDskC
set_option linter.unusedVariables false
set_option linter.unusedSimpArgs false
namespace Go.Proofs.YtbcghggkfnagoaaGreatDoor
open Go Go.RowKit Go.Maps Hach

theorem elemD8 : Elem Tryz.prog 64 5 (.int .u8 0) 1 1 := ⟨Tryz.underlying64, by kernel_rfl, rfl, by decide⟩
/-- Some sectors, one behind the other. -/
def part (l : List Sec) (a n : Nat) : List Value := ((l.drop a).take n).flatMap secC
def ReadRet (w : World) (xs : List Value) (en : Ending) (w' : World) : Prop :=
  ∃ A c, en = .returned (.tuple #[.slice A xs.length c, .int .i64 0]) ∧ Hid (Up w w' ∧ w'.ownsRow w.heap.size 5 1 (.slice A xs.length c) xs.length xs)
theorem wl_loadS {ops : Array Oper} {rest : List Oper} {o : Oper} {a : Act} {Q : Exit → Act → World → Prop} {w : World} (hgd : o.guard = none) (x : Operand) (ho : o.op = .load 173 x) {b p : Nat} {s : Sec}
    (hx : a.eval x = .pointer (some ⟨b, p, none⟩)) (h : w.rangeAt b p (secC s)) (hs : s.length = 128) (hK : wpList Tryz.prog ops Q rest (a.put o.dst (secV s)) w) : wpList Tryz.prog ops Q (o :: rest) a w := by
  refine wpList_plain hgd fun K hk => ?_
  unfold Oper.wp
  rw [exec_loadS ho hx h hs]
  exact hk _ _ hK
theorem part_length {l : List Sec} (h : Whole l) {a n : Nat} (hn : a + n ≤ l.length) : (part l a n).length = n * 128 := by
  unfold part
  rw [flatS_length (fun s hs => h s (List.mem_of_mem_drop (List.mem_of_mem_take hs))), List.length_take, List.length_drop, Nat.min_eq_left (by omega)]
theorem part_succ {l : List Sec} {a k : Nat} (hn : a + k < l.length) : part l a (k + 1) = part l a k ++ secC l[a + k] := by
  unfold part
  rw [List.take_add_one, List.getElem?_drop, List.getElem?_eq_getElem hn, Option.toList_some, List.flatMap_append, List.flatMap_cons, List.flatMap_nil, List.append_nil]
def numV : Value → Int | .int _ q => q | _ => 0
def ReadInv (w wr : World) (l : List Sec) (a k : Nat) (A : Option Addr) (c : Nat) : Prop := wr.ownsRow w.heap.size 5 1 (.slice A (k * 128) c) (k * 128) (part l a k) ∧ Up w wr
set_option maxRecDepth 100000 in
set_option maxHeartbeats 2000000 in
theorem readS_calls (w : World) (base d : Nat) (p : DiskP) (D : DiskV) (b : Bool) (h : DiskAt w base d p D) (ho : Hid (D.on = true)) (a n : Nat) (hl : Hid (a + n ≤ (D.fl b).now.length ∧ (D.fl b).now.length < 1000000)) (g : Nat) (hA : p.rA b = some ⟨g, 0, none⟩) :
    Calls Tryz.prog 131 #[.pointer (some ⟨d, 0, none⟩), .int .i64 (idx b), .int .i64 a, .int .i64 n] w (ReadRet w (part (D.fl b).now a n)) := by
  have H : Hid (DiskM w base d D) := hid ⟨p, h⟩
  have F := h.fileB b
  have e1 := F.cell0.1
  obtain ⟨len, hlen⟩ : ∃ z, (D.fl b).now.length = z := ⟨_, rfl⟩
  have hc : len ≤ p.rc b := by
    rcases F.row.2 with ⟨hv, _⟩ | ⟨g', cap, cur, hv, _, _, hnc, _⟩
    · rw [hA] at hv; cases hv
    · injection hv with _ _ hv; rw [hv, ← hlen]; exact hnc
  have HF := hid F
  rw [hlen, hA] at e1
  have h1 : decide ((a : Int) < 0) = false := decide_eq_false (by omega)
  have h2 : decide ((n : Int) < 0) = false := decide_eq_false (by omega)
  have h3 : decide (len < a) = false := decide_eq_false (by have := hl.out; omega)
  obtain ⟨c, hcc⟩ : ∃ c, p.rc b = c := ⟨_, rfl⟩
  rw [hcc] at hc e1
  have HC := hid (show a + n ≤ c by have := hl.out; omega)
  have HL := hid hlen
  have HA := hid hA
  obtain ⟨o, hoo⟩ : ∃ o, off b = o := ⟨_, rfl⟩
  rw [hoo] at e1
  have CF := fileB_calls w base d D b H ho.out
  rw [hoo] at CF
  generalize idx b = ib at *
  obtain ⟨e, hw1, HE⟩ : ∃ e : Nat, wrap64 ((a : Int) + (n : Int)) = (e : Int) ∧ Hid (e = a + n) := ⟨a + n, by have := hl.out; unfold wrap64; omega, hid rfl⟩
  obtain ⟨r, hw2, HR⟩ : ∃ r : Nat, wrap64 ((len : Int) - (a : Int)) = (r : Int) ∧ Hid (r + a = len) := ⟨len - a, by have := hl.out; unfold wrap64; omega, hid (by have := hl.out; omega)⟩
  have h4 : decide (r < n) = false := decide_eq_false (by have := hl.out; have := HR.out; omega)
  have h5 : (a : Int) ≤ (e : Int) := by have := HE.out; omega
  have h6 : (e : Int) ≤ (c : Int) := by have := HE.out; have := HC.out; omega
  clear hlen hc h F hA hcc hoo
  have HO := hid (own_nil w w.heap.size 5 1)
  by_cases hca : c = a
  · subst hca
    have hz : e - c = 0 := by have := HE.out; have := HC.out; omega
    have HN : Hid (n = 0) := hid (by have := HC.out; omega)
    go_enter Tryz.func131, Tryz.ntmps131
    go_wp2_with (go_at_call 161; refine CF.mono ?_; rintro e w' ⟨rfl, hw⟩; subst hw)
    clear CF e1
    go_loopw [12, 62] (fun q i wr => q = .slice none 0 0 ∧ i = .int .i64 0 ∧ wr = w') (fun _ _ _ => 0)
    case atStart => exact ⟨rfl, rfl, rfl⟩
    case round =>
      obtain ⟨rfl, rfl, rfl⟩ := hrel
      go_wp2
      go_ret2
      obtain rfl := HN.out
      have e0 : part (D.fl b).now c 0 = [] := by unfold part; rw [List.take_zero]; rfl
      rw [e0]
      exact ⟨none, 0, rfl, hid ⟨Up.refl _, HO.out⟩⟩
  · go_enter Tryz.func131, Tryz.ntmps131
    go_wp2_with (go_at_call 161; refine CF.mono ?_; rintro e w' ⟨rfl, hw⟩; subst hw)
    clear CF e1
    have hen : e - a = n := by have := HE.out; omega
    try simp only [hw1, hw2]
    rw [hen]
    clear hw1 hw2
    go_loopw [12, 14, 62] (fun q u i wr => ∃ (k : Nat) (A' : Option Addr) (c' : Nat), k ≤ n ∧ q = .slice A' (k * 128) c' ∧ i = .int .i64 k ∧ Hid (ReadInv w' wr (D.fl b).now a k A' c')) (fun _ _ i _ => n - (numV i).toNat)
    case atStart => exact ⟨0, none, 0, Nat.zero_le _, by rw [Nat.zero_mul], rfl, hid ⟨by rw [Nat.zero_mul]; exact HO.out, Up.refl _⟩⟩
    case round =>
      obtain ⟨k, A', c', hk, rfl, rfl, hi⟩ := hrel
      by_cases hlt : (k : Int) < n
      · have hkl : a + k < (D.fl b).now.length := by have := hl.out; omega
        obtain ⟨g', hA', hr, _⟩ := (HF.out.up hi.out.2).sec hkl
        obtain rfl : g' = g := by rw [HA.out] at hA'; injection hA' with hA'; injection hA' with hA' _ _; exact hA'.symm
        have HRG := hid hr
        have HS := hid (HF.out.len _ (List.getElem_mem hkl))
        have HKK := hid (show k < n from by omega)
        obtain ⟨s, hs⟩ : ∃ s, (D.fl b).now[a + k] = s := ⟨_, rfl⟩
        rw [hs] at HRG HS
        have HSE := hid hs
        clear hA' hr hs
        go_wp2_with (with_reducible refine hold_at 65 ?_)
        refine hid (wl_loadS rfl (.tmp 64) rfl rfl (by rw [show a * 128 + k * 128 = (a + k) * 128 by omega]; exact HRG.out) HS.out ?_)
        go_wp2_with (with_reducible refine hold_st 173 ?_)
        refine hid (wl_storeNew rfl (.tmp 14) (.tmp 65) rfl HS.out rfl rfl ?_)
        go_wp2_with (at_builtin; refine hold ?_)
        have HM := hid (show (k * 128 + 128 : Nat) = (k + 1) * 128 from by omega)
        have bb : w'.heap.size ≤ (wr.alloc (.cells (secC s).toArray 173)).heap.size := by have := hi.out.2.size; simp; omega
        have oA := World.ownsRow.alloc hi.out.1 (.cells (secC s).toArray 173)
        have bA := (show Below w'.heap.size w' wr from hi.out.2).alloc hi.out.2.size (.cells (secC s).toArray 173)
        refine hid (wl_append elemD8 rfl (.tmp 66) (.tmp 67) rfl rfl oA rfl (Rd.new wr 173 (0, 0) (secC s)) (by rw [secC_length, HS.out]) (secC_one s) (by have := HKK.out; have := hl.out; simp only [maxLen]; omega) (by have := HKK.out; have := hl.out; omega) bb ?_)
        intro A3 c3 w3 o3 g3 d3
        have NI : Hid (ReadInv w' w3 (D.fl b).now a (k + 1) A3 c3) := by
          refine hid ⟨?_, below_append bA (Nat.le_refl _) bb oA g3⟩
          rw [part_succ hkl, HSE.out, ← HM.out]
          exact o3
        rw [HM.out]
        clear hi oA bA o3 g3 d3 bb HRG HM HSE hkl
        go_wp2
        go_roundw
        case rel =>
          exact ⟨k + 1, A3, c3, HKK.out, rfl, (by have := HKK.out; have := hl.out; rw [show wrap64 ((k : Int) + 1) = ((k + 1 : Nat) : Int) by unfold wrap64; omega]), NI⟩
        case measure => have := HKK.out; have := hl.out; rw [show wrap64 ((k : Int) + 1) = ((k + 1 : Nat) : Int) by unfold wrap64; omega]; simp only [numV]; omega
      · obtain rfl : k = n := by omega
        go_wp2
        go_ret2
        have e0 : (part (D.fl b).now a k).length = k * 128 := part_length HF.out.len (by have := hl.out; omega)
        exact ⟨A', c', by rw [e0]; rfl, hid ⟨hi.out.2, by rw [e0]; exact hi.out.1⟩⟩
set_option maxRecDepth 100000 in
set_option maxHeartbeats 2000000 in
theorem readN_calls (w : World) (base d : Nat) (p : DiskP) (D : DiskV) (b : Bool) (h : DiskAt w base d p D) (ho : Hid (D.on = true)) (hA : p.rA b = none) (hc : p.rc b = 0) (hl : (D.fl b).now.length = 0) :
    Calls Tryz.prog 131 #[.pointer (some ⟨d, 0, none⟩), .int .i64 (idx b), .int .i64 0, .int .i64 0] w (ReadRet w []) := by
  have H : Hid (DiskM w base d D) := hid ⟨p, h⟩
  have e1 := (h.fileB b).cell0.1
  rw [hA, hc, hl] at e1
  have HO := hid (own_nil w w.heap.size 5 1)
  obtain ⟨o, hoo⟩ : ∃ o, off b = o := ⟨_, rfl⟩
  rw [hoo] at e1
  have CF := fileB_calls w base d D b H ho.out
  rw [hoo] at CF
  generalize idx b = ib at *
  clear h hA hc hl hoo
  go_enter Tryz.func131, Tryz.ntmps131
  go_wp2_with (go_at_call 161; refine CF.mono ?_; rintro e w' ⟨rfl, hw⟩; subst hw)
  clear CF e1
  go_loopw [12, 62] (fun q i wr => q = .slice none 0 0 ∧ i = .int .i64 0 ∧ wr = w') (fun _ _ _ => 0)
  case atStart => exact ⟨rfl, rfl, rfl⟩
  case round =>
    obtain ⟨rfl, rfl, rfl⟩ := hrel
    go_wp2
    go_ret2
    exact ⟨none, 0, rfl, hid ⟨Up.refl _, HO.out⟩⟩
/-- Read of sectors that are there. -/
theorem read_calls (w : World) (base d : Nat) (D : DiskV) (b : Bool) (h : Hid (DiskM w base d D)) (ho : Hid (D.on = true)) (a n : Nat) (hl : Hid (a + n ≤ (D.fl b).now.length ∧ (D.fl b).now.length < 1000000)) :
    Calls Tryz.prog 131 #[.pointer (some ⟨d, 0, none⟩), .int .i64 (idx b), .int .i64 a, .int .i64 n] w (ReadRet w (part (D.fl b).now a n)) := by
  obtain ⟨p, h⟩ := h.out
  rcases (h.fileB b).row.2 with ⟨hv, h0⟩ | ⟨g, cap, cur, hv, _⟩
  · injection hv with e1 e2 e3
    obtain rfl : a = 0 := by have := hl.out; omega
    obtain rfl : n = 0 := by have := hl.out; omega
    have e0 : part (D.fl b).now 0 0 = [] := rfl
    rw [e0]
    exact readN_calls w base d p D b h ho e1 e3 h0
  · injection hv with e1 e2 e3
    exact readS_calls w base d p D b h ho a n hl g e1
end Go.Proofs.YtbcghggkfnagoaaGreatDoor
