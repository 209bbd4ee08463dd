/- THE WALK of hachurelaw06.records: of seeds. -/
import Derived.Test.YtlmlplpbgkbhdaaDoorJrn6
set_option linter.unusedVariables false
set_option linter.unusedSimpArgs false
namespace Go.Proofs.YtlmlplpbgkbhdaaDoor
open Go.RowKit Hach

/-- What records hands back. -/
def RetRecs (w : World) (l : List (Int × List UInt8)) (en : Ending) (w' : World) : Prop :=
  ∃ A c xs, en = .returned (.slice A l.length c) ∧ w'.ownsRow w.heap.size 36 2 (.slice A l.length c) l.length xs ∧ RecsRow w' w.heap.size l xs ∧ Below w.heap.size w w'

def recsInv (w wr : World) (l : List (Int × UInt8 × Bool)) (k : Nat) (A : Option Addr) (c : Nat) : Prop :=
  ∃ xs, wr.ownsRow w.heap.size 36 2 (.slice A k c) k xs ∧ RecsRow wr w.heap.size ((l.take k).map seedRec) xs ∧ Below w.heap.size w wr

theorem fill_set (b : UInt8) (n j : Nat) (h : j < n) : ((List.replicate j b ++ List.replicate (n - j) 0).map byteCell).set j (.int .u8 (n8 b)) = (List.replicate (j + 1) b ++ List.replicate (n - (j + 1)) 0).map byteCell := by
  show List.set _ _ (byteCell b) = _
  rw [← List.map_set, List.set_append_right _ _ (by simp), List.length_replicate, Nat.sub_self, show n - j = (n - (j + 1)) + 1 by omega, List.replicate_succ, List.set_cons_zero, List.replicate_succ', List.append_assoc]
  rfl

set_option maxRecDepth 100000 in
set_option maxHeartbeats 1000000 in
theorem records_calls (w : World) (A : Option Addr) (l : List (Int × UInt8 × Bool)) (c : Nat) (hl : Hid (l.length ≤ 1000000)) (hc : Hid (Rd w A (seedCells l))) :
    Calls Tryd.prog 18 #[.slice A l.length c] w (RetRecs w (l.map seedRec)) := by
  go_enter Tryd.func18, Tryd.ntmps18
  go_wp2
  go_loopw [3, 11] (fun o i wr => ∃ (k : Nat) (A' : Option Addr) (c' : Nat), k ≤ l.length ∧ o = .slice A' k c' ∧ i = .int .i64 k ∧ Hid (recsInv w wr l k A' c')) (fun _ i _ => l.length - (intOf i).toNat)
  case atStart => exact ⟨0, none, 0, by omega, rfl, rfl, hid ⟨[], own_nil _ _ _ _, trivial, Below.refl _ _⟩⟩
  case round =>
    obtain ⟨k, A', c', hk, rfl, rfl, hi⟩ := hrel
    by_cases hlt : (k : Int) < l.length
    · have hkl : k < l.length := by omega
      obtain ⟨s1, s2, s3⟩ := seedCells_get l k hkl
      obtain ⟨b, off, rfl, q1⟩ : ∃ b off, A = some ⟨b, off, none⟩ ∧ w.cell? ⟨b, off + k * 3, none⟩ = some (.int .i64 l[k].1) := by
        obtain ⟨b, off, e, q⟩ := hc.out _ _ s1
        exact ⟨b, off, e, q⟩
      have q2 : w.cell? ⟨b, off + k * 3 + 1, none⟩ = some (.int .u8 (n8 l[k].2.1)) := by
        obtain ⟨b', off', e, q⟩ := hc.out _ _ s2
        injection e with e; injection e with e1 e2; subst e1; subst e2; rw [Nat.add_assoc]; exact q
      have q3 : w.cell? ⟨b, off + k * 3 + 2, none⟩ = some (.bool l[k].2.2) := by
        obtain ⟨b', off', e, q⟩ := hc.out _ _ s3
        injection e with e; injection e with e1 e2; subst e1; subst e2; rw [Nat.add_assoc]; exact q
      obtain ⟨xs, h1, h2, h3⟩ := hi.out
      have hbl := World.block_lt_of_cell? _ _ q1
      have r1 : wr.cell? ⟨b, off + k * 3, none⟩ = some (.int .i64 l[k].1) := (h3.cell (p := ⟨b, off + k * 3, none⟩) hbl).trans q1
      have r2 : wr.cell? ⟨b, off + k * 3 + 1, none⟩ = some (.int .u8 (n8 l[k].2.1)) := (h3.cell (p := ⟨b, off + k * 3 + 1, none⟩) hbl).trans q2
      have r3 : wr.cell? ⟨b, off + k * 3 + 2, none⟩ = some (.bool l[k].2.2) := (h3.cell (p := ⟨b, off + k * 3 + 2, none⟩) hbl).trans q3
      generalize hs : l[k] = s at r1 r2 r3
      have HS := hid hs
      have H1 := hid h1
      have H2 := hid h2
      have H3 := hid h3
      clear hs h1 h2 h3 q1 q2 q3 s1 s2 s3 hi
      obtain ⟨pg, bt, sh⟩ := s
      simp only at r1 r2 r3
      obtain ⟨n, HN⟩ : ∃ n : Nat, Hid ((n : Int) = if sh = true then 3 else 512) := ⟨if sh = true then 3 else 512, hid (by cases sh <;> rfl)⟩
      have HD : Hid (seedData (pg, bt, sh) = List.replicate n bt) := by
        have := HN.out
        unfold seedData
        cases sh
        · obtain rfl : n = 512 := by have : (n : Int) = 512 := by simpa using this
                                     omega
          rfl
        · obtain rfl : n = 3 := by have : (n : Int) = 3 := by simpa using this
                                   omega
          rfl
      have Hn : Hid (0 < n ∧ n ≤ 512) := by
        have := HN.out
        refine hid ?_
        cases sh
        · have : (n : Int) = 512 := by simpa using this
          omega
        · have : (n : Int) = 3 := by simpa using this
          omega
      cases sh
      · go_wp2_with (at_make; refine hold ?_)
        have z1 := H3.out.size
        have zb : w.heap.size ≤ (wr.alloc (.cells #[.int .i64 pg, .int .u8 (n8 bt), .bool false] 33)).heap.size := by simp; omega
        have H1b := hid (H1.out.alloc (.cells #[.int .i64 pg, .int .u8 (n8 bt), .bool false] 33))
        have H2b := hid (H2.out.keep (w' := wr.alloc (.cells #[.int .i64 pg, .int .u8 (n8 bt), .bool false] 33)) fun _ _ _ o => World.ownsRow.alloc o _)
        have H3b := hid (H3.out.alloc H3.out.size (.cells #[.int .i64 pg, .int .u8 (n8 bt), .bool false] 33))
        have e0 : (wr.alloc (.cells #[.int .i64 pg, .int .u8 (n8 bt), .bool false] 33)).cell? ⟨wr.heap.size, 0, none⟩ = some (.int .i64 pg) := by go_simp
        have e1 : (wr.alloc (.cells #[.int .i64 pg, .int .u8 (n8 bt), .bool false] 33)).cell? ⟨wr.heap.size, 1, none⟩ = some (.int .u8 (n8 bt)) := by go_simp
        have zg : wr.heap.size < (wr.alloc (.cells #[.int .i64 pg, .int .u8 (n8 bt), .bool false] 33)).heap.size := by simp
        generalize wr.alloc (.cells #[.int .i64 pg, .int .u8 (n8 bt), .bool false] 33) = W1 at *
        clear H1 H2 H3 r1 r2 r3
        generalize wr.heap.size = gb at *
        refine hid (wl_make elemB rfl (.tmp 17) (.tmp 17) rfl w.heap.size n rfl rfl (by have := HN.out; simpa using this.symm) (by have := HN.out; simpa using this.symm) (by have := Hn.out; omega) (by have := Hn.out; simp only [maxLen]; omega) zb ?_)
        intro w2 o2 b2 z2
        have hz : (madeCells (Value.int IntKind.u8 0).cells (n * 1)).toList = (List.replicate 0 bt ++ List.replicate (n - 0) (0 : UInt8)).map byteCell := by
          rw [Nat.mul_one]; show (madeCells #[Value.int IntKind.u8 0] n).toList = _
          rw [toList_madeCells_one, List.replicate_zero, List.nil_append, List.map_replicate]; rfl
        rw [hz] at o2
        have O2 := hid o2
        have B2 := hid b2
        have F0 := hid (Fr.of_below b2)
        clear hz o2 b2
        have H1c := hid (Fr.own (Fr.of_below B2.out) H1b.out (fun _ _ => id))
        have H2c := hid (H2b.out.keep (w' := w2) fun _ _ _ o => Fr.own (Fr.of_below B2.out) o (fun _ _ => id))
        have H3c := hid (H3b.out.trans (B2.out.mono zb))
        have f0 : w2.cell? ⟨gb, 0, none⟩ = some (.int .i64 pg) := (B2.out.cell (p := ⟨gb, 0, none⟩) zg).trans e0
        have f1 : w2.cell? ⟨gb, 1, none⟩ = some (.int .u8 (n8 bt)) := (B2.out.cell (p := ⟨gb, 1, none⟩) zg).trans e1
        clear e0 e1
        generalize hg2 : W1.heap.size = g2 at *
        have ng : gb ≠ g2 := by omega
        go_wp2
        go_loopw [21] (fun i wi => ∃ j : Nat, j ≤ n ∧ i = .int .i64 j ∧ Hid (wi.ownsRow w.heap.size 5 1 (.slice (some ⟨g2, 0, none⟩) n n) n ((List.replicate j bt ++ List.replicate (n - j) (0 : UInt8)).map byteCell)) ∧ Hid (Fr (fun k => k = g2) w2 wi)) (fun i _ => n - (intOf i).toNat)
        case atStart => exact ⟨0, Nat.zero_le _, rfl, O2, hid (Fr.refl _ _)⟩
        case round =>
          obtain ⟨j, hj, rfl, oj, fj⟩ := hrel
          by_cases hjn : (j : Int) < n
          · have k1 : wr.cell? ⟨gb, 1, none⟩ = some (.int .u8 (n8 bt)) := fj.out.cell f1 ng
            have k2 := oj.out.frozenAt j
            have HJ := hid (show j < n ∧ n ≤ 512 from ⟨by omega, Hn.out.2⟩)
            have k3 : wr.cell? ⟨g2, j, none⟩ = some (.int .u8 (n8 0)) := by
              rw [oj.out.cellAt j (by omega), List.getElem?_map, List.getElem?_append_right (by simp), List.length_replicate, Nat.sub_self, List.getElem?_replicate, if_pos (by omega)]; rfl
            go_wp2
            go_roundw
            case rel =>
              obtain ⟨o1, _⟩ := oj.out.stored j (.int .u8 (n8 bt))
              rw [fill_set bt n j (by omega)] at o1
              exact ⟨j + 1, HJ.out.1, (by have := HJ.out; rw [show wrap64 ((j : Int) + 1) = ((j + 1 : Nat) : Int) by unfold wrap64; omega]), hid o1, hid (fj.out.setCell (fun _ => rfl) _)⟩
            case measure => have := HJ.out; rw [show wrap64 ((j : Int) + 1) = ((j + 1 : Nat) : Int) by unfold wrap64; omega]; simp only [intOf]; omega
          · obtain rfl : j = n := by omega
            have k0 : wr.cell? ⟨gb, 0, none⟩ = some (.int .i64 pg) := fj.out.cell f0 ng
            go_wp2_with (at_builtin; refine hold ?_)
            have za := fj.out.size
            have F1 : Fr No W1 wr := F0.out.trans fj.out (fun i hi e => by omega)
            have oA := (Fr.own F1 (H1b.out) (fun _ _ => id)).alloc (.cells #[.int .i64 pg, .slice (some ⟨g2, 0, none⟩) j j] 36)
            have rA := (H2b.out.keep (w' := wr) fun _ _ _ o => Fr.own F1 o (fun _ _ => id)).keep (w' := wr.alloc (.cells #[.int .i64 pg, .slice (some ⟨g2, 0, none⟩) j j] 36)) (fun _ _ _ o => World.ownsRow.alloc o _)
            have bA : Below w.heap.size w wr := H3b.out.trans (F1.below (by omega) (fun _ _ => id))
            have bA' := bA.alloc bA.size (.cells #[.int .i64 pg, .slice (some ⟨g2, 0, none⟩) j j] 36)
            have dA := World.ownsRow.alloc oj.out (.cells #[.int .i64 pg, .slice (some ⟨g2, 0, none⟩) j j] 36)
            rw [Nat.sub_self, List.replicate_zero, List.append_nil] at dA
            refine hid (wl_append elemR rfl (.tmp 30) (.tmp 35) rfl rfl oA rfl (Rd.new wr 36 (0, 0) [.int .i64 pg, .slice (some ⟨g2, 0, none⟩) j j]) rfl (by simp [Value.oneCell']) (by have := hl.out; simp only [maxLen]; omega) (by have := hl.out; omega) (by simp; omega) ?_)
            intro A3 c3 w3 o3 g3 d3
            have NI : Hid (recsInv w w3 l (k + 1) A3 c3) := by
              refine hid ⟨_, o3, ?_, below_append bA' (Nat.le_refl _) (by simp; omega) oA g3⟩
              rw [List.take_succ_eq_append_getElem hkl, List.map_append, HS.out]
              have hr : seedRec (pg, bt, false) = (pg, List.replicate j bt) := by unfold seedRec; rw [HD.out]
              rw [List.map_cons, List.map_nil, hr]
              have oD : OwnB (wr.alloc (.cells #[.int .i64 pg, .slice (some ⟨g2, 0, none⟩) j j] 36)) w.heap.size (some ⟨g2, 0, none⟩) j (List.replicate j bt) := by
                unfold OwnB; rw [List.length_replicate]; exact dA
              have := rA.snoc pg (List.replicate j bt) (some ⟨g2, 0, none⟩) j oD
              rw [List.length_replicate] at this
              exact this.keep fun _ _ _ o => o.keep (Fr.of_grown g3) (row_other oA (by decide))
            clear o3 g3 d3 oA rA bA bA' dA F1 H1b H2b H3b H1c H2c H3c f0 f1 k0 B2 O2 fj oj
            go_wp2
            go_roundw
            case rel => exact ⟨k + 1, A3, c3, by omega, rfl, (by have := hl.out; rw [show wrap64 ((k : Int) + 1) = ((k + 1 : Nat) : Int) by unfold wrap64; omega]), NI⟩
            case measure => have := hl.out; rw [show wrap64 ((k : Int) + 1) = ((k + 1 : Nat) : Int) by unfold wrap64; omega]; simp only [intOf]; omega
      · go_wp2_with (at_make; refine hold ?_)
        have z1 := H3.out.size
        have zb : w.heap.size ≤ (wr.alloc (.cells #[.int .i64 pg, .int .u8 (n8 bt), .bool true] 33)).heap.size := by simp; omega
        have H1b := hid (H1.out.alloc (.cells #[.int .i64 pg, .int .u8 (n8 bt), .bool true] 33))
        have H2b := hid (H2.out.keep (w' := wr.alloc (.cells #[.int .i64 pg, .int .u8 (n8 bt), .bool true] 33)) fun _ _ _ o => World.ownsRow.alloc o _)
        have H3b := hid (H3.out.alloc H3.out.size (.cells #[.int .i64 pg, .int .u8 (n8 bt), .bool true] 33))
        have e0 : (wr.alloc (.cells #[.int .i64 pg, .int .u8 (n8 bt), .bool true] 33)).cell? ⟨wr.heap.size, 0, none⟩ = some (.int .i64 pg) := by go_simp
        have e1 : (wr.alloc (.cells #[.int .i64 pg, .int .u8 (n8 bt), .bool true] 33)).cell? ⟨wr.heap.size, 1, none⟩ = some (.int .u8 (n8 bt)) := by go_simp
        have zg : wr.heap.size < (wr.alloc (.cells #[.int .i64 pg, .int .u8 (n8 bt), .bool true] 33)).heap.size := by simp
        generalize wr.alloc (.cells #[.int .i64 pg, .int .u8 (n8 bt), .bool true] 33) = W1 at *
        clear H1 H2 H3 r1 r2 r3
        generalize wr.heap.size = gb at *
        refine hid (wl_make elemB rfl (.tmp 17) (.tmp 17) rfl w.heap.size n rfl rfl (by have := HN.out; simpa using this.symm) (by have := HN.out; simpa using this.symm) (by have := Hn.out; omega) (by have := Hn.out; simp only [maxLen]; omega) zb ?_)
        intro w2 o2 b2 z2
        have hz : (madeCells (Value.int IntKind.u8 0).cells (n * 1)).toList = (List.replicate 0 bt ++ List.replicate (n - 0) (0 : UInt8)).map byteCell := by
          rw [Nat.mul_one]; show (madeCells #[Value.int IntKind.u8 0] n).toList = _
          rw [toList_madeCells_one, List.replicate_zero, List.nil_append, List.map_replicate]; rfl
        rw [hz] at o2
        have O2 := hid o2
        have B2 := hid b2
        have F0 := hid (Fr.of_below b2)
        clear hz o2 b2
        have H1c := hid (Fr.own (Fr.of_below B2.out) H1b.out (fun _ _ => id))
        have H2c := hid (H2b.out.keep (w' := w2) fun _ _ _ o => Fr.own (Fr.of_below B2.out) o (fun _ _ => id))
        have H3c := hid (H3b.out.trans (B2.out.mono zb))
        have f0 : w2.cell? ⟨gb, 0, none⟩ = some (.int .i64 pg) := (B2.out.cell (p := ⟨gb, 0, none⟩) zg).trans e0
        have f1 : w2.cell? ⟨gb, 1, none⟩ = some (.int .u8 (n8 bt)) := (B2.out.cell (p := ⟨gb, 1, none⟩) zg).trans e1
        clear e0 e1
        generalize hg2 : W1.heap.size = g2 at *
        have ng : gb ≠ g2 := by omega
        go_wp2
        go_loopw [21] (fun i wi => ∃ j : Nat, j ≤ n ∧ i = .int .i64 j ∧ Hid (wi.ownsRow w.heap.size 5 1 (.slice (some ⟨g2, 0, none⟩) n n) n ((List.replicate j bt ++ List.replicate (n - j) (0 : UInt8)).map byteCell)) ∧ Hid (Fr (fun k => k = g2) w2 wi)) (fun i _ => n - (intOf i).toNat)
        case atStart => exact ⟨0, Nat.zero_le _, rfl, O2, hid (Fr.refl _ _)⟩
        case round =>
          obtain ⟨j, hj, rfl, oj, fj⟩ := hrel
          by_cases hjn : (j : Int) < n
          · have k1 : wr.cell? ⟨gb, 1, none⟩ = some (.int .u8 (n8 bt)) := fj.out.cell f1 ng
            have k2 := oj.out.frozenAt j
            have HJ := hid (show j < n ∧ n ≤ 512 from ⟨by omega, Hn.out.2⟩)
            have k3 : wr.cell? ⟨g2, j, none⟩ = some (.int .u8 (n8 0)) := by
              rw [oj.out.cellAt j (by omega), List.getElem?_map, List.getElem?_append_right (by simp), List.length_replicate, Nat.sub_self, List.getElem?_replicate, if_pos (by omega)]; rfl
            go_wp2
            go_roundw
            case rel =>
              obtain ⟨o1, _⟩ := oj.out.stored j (.int .u8 (n8 bt))
              rw [fill_set bt n j (by omega)] at o1
              exact ⟨j + 1, HJ.out.1, (by have := HJ.out; rw [show wrap64 ((j : Int) + 1) = ((j + 1 : Nat) : Int) by unfold wrap64; omega]), hid o1, hid (fj.out.setCell (fun _ => rfl) _)⟩
            case measure => have := HJ.out; rw [show wrap64 ((j : Int) + 1) = ((j + 1 : Nat) : Int) by unfold wrap64; omega]; simp only [intOf]; omega
          · obtain rfl : j = n := by omega
            have k0 : wr.cell? ⟨gb, 0, none⟩ = some (.int .i64 pg) := fj.out.cell f0 ng
            go_wp2_with (at_builtin; refine hold ?_)
            have za := fj.out.size
            have F1 : Fr No W1 wr := F0.out.trans fj.out (fun i hi e => by omega)
            have oA := (Fr.own F1 (H1b.out) (fun _ _ => id)).alloc (.cells #[.int .i64 pg, .slice (some ⟨g2, 0, none⟩) j j] 36)
            have rA := (H2b.out.keep (w' := wr) fun _ _ _ o => Fr.own F1 o (fun _ _ => id)).keep (w' := wr.alloc (.cells #[.int .i64 pg, .slice (some ⟨g2, 0, none⟩) j j] 36)) (fun _ _ _ o => World.ownsRow.alloc o _)
            have bA : Below w.heap.size w wr := H3b.out.trans (F1.below (by omega) (fun _ _ => id))
            have bA' := bA.alloc bA.size (.cells #[.int .i64 pg, .slice (some ⟨g2, 0, none⟩) j j] 36)
            have dA := World.ownsRow.alloc oj.out (.cells #[.int .i64 pg, .slice (some ⟨g2, 0, none⟩) j j] 36)
            rw [Nat.sub_self, List.replicate_zero, List.append_nil] at dA
            refine hid (wl_append elemR rfl (.tmp 30) (.tmp 35) rfl rfl oA rfl (Rd.new wr 36 (0, 0) [.int .i64 pg, .slice (some ⟨g2, 0, none⟩) j j]) rfl (by simp [Value.oneCell']) (by have := hl.out; simp only [maxLen]; omega) (by have := hl.out; omega) (by simp; omega) ?_)
            intro A3 c3 w3 o3 g3 d3
            have NI : Hid (recsInv w w3 l (k + 1) A3 c3) := by
              refine hid ⟨_, o3, ?_, below_append bA' (Nat.le_refl _) (by simp; omega) oA g3⟩
              rw [List.take_succ_eq_append_getElem hkl, List.map_append, HS.out]
              have hr : seedRec (pg, bt, true) = (pg, List.replicate j bt) := by unfold seedRec; rw [HD.out]
              rw [List.map_cons, List.map_nil, hr]
              have oD : OwnB (wr.alloc (.cells #[.int .i64 pg, .slice (some ⟨g2, 0, none⟩) j j] 36)) w.heap.size (some ⟨g2, 0, none⟩) j (List.replicate j bt) := by
                unfold OwnB; rw [List.length_replicate]; exact dA
              have := rA.snoc pg (List.replicate j bt) (some ⟨g2, 0, none⟩) j oD
              rw [List.length_replicate] at this
              exact this.keep fun _ _ _ o => o.keep (Fr.of_grown g3) (row_other oA (by decide))
            clear o3 g3 d3 oA rA bA bA' dA F1 H1b H2b H3b H1c H2c H3c f0 f1 k0 B2 O2 fj oj
            go_wp2
            go_roundw
            case rel => exact ⟨k + 1, A3, c3, by omega, rfl, (by have := hl.out; rw [show wrap64 ((k : Int) + 1) = ((k + 1 : Nat) : Int) by unfold wrap64; omega]), NI⟩
            case measure => have := hl.out; rw [show wrap64 ((k : Int) + 1) = ((k + 1 : Nat) : Int) by unfold wrap64; omega]; simp only [intOf]; omega
    · obtain rfl : k = l.length := by omega
      go_wp2
      go_ret
      obtain ⟨xs, h1, h2, h3⟩ := hi.out
      rw [List.take_length] at h2
      unfold RetRecs
      rw [List.length_map]
      exact ⟨_, _, xs, rfl, h1, h2, h3⟩

end Go.Proofs.YtlmlplpbgkbhdaaDoor
