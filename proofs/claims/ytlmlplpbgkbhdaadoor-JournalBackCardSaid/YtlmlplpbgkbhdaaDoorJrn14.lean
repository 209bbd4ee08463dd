/- THE WALKS of journal.ReadHead, journal.Hot. -/
import Derived.Test.YtlmlplpbgkbhdaaDoorJrnT
import Derived.Test.YtlmlplpbgkbhdaaDoorSrc1
import Derived.Test.YtlmlplpbgkbhdaaDoorJrn4
import Derived.Deep.RegionHeld3
set_option linter.unusedVariables false
set_option linter.unusedSimpArgs false
namespace Go.Proofs.YtlmlplpbgkbhdaaDoor
open Go.RowKit Hach
attribute [local go_sem] hmf

theorem srcRead_callsX (w : World) (A : Option Addr) (xs : List UInt8) (c n : Nat) (hn : Hid (xs.length = n)) (hl : Hid (n ≤ 1099511627776)) (hc : Hid (Bytes w A xs)) :
    Calls Tryd.prog 52 #[.slice A n c] w fun e w' => ∃ g, e = .returned (.pointer (some ⟨g, 0, none⟩)) ∧ Hid (w.heap.size ≤ g ∧ SrcAt w' g xs ∧ Below w.heap.size w w') := by
  have e := hn.out
  subst e
  exact srcRead_calls w A xs c hl hc

theorem headJ_M (w : World) (ht : Hid (TabOk w)) (c p : Int) (n : Nat) (b : Bool) (hn : Hid ((n : Int) < 18446744073709551616)) (X : List UInt8) (lx : Nat) (HX : Hid (Jrn.headB c p n b = X)) (LX : Hid (X.length = lx)) :
    Calls Tryd.prog 24 #[.agg #[.int .i64 c, .int .i64 p, .int .u64 (n : Int)], .bool b] w fun e w' => ∃ A c, e = .returned (.slice A lx c) ∧ Bytes w' A X ∧ Below w.heap.size w w' := by
  have := headBytes_calls w ht c p n b hn
  rw [HX.out] at this
  refine this.mono ?_
  rintro e w' ⟨A, c, ⟨rfl, _⟩, o, b⟩
  exact ⟨A, c, by rw [LX.out], Rd.bytes (Rd.own o), b⟩

/-- A head's cells. -/
def headV (c p : Int) (n : Int) : Value := .agg #[.int .i64 c, .int .i64 p, .int .u64 n]
/-- What ReadHead hands back. -/
def RetHead (w : World) (b : List UInt8) (en : Ending) (w' : World) : Prop :=
  Below w.heap.size w w' ∧
  ((b.length < 128 ∧ en = .returned (.tuple #[headV 0 0 0, .int .i64 8])) ∨
   (128 ≤ b.length ∧ Jrn.headIs b = false ∧ en = .returned (.tuple #[headV 0 0 0, .int .i64 9])) ∨
   (128 ≤ b.length ∧ Jrn.headIs b = true ∧ en = .returned (.tuple #[headV (Jrn.hdC b) (Jrn.hdP b) (Jrn.hdN b), .int .i64 0])))

set_option maxRecDepth 100000 in
set_option maxHeartbeats 1000000 in
theorem readHead_short (w : World) (A : Option Addr) (xs : List UInt8) (c : Nat) (hl : xs.length < 128) :
    Calls Tryd.prog 33 #[.slice A xs.length c] w (RetHead w xs) := by
  go_enter Tryd.func33, Tryd.ntmps33
  go_wp2
  refine bodyPost_ret (v := .tuple #[.agg #[.int .i64 0, .int .i64 0, .int .u64 0], .int .i64 8]) (by simp [results, Tryd.results33, go_sem]) rfl ⟨(Below.refl _ _).alloc (Nat.le_refl _) _, .inl ⟨hl, rfl⟩⟩

set_option maxRecDepth 100000 in
set_option maxHeartbeats 1000000 in
theorem readHead_long (w : World) (ht : Hid (TabOk w)) (A : Option Addr) (xs : List UInt8) (c : Nat) (hl : 128 ≤ xs.length) (hm : xs.length ≤ 1073741824) (hcap : xs.length ≤ c) (hc : Hid (Bytes w A xs)) :
    Calls Tryd.prog 33 #[.slice A xs.length c] w (RetHead w xs) := by
  obtain ⟨b, off, rfl, _⟩ := hc.out 0 (by omega)
  obtain ⟨hc1, e1⟩ : ∃ v, Jrn.hdC xs = v := ⟨_, rfl⟩
  obtain ⟨hp1, e2⟩ : ∃ v, Jrn.hdP xs = v := ⟨_, rfl⟩
  obtain ⟨hn1, e3⟩ : ∃ v, Jrn.hdN xs = v := ⟨_, rfl⟩
  have c4 : (hc1 : Int) < 4294967296 := by have := Jrn.hdC_lt xs; omega
  have p4 : (hp1 : Int) < 4294967296 := by have := Jrn.hdP_lt xs; omega
  have n8' : Hid ((hn1 : Int) < 18446744073709551616) := hid (by have := Jrn.hdN_lt xs; omega)
  obtain ⟨X, hX⟩ : ∃ X, (xs.drop 6).take 122 = X := ⟨_, rfl⟩
  have lX : X.length = 122 := by rw [← hX, List.length_take, List.length_drop]; omega
  have s1 : Oct.val (X.take 4) = hc1 := by rw [← e1, ← hX, List.take_take]; rfl
  have s2 : Oct.val ((X.drop 4).take 4) = hp1 := by rw [← e2, ← hX, List.drop_take, List.take_take, List.drop_drop]; rfl
  have s3 : Oct.val ((X.drop 8).take 8) = hn1 := by rw [← e3, ← hX, List.drop_take, List.take_take, List.drop_drop]; rfl
  obtain ⟨R, hR⟩ : ∃ R, Jrn.headB hc1 hp1 hn1 true = R := ⟨_, rfl⟩
  have lR : R.length ≤ 128 := by
    rw [← hR]
    by_cases h : (0 ≤ (hc1 : Int) ∧ (hc1 : Int) ≤ 4000) ∧ (0 ≤ (hp1 : Int) ∧ (hp1 : Int) ≤ 4000)
    · exact Nat.le_of_eq (Jrn.headB_length h.1 h.2)
    · unfold Jrn.headB; rw [if_neg h]; exact Nat.zero_le _
  have hb := hid (show Bytes w (some ⟨b, off + 6, none⟩) X by rw [← hX]; exact hc.out.sub 6 122)
  have E1 := hid e1
  have E2 := hid e2
  have E3 := hid e3
  have S1 := hid s1
  have S2 := hid s2
  have S3 := hid s3
  have LX := hid lX
  have HR := hid hR
  have LR := hid lR
  clear e1 e2 e3 s1 s2 s3 hX hR lR
  have b0 : ∀ o, Below w.heap.size w (w.alloc o) := fun o => (Below.refl _ _).alloc (Nat.le_refl _) o
  have d1 : ¬ (xs.length : Int) < 128 := by omega
  have d2 : (128 : Int) ≤ c := by omega
  have d3 : ¬ c = 6 := by omega
  have HL := hid hl
  have HM := hid hm
  have K4 := hid (show 4 ≤ X.length ∧ X.length ≤ 1099511627776 by omega)
  have K4b := hid (show 4 ≤ (X.drop 4).length ∧ (X.drop 4).length ≤ 1099511627776 by rw [List.length_drop]; omega)
  have K8 := hid (show 8 ≤ ((X.drop 4).drop 4).length ∧ ((X.drop 4).drop 4).length ≤ 1099511627776 by rw [List.length_drop, List.length_drop]; omega)
  have S3' : Hid (Oct.val (((X.drop 4).drop 4).take 8) = hn1) := hid (by rw [List.drop_drop]; exact S3.out)
  clear hl hm hcap lX S3
  go_enter Tryd.func33, Tryd.ntmps33
  go_wp2_with fail
  refine (srcRead_callsX _ (some ⟨b, off + 6, none⟩) X _ 122 LX (hid (by decide)) (hid (hb.out.grown (b0 _)))).mono ?_
  rintro e w1 ⟨g, rfl, hg1⟩
  obtain ⟨gz, ga, b1⟩ := hg1.out
  have B1 := hid ((b0 (.cells #[.int .i64 0, .int .i64 0, .int .u64 0] 46)).trans (b1.mono (by simp)))
  have z1 : w.heap.size < w1.heap.size := by have := b1.size; simp at this; omega
  have r0 : w1.cell? ⟨w.heap.size, 0, none⟩ = some (.int .i64 0) := by rw [b1.cell (p := ⟨w.heap.size, 0, none⟩) (by simp)]; go_simp
  have r1 : w1.cell? ⟨w.heap.size, 1, none⟩ = some (.int .i64 0) := by rw [b1.cell (p := ⟨w.heap.size, 1, none⟩) (by simp)]; go_simp
  have r2 : w1.cell? ⟨w.heap.size, 2, none⟩ = some (.int .u64 0) := by rw [b1.cell (p := ⟨w.heap.size, 2, none⟩) (by simp)]; go_simp
  have rf : ∀ i, w1.frozen? ⟨w.heap.size, i, none⟩ = false := by intro i; rw [b1.frozen (p := ⟨w.heap.size, i, none⟩) (by simp)]; go_simp
  have gz' : w.heap.size ≠ g := by simp at gz; omega
  have gz2 : w.heap.size ≤ g := by simp at gz; omega
  have GA := hid ga
  clear hg1 gz ga b1 b0
  go_wp2_with fail
  refine (srcNum_calls w1 g 4 hc1 _ X rfl (by decide) (by decide) K4 S1 GA).mono ?_
  rintro e w2 ⟨rfl, G2, F2⟩
  go_wp2_with fail
  refine (srcNum_calls w2 g 4 hp1 _ (X.drop 4) rfl (by decide) (by decide) K4b S2 G2).mono ?_
  rintro e w3 ⟨rfl, G3, F3⟩
  go_wp2_with fail
  refine (srcNum_calls w3 g 8 hn1 _ ((X.drop 4).drop 4) rfl (by decide) (by decide) K8 S3' G3).mono ?_
  rintro e w4 ⟨rfl, G4, F4⟩
  have F := (F2.out.trans' F3.out).trans' F4.out
  have B4 := hid (B1.out.trans (F.below B1.out.size (fun k hk e => by subst e; omega)))
  replace r0 := F.cell r0 gz'
  replace r1 := F.cell r1 gz'
  replace r2 := F.cell r2 gz'
  replace rf : ∀ i, w4.frozen? ⟨w.heap.size, i, none⟩ = false := fun i => by rw [World.frozen?_of_block (F.block w.heap.size z1 gz')]; exact rf i
  have z4 : w.heap.size < w4.heap.size := Nat.lt_of_lt_of_le z1 F.size
  clear F F2 F3 F4 G2 G3 G4 B1 z1 GA
  go_wp2
  have hb4 : Below w4.heap.size w4 (w4.alloc (.cells #[.int .i64 (hc1 : Int), .int .i64 (hp1 : Int), .int .u64 (hn1 : Int)] 46)) := (Below.refl _ _).alloc (Nat.le_refl _) _
  have r0' := (hb4.cell (p := ⟨w.heap.size, 0, none⟩) z4).trans r0
  have r1' := (hb4.cell (p := ⟨w.heap.size, 1, none⟩) z4).trans r1
  have r2' := (hb4.cell (p := ⟨w.heap.size, 2, none⟩) z4).trans r2
  have rf' : ∀ i, (w4.alloc (.cells #[.int .i64 (hc1 : Int), .int .i64 (hp1 : Int), .int .u64 (hn1 : Int)] 46)).frozen? ⟨w.heap.size, i, none⟩ = false := fun i => (hb4.frozen (p := ⟨w.heap.size, i, none⟩) z4).trans (rf i)
  have q0 : (w4.alloc (.cells #[.int .i64 (hc1 : Int), .int .i64 (hp1 : Int), .int .u64 (hn1 : Int)] 46)).cell? ⟨w4.heap.size, 0, none⟩ = some (.int .i64 (hc1 : Int)) := by go_simp
  have q1 : (w4.alloc (.cells #[.int .i64 (hc1 : Int), .int .i64 (hp1 : Int), .int .u64 (hn1 : Int)] 46)).cell? ⟨w4.heap.size, 1, none⟩ = some (.int .i64 (hp1 : Int)) := by go_simp
  have q2 : (w4.alloc (.cells #[.int .i64 (hc1 : Int), .int .i64 (hp1 : Int), .int .u64 (hn1 : Int)] 46)).cell? ⟨w4.heap.size, 2, none⟩ = some (.int .u64 (hn1 : Int)) := by go_simp
  have b2 := B4.out.trans (hb4.mono B4.out.size)
  have zW : w4.heap.size < (w4.alloc (.cells #[.int .i64 (hc1 : Int), .int .i64 (hp1 : Int), .int .u64 (hn1 : Int)] 46)).heap.size := by simp
  clear r0 r1 r2 rf B4 hb4
  generalize w4.alloc (.cells #[.int .i64 (hc1 : Int), .int .i64 (hp1 : Int), .int .u64 (hn1 : Int)] 46) = W at *
  generalize hgg : w4.heap.size = gg at *
  have B2 := hid b2
  have T2 := hid (ht.out.below' b2)
  have X2 := hid ((hc.out.grown b2).take 128)
  have L6 := hid (show (xs.take 128).length = 128 by have := HL.out; rw [List.length_take]; omega)
  obtain ⟨r, hr⟩ : ∃ r, decide (R = xs.take 128) = r := ⟨_, rfl⟩
  have HR2 := hid hr
  have q0d : W.drew.cell? ⟨gg, 0, none⟩ = some (.int .i64 (hc1 : Int)) := q0
  have q1d : W.drew.cell? ⟨gg, 1, none⟩ = some (.int .i64 (hp1 : Int)) := q1
  have q2d : W.drew.cell? ⟨gg, 2, none⟩ = some (.int .u64 (hn1 : Int)) := q2
  clear b2 hr hgg
  obtain ⟨lr, hlr⟩ : ∃ lr, R.length = lr := ⟨_, rfl⟩
  have HLR := hid hlr
  clear hlr
  go_region_held3 (fun w' => w'.cell? ⟨gg, 0, none⟩ = some (.int .i64 (hc1 : Int)) ∧ w'.cell? ⟨gg, 1, none⟩ = some (.int .i64 (hp1 : Int)) ∧ w'.cell? ⟨gg, 2, none⟩ = some (.int .u64 (hn1 : Int)))
    (first | exact ⟨u0, u1, u2⟩ | exact ⟨q0d, q1d, q2d⟩ | go_keep)
    (first
      | (go_at_call 24; refine (headJ_M _ ?_ hc1 hp1 hn1 true n8' R lr HR HLR).mono ?_; exact (show Hid (TabOk W.drew) from T2); rintro e w3 ⟨A3, c3, rfl, o3, b3⟩; have u0 := (b3.cell (p := ⟨gg, 0, none⟩) zW).trans q0d; have u1 := (b3.cell (p := ⟨gg, 1, none⟩) zW).trans q1d; have u2 := (b3.cell (p := ⟨gg, 2, none⟩) zW).trans q2d)
      | (go_at_call 47; refine (equal_callsX _ A3 (some ⟨b, off, none⟩) R (xs.take 128) c3 _ lr 128 HLR L6 ?_ (by decide) ?_ ?_ r HR2).mono ?_; (have := LR.out; have := HLR.out; omega); exact o3; exact Bytes.grown (w := W.drew) X2.out b3; rintro e w' ⟨rfl, rfl⟩))
  rename_i K1 h1 K2 h2 hHeld
  have z3 : w.heap.size < W.heap.size := by omega
  have v0 : w3.cell? ⟨w.heap.size, 0, none⟩ = some (.int .i64 0) := (b3.cell (p := ⟨w.heap.size, 0, none⟩) z3).trans r0'
  have v1 : w3.cell? ⟨w.heap.size, 1, none⟩ = some (.int .i64 0) := (b3.cell (p := ⟨w.heap.size, 1, none⟩) z3).trans r1'
  have v2 : w3.cell? ⟨w.heap.size, 2, none⟩ = some (.int .u64 0) := (b3.cell (p := ⟨w.heap.size, 2, none⟩) z3).trans r2'
  have vf : ∀ i, w3.frozen? ⟨w.heap.size, i, none⟩ = false := fun i => (b3.frozen (p := ⟨w.heap.size, i, none⟩) z3).trans (rf' i)
  have BB : Below W.heap.size W w3 := (Below.refl _ _).drew.trans b3
  have B3 := hid (B2.out.trans (BB.mono B2.out.size))
  clear o3 b3 BB z3 hHeld r0' r1' r2' rf' q0d q1d q2d q0 q1 q2 zW d1 d2 d3 c4 p4
  have hz : ∀ r0, Jrn.headIs xs = r0 ↔ decide (R = xs.take 128) = r0 := fun r0 => by unfold Jrn.headIs; rw [E1.out, E2.out, E3.out, HR.out]
  cases r
  · show K2 _ _
    refine h2 _ _ ?_
    clear h2 K2
    simp only [Bool.not_false, Bool.not_true]
    go_wp2
    refine bodyPost_ret (v := .tuple #[.agg #[.int .i64 0, .int .i64 0, .int .u64 0], .int .i64 9]) (by simp [results, Tryd.results33, go_sem, u0, u1, u2, v0, v1, v2, vf]) rfl ⟨((B3.out.setCell (Nat.le_refl _) _).setCell (Nat.le_refl _) _).setCell (Nat.le_refl _) _, .inr (.inl ⟨HL.out, (hz _).2 HR2.out, rfl⟩)⟩
  · show K2 _ _
    refine h2 _ _ ?_
    clear h2 K2
    simp only [Bool.not_false, Bool.not_true]
    go_wp2
    refine bodyPost_ret (v := .tuple #[.agg #[.int .i64 (hc1 : Int), .int .i64 (hp1 : Int), .int .u64 (hn1 : Int)], .int .i64 0]) (by simp [results, Tryd.results33, go_sem, u0, u1, u2, v0, v1, v2, vf]) rfl ⟨((B3.out.setCell (Nat.le_refl _) _).setCell (Nat.le_refl _) _).setCell (Nat.le_refl _) _, .inr (.inr ⟨HL.out, (hz _).2 HR2.out, by rw [E1.out, E2.out, E3.out]; rfl⟩)⟩

theorem readHead_calls (w : World) (ht : Hid (TabOk w)) (A : Option Addr) (xs : List UInt8) (c n : Nat) (hn : Hid (xs.length = n)) (hm : Hid (n ≤ 1073741824)) (hcap : Hid (n ≤ c)) (hc : Hid (Bytes w A xs)) :
    Calls Tryd.prog 33 #[.slice A n c] w (RetHead w xs) := by
  have e := hn.out
  subst e
  by_cases h : xs.length < 128
  · exact readHead_short w A xs c h
  · exact readHead_long w ht A xs c (by omega) hm.out hcap.out hc
end Go.Proofs.YtlmlplpbgkbhdaaDoor
