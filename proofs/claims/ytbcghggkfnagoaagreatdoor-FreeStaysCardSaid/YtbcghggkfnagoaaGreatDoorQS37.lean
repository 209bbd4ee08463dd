/- PARTS OF A PROOF, one behind the other: THE WALK of the pager's Commit. THE WALK of pager.Open, whatever the disk has. pager.Open as a whole. THE PAGER as a whole: Begin, Grow, Put in it. THE WALKS of hachurelaw07's page and bytes. THE WALK of hachurelaw07's lives: the first commit of a new disk. CONDITIONS: none of this text's own. -/
import Derived.Test.YtbcghggkfnagoaaGreatDoorQS36
import Derived.Test.YtbcghggkfnagoaaGreatDoorQS12
import Derived.Deep.Cut
set_option linter.unusedVariables false
set_option linter.unusedSimpArgs false
namespace Go.Proofs.YtbcghggkfnagoaaGreatDoor
open Go Go.RowKit Go.Maps Hach

def CommitP (w : World) (base p d : Nat) (B : PgB) (S : PgV) (Sp : List (List UInt8)) (n : Nat) (cR : DiskV × Int) (en : Ending) (w' : World) : Prop :=
  en = .returned (.int .i64 cR.2) ∧ Hid (Qp base w w' ∧ ∃ pd C, (cR.2 = 0 ∧ ∃ com, PgAt w' base p d { B with pd := pd } { S with D := cR.1, C := C, count := n, T := none, com := com } ∧ CacheOk (newS Sp n (plainL B.L)) C.V) ∨ (cR.2 ≠ 0 ∧ PgAt w' base p d { B with pd := pd } { S with D := cR.1, C := C, dead := decide (cR.2 = 4) } ∧ CacheOk Sp C.V))
set_option maxRecDepth 100000 in
set_option maxHeartbeats 8000000 in
theorem commit_calls (w : World) (base p d : Nat) (B : PgB) (S : PgV) (Sp : List (List UInt8)) (T : TrV) (cnt n nn : Nat) (R : List (Int × List UInt8)) (m : Int) (h : Hid (PgAt w base p d B S)) (hd : Hid (S.dead = false)) (hT : Hid (S.T = some T)) (hn : Hid (T.n = n ∧ n ≤ 4000)) (hcn : Hid (S.count = cnt ∧ Sp.length = cnt ∧ cnt ≤ 4000)) (ht : Hid (Tab base w))
    (hne : Hid (¬ (B.L = [] ∧ n = cnt))) (hC : Hid (ChOk Sp n (plainL B.L))) (hnn : Hid (S.D.ops = (nn : Int))) (hf : Hid (Fit S.D (m + 10 + B.L.length + cnt) ∧ 0 ≤ m)) (hR : Hid (GoodR Sp R))
    (CB : Hid (∀ w1, Up w w1 → Calls Tryz.prog 87 #[.pointer (some ⟨p, 0, none⟩)] w1 (BefRet w1 base p d B S Sp R))) :
    Calls Tryz.prog 23 #[.pointer (some ⟨p, 0, none⟩)] w (CommitP w base p d B S Sp n (commitD S.D (hd0 Sp R nn :: secsB (Jrn.recsB nn R)) [hdY Sp R nn] (plainL B.L) n cnt R)) := by
  obtain ⟨cR, hcR⟩ : ∃ cR, commitD S.D (hd0 Sp R nn :: secsB (Jrn.recsB nn R)) [hdY Sp R nn] (plainL B.L) n cnt R = cR := ⟨_, rfl⟩
  rw [hcR]
  obtain ⟨r1, hr1⟩ : ∃ r, seqR S.D (jouGs (hd0 Sp R nn :: secsB (Jrn.recsB nn R)) [hdY Sp R nn]) = r := ⟨_, rfl⟩
  unfold commitD at hcR
  rw [hr1] at hcR
  have HCR := hid hcR
  have HR1 := hid hr1
  clear hcR hr1
  have U1 : Up w (w.alloc (.cells #[.pointer (some ⟨p, 0, none⟩)] 25)) := upAlD (Up.refl w) _
  have X1 : Hid (BoxT (w.alloc (.cells #[.pointer (some ⟨p, 0, none⟩)] 25)) w.heap.size (.pointer (some ⟨p, 0, none⟩)) 25) := hid ⟨heap_alloc_new w _, by unfold pgTy; decide⟩
  have k1 := X1.out.cell
  have P1 := h.out.up U1
  have U1 := hid U1
  have o := P1.own
  rw [hT.out, hd.out] at o
  have H1 := hid o
  have PW := pwithin_calls _ p _ B.t H1
  have e3 : (w.alloc (.cells #[.pointer (some ⟨p, 0, none⟩)] 25)).cell? ⟨p, 3, none⟩ = some (.pointer (some ⟨B.t, 0, none⟩)) := o.cells.2.2.2.1
  have e2 : (w.alloc (.cells #[.pointer (some ⟨p, 0, none⟩)] 25)).cell? ⟨p, 2, none⟩ = some (.int .i64 cnt) := by rw [o.cells.2.2.1]; show some (Value.int .i64 (S.count : Int)) = _; rw [hcn.out.1]
  have TA := P1.tran T hT.out
  have f0 : (w.alloc (.cells #[.pointer (some ⟨p, 0, none⟩)] 25)).cell? ⟨B.t, 0, none⟩ = some (.int .i64 n) := by rw [cell_of_row _ _ _ _ _ _ TA.own, ← hn.out.1]; rfl
  have f1 : (w.alloc (.cells #[.pointer (some ⟨p, 0, none⟩)] 25)).cell? ⟨B.t, 1, none⟩ = some (.map (some B.m)) := by rw [cell_of_row _ _ _ _ _ _ TA.own]; rfl
  have MP := hid TA.pgs.map
  have P1 := hid P1
  clear TA
  go_enter Tryz.func23, Tryz.ntmps23
  go_upto_region 4 with (go_at_call 86; refine PW.mono ?_; rintro e w' ⟨rfl, hw⟩; obtain rfl := hw.symm)
  generalize w.alloc (.cells #[.pointer (some ⟨p, 0, none⟩)] 25) = w1 at *
  generalize w.heap.size = b1 at *
  go_cut [37] from 10 (fun s37 wx => s37 = .bool false ∧ wx = w1.drew)
  case first =>
    have US : w1.drew.cell? ⟨b1, 0, none⟩ = some (.pointer (some ⟨p, 0, none⟩)) ∧ w1.drew.cell? ⟨p, 3, none⟩ = some (.pointer (some ⟨B.t, 0, none⟩)) ∧ w1.drew.cell? ⟨B.t, 1, none⟩ = some (.map (some B.m)) ∧ MapP w1.drew B.m B.L ∧ w1.drew.cell? ⟨B.t, 0, none⟩ = some (.int .i64 n) ∧ w1.drew.cell? ⟨p, 2, none⟩ = some (.int .i64 cnt) := ⟨k1, e3, f1, MP.out.up (Up.drew w1), f0, e2⟩
    obtain ⟨N, hN⟩ : ∃ N, B.L.length = N := ⟨_, rfl⟩
    by_cases h0 : N = 0
    · subst h0
      have hnc : ¬ (n : Int) = (cnt : Int) := fun e => hne.out ⟨List.eq_nil_of_length_eq_zero hN, by omega⟩
      refine s_start (fun w9 => w9.cell? ⟨b1, 0, none⟩ = some (.pointer (some ⟨p, 0, none⟩)) ∧ w9.cell? ⟨p, 3, none⟩ = some (.pointer (some ⟨B.t, 0, none⟩)) ∧ w9.cell? ⟨B.t, 1, none⟩ = some (.map (some B.m)) ∧ MapP w9 B.m B.L ∧ w9.cell? ⟨B.t, 0, none⟩ = some (.int .i64 n) ∧ w9.cell? ⟨p, 2, none⟩ = some (.int .i64 cnt)) (by kernel_rfl) ?_
      refine s_tk 0 15 (v := ?_) US (fun w9 hS => ?_) ?_; rotate_left
      · obtain ⟨s0, s3, s1, sm, s4, s2⟩ := hS; go_simp <;> with_reducible rfl
      try simp only [pz]
      refine s_tk 1 16 (v := ?_) US (fun w9 hS => ?_) ?_; rotate_left
      · go_simp <;> with_reducible rfl
      try simp only [pz]
      refine s_tk 2 17 (v := ?_) US (fun w9 hS => ?_) ?_; rotate_left
      · go_simp <;> with_reducible rfl
      try simp only [pz]
      refine s_tk 3 18 (v := ?_) US (fun w9 hS => ?_) ?_; rotate_left
      · obtain ⟨s0, s3, s1, sm, s4, s2⟩ := hS; go_simp <;> with_reducible rfl
      try simp only [pz]
      refine s_tk 4 19 (v := ?_) US (fun w9 hS => ?_) ?_; rotate_left
      · go_simp <;> with_reducible rfl
      try simp only [pz]
      refine s_tk 5 20 (v := ?_) US (fun w9 hS => ?_) ?_; rotate_left
      · go_simp <;> with_reducible rfl
      try simp only [pz]
      refine s_tk 6 21 (v := ?_) US (fun w9 hS => ?_) ?_; rotate_left
      · obtain ⟨s0, s3, s1, sm, s4, s2⟩ := hS; go_simp <;> with_reducible rfl
      try simp only [pz]
      refine s_tk 7 22 (v := (.int .i64 0)) US (fun w9 hS => ?_) ?_
      · obtain ⟨s0, s3, s1, sm, s4, s2⟩ := hS; have lk := fun ty => MapP.len sm ty; rw [hN] at lk; first | (go_simp; done) | (go_simp; rw [lk]; done) | (go_simp; rw [lk]; rfl)
      try simp only [pz]
      refine s_tk 8 23 (v := (.bool true)) US (fun w9 hS => ?_) ?_
      · first | (go_simp; done) | (go_simp; rfl)
      try simp only [pz]
      refine s_tk 9 24 (v := ?_) US (fun w9 hS => ?_) ?_; rotate_left
      · go_simp <;> with_reducible rfl
      try simp only [pz]
      refine s_tk 10 25 (v := ?_) US (fun w9 hS => ?_) ?_; rotate_left
      · obtain ⟨s0, s3, s1, sm, s4, s2⟩ := hS; go_simp <;> with_reducible rfl
      try simp only [pz]
      refine s_tk 11 26 (v := ?_) US (fun w9 hS => ?_) ?_; rotate_left
      · go_simp <;> with_reducible rfl
      try simp only [pz]
      refine s_tk 12 27 (v := ?_) US (fun w9 hS => ?_) ?_; rotate_left
      · go_simp <;> with_reducible rfl
      try simp only [pz]
      refine s_tk 13 28 (v := ?_) US (fun w9 hS => ?_) ?_; rotate_left
      · obtain ⟨s0, s3, s1, sm, s4, s2⟩ := hS; go_simp <;> with_reducible rfl
      try simp only [pz]
      refine s_tk 14 29 (v := ?_) US (fun w9 hS => ?_) ?_; rotate_left
      · go_simp <;> with_reducible rfl
      try simp only [pz]
      refine s_tk 15 30 (v := ?_) US (fun w9 hS => ?_) ?_; rotate_left
      · go_simp <;> with_reducible rfl
      try simp only [pz]
      refine s_tk 16 31 (v := ?_) US (fun w9 hS => ?_) ?_; rotate_left
      · obtain ⟨s0, s3, s1, sm, s4, s2⟩ := hS; go_simp <;> with_reducible rfl
      try simp only [pz]
      refine s_tk 17 32 (v := ?_) US (fun w9 hS => ?_) ?_; rotate_left
      · obtain ⟨s0, s3, s1, sm, s4, s2⟩ := hS; go_simp <;> with_reducible rfl
      try simp only [pz]
      refine s_tk 18 33 (v := ?_) US (fun w9 hS => ?_) ?_; rotate_left
      · go_simp <;> with_reducible rfl
      try simp only [pz]
      refine s_tk 19 34 (v := ?_) US (fun w9 hS => ?_) ?_; rotate_left
      · go_simp <;> with_reducible rfl
      try simp only [pz]
      refine s_tk 20 35 (v := ?_) US (fun w9 hS => ?_) ?_; rotate_left
      · obtain ⟨s0, s3, s1, sm, s4, s2⟩ := hS; go_simp <;> with_reducible rfl
      try simp only [pz]
      refine s_tk 21 36 (v := (.bool false)) US (fun w9 hS => ?_) ?_
      · first | (go_simp; done) | (go_simp; rfl)
      try simp only [pz]
      refine s_tk 22 37 (v := ?_) US (fun w9 hS => ?_) ?_; rotate_left
      · go_simp <;> with_reducible rfl
      try simp only [pz]
      refine s_done (by kernel_rfl) ?_
      go_wp2_with fail
      go_meet
      exact ⟨rfl, rfl⟩
    · have hN0 : ¬ (N : Int) = 0 := by omega
      refine s_start (fun w9 => w9.cell? ⟨b1, 0, none⟩ = some (.pointer (some ⟨p, 0, none⟩)) ∧ w9.cell? ⟨p, 3, none⟩ = some (.pointer (some ⟨B.t, 0, none⟩)) ∧ w9.cell? ⟨B.t, 1, none⟩ = some (.map (some B.m)) ∧ MapP w9 B.m B.L ∧ w9.cell? ⟨B.t, 0, none⟩ = some (.int .i64 n) ∧ w9.cell? ⟨p, 2, none⟩ = some (.int .i64 cnt)) (by kernel_rfl) ?_
      refine s_tk 0 15 (v := ?_) US (fun w9 hS => ?_) ?_; rotate_left
      · obtain ⟨s0, s3, s1, sm, s4, s2⟩ := hS; go_simp <;> with_reducible rfl
      try simp only [pz]
      refine s_tk 1 16 (v := ?_) US (fun w9 hS => ?_) ?_; rotate_left
      · go_simp <;> with_reducible rfl
      try simp only [pz]
      refine s_tk 2 17 (v := ?_) US (fun w9 hS => ?_) ?_; rotate_left
      · go_simp <;> with_reducible rfl
      try simp only [pz]
      refine s_tk 3 18 (v := ?_) US (fun w9 hS => ?_) ?_; rotate_left
      · obtain ⟨s0, s3, s1, sm, s4, s2⟩ := hS; go_simp <;> with_reducible rfl
      try simp only [pz]
      refine s_tk 4 19 (v := ?_) US (fun w9 hS => ?_) ?_; rotate_left
      · go_simp <;> with_reducible rfl
      try simp only [pz]
      refine s_tk 5 20 (v := ?_) US (fun w9 hS => ?_) ?_; rotate_left
      · go_simp <;> with_reducible rfl
      try simp only [pz]
      refine s_tk 6 21 (v := ?_) US (fun w9 hS => ?_) ?_; rotate_left
      · obtain ⟨s0, s3, s1, sm, s4, s2⟩ := hS; go_simp <;> with_reducible rfl
      try simp only [pz]
      refine s_tk 7 22 (v := (.int .i64 N)) US (fun w9 hS => ?_) ?_
      · obtain ⟨s0, s3, s1, sm, s4, s2⟩ := hS; have lk := fun ty => MapP.len sm ty; rw [hN] at lk; first | (go_simp; done) | (go_simp; rw [lk]; done) | (go_simp; rw [lk]; rfl)
      try simp only [pz]
      refine s_tk 8 23 (v := (.bool false)) US (fun w9 hS => ?_) ?_
      · first | (go_simp; done) | (go_simp; rfl)
      try simp only [pz]
      refine s_tk 9 24 (v := ?_) US (fun w9 hS => ?_) ?_; rotate_left
      · go_simp <;> with_reducible rfl
      try simp only [pz]
      refine s_sk 10 25 US ?_
      try simp only [pz]
      refine s_sk 11 26 US ?_
      try simp only [pz]
      refine s_sk 12 27 US ?_
      try simp only [pz]
      refine s_sk 13 28 US ?_
      try simp only [pz]
      refine s_sk 14 29 US ?_
      try simp only [pz]
      refine s_sk 15 30 US ?_
      try simp only [pz]
      refine s_sk 16 31 US ?_
      try simp only [pz]
      refine s_sk 17 32 US ?_
      try simp only [pz]
      refine s_sk 18 33 US ?_
      try simp only [pz]
      refine s_sk 19 34 US ?_
      try simp only [pz]
      refine s_sk 20 35 US ?_
      try simp only [pz]
      refine s_sk 21 36 US ?_
      try simp only [pz]
      refine s_tk 22 37 (v := ?_) US (fun w9 hS => ?_) ?_; rotate_left
      · go_simp <;> with_reducible rfl
      try simp only [pz]
      refine s_done (by kernel_rfl) ?_
      go_wp2_with fail
      go_meet
      exact ⟨rfl, rfl⟩
  case rest =>
    obtain ⟨rfl, hw⟩ := hcut
    subst hw
    have PD := hid (P1.out.up (Up.drew w1))
    have UD : Hid (Up w w1.drew) := hid (U1.out.t (Up.drew w1))
    have kd : w1.drew.cell? ⟨b1, 0, none⟩ = some (.pointer (some ⟨p, 0, none⟩)) := k1
    have XD := hid (X1.out.up (Up.drew w1))
    clear P1 U1 X1 k1 MP e3 e2 f0 f1 PW H1
    go_wp2_with (go_at_call 87; refine (CB.out _ UD.out).mono ?_; rintro en w2 ⟨A, k, c, C, rfl, hh⟩)
    obtain ⟨⟨P2, CO, CR⟩, Q2, RO⟩ := hh.out
    have U3 : Up w2 (w2.alloc (.cells #[.slice A k c] 139)) := upAlD (Up.refl w2) _
    have X4 : Hid (BoxT (w2.alloc (.cells #[.slice A k c] 139)) w2.heap.size (.slice A k c) 139) := hid ⟨heap_alloc_new w2 _, by unfold pgTy; decide⟩
    have X1 := hid ((XD.out.qp Q2).up U3)
    have P3 := hid (P2.up U3)
    have Q3 := hid ((Qp.up UD.out h.out.bs).trans (Q2.trans (Qp.up U3 P2.bs)))
    have RO := hid (RO.up U3)
    have CO := hid CO
    have T3 := hid (ht.out.qp Q3.out)
    have RK : Hid (R.length = k) := hid RO.out.1
    clear hh P2 Q2 U3 PD UD kd XD CR
    go_upto_region 10 with fail
    generalize w2.alloc (.cells #[.slice A k c] 139) = w3 at *
    generalize w2.heap.size = b4 at *
    have k1 := X1.out.cell
    have k4 := X4.out.cell
    have e0 : w3.cell? ⟨p, 0, none⟩ = some (.pointer (some ⟨d, 0, none⟩)) := P3.out.own.cells.1
    have e2 : w3.cell? ⟨p, 2, none⟩ = some (.int .i64 cnt) := by rw [P3.out.own.cells.2.2.1]; show some (Value.int .i64 (S.count : Int)) = _; rw [hcn.out.1]
    have US : w3.drew.cell? ⟨b1, 0, none⟩ = some (.pointer (some ⟨p, 0, none⟩)) ∧ w3.drew.cell? ⟨b4, 0, none⟩ = some (.slice A k c) ∧ w3.drew.cell? ⟨p, 0, none⟩ = some (.pointer (some ⟨d, 0, none⟩)) ∧ w3.drew.cell? ⟨p, 2, none⟩ = some (.int .i64 cnt) := ⟨k1, k4, e0, e2⟩
    have OC := fun w9 (hu : Up w3.drew w9) => dops_calls w9 base d S.D (hid ⟨_, (P3.out.disk.up (Up.drew w3)).up hu⟩)
    simp only [hnn.out] at OC
    have UA : ∀ o, Up w3.drew (w3.drew.alloc o) := fun o => upAlD (Up.refl _) o
    have UF : Up w3 ((w3.alloc (.cells #[.int .i64 k, .int .i64 cnt, .int .u64 nn] 144)).drew) := (upAlD (Up.refl w3) _).t (Up.drew _)
    have hcv : IntKind.u64.wrap (nn : Int) = (nn : Int) := IntWalk.u64_in _ (by have := hf.out.1.num.ops; have := hnn.out; omega)
    have NB : Hid (nn < 1000000000) := hid (by have := hf.out.1.num.ops; have := hnn.out; omega)
    go_cut [6] from 49 (fun s6 wx => s6 = .pointer (some ⟨w3.heap.size, 0, none⟩) ∧ wx = (w3.alloc (.cells #[.int .i64 k, .int .i64 cnt, .int .u64 nn] 144)).drew)
    case first =>
      refine s_start (fun w9 => w9.cell? ⟨b1, 0, none⟩ = some (.pointer (some ⟨p, 0, none⟩)) ∧ w9.cell? ⟨b4, 0, none⟩ = some (.slice A k c) ∧ w9.cell? ⟨p, 0, none⟩ = some (.pointer (some ⟨d, 0, none⟩)) ∧ w9.cell? ⟨p, 2, none⟩ = some (.int .i64 cnt)) (by kernel_rfl) ?_
      refine s_tk 0 49 (v := ?_) US (fun w9 hS => ?_) ?_; rotate_left
      · obtain ⟨s1, s4, s0, s2⟩ := hS; go_simp <;> with_reducible rfl
      try simp only [pz]
      refine s_tk 1 50 (v := ?_) US (fun w9 hS => ?_) ?_; rotate_left
      · obtain ⟨s1, s4, s0, s2⟩ := hS; go_simp <;> with_reducible rfl
      try simp only [pz]
      refine s_tk 2 51 (v := ?_) US (fun w9 hS => ?_) ?_; rotate_left
      · obtain ⟨s1, s4, s0, s2⟩ := hS; go_simp <;> with_reducible rfl
      try simp only [pz]
      refine s_tk 3 52 (v := ?_) US (fun w9 hS => ?_) ?_; rotate_left
      · go_simp <;> with_reducible rfl
      try simp only [pz]
      refine s_tk 4 53 (v := ?_) US (fun w9 hS => ?_) ?_; rotate_left
      · go_simp <;> with_reducible rfl
      try simp only [pz]
      refine s_tk 5 54 (v := ?_) US (fun w9 hS => ?_) ?_; rotate_left
      · obtain ⟨s1, s4, s0, s2⟩ := hS; go_simp <;> with_reducible rfl
      try simp only [pz]
      refine s_tk 6 55 (v := ?_) US (fun w9 hS => ?_) ?_; rotate_left
      · obtain ⟨s1, s4, s0, s2⟩ := hS; go_simp <;> with_reducible rfl
      try simp only [pz]
      refine s_tk 7 56 (v := ?_) US (fun w9 hS => ?_) ?_; rotate_left
      · go_simp <;> with_reducible rfl
      try simp only [pz]
      refine s_tk 8 57 (v := ?_) US (fun w9 hS => ?_) ?_; rotate_left
      · go_simp <;> with_reducible rfl
      try simp only [pz]
      refine s_tk 9 58 (v := ?_) US (fun w9 hS => ?_) ?_; rotate_left
      · obtain ⟨s1, s4, s0, s2⟩ := hS; go_simp <;> with_reducible rfl
      try simp only [pz]
      refine s_cb 10 13 (fun K9 hK9 => ?_) (fun K9 hK9 => ?_)
      · go_simp
        go_at_call 88
        refine (OC _ (Up.refl _)).mono ?_
        rintro en w8 ⟨rfl, hw8⟩
        obtain rfl := hw8.symm
        clear hw8
        refine hK9.out _ _ US ?_
        clear hK9 K9
        try simp only [pz]
        refine s_tk 11 60 (v := (.int .u64 (nn : Int))) US (fun w9 hS => ?_) ?_
        · first | (go_simp; done) | (go_simp; rfl) | (go_simp; rw [hcv])
        try simp only [pz]
        refine s_tk 12 61 (v := ?_) US (fun w9 hS => ?_) ?_; rotate_left
        · go_simp <;> with_reducible rfl
        try simp only [pz]
        refine s_ca 13 (fun K9 hK9 => ?_)
        go_simp
        refine hK9.out _ _ ⟨(UA _).c US.1, (UA _).c US.2.1, (UA _).c US.2.2.1, (UA _).c US.2.2.2⟩ ?_
        replace US := And.intro ((UA (.cells #[.int .i64 0, .int .i64 0, .int .u64 0] 144)).c US.1) (And.intro ((UA (.cells #[.int .i64 0, .int .i64 0, .int .u64 0] 144)).c US.2.1) (And.intro ((UA (.cells #[.int .i64 0, .int .i64 0, .int .u64 0] 144)).c US.2.2.1) ((UA (.cells #[.int .i64 0, .int .i64 0, .int .u64 0] 144)).c US.2.2.2)))
        clear hK9 K9
        try simp only [pz]
        refine s_ca 14 (fun K9 hK9 => ?_)
        go_simp
        refine hK9.out _ _ ⟨UF.c k1, UF.c k4, UF.c e0, UF.c e2⟩ ?_
        clear hK9 K9
        try simp only [pz]
        refine s_done (by kernel_rfl) ?_
        go_wp2_with fail
        go_meet
        exact ⟨rfl, rfl⟩
      · go_simp
        refine hK9.out _ _ ⟨(UA _).c US.1, (UA _).c US.2.1, (UA _).c US.2.2.1, (UA _).c US.2.2.2⟩ ?_
        replace US := And.intro ((UA (.cells #[.int .i64 0, .int .i64 0, .int .u64 0] 144)).c US.1) (And.intro ((UA (.cells #[.int .i64 0, .int .i64 0, .int .u64 0] 144)).c US.2.1) (And.intro ((UA (.cells #[.int .i64 0, .int .i64 0, .int .u64 0] 144)).c US.2.2.1) ((UA (.cells #[.int .i64 0, .int .i64 0, .int .u64 0] 144)).c US.2.2.2)))
        clear hK9 K9
        try simp only [pz]
        refine s_ca 10 (fun K9 hK9 => ?_)
        go_simp
        go_at_call 88
        refine (OC _ (UA _)).mono ?_
        rintro en w8 ⟨rfl, hw8⟩
        obtain rfl := hw8.symm
        clear hw8
        refine hK9.out _ _ US ?_
        clear hK9 K9
        try simp only [pz]
        refine s_tk 11 60 (v := (.int .u64 (nn : Int))) US (fun w9 hS => ?_) ?_
        · first | (go_simp; done) | (go_simp; rfl) | (go_simp; rw [hcv])
        try simp only [pz]
        refine s_tk 12 61 (v := ?_) US (fun w9 hS => ?_) ?_; rotate_left
        · go_simp <;> with_reducible rfl
        try simp only [pz]
        refine s_ca 14 (fun K9 hK9 => ?_)
        go_simp
        refine hK9.out _ _ ⟨UF.c k1, UF.c k4, UF.c e0, UF.c e2⟩ ?_
        clear hK9 K9
        try simp only [pz]
        refine s_done (by kernel_rfl) ?_
        go_wp2_with fail
        go_meet
        exact ⟨rfl, rfl⟩
    case rest =>
      obtain ⟨rfl, hw⟩ := hcut
      have P4 := hid (P3.out.up UF)
      have Q4 := hid (Q3.out.trans (Qp.up UF P3.out.bs))
      have X1b := hid (X1.out.up UF)
      have X4b := hid (X4.out.up UF)
      have RO4 := hid (RO.out.up UF)
      have T4 := hid (T3.out.up UF)
      have B6 : Hid ((w3.alloc (.cells #[.int .i64 k, .int .i64 cnt, .int .u64 nn] 144)).drew.heap[w3.heap.size]? = some (.cells #[.int .i64 k, .int .i64 cnt, .int .u64 nn] 144 (0, 0))) := hid (heap_alloc_new w3 _)
      rw [← hw] at P4 Q4 X1b X4b RO4 T4 B6
      clear OC US UA hcv e0 e2 UF hw k1 k4 P3 Q3 X1 X4 RO T3
      generalize w3.heap.size = b6 at *
      have k1 := X1b.out.cell
      go_upto_region 12 with (go_at_call 89; refine (syncer_calls wc p 1).mono ?_; rintro e w5 ⟨bp2, bf2, rfl, h5⟩; unfold fnv)
      have U5 := hid h5.out.2.2
      have N1 := hid h5.out.1
      have N2 := hid h5.out.2.1
      clear h5
      have U5d : Hid (Up wc w5.drew) := hid (U5.out.t (Up.drew w5))
      have kb : ∀ i v, (#[Value.int .i64 k, .int .i64 cnt, .int .u64 nn] : Array Value)[i]? = some v → wc.cell? ⟨b6, i, none⟩ = some v := fun i v hv => by rw [cell_of_row _ _ _ _ _ _ B6.out]; exact hv
      have US : w5.drew.cell? ⟨b1, 0, none⟩ = some (.pointer (some ⟨p, 0, none⟩)) ∧ w5.drew.cell? ⟨b4, 0, none⟩ = some (.slice A k c) ∧ w5.drew.cell? ⟨b6, 0, none⟩ = some (.int .i64 k) ∧ w5.drew.cell? ⟨b6, 1, none⟩ = some (.int .i64 cnt) ∧ w5.drew.cell? ⟨b6, 2, none⟩ = some (.int .u64 nn) := ⟨U5d.out.c k1, U5d.out.c X4b.out.cell, U5d.out.c (kb 0 _ rfl), U5d.out.c (kb 1 _ rfl), U5d.out.c (kb 2 _ rfl)⟩
      clear kb k1
      refine s_start (fun w9 => w9.cell? ⟨b1, 0, none⟩ = some (.pointer (some ⟨p, 0, none⟩)) ∧ w9.cell? ⟨b4, 0, none⟩ = some (.slice A k c) ∧ w9.cell? ⟨b6, 0, none⟩ = some (.int .i64 k) ∧ w9.cell? ⟨b6, 1, none⟩ = some (.int .i64 cnt) ∧ w9.cell? ⟨b6, 2, none⟩ = some (.int .u64 nn)) (by kernel_rfl) ?_
      refine s_tk 0 64 (v := ?_) US (fun w9 hS => ?_) ?_; rotate_left
      · obtain ⟨s1, s4, s60, s61, s62⟩ := hS; go_simp <;> with_reducible rfl
      try simp only [pz]
      refine s_tk 1 65 (v := ?_) US (fun w9 hS => ?_) ?_; rotate_left
      · obtain ⟨s1, s4, s60, s61, s62⟩ := hS; go_simp <;> with_reducible rfl
      try simp only [pz]
      refine s_tk 2 66 (v := ?_) US (fun w9 hS => ?_) ?_; rotate_left
      · obtain ⟨s1, s4, s60, s61, s62⟩ := hS; go_simp <;> with_reducible rfl
      try simp only [pz]
      refine s_tk 5 69 (v := ?_) US (fun w9 hS => ?_) ?_; rotate_left
      · go_simp <;> with_reducible rfl
      try simp only [pz]
      refine s_tk 6 70 (v := ?_) US (fun w9 hS => ?_) ?_; rotate_left
      · obtain ⟨s1, s4, s60, s61, s62⟩ := hS; go_simp <;> with_reducible rfl
      try simp only [pz]
      refine s_tk 7 71 (v := ?_) US (fun w9 hS => ?_) ?_; rotate_left
      · obtain ⟨s1, s4, s60, s61, s62⟩ := hS; go_simp <;> with_reducible rfl
      try simp only [pz]
      refine s_tk 10 74 (v := ?_) US (fun w9 hS => ?_) ?_; rotate_left
      · go_simp <;> with_reducible rfl
      try simp only [pz]
      refine s_ca 3 (fun K9 hK9 => ?_)
      go_simp
      go_at_call 91
      refine (bytesP_calls w5.drew (hid (T4.out.up U5d.out).ok) Sp R nn _ A k c cnt hR (hid (by have := hcn.out; omega)) (hid hcn.out.2.1) (hid (by have := NB.out; omega)) (hid (RO4.out.up U5d.out))).mono ?_
      rintro en w6 ⟨g6, n6, c6, rfl, h6⟩
      have U6 : Hid (Up w5.drew w6) := hid h6.out.2.2
      have SB6 := hid h6.out.1
      have GB6 : Hid (wc.heap.size ≤ g6) := hid (Nat.le_trans U5d.out.size h6.out.2.1)
      clear h6
      replace US : w6.cell? ⟨b1, 0, none⟩ = some (.pointer (some ⟨p, 0, none⟩)) ∧ w6.cell? ⟨b4, 0, none⟩ = some (.slice A k c) ∧ w6.cell? ⟨b6, 0, none⟩ = some (.int .i64 k) ∧ w6.cell? ⟨b6, 1, none⟩ = some (.int .i64 cnt) ∧ w6.cell? ⟨b6, 2, none⟩ = some (.int .u64 nn) := ⟨U6.out.c US.1, U6.out.c US.2.1, U6.out.c US.2.2.1, U6.out.c US.2.2.2.1, U6.out.c US.2.2.2.2⟩
      refine hK9.out _ _ US ?_
      clear hK9 K9
      try simp only [pz]
      refine s_ca 4 (fun K9 hK9 => ?_)
      go_simp
      go_at_call 90
      refine (writer_calls w6 p 1 (some ⟨g6, 0, none⟩) n6 c6).mono ?_
      rintro en w7 ⟨bp1, bf1, bs1, rfl, h7⟩
      unfold fnv
      have U7 : Hid (Up w6 w7) := hid h7.out.2.2.2
      have Z6 : Hid (wc.heap.size ≤ w6.heap.size) := hid (U5d.out.t U6.out).size
      have NW1 := hid (BoxN.u h7.out.1 Z6.out)
      have NW2 := hid (BoxN.u h7.out.2.1 Z6.out)
      have NW3 := hid (BoxN.u h7.out.2.2.1 Z6.out)
      clear h7
      replace US : w7.cell? ⟨b1, 0, none⟩ = some (.pointer (some ⟨p, 0, none⟩)) ∧ w7.cell? ⟨b4, 0, none⟩ = some (.slice A k c) ∧ w7.cell? ⟨b6, 0, none⟩ = some (.int .i64 k) ∧ w7.cell? ⟨b6, 1, none⟩ = some (.int .i64 cnt) ∧ w7.cell? ⟨b6, 2, none⟩ = some (.int .u64 nn) := ⟨U7.out.c US.1, U7.out.c US.2.1, U7.out.c US.2.2.1, U7.out.c US.2.2.2.1, U7.out.c US.2.2.2.2⟩
      refine hK9.out _ _ US ?_
      clear hK9 K9
      try simp only [pz]
      refine s_ca 8 (fun K9 hK9 => ?_)
      go_simp
      go_at_call 92
      refine (headP_calls w7 (hid (((T4.out.up U5d.out).up U6.out).up U7.out).ok) Sp R nn k cnt hR RK (hid (by have := hcn.out; omega)) (hid hcn.out.2.1) (hid (by have := NB.out; omega))).mono ?_
      rintro en w8 ⟨g8, n8, c8, rfl, h8⟩
      have U8 : Hid (Up w7 w8) := hid h8.out.2.2
      have SB8 := hid h8.out.1
      have Z7 : Hid (wc.heap.size ≤ w7.heap.size) := hid ((U5d.out.t U6.out).t U7.out).size
      have GB8 : Hid (wc.heap.size ≤ g8) := hid (Nat.le_trans Z7.out h8.out.2.1)
      clear h8
      replace US : w8.cell? ⟨b1, 0, none⟩ = some (.pointer (some ⟨p, 0, none⟩)) ∧ w8.cell? ⟨b4, 0, none⟩ = some (.slice A k c) ∧ w8.cell? ⟨b6, 0, none⟩ = some (.int .i64 k) ∧ w8.cell? ⟨b6, 1, none⟩ = some (.int .i64 cnt) ∧ w8.cell? ⟨b6, 2, none⟩ = some (.int .u64 nn) := ⟨U8.out.c US.1, U8.out.c US.2.1, U8.out.c US.2.2.1, U8.out.c US.2.2.2.1, U8.out.c US.2.2.2.2⟩
      refine hK9.out _ _ US ?_
      clear hK9 K9
      try simp only [pz]
      refine s_ca 9 (fun K9 hK9 => ?_)
      go_simp
      go_at_call 90
      refine (writer_calls w8 p 1 (some ⟨g8, 0, none⟩) n8 c8).mono ?_
      rintro en wA ⟨bp3, bf3, bs3, rfl, h9⟩
      unfold fnv
      have UA : Hid (Up w8 wA) := hid h9.out.2.2.2
      have Z8 : Hid (wc.heap.size ≤ w8.heap.size) := hid (((U5d.out.t U6.out).t U7.out).t U8.out).size
      have NX1 := hid (BoxN.u h9.out.1 Z8.out)
      have NX2 := hid (BoxN.u h9.out.2.1 Z8.out)
      have NX3 := hid (BoxN.u h9.out.2.2.1 Z8.out)
      clear h9
      replace US : wA.cell? ⟨b1, 0, none⟩ = some (.pointer (some ⟨p, 0, none⟩)) ∧ wA.cell? ⟨b4, 0, none⟩ = some (.slice A k c) ∧ wA.cell? ⟨b6, 0, none⟩ = some (.int .i64 k) ∧ wA.cell? ⟨b6, 1, none⟩ = some (.int .i64 cnt) ∧ wA.cell? ⟨b6, 2, none⟩ = some (.int .u64 nn) := ⟨UA.out.c US.1, UA.out.c US.2.1, UA.out.c US.2.2.1, UA.out.c US.2.2.2.1, UA.out.c US.2.2.2.2⟩
      refine hK9.out _ _ US ?_
      clear hK9 K9
      try simp only [pz]
      refine s_ca 11 (fun K9 hK9 => ?_)
      go_simp
      have UB : Hid (Up wA (wA.alloc (.cells ((jouFs bp1 bf1 bs1 bp2 bf2 bp3 bf3 bs3).map fnv).toArray 53))) := hid (upAlD (Up.refl wA) _)
      refine hK9.out _ _ (show _ from ⟨UB.out.c US.1, UB.out.c US.2.1, UB.out.c US.2.2.1, UB.out.c US.2.2.2.1, UB.out.c US.2.2.2.2⟩) ?_
      clear hK9 K9
      try simp only [pz]
      refine s_ca 12 (fun K9 hK9 => ?_)
      go_simp
      go_at_call 74
      have UW8 := hid (((U5d.out.t U6.out).t U7.out).t U8.out)
      have UWB := hid ((UW8.out.t UA.out).t UB.out)
      have CS := jouSteps_calls wc (wA.alloc (.cells ((jouFs bp1 bf1 bs1 bp2 bf2 bp3 bf3 bs3).map fnv).toArray 53)) base p d B { S with C := C } wA.heap.size 4 bp1 bf1 bs1 bp2 bf2 bp3 bf3 bs3 none none n6 c6 n8 c8 g6 g8 (hd0 Sp R nn :: secsB (Jrn.recsB nn R)) [hdY Sp R nn] (m + 6 + B.L.length + cnt) P4 hd UWB (hid (heap_alloc_new wA _))
        (hid (((NW1.out.up U8.out).up UA.out).up UB.out)) (hid (((NW2.out.up U8.out).up UA.out).up UB.out)) (hid (((NW3.out.up U8.out).up UA.out).up UB.out)) (hid ⟨(((SB6.out.up U7.out).up U8.out).up UA.out).up UB.out, GB6.out, by rw [List.length_cons, len_recs hR.out (by have := hcn.out; omega)]; have := hR.out.len_le; have := hcn.out; omega, fun s hs => by
          rcases List.mem_cons.1 hs with rfl | hs
          · exact (whole_hd0 hR.out (by have := hcn.out; omega) nn).1
          · exact secsB_whole _ s hs⟩)
        (hid ((BoxN.u N1.out (Nat.le_refl _)).up (((((Up.drew w5).t U6.out).t U7.out).t U8.out).t UA.out |>.t UB.out))) (hid ((BoxN.u N2.out (Nat.le_refl _)).up (((((Up.drew w5).t U6.out).t U7.out).t U8.out).t UA.out |>.t UB.out)))
        (hid (NX1.out.up UB.out)) (hid (NX2.out.up UB.out)) (hid (NX3.out.up UB.out)) (hid ⟨(SB8.out.up UA.out).up UB.out, GB8.out, by show 1 < 100000; decide, fun s hs => by rw [List.mem_singleton.1 hs]; exact (whole_hd0 hR.out (by have := hcn.out; omega) nn).2⟩) (hid ⟨hf.out.1.less (by omega), by have := hf.out.2; omega⟩)
      rw [show seqR ({ S with C := C } : PgV).D (jouGs (hd0 Sp R nn :: secsB (Jrn.recsB nn R)) [hdY Sp R nn]) = r1 from HR1.out] at CS
      have P4B := P4.out.up UWB.out
      have B6B := (UWB.out.block b6 (Array.getElem?_eq_some_iff.1 B6.out).1).trans B6.out
      have X1B := X1b.out.up UWB.out
      have X4B := X4b.out.up UWB.out
      have Q4B := Q4.out.trans (Qp.up UWB.out P4.out.bs)
      have RO4B := RO4.out.up UWB.out
      refine Calls.mono (show Calls _ _ _ _ _ from CS) ?_
      rintro en wC ⟨rfl, hC5⟩
      obtain ⟨⟨pd1, PC⟩, QC⟩ := hC5.out
      have PC := hid PC
      have X1c := hid (X1B.qp QC)
      have X4c := hid (X4B.qp QC)
      have ROc := hid (RO4B.qp QC)
      have Qc := hid (Q4B.trans QC)
      have B6c := QC.keep b6 _ _ _ (by unfold pgTy; decide) B6B
      replace US : wC.cell? ⟨b1, 0, none⟩ = some (.pointer (some ⟨p, 0, none⟩)) ∧ wC.cell? ⟨b4, 0, none⟩ = some (.slice A k c) ∧ wC.cell? ⟨b6, 0, none⟩ = some (.int .i64 k) ∧ wC.cell? ⟨b6, 1, none⟩ = some (.int .i64 cnt) ∧ wC.cell? ⟨b6, 2, none⟩ = some (.int .u64 nn) := ⟨X1c.out.cell, X4c.out.cell, by rw [cell_of_row _ _ _ _ _ _ B6c]; rfl, by rw [cell_of_row _ _ _ _ _ _ B6c]; rfl, by rw [cell_of_row _ _ _ _ _ _ B6c]; rfl⟩
      clear hC5 QC CS P4B B6B X1B X4B Q4B RO4B B6c
      refine hK9.out _ _ US ?_
      clear hK9 K9
      try simp only [pz]
      refine s_tk 13 5 (v := ?_) US (fun w9 hS => ?_) ?_; rotate_left
      · go_simp <;> with_reducible rfl
      try simp only [pz]
      refine s_done (by kernel_rfl) ?_
      clear US
      first | (rename_i K1 h1; refine h1 _ _ ?_; clear h1 K1) | skip
      clear NW1 NW2 NW3 NX1 NX2 NX3 SB6 SB8 GB6 GB8 Z6 Z7 Z8 U5 U5d U6 U7 U8 UA UB UW8 UWB N1 N2 P4 Q4 X1b X4b RO4 T4 B6
      have k1 := X1c.out.cell
      have FT1 : Hid (Fit r1.1 (m + 6 + B.L.length + cnt)) := hid (by
        rw [← HR1.out]
        exact Fit.jouG (hf.out.1.less (by omega)) (by have := hf.out.2; omega) (fun s hs => by
          rcases List.mem_cons.1 hs with rfl | hs
          · exact (whole_hd0 hR.out (by have := hcn.out; omega) nn).1
          · exact secsB_whole _ s hs) (fun s hs => by rw [List.mem_singleton.1 hs]; exact (whole_hd0 hR.out (by have := hcn.out; omega) nn).2))
      have DKO : Hid (DiskOk r1.1) := hid (FT1.out.disk (by have := hf.out.2; omega))
      have FT2 : Hid (Fit r1.1 (m + 1 + cnt + 4 + B.L.length) ∧ 0 ≤ m + 1 + cnt) := hid ⟨FT1.out.less (by omega), by have := hf.out.2; omega⟩
      by_cases e1 : r1.2 = 0
      · go_upto_region 16 with fail
        have US : wC.drew.cell? ⟨b1, 0, none⟩ = some (.pointer (some ⟨p, 0, none⟩)) := k1
        refine s_start (fun w9 => w9.cell? ⟨b1, 0, none⟩ = some (.pointer (some ⟨p, 0, none⟩))) (by kernel_rfl) ?_
        refine s_tk 0 88 (v := ?_) US (fun w9 hS => ?_) ?_; rotate_left
        · have s1 := hS; go_simp <;> with_reducible rfl
        try simp only [pz]
        refine s_tk 1 89 (v := ?_) US (fun w9 hS => ?_) ?_; rotate_left
        · go_simp <;> with_reducible rfl
        try simp only [pz]
        refine s_tk 2 90 (v := ?_) US (fun w9 hS => ?_) ?_; rotate_left
        · have s1 := hS; go_simp <;> with_reducible rfl
        try simp only [pz]
        refine s_tk 4 92 (v := ?_) US (fun w9 hS => ?_) ?_; rotate_left
        · go_simp <;> with_reducible rfl
        try simp only [pz]
        refine s_tk 5 93 (v := ?_) US (fun w9 hS => ?_) ?_; rotate_left
        · have s1 := hS; go_simp <;> with_reducible rfl
        try simp only [pz]
        refine s_tk 6 94 (v := ?_) US (fun w9 hS => ?_) ?_; rotate_left
        · go_simp <;> with_reducible rfl
        try simp only [pz]
        refine s_ca 3 (fun K9 hK9 => ?_)
        go_simp
        go_at_call 89
        refine (syncer_calls wC.drew p 0).mono ?_
        rintro e wD ⟨bp5, bf5, rfl, h5⟩
        unfold fnv
        have UD : Hid (Up wC wD) := hid ((Up.drew wC).t h5.out.2.2)
        have M1 := hid (BoxN.u (wc := wC) h5.out.1 (Nat.le_refl _))
        have M2 := hid (BoxN.u (wc := wC) h5.out.2.1 (Nat.le_refl _))
        clear h5
        replace US : wD.cell? ⟨b1, 0, none⟩ = some (.pointer (some ⟨p, 0, none⟩)) := UD.out.c k1
        refine hK9.out _ _ US ?_
        clear hK9 K9
        try simp only [pz]
        refine s_ca 7 (fun K9 hK9 => ?_)
        go_simp
        have UE : Hid (Up wD (wD.alloc (.cells ((dataFs p bp5 bf5 b1).map fnv).toArray 53))) := hid (upAlD (Up.refl wD) _)
        have BE : Hid ((wD.alloc (.cells ((dataFs p bp5 bf5 b1).map fnv).toArray 53)).heap[wD.heap.size]? = some (.cells ((dataFs p bp5 bf5 b1).map fnv).toArray 53 (0, 0))) := hid (heap_alloc_new wD _)
        refine hK9.out _ _ (show _ from UE.out.c US) ?_
        clear hK9 K9
        try simp only [pz]
        refine s_ca 8 (fun K9 hK9 => ?_)
        go_simp
        go_at_call 74
        have CS := datSteps_calls wC _ base p d { B with pd := pd1 } { S with D := r1.1, C := C } T _ 4 b1 bp5 bf5 n (m + 1 + cnt) PC hd hT hn (hid (UD.out.t UE.out)) BE (hid (X1c.out.up (UD.out.t UE.out))) (hid (M1.out.up UE.out)) (hid (M2.out.up UE.out)) (hid ⟨Sp, hC.out⟩) FT2
        refine Calls.mono (show Calls _ _ _ _ _ from CS) ?_
        rintro en wE ⟨rfl, hE⟩
        have PE := hid hE.out.1
        have QE := hid ((Qc.out.trans (Qp.up (UD.out.t UE.out) PC.out.bs)).trans hE.out.2)
        have X1e := hid ((X1c.out.up (UD.out.t UE.out)).qp hE.out.2)
        have X4e := hid ((X4c.out.up (UD.out.t UE.out)).qp hE.out.2)
        have ROe := hid ((ROc.out.up (UD.out.t UE.out)).qp hE.out.2)
        clear hE CS
        replace US : wE.cell? ⟨b1, 0, none⟩ = some (.pointer (some ⟨p, 0, none⟩)) := X1e.out.cell
        refine hK9.out _ _ US ?_
        clear hK9 K9
        try simp only [pz]
        refine s_tk 9 5 (v := ?_) US (fun w9 hS => ?_) ?_; rotate_left
        · go_simp <;> with_reducible rfl
        try simp only [pz]
        refine s_done (by kernel_rfl) ?_
        clear US
        first | (rename_i K1 h1; refine h1 _ _ ?_; clear h1 K1) | skip
        rw [if_pos e1] at HCR
        have FT3 : Hid (Fit (seqR r1.1 (dataGB (plainL B.L) n)).1 (m + 3 + cnt)) := hid (by
          have hl : ((plainL B.L).length : Int) = B.L.length := by unfold plainL; rw [List.length_map]
          exact Fit.datG (plainL B.L) (FT1.out.less (by omega)) (by have := hf.out.2; omega) (fun y hy => by obtain ⟨_, _, _, _, q⟩ := hC.out.all y hy; exact q))
        obtain ⟨r2, hr2⟩ : ∃ r, seqR r1.1 (dataGB (plainL B.L) n) = r := ⟨_, rfl⟩
        rw [hr2] at HCR FT3
        rw [show ({ S with D := r1.1, C := C } : PgV).D = r1.1 from rfl, hr2] at PE
        rw [hr2]
        clear hr2
        obtain ⟨pd2, PE2⟩ := PE.out
        have PE2 := hid PE2
        have k1 := X1e.out.cell
        clear M1 M2 UD UE BE
        by_cases e2 : r2.2 = 0
        · rw [if_pos e2] at HCR
          rw [e2]
          go_wp2_with (go_at_call 100; refine (done_calls wE base p d { B with pd := pd2 } { S with D := r2.1, C := C } Sp T cnt n PE2 hd hT hn hcn CO hC).mono ?_; rintro en wF ⟨rfl, hF⟩)
          obtain ⟨C9, com9, P9, CO9, Q9⟩ := hF.out
          have RES : Hid (Qp base w wF ∧ ∃ pd C, (cR.2 = 0 ∧ ∃ com, PgAt wF base p d { B with pd := pd } { S with D := cR.1, C := C, count := n, T := none, com := com } ∧ CacheOk (newS Sp n (plainL B.L)) C.V) ∨ (cR.2 ≠ 0 ∧ PgAt wF base p d { B with pd := pd } { S with D := cR.1, C := C, dead := decide (cR.2 = 4) } ∧ CacheOk Sp C.V)) := hid ⟨QE.out.trans Q9, pd2, C9, .inl ⟨by rw [← HCR.out]; exact e2, com9, by rw [← HCR.out]; exact P9, CO9⟩⟩
          clear hF P9 CO9 Q9
          go_wp2
          go_ret
          exact ⟨by rw [← HCR.out, e2]; rfl, RES⟩
        · rw [if_neg e2] at HCR
          go_upto_region 19 with fail
          have US : wE.drew.cell? ⟨b1, 0, none⟩ = some (.pointer (some ⟨p, 0, none⟩)) := k1
          refine s_start (fun w9 => w9.cell? ⟨b1, 0, none⟩ = some (.pointer (some ⟨p, 0, none⟩))) (by kernel_rfl) ?_
          refine s_tk 0 100 (v := ?_) US (fun w9 hS => ?_) ?_; rotate_left
          · have s1 := hS; go_simp <;> with_reducible rfl
          try simp only [pz]
          refine s_tk 1 101 (v := ?_) US (fun w9 hS => ?_) ?_; rotate_left
          · have s1 := hS; go_simp <;> with_reducible rfl
          try simp only [pz]
          refine s_tk 2 102 (v := ?_) US (fun w9 hS => ?_) ?_; rotate_left
          · go_simp <;> with_reducible rfl
          try simp only [pz]
          refine s_tk 3 103 (v := ?_) US (fun w9 hS => ?_) ?_; rotate_left
          · go_simp <;> with_reducible rfl
          try simp only [pz]
          refine s_tk 4 104 (v := ?_) US (fun w9 hS => ?_) ?_; rotate_left
          · have s1 := hS; go_simp <;> with_reducible rfl
          try simp only [pz]
          refine s_tk 5 105 (v := ?_) US (fun w9 hS => ?_) ?_; rotate_left
          · go_simp <;> with_reducible rfl
          try simp only [pz]
          refine s_ca 6 (fun K9 hK9 => ?_)
          go_simp
          have UG : Hid (Up wE (wE.drew.alloc (.cells ((backFs p b1 b4).map fnv).toArray 53))) := hid ((Up.drew wE).t (upAlD (Up.refl _) _))
          have BG : Hid ((wE.drew.alloc (.cells ((backFs p b1 b4).map fnv).toArray 53)).heap[wE.drew.heap.size]? = some (.cells ((backFs p b1 b4).map fnv).toArray 53 (0, 0))) := hid (heap_alloc_new wE.drew _)
          refine hK9.out _ _ (show _ from UG.out.c k1) ?_
          clear hK9 K9
          try simp only [pz]
          refine s_ca 7 (fun K9 hK9 => ?_)
          go_simp
          go_at_call 94
          have h512 : ∀ r ∈ R, r.2.length = 512 := fun r hr => by obtain ⟨y, _, _, _, e⟩ := hR.out.all r hr; exact hR.out.len _ (List.mem_of_getElem? e)
          have CS := backSteps_calls _ base p d { B with pd := pd2 } { S with D := r2.1, C := C } _ 2 b1 b4 A k c cnt R m ⟨_, PE2.out.up UG.out⟩ hd.out (hid ⟨hcn.out.1, hcn.out.2.2⟩) (X1e.out.up UG.out) (X4e.out.up UG.out) ⟨(ROe.out.up UG.out).owned, RK.out, by have := hR.out.len_le; have := RK.out; have := hcn.out; omega⟩ (hid fun r hr => by
              obtain ⟨y, q1, q2, q3, _⟩ := hR.out.all r hr
              exact ⟨y, q1, q2, by have := hcn.out; omega, h512 r hr⟩) ⟨FT3.out.less (by have := hR.out.len_le; have := hcn.out; omega), hf.out.2⟩ (fun _ => (Fit.restore (m := m + 1) R (FT3.out.less (by have := hR.out.len_le; have := hcn.out; omega)) (by have := hf.out.2; omega) h512).disk (by have := hf.out.2; omega)) BG.out
          have CF := failP_calls _ base p d { B with pd := pd2 } { S with D := r2.1, C := C } r2 [fun D => restoreR D cnt R, cleanR] _ 2 2 ⟨_, PE2.out.up UG.out⟩ rfl CS
          refine Calls.mono (show Calls _ _ _ _ _ from CF) ?_
          rintro en wF ⟨rfl, hE⟩
          have PF := hid hE.out.1
          have QF := hid ((QE.out.trans (Qp.up UG.out PE2.out.bs)).trans hE.out.2)
          have QF2 := hid hE.out.2
          have US : wF.cell? ⟨b1, 0, none⟩ = some (.pointer (some ⟨p, 0, none⟩)) := ((X1e.out.up UG.out).qp hE.out.2).cell
          clear hE CF CS
          refine hK9.out _ _ US ?_
          clear hK9 K9
          try simp only [pz]
          refine s_ca 8 (fun K9 hK9 => ?_)
          go_simp
          go_at_call 93
          refine (watchD_calls _ base p d { B with pd := pd2 } { S with D := r2.1, C := C } _ _ PF.out hd.out).mono ?_
          rintro en wG ⟨rfl, hF⟩
          have PG := hid hF.out.1
          have QG := hid (QF.out.trans hF.out.2)
          have US : wG.cell? ⟨b1, 0, none⟩ = some (.pointer (some ⟨p, 0, none⟩)) := (((X1e.out.up UG.out).qp QF2.out).qp hF.out.2).cell
          clear hF
          refine hK9.out _ _ US ?_
          clear hK9 K9
          try simp only [pz]
          refine s_tk 9 2 (v := ?_) US (fun w9 hS => ?_) ?_; rotate_left
          · go_simp <;> with_reducible rfl
          try simp only [pz]
          refine s_done (by kernel_rfl) ?_
          clear US
          first | (rename_i K1 h1; refine h1 _ _ ?_; clear h1 K1) | skip
          obtain ⟨pd9, PG9⟩ := PG.out
          have RES : Hid (Qp base w wG ∧ ∃ pd C, (cR.2 = 0 ∧ ∃ com, PgAt wG base p d { B with pd := pd } { S with D := cR.1, C := C, count := n, T := none, com := com } ∧ CacheOk (newS Sp n (plainL B.L)) C.V) ∨ (cR.2 ≠ 0 ∧ PgAt wG base p d { B with pd := pd } { S with D := cR.1, C := C, dead := decide (cR.2 = 4) } ∧ CacheOk Sp C.V)) := hid ⟨QG.out, pd9, C, .inr ⟨by rw [← HCR.out]; exact failD_ne e2, by rw [← HCR.out]; exact PG9, CO.out⟩⟩
          clear PG9
          go_wp2
          go_ret
          exact ⟨by rw [← HCR.out]; rfl, RES⟩
      · rw [if_neg e1] at HCR
        go_upto_region 14 with fail
        have US : wC.drew.cell? ⟨b1, 0, none⟩ = some (.pointer (some ⟨p, 0, none⟩)) := k1
        refine s_start (fun w9 => w9.cell? ⟨b1, 0, none⟩ = some (.pointer (some ⟨p, 0, none⟩))) (by kernel_rfl) ?_
        refine s_tk 0 79 (v := ?_) US (fun w9 hS => ?_) ?_; rotate_left
        · have s1 := hS; go_simp <;> with_reducible rfl
        try simp only [pz]
        refine s_tk 1 80 (v := ?_) US (fun w9 hS => ?_) ?_; rotate_left
        · have s1 := hS; go_simp <;> with_reducible rfl
        try simp only [pz]
        refine s_tk 2 81 (v := ?_) US (fun w9 hS => ?_) ?_; rotate_left
        · go_simp <;> with_reducible rfl
        try simp only [pz]
        refine s_tk 3 82 (v := ?_) US (fun w9 hS => ?_) ?_; rotate_left
        · have s1 := hS; go_simp <;> with_reducible rfl
        try simp only [pz]
        refine s_tk 4 83 (v := ?_) US (fun w9 hS => ?_) ?_; rotate_left
        · go_simp <;> with_reducible rfl
        try simp only [pz]
        refine s_ca 5 (fun K9 hK9 => ?_)
        go_simp
        have UD : Hid (Up wC (wC.drew.alloc (.cells ((cleanFs p).map fnv).toArray 53))) := hid ((Up.drew wC).t (upAlD (Up.refl _) _))
        have BD : Hid ((wC.drew.alloc (.cells ((cleanFs p).map fnv).toArray 53)).heap[wC.drew.heap.size]? = some (.cells ((cleanFs p).map fnv).toArray 53 (0, 0))) := hid (heap_alloc_new wC.drew _)
        refine hK9.out _ _ (show _ from UD.out.c k1) ?_
        clear hK9 K9
        try simp only [pz]
        refine s_ca 6 (fun K9 hK9 => ?_)
        go_simp
        go_at_call 94
        have CS := cleanSteps_calls _ base p d { B with pd := pd1 } { S with D := r1.1, C := C } _ 1 ⟨_, PC.out.up UD.out⟩ hd.out DKO.out BD.out
        have CF := failP_calls _ base p d { B with pd := pd1 } { S with D := r1.1, C := C } r1 [cleanR] _ 1 1 ⟨_, PC.out.up UD.out⟩ rfl CS
        refine Calls.mono (show Calls _ _ _ _ _ from CF) ?_
        rintro en wE ⟨rfl, hE⟩
        have PE := hid hE.out.1
        have QE := hid ((Qc.out.trans (Qp.up UD.out PC.out.bs)).trans hE.out.2)
        have US : wE.cell? ⟨b1, 0, none⟩ = some (.pointer (some ⟨p, 0, none⟩)) := ((X1c.out.up UD.out).qp hE.out.2).cell
        have QE2 := hid hE.out.2
        clear hE CF CS
        refine hK9.out _ _ US ?_
        clear hK9 K9
        try simp only [pz]
        refine s_ca 7 (fun K9 hK9 => ?_)
        go_simp
        go_at_call 93
        refine (watchD_calls _ base p d { B with pd := pd1 } { S with D := r1.1, C := C } _ _ PE.out hd.out).mono ?_
        rintro en wF ⟨rfl, hF⟩
        have PF := hid hF.out.1
        have QF := hid (QE.out.trans hF.out.2)
        have US : wF.cell? ⟨b1, 0, none⟩ = some (.pointer (some ⟨p, 0, none⟩)) := (((X1c.out.up UD.out).qp QE2.out).qp hF.out.2).cell
        clear hF
        refine hK9.out _ _ US ?_
        clear hK9 K9
        try simp only [pz]
        refine s_tk 8 2 (v := ?_) US (fun w9 hS => ?_) ?_; rotate_left
        · go_simp <;> with_reducible rfl
        try simp only [pz]
        refine s_done (by kernel_rfl) ?_
        clear US
        first | (rename_i K1 h1; refine h1 _ _ ?_; clear h1 K1) | skip
        obtain ⟨pd9, PF9⟩ := PF.out
        have RES : Hid (Qp base w wF ∧ ∃ pd C, (cR.2 = 0 ∧ ∃ com, PgAt wF base p d { B with pd := pd } { S with D := cR.1, C := C, count := n, T := none, com := com } ∧ CacheOk (newS Sp n (plainL B.L)) C.V) ∨ (cR.2 ≠ 0 ∧ PgAt wF base p d { B with pd := pd } { S with D := cR.1, C := C, dead := decide (cR.2 = 4) } ∧ CacheOk Sp C.V)) := hid ⟨QF.out, pd9, C, .inr ⟨by rw [← HCR.out]; exact failD_ne e1, by rw [← HCR.out]; exact PF9, CO.out⟩⟩
        clear PF9
        go_wp2
        go_ret
        exact ⟨by rw [← HCR.out]; rfl, RES⟩
end Go.Proofs.YtbcghggkfnagoaaGreatDoor

namespace Go.Proofs.YtbcghggkfnagoaaGreatDoor
open Go Go.RowKit Go.Maps Hach

section
variable (w : World) (base p d : Nat) (B : PgB) (S : PgV)
set_option maxRecDepth 100000 in
set_option maxHeartbeats 2000000 in
theorem wholeP_calls (c : Nat) (h : Hid (PgAt w base p d B S)) (hc : Hid (S.D.f0.now.length = 4 * c ∧ c ≤ 4000)) :
    Calls Tryz.prog 77 #[.pointer (some ⟨p, 0, none⟩)] w fun en w' => en = .returned (.int .i64 0) ∧ Hid (PgAt w' base p d B { S with count := c } ∧ Qp base w w') := by
  obtain ⟨e0, _, e2, _⟩ := h.out.own.cells
  have f2 := h.out.own.free 2
  have CS := sec0_calls w base d S.D (hid ⟨_, h.out.disk⟩)
  obtain ⟨l, hl⟩ : ∃ l : Int, ((S.D.f0.now.length : Nat) : Int) = l := ⟨_, rfl⟩
  rw [hl] at CS
  have m4 : l.tmod 4 = 0 := by rw [← hl, hc.out.1]; have : ((4 * c : Nat) : Int) = 4 * (c : Int) := by omega
                               rw [this]; exact Int.mul_tmod_right 4 c
  have d4 : l.tdiv 4 = (c : Int) := by rw [← hl, hc.out.1]; have : ((4 * c : Nat) : Int) = 4 * (c : Int) := by omega
                                       rw [this]; exact Int.mul_tdiv_cancel_left _ (by decide)
  have m4' : l % 4 = 0 := by rw [← hl, hc.out.1]; omega
  have d4' : l / 4 = (c : Int) := by rw [← hl, hc.out.1]; omega
  have l0 : 0 ≤ l := by omega
  have c4 : ¬ (4000 : Int) < (c : Int) := by have := hc.out.2; omega
  have k1 := heap_setCell_same _ p 2 _ _ (.int .i64 c) h.out.own
  have hf : Fr (fun k => k = p) w (w.setCell ⟨p, 2, none⟩ (.int .i64 c)) := (Fr.refl (fun k => k = p) w).setCell (p := ⟨p, 2, none⟩) (fun _ => rfl) _
  have RES := hid (h.out.ownStep (S' := { S with count := c }) hf k1 rfl rfl (fun T hT => hT))
  simp only at e0
  clear k1 hf hl
  go_enter Tryz.func77, Tryz.ntmps77
  go_wp2_with (go_at_call 29; refine CS.mono ?_; rintro e w' ⟨rfl, hw⟩; obtain rfl := hw.symm)
  go_ret
  exact ⟨rfl, RES⟩
end
theorem CacheAt.lower {w : World} {b base g mp r : Nat} {room hits miss : Int} {es : List Ent} (h : CacheAt w b g room mp r hits miss es) (hb : base ≤ b) : CacheAt w base g room mp r hits miss es :=
  ⟨h.own, h.ring, h.row, h.nodup, fun x hx => ⟨(h.ents x hx).1, by obtain ⟨_, e1, ⟨A, c, e2, e3⟩, e4, e5⟩ := h.ents x hx; exact ⟨e1, ⟨A, c, e2, own_base e3 hb⟩, e4, e5⟩⟩, h.map, h.pages, h.wf, by obtain ⟨a, b1, c, d⟩ := h.lows; exact ⟨by omega, by omega, by omega, fun x hx => by have := d x hx; omega⟩⟩
def OpI (wp : World) (base p d : Nat) (g : Nat) (C : CaV) (D : DiskV) (cnt : Nat) (k : Nat) (w' : World) : Prop :=
  ∃ B' S', PgAt w' base p d B' S' ∧ Qp base wp w' ∧ Rd w' (some ⟨g, 0, none⟩) ((openFs p).map fnv) ∧ (S'.T = none ∧ S'.dead = false ∧ S'.C = C ∧ S'.com = 0 ∧ (hotS D.f1.now = false → S'.rep = 0)) ∧
    ((k = 0 ∧ S'.D = D) ∨ (k = 1 ∧ S'.D = (recoverR D).1 ∧ (recoverR D).2 = 0) ∨ (k = 2 ∧ S'.D = (cleanR (recoverR D).1).1 ∧ (recoverR D).2 = 0 ∧ (cleanR (recoverR D).1).2 = 0) ∨ (k = 3 ∧ S'.D = (openR D).1 ∧ S'.count = cnt ∧ (openR D).2 = 0))
def OpE (wp : World) (base d : Nat) (D : DiskV) (e : Int) (w' : World) : Prop := e = (openR D).2 ∧ DiskM w' base d (openR D).1 ∧ Qp base wp w'
theorem opSteps_calls (wp : World) (base p d g c : Nat) (B : PgB) (S : PgV) (Sp : List (List UInt8)) (m : Int) (h : Hid (PgAt wp base p d B S)) (hS : Hid (S.T = none ∧ S.dead = false ∧ S.com = 0 ∧ S.rep = 0)) (ht : Hid (Tab base wp)) (hon : Hid (S.D.on = true)) (hl : Hid (S.D.f1.now.length < 1000000)) (hc : Hid (RecD S.D Sp)) (h4 : Hid (Sp.length ≤ 4000)) (hf : Hid (Fit S.D (m + 3 + Sp.length) ∧ 0 ≤ m))
    (hr : Hid (wp.heap[g]? = some (.cells ((openFs p).map fnv).toArray 53 (0, 0)))) :
    Calls Tryz.prog 74 #[.slice (some ⟨g, 0, none⟩) 3 c] wp (StepsRet 3 (OpI wp base p d g S.C S.D Sp.length) (OpE wp base d S.D)) := by
  have RD : ∀ w', Qp base wp w' → Rd w' (some ⟨g, 0, none⟩) ((openFs p).map fnv) := fun w' hq j u hj => by
    have hb := hq.keep g _ _ _ (by unfold pgTy; decide) hr.out
    refine ⟨g, 0, rfl, ?_⟩
    rw [cell_of_row _ _ _ _ _ _ hb, Nat.zero_add]
    simpa using hj
  obtain ⟨r1, r2, r3, r4⟩ := recover_spec (m := m + 1) hc.out hon.out (hf.out.1.less (by omega)) (by have := hf.out.2; omega)
  refine steps_calls wp (some ⟨g, 0, none⟩) c (openFs p) (OpI wp base p d g S.C S.D Sp.length) (OpE wp base d S.D) (hid (by show 3 < 1000; decide)) (hid fun k w' hk => ?_) ?_ (hid ?_) ⟨B, S, h.out, Qp.refl _ _, RD _ (Qp.refl _ _), ⟨hS.out.1, hS.out.2.1, rfl, hS.out.2.2.1, fun _ => hS.out.2.2.2⟩, .inl ⟨rfl, rfl⟩⟩
  · obtain ⟨_, _, _, _, hk, _⟩ := hk; exact hk
  · intro x hx
    rcases List.mem_cons.1 hx with rfl | hx
    · exact rec_ent
    rcases List.mem_cons.1 hx with rfl | hx
    · exact cle_ent
    rcases List.mem_cons.1 hx with rfl | hx
    · exact who_ent
    · cases hx
  · intro k x hx w' hw
    obtain ⟨B', S', P', Q', R', ⟨t1, t2, t3, t4, t5⟩, hcase⟩ := hw
    match k, hx with
    | 0, hx =>
      obtain rfl := Option.some.inj hx
      obtain ⟨_, hD⟩ : (0 : Nat) = 0 ∧ S'.D = S.D := by
        rcases hcase with h | ⟨h, _⟩ | ⟨h, _⟩ | ⟨h, _⟩
        · exact h
        · cases h
        · cases h
        · cases h
      refine (recover_calls w' base p d B' S' Sp (m + 1) (hid P') (hid t2) (hid (ht.out.qp Q')) (hid (by rw [hD]; exact hon.out)) (hid (by rw [hD]; exact hl.out)) (hid (by rw [hD]; exact hc.out)) h4 (hid ⟨by rw [hD]; exact hf.out.1.less (by omega), by have := hf.out.2; omega⟩)).mono ?_
      rintro en w2 ⟨rp, pd, rfl, hh⟩
      obtain ⟨P2, Q2, N2⟩ := hh.out
      rw [hD] at P2 N2 ⊢
      by_cases e0 : (recoverR S.D).2 = 0
      · exact .inl ⟨by rw [e0], _, _, P2, Q'.trans Q2, RD _ (Q'.trans Q2), ⟨t1, t2, t3, t4, fun hh => (N2 hh).trans (t5 hh)⟩, .inr (.inl ⟨rfl, rfl, e0⟩)⟩
      · have eo : openR S.D = recoverR S.D := by unfold openR; rw [seqR_cons, if_neg e0]
        exact .inr ⟨_, e0, rfl, by rw [eo], by rw [eo]; exact ⟨_, P2.disk⟩, Q'.trans Q2⟩
    | 1, hx =>
      obtain rfl := Option.some.inj hx
      obtain ⟨_, hD, e0⟩ : (1 : Nat) = 1 ∧ S'.D = (recoverR S.D).1 ∧ (recoverR S.D).2 = 0 := by
        rcases hcase with ⟨h, _⟩ | h | ⟨h, _⟩ | ⟨h, _⟩
        · cases h
        · exact h
        · cases h
        · cases h
      refine (cleanP_calls w' base p d B' S' (hid P') (hid t2) (hid (by rw [hD]; exact r3.disk (by have := hf.out.2; omega)))).mono ?_
      rintro en w2 ⟨rfl, hh⟩
      obtain ⟨⟨pd, P2⟩, Q2⟩ := hh.out
      rw [hD] at P2 ⊢
      by_cases e1 : (cleanR (recoverR S.D).1).2 = 0
      · exact .inl ⟨by rw [e1], _, _, P2, Q'.trans Q2, RD _ (Q'.trans Q2), ⟨t1, t2, t3, t4, t5⟩, .inr (.inr (.inl ⟨rfl, rfl, e0, e1⟩))⟩
      · have eo : openR S.D = cleanR (recoverR S.D).1 := by unfold openR; rw [seqR_cons, if_pos e0, seqR_cons, if_neg e1]
        exact .inr ⟨_, e1, rfl, by rw [eo], by rw [eo]; exact ⟨_, P2.disk⟩, Q'.trans Q2⟩
    | 2, hx =>
      obtain rfl := Option.some.inj hx
      obtain ⟨_, hD, e0, e1⟩ : (2 : Nat) = 2 ∧ S'.D = (cleanR (recoverR S.D).1).1 ∧ (recoverR S.D).2 = 0 ∧ (cleanR (recoverR S.D).1).2 = 0 := by
        rcases hcase with ⟨h, _⟩ | ⟨h, _⟩ | h | ⟨h, _⟩
        · cases h
        · cases h
        · exact h
        · cases h
      obtain ⟨q1, q2, q3⟩ := r4 e0
      have hq : DataIs S'.D.f0 Sp := by
        rcases clean_spec q1 q2 q3 (r1.on e0) r3 hf.out.2 with ⟨c0, _⟩ | ⟨_, _, e, _⟩
        · rw [c0] at e1; cases e1
        · rw [hD]; exact e.data
      have hlen : S'.D.f0.now.length = 4 * Sp.length := by rw [hq.1, flat4_len]
      refine (wholeP_calls w' base p d B' S' Sp.length (hid P') (hid ⟨hlen, h4.out⟩)).mono ?_
      rintro en w2 ⟨rfl, hh⟩
      obtain ⟨P2, Q2⟩ := hh.out
      have hw0 : wholeE S'.D = 0 := by unfold wholeE; rw [if_pos (by have := h4.out; omega)]
      have eo : openR S.D = (S'.D, 0) := by
        unfold openR
        rw [seqR_cons, if_pos e0, seqR_cons, if_pos e1, seqR_cons, seqR_nil, ← hD, hw0]
        rfl
      exact .inl ⟨rfl, _, _, P2, Q'.trans Q2, RD _ (Q'.trans Q2), ⟨t1, t2, t3, t4, t5⟩, .inr (.inr (.inr ⟨rfl, by rw [eo], rfl, by rw [eo]⟩))⟩
    | k + 3, hx => cases hx
end Go.Proofs.YtbcghggkfnagoaaGreatDoor

namespace Go.Proofs.YtbcghggkfnagoaaGreatDoor
open Go Go.RowKit Go.Maps Hach

def OpenP (w : World) (base d : Nat) (D : DiskV) (room : Int) (cnt : Nat) (en : Ending) (w' : World) : Prop :=
  (∃ p, en = .returned (.tuple #[.pointer (some ⟨p, 0, none⟩), .int .i64 0]) ∧ Hid ((openR D).2 = 0 ∧ Qp base w w' ∧ w.heap.size ≤ p ∧ ∃ B rp, PgAt w' base p d B ⟨(openR D).1, ⟨room, 0, 0, []⟩, cnt, none, false, 0, rp⟩ ∧ (hotS D.f1.now = false → rp = 0))) ∨
  (en = .returned (.tuple #[.pointer none, .int .i64 (openR D).2]) ∧ Hid ((openR D).2 ≠ 0 ∧ DiskM w' base d (openR D).1 ∧ Qp base w w'))
set_option maxRecDepth 100000 in
set_option maxHeartbeats 2000000 in
theorem openP_calls (w : World) (base d : Nat) (D : DiskV) (room : Int) (Sp : List (List UInt8)) (m : Int) (hd : Hid (DiskM w base d D)) (hb : Hid (base ≤ w.heap.size)) (ht : Hid (Tab base w)) (hon : Hid (D.on = true)) (hl : Hid (D.f1.now.length < 1000000)) (hc : Hid (RecD D Sp)) (h4 : Hid (Sp.length ≤ 4000)) (hf : Hid (Fit D (m + 3 + Sp.length) ∧ 0 ≤ m)) (hr : Hid (8 ≤ room ∧ room ≤ 4096)) :
    Calls Tryz.prog 21 #[.pointer (some ⟨d, 0, none⟩), .int .i64 room] w (OpenP w base d D room Sp.length) := by
  obtain ⟨p0, hp0⟩ := hd.out
  have hrm : ¬ D.room = 0 := by have := hp0.room; omega
  have h8 : ¬ room < 8 := by have := hr.out; omega
  have HP0 := hid hp0
  clear hp0
  have NC := new_calls w room (by have := hr.out; omega) hr.out.2
  unfold NewRet ptr at NC
  go_enter Tryz.func21, Tryz.ntmps21
  go_wp2_with (go_at_call 72; refine NC.mono ?_; rintro e w1 ⟨c, mp, r, rfl, h1⟩)
  have U1 : Hid (Up w w1) := hid h1.out.2
  have CA := hid (CacheAt.lower h1.out.1 hb.out)
  have MPN : Hid (w.heap.size ≤ mp) := hid h1.out.1.lows.2.2.1
  clear h1
  have HD1 := hid (hd.out.up U1.out)
  go_wp2_with (go_at_call 73; refine (droom_calls w1 base d D HD1).mono ?_; rintro e w' ⟨rfl, hw⟩; obtain rfl := hw.symm)
  obtain ⟨wp, hwp⟩ : ∃ x, w1.alloc (.cells #[.pointer (some ⟨d, 0, none⟩), .pointer (some ⟨c, 0, none⟩), .int .i64 0, .pointer none, .bool false, .int .i64 0, .int .i64 0] 80) = x := ⟨_, rfl⟩
  have uP : Up w1 wp := by rw [← hwp]; exact upAlD (Up.refl w1) _
  have hsz : wp.heap.size = w1.heap.size + 1 := by rw [← hwp]; simp
  have UW : Up wp (wp.alloc (.cells ((openFs w1.heap.size).map fnv).toArray 53)) := upAlD (Up.refl wp) _
  have P0 : PgAt wp base w1.heap.size d ⟨c, p0, mp, 0, 0, [], none, 0, []⟩ ⟨D, ⟨room, 0, 0, []⟩, 0, none, false, 0, 0⟩ := by
    refine ⟨by rw [← hwp]; exact heap_alloc_new w1 _, (HP0.out.up U1.out).up uP, ⟨r, [], CA.out.up uP, rfl⟩, fun T hT => (by cases hT), ?_, ?_⟩
    · have a := HP0.out.map0.lt
      have b := HP0.out.map1.lt
      have := MPN.out
      exact ⟨by show mp ≠ p0.m0; omega, by show mp ≠ p0.m1; omega⟩
    · show base ≤ w1.heap.size
      have := hb.out; have := U1.out.size; omega
  have CS := opSteps_calls (wp.alloc (.cells ((openFs w1.heap.size).map fnv).toArray 53)) base w1.heap.size d wp.heap.size 3 _ _ Sp m (hid (P0.up UW)) (hid ⟨rfl, rfl, rfl, rfl⟩) (hid (((ht.out.up U1.out).up uP).up UW)) hon hl hc h4 hf (hid (heap_alloc_new wp _))
  have QW := hid (Qp.up ((U1.out.t uP).t UW) hb.out)
  have BZ : Hid (w.heap.size ≤ w1.heap.size) := hid U1.out.size
  rw [hsz] at CS
  rw [hwp]
  clear hwp uP hsz hrm h8 P0 UW CA MPN HD1 HP0 NC
  refine CS.mono ?_
  rintro en w5 (⟨rfl, h5⟩ | ⟨e, e0, rfl, h5⟩)
  · obtain ⟨B', S', P', Q', _, ⟨t1, t2, t3, t4, t5⟩, hcase⟩ := h5
    obtain ⟨_, q1, q2, q3⟩ : (3 : Nat) = 3 ∧ S'.D = (openR D).1 ∧ S'.count = Sp.length ∧ (openR D).2 = 0 := by
      rcases hcase with ⟨h, _⟩ | ⟨h, _⟩ | ⟨h, _⟩ | h
      · cases h
      · cases h
      · cases h
      · exact h
    have RES : Hid ((openR D).2 = 0 ∧ Qp base w w5 ∧ w.heap.size ≤ w1.heap.size ∧ ∃ B rp, PgAt w5 base w1.heap.size d B ⟨(openR D).1, ⟨room, 0, 0, []⟩, Sp.length, none, false, 0, rp⟩ ∧ (hotS D.f1.now = false → rp = 0)) := by
      refine hid ⟨q3, QW.out.trans Q', BZ.out, B', S'.rep, ?_, t5⟩
      obtain ⟨SD, SC, Sc, ST, Sd, Sm, Sr⟩ := S'
      simp only at q1 q2 t1 t2 t3 t4
      subst q1; subst q2; subst t1; subst t2; subst t3; subst t4
      exact P'
    clear P' Q' hcase t1 t2 t3 t4 t5 q1 q2 q3 CS QW BZ
    go_wp2
    go_ret2
    exact .inl ⟨_, rfl, RES⟩
  · obtain ⟨he, hdm, hq⟩ := h5
    have HE := hid he
    have RES : Hid ((openR D).2 ≠ 0 ∧ DiskM w5 base d (openR D).1 ∧ Qp base w w5) := hid ⟨by rw [← he]; exact e0, hdm, QW.out.trans hq⟩
    clear hdm hq CS QW BZ he
    go_wp2
    go_ret2
    exact .inr ⟨by rw [← HE.out]; rfl, RES⟩
end Go.Proofs.YtbcghggkfnagoaaGreatDoor

namespace Go.Proofs.YtbcghggkfnagoaaGreatDoor
open Go Go.RowKit Go.Maps Hach
section
variable {w w' : World} {base p d : Nat} {B : PgB} {S : PgV}
end
section
variable (w : World) (base p d : Nat) (B : PgB) (S : PgV)
end
end Go.Proofs.YtbcghggkfnagoaaGreatDoor

namespace Go.Proofs.YtbcghggkfnagoaaGreatDoor
open Go Go.RowKit Go.Maps Hach

def seed7 (s : UInt8) (i : Nat) : UInt8 := s + UInt8.ofNat (i / 97)
def page7 (n : Nat) (s : UInt8) : List UInt8 := (List.range n).map (seed7 s)
def Own7 (w : World) (xs : List UInt8) (en : Ending) (w' : World) : Prop := ∃ A c, en = .returned (.slice A xs.length c) ∧ Hid (OwnB w' w.heap.size A c xs ∧ Up w w')
structure ActV7 where
  kind : Int
  n : Int
  seed : UInt8
  short : Bool
def act7D (a : ActV7) : List UInt8 := if a.short = true then [a.seed] else page7 512 a.seed
end Go.Proofs.YtbcghggkfnagoaaGreatDoor

namespace Go.Proofs.YtbcghggkfnagoaaGreatDoor
open Go Go.RowKit Go.Maps Hach

theorem new_open (room : Int) : openR (newD room) = (newD room, 0) := by
  have h1 : recoverR (newD room) = (newD room, 0) := by
    unfold recoverR
    exact if_neg (show ¬ hotS [] = true by decide)
  have h2 : cleanR (newD room) = (newD room, 0) := by unfold cleanR; exact if_pos rfl
  have h3 : wholeE (newD room) = 0 := by unfold wholeE; exact if_pos ⟨rfl, by show 0 / 4 ≤ 4000; decide⟩
  unfold openR
  simp only [seqR_cons, seqR_nil, h1, h2, h3, if_true]
theorem new_quiet (room : Int) : QuietD (newD room) [] := ⟨⟨rfl, rfl, rfl⟩, rfl, rfl, rfl⟩
theorem new_rec (room : Int) : RecD (newD room) [] := .inl ⟨⟨rfl, rfl, rfl⟩, rfl, rfl, rfl⟩
theorem no_ok : FileOk fileNo := ⟨fun x hx => (by cases hx), fun x hx => (by cases hx), List.Pairwise.nil, fun x hx => (by cases hx), Nat.le_refl _⟩
theorem new_fit (room : Int) (h0 : 0 ≤ room) : Fit (newD room) 100000 :=
  ⟨no_ok, no_ok, ⟨⟨by show (0 : Int) ≤ 0; decide, by show (0 : Int) < _; decide⟩, ⟨by show (0 : Int) ≤ 0; decide, by show (0 : Int) < _; decide⟩, h0⟩, by show (0 : Int) + 100000 < _; decide, by show 0 < _; decide⟩
theorem good0 : GoodR [] [] := ⟨List.Pairwise.nil, fun r hr => (by cases hr), fun b hb => (by cases hb)⟩
theorem bef0 (w : World) (base p d : Nat) (B : PgB) (S : PgV) (h : Hid (PgAt w base p d B S)) (hc : Hid (S.count = 0)) (hC : Hid (CacheOk [] S.C.V)) :
    Hid (∀ w1, Up w w1 → Calls Tryz.prog 87 #[.pointer (some ⟨p, 0, none⟩)] w1 (BefRet w1 base p d B S [] [])) := hid fun w1 hu => by
  refine (before0_calls w1 p _ _ _ (hid (h.out.up hu).own) (by show (S.count : Int) = 0; rw [hc.out]; rfl)).mono ?_
  rintro en w' ⟨rfl, rfl⟩
  exact ⟨none, 0, 0, S.C, rfl, hid ⟨⟨h.out.up hu, hC.out, rfl⟩, Qp.refl _ _, rfl, Nat.le_refl _, [], ⟨rfl, .inl ⟨rfl, rfl⟩⟩, trivial⟩⟩
end Go.Proofs.YtbcghggkfnagoaaGreatDoor
