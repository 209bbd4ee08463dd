/- THE WALK of CacheCopies. -/
import Derived.Test.YtlikggeceeennaaActL
import Derived.Test.YtlikggeceeennaaCop2
import Derived.Test.YtlikggeceeennaaCop3
set_option linter.unusedVariables false
set_option linter.unusedSimpArgs false
namespace Go.Proofs.Ytlikggeceeennaa
open Go Go.RowKit Hach

set_option maxRecDepth 100000 in
set_option maxHeartbeats 2000000 in
theorem cacheCopies_walk (w : World) (A : Option Addr) (l : List ActV) (c : Nat) (hl : Hid (l.length ≤ 9223372036854775807)) (hr : Hid (Rd w A (l.flatMap actCells))) (hwf : Hid (∀ a ∈ l, ActWf a))
    (A2 : Option Addr) (l2 : List ActV) (c2 : Nat) (hl2 : Hid (l2.length ≤ 9223372036854775807)) (hr2 : Hid (Rd w A2 (l2.flatMap actCells))) (hwf2 : Hid (∀ a ∈ l2, ActWf a)) :
    Calls Try.prog 8 #[.slice A l.length c, .slice A2 l2.length c2] w fun en w' => en = .returned (.bool true) ∧ Below w.heap.size w w' := by
  obtain ⟨n, hn⟩ : ∃ n, l.length = n := ⟨_, rfl⟩
  obtain ⟨n2, hn2⟩ : ∃ n, l2.length = n := ⟨_, rfl⟩
  rw [hn, hn2]
  have HN := hid hn
  have HN2 := hid hn2
  clear hn hn2
  by_cases hlen : (100 : Int) < (n : Int)
  · go_enter Try.func8, Try.ntmps8
    go_wp2_with fail
    refine (new_calls w 4 (by decide) (by decide)).mono ?_
    rintro en w1 ⟨g, mp, r, rfl, h1⟩
    have C1 := hid (show CacheM w1 w.heap.size g mp 4 0 0 [] from ⟨r, [], h1.out.1, rfl⟩)
    have B1 := hid h1.out.2
    clear h1
    unfold ptr
    go_wp2_with fail
    refine (rnew_calls w1 4 (by decide) (by decide)).mono ?_
    rintro en w2 ⟨b, rfl, h2⟩
    obtain ⟨r2, u2, _⟩ := h2.out
    have START : Hid (SameI w w2 w.heap.size g mp w1.heap.size b 4 0) := hid ⟨[], 0, 0, C1.out.up u2, r2, Ok5.nil, ⟨by decide, by decide, by decide, by decide⟩, B1.out.trans (u2.mono B1.out.size)⟩
    have BR := hid B1.out.size
    have BD := hid (B1.out.trans (u2.mono B1.out.size))
    clear h2 r2 u2 C1 B1
    unfold ptr
    go_wp2_with fail
    refine (lives_calls _).mono ?_
    rintro en wz ⟨rfl, uz⟩
    go_wp2
    go_ret
    exact ⟨rfl, BD.out.trans (uz.mono BD.out.size)⟩
  have hlen2 : (n : Int) ≤ 100 := by omega
  have HLE := hid hlen2
  by_cases hmore : (100 : Int) < (n2 : Int)
  · go_enter Try.func8, Try.ntmps8
    go_wp2_with fail
    refine (new_calls w 4 (by decide) (by decide)).mono ?_
    rintro en w1 ⟨g, mp, r, rfl, h1⟩
    have C1 := hid (show CacheM w1 w.heap.size g mp 4 0 0 [] from ⟨r, [], h1.out.1, rfl⟩)
    have B1 := hid h1.out.2
    clear h1
    unfold ptr
    go_wp2_with fail
    refine (rnew_calls w1 4 (by decide) (by decide)).mono ?_
    rintro en w2 ⟨b, rfl, h2⟩
    obtain ⟨r2, u2, _⟩ := h2.out
    have START : Hid (SameI w w2 w.heap.size g mp w1.heap.size b 4 0) := hid ⟨[], 0, 0, C1.out.up u2, r2, Ok5.nil, ⟨by decide, by decide, by decide, by decide⟩, B1.out.trans (u2.mono B1.out.size)⟩
    have BR := hid B1.out.size
    have BD := hid (B1.out.trans (u2.mono B1.out.size))
    clear h2 r2 u2 C1 B1
    unfold ptr
    go_wp2_with fail
    refine (lives_calls _).mono ?_
    rintro en wz ⟨rfl, uz⟩
    go_wp2
    go_ret
    exact ⟨rfl, BD.out.trans (uz.mono BD.out.size)⟩
  have hmore2 : (n2 : Int) ≤ 100 := by omega
  have HLE2 := hid hmore2
  clear hlen2 hmore2
  go_enter Try.func8, Try.ntmps8
  go_wp2_with fail
  refine (new_calls w 4 (by decide) (by decide)).mono ?_
  rintro en w1 ⟨g, mp, r, rfl, h1⟩
  have C1 := hid (show CacheM w1 w.heap.size g mp 4 0 0 [] from ⟨r, [], h1.out.1, rfl⟩)
  have B1 := hid h1.out.2
  clear h1
  unfold ptr
  go_wp2_with fail
  refine (rnew_calls w1 4 (by decide) (by decide)).mono ?_
  rintro en w2 ⟨b, rfl, h2⟩
  obtain ⟨r2, u2, _⟩ := h2.out
  have START : Hid (SameI w w2 w.heap.size g mp w1.heap.size b 4 0) := hid ⟨[], 0, 0, C1.out.up u2, r2, Ok5.nil, ⟨by decide, by decide, by decide, by decide⟩, B1.out.trans (u2.mono B1.out.size)⟩
  have BR := hid B1.out.size
  have BD := hid (B1.out.trans (u2.mono B1.out.size))
  clear h2 r2 u2 C1 B1
  unfold ptr
  have BRw := BR
  go_wp2
  go_loopw [34] (fun i wr => ∃ k : Nat, k ≤ n ∧ i = .int .i64 k ∧ Hid (SameI w wr w.heap.size g mp w1.heap.size b 4 k)) (fun i _ => n - (intOf i).toNat)
  case atStart => exact ⟨0, Nat.zero_le _, rfl, START⟩
  case round =>
    obtain ⟨k, hk, rfl, iv⟩ := hrel
    by_cases hlt : (k : Int) < n
    · have hkl : k < l.length := by have := HN.out; omega
      obtain ⟨V, h, m, cm, rm, ok, nm, bl⟩ := iv.out
      obtain ⟨gl, off, rfl, hgl, q0, q1, q2, q3⟩ := act_cells hr.out hkl
      have hwa := hwf.out l[k] (List.getElem_mem hkl)
      generalize l[k] = a at *
      have c0 : wr.cell? ⟨gl, off + k * 4, none⟩ = some (.int .i64 a.kind) := (bl.cell (p := ⟨gl, off + k * 4, none⟩) hgl).trans q0
      have c1 : wr.cell? ⟨gl, off + k * 4 + 1, none⟩ = some (.int .i64 a.page) := (bl.cell (p := ⟨gl, off + k * 4 + 1, none⟩) hgl).trans q1
      have c2 : wr.cell? ⟨gl, off + k * 4 + 2, none⟩ = some (.int .u8 (n8 a.seed)) := (bl.cell (p := ⟨gl, off + k * 4 + 2, none⟩) hgl).trans q2
      have c3 : wr.cell? ⟨gl, off + k * 4 + 3, none⟩ = some (.bool a.short) := (bl.cell (p := ⟨gl, off + k * 4 + 3, none⟩) hgl).trans q3
      have uA : Up wr (wr.alloc (.cells #[.int .i64 a.kind, .int .i64 a.page, .int .u8 (n8 a.seed), .bool a.short] 51)) := upAl (Up.refl wr) _
      have CM := hid (cm.up uA)
      have RM := hid (rm.up uA)
      have OK := hid (And.intro ok nm)
      have BL := hid (bl.trans (uA.mono bl.size))
      have WA := hid hwa
      have HK := hid (And.intro hkl hlt)
      clear iv cm rm ok nm bl q0 q1 q2 q3 uA hwa hkl
      go_wp2_with fail
      refine (actG_calls _ w.heap.size g mp 4 h m V w1.heap.size b 4 h m V a (k) CM RM OK OK (by have := HLE.out; have := HK.out.2; omega) (hid WA.out.2)).mono ?_
      rintro en w3 ⟨rr, V2, h2, m2, U2, i2, j2, rfl, hh⟩
      obtain ⟨cm, rm, okv, oku, rest, same⟩ := hh.out
      obtain ⟨rfl, rfl, rfl, rfl⟩ := same rfl rfl rfl rfl
      have NI : Hid (SameI w w3 w.heap.size g mp w1.heap.size b 4 ((k + 1))) := hid ⟨V2, h2, m2, cm, rm, okv.1, okv.2, BL.out.trans (rest.1 _ (Nat.le_refl _) BRw.out)⟩
      clear hh cm rm okv oku rest same CM RM OK BL c0 c1 c2 c3
      go_wp2
      go_roundw
      case rel => exact ⟨k + 1, by have := HK.out.2; omega, rfl, NI⟩
      case measure => have := HLE.out; have := HK.out.2; simp only [intOf]; omega
    · have hk2 : k ≤ 100 := by have := HLE.out; omega
      have HK2 := hid hk2
      obtain ⟨V, h, m, cm, rm, ok, nm, bl⟩ := iv.out
      have CM := hid cm
      have RM := hid rm
      have OK := hid (And.intro ok nm)
      have BL := hid bl
      have LV : Hid (V.length < 1000000) := hid (by have := ok.len; omega)
      have R2W := hid (hr2.out.grown bl)
      clear iv cm rm ok nm bl START BD hr hk2
      go_wp2_with fail
      refine (copy_calls wr w.heap.size g mp 4 h m V CM (hid ⟨by decide, by decide⟩) LV).mono ?_
      rintro en wc ⟨gd, mpd, rfl, hc⟩
      have CD := hid hc.out.1
      have UC := hid hc.out.2
      have RMc := hid (RM.out.up hc.out.2)
      clear hc
      unfold ptr
      go_wp2_with fail
      refine (rcopy_calls wc w1.heap.size b 4 h m V RMc LV).mono ?_
      rintro en we ⟨bn, rfl, hc⟩
      have START2 : Hid (SameI wr we wr.heap.size gd mpd wc.heap.size bn 4 (k + 0)) := hid ⟨V, h, m, CD.out.up hc.out.2, hc.out.1, OK.out.1, OK.out.2, UC.out.trans (hc.out.2.mono UC.out.size)⟩
      have BRwr : Hid (wr.heap.size ≤ wc.heap.size) := hid UC.out.size
      clear hc CD RMc
      unfold ptr
      obtain ⟨K, hK⟩ : ∃ z, k = z := ⟨_, rfl⟩
      have HKK := hid hK
      rw [hK] at START2
      generalize hW : wr = W at *
      go_wp2
      go_loopw [49] (fun i w9 => ∃ k : Nat, k ≤ n2 ∧ i = .int .i64 k ∧ Hid (SameI W w9 W.heap.size gd mpd wc.heap.size bn 4 (K + k))) (fun i _ => n2 - (intOf i).toNat)
      case atStart => exact ⟨0, Nat.zero_le _, rfl, START2⟩
      case round =>
        obtain ⟨k, hk, rfl, iv⟩ := hrel
        by_cases hlt : (k : Int) < n2
        · have hkl : k < l2.length := by have := HN2.out; omega
          obtain ⟨V, h, m, cm, rm, ok, nm, bl⟩ := iv.out
          obtain ⟨gl, off, rfl, hgl, q0, q1, q2, q3⟩ := act_cells R2W.out hkl
          have hwa := hwf2.out l2[k] (List.getElem_mem hkl)
          generalize l2[k] = a at *
          have c0 : wr.cell? ⟨gl, off + k * 4, none⟩ = some (.int .i64 a.kind) := (bl.cell (p := ⟨gl, off + k * 4, none⟩) hgl).trans q0
          have c1 : wr.cell? ⟨gl, off + k * 4 + 1, none⟩ = some (.int .i64 a.page) := (bl.cell (p := ⟨gl, off + k * 4 + 1, none⟩) hgl).trans q1
          have c2 : wr.cell? ⟨gl, off + k * 4 + 2, none⟩ = some (.int .u8 (n8 a.seed)) := (bl.cell (p := ⟨gl, off + k * 4 + 2, none⟩) hgl).trans q2
          have c3 : wr.cell? ⟨gl, off + k * 4 + 3, none⟩ = some (.bool a.short) := (bl.cell (p := ⟨gl, off + k * 4 + 3, none⟩) hgl).trans q3
          have uA : Up wr (wr.alloc (.cells #[.int .i64 a.kind, .int .i64 a.page, .int .u8 (n8 a.seed), .bool a.short] 51)) := upAl (Up.refl wr) _
          have CM := hid (cm.up uA)
          have RM := hid (rm.up uA)
          have OK := hid (And.intro ok nm)
          have BL := hid (bl.trans (uA.mono bl.size))
          have WA := hid hwa
          have HK := hid (And.intro hkl hlt)
          clear iv cm rm ok nm bl q0 q1 q2 q3 uA hwa hkl
          go_wp2_with fail
          refine (actG_calls _ W.heap.size gd mpd 4 h m V wc.heap.size bn 4 h m V a (K + k) CM RM OK OK (by have := HLE2.out; have := HK.out.2; have := HK2.out; have := HKK.out; omega) (hid WA.out.2)).mono ?_
          rintro en w3 ⟨rr, V2, h2, m2, U2, i2, j2, rfl, hh⟩
          obtain ⟨cm, rm, okv, oku, rest, same⟩ := hh.out
          obtain ⟨rfl, rfl, rfl, rfl⟩ := same rfl rfl rfl rfl
          have NI : Hid (SameI W w3 W.heap.size gd mpd wc.heap.size bn 4 (K + (k + 1))) := hid ⟨V2, h2, m2, cm, rm, okv.1, okv.2, BL.out.trans (rest.1 _ (Nat.le_refl _) BRwr.out)⟩
          clear hh cm rm okv oku rest same CM RM OK BL c0 c1 c2 c3
          go_wp2
          go_roundw
          case rel => exact ⟨k + 1, by have := HK.out.2; omega, rfl, NI⟩
          case measure => have := HLE2.out; have := HK.out.2; simp only [intOf]; omega
        · obtain ⟨V2, h2, m2, cm, rm, ok, nm, bl⟩ := iv.out
          have hk3 : k ≤ 100 := by have := HLE2.out; omega
          have CE := hid (CM.out.up bl)
          have RE := hid (RM.out.up bl)
          have CD := hid cm
          have RD := hid rm
          have OK2 := hid (And.intro ok nm)
          have BE := hid (BL.out.trans (bl.mono BL.out.size))
          have HK3 := hid hk3
          clear iv cm rm ok nm bl hk3 CM RM
          go_wp2_with fail
          refine (alike_calls _ w.heap.size g mp 4 h m V w1.heap.size b 1 _ CE RE (hid ⟨OK.out.1, by have := HK2.out; omega⟩) (hid (by decide))).mono ?_
          rintro en wf ⟨rfl, uf⟩
          have UF := hid uf
          clear uf
          go_wp2_with fail
          refine (alike_calls _ W.heap.size gd mpd 4 h2 m2 V2 wc.heap.size bn 1 _ (hid (CD.out.up UF.out)) (hid (RD.out.up UF.out)) (hid ⟨OK2.out.1, by have := HK2.out; have := HKK.out; have := HK3.out; omega⟩) (hid (by decide))).mono ?_
          rintro en wg ⟨rfl, ug⟩
          go_wp2_with fail
          refine (lives_calls _).mono ?_
          rintro en wz ⟨rfl, uz⟩
          have UZ := hid (UF.out.t (ug.t uz))
          clear ug uz
          go_wp2
          go_ret
          exact ⟨rfl, BE.out.trans (UZ.out.mono BE.out.size)⟩
end Go.Proofs.Ytlikggeceeennaa
