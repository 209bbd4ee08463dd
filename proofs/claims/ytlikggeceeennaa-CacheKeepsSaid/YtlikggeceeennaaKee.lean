/- THE WALK of CacheKeeps. -/
import Derived.Test.YtlikggeceeennaaKee0
import Derived.Test.YtlikggeceeennaaCac13
set_option linter.unusedVariables false
set_option linter.unusedSimpArgs false
namespace Go.Proofs.Ytlikggeceeennaa
open Go Go.RowKit Hach

/-- What holds ahead of the k-th. -/
def KeepI (w wr : World) (g mp : Nat) (room : Int) (k : Nat) : Prop := ∃ V h m, CacheM wr w.heap.size g mp room h m V ∧ Ok5 V k ∧ Nums h m k ∧ Below w.heap.size w wr

/-- What goes on being so while nothing is changed. -/
def KS (w W : World) (bx : Nat) (a : ActV) (g mp : Nat) (room h m : Int) (V : List Vis) : Prop := CacheM W w.heap.size g mp room h m V ∧ BoxAt W bx a ∧ Below w.heap.size w W
theorem KS.up {w W W' : World} {bx : Nat} {a : ActV} {g mp : Nat} {room h m : Int} {V : List Vis} (k : KS w W bx a g mp room h m V) (u : Up W W') : KS w W' bx a g mp room h m V := ⟨k.1.up u, k.2.1.up u, k.2.2.trans (u.mono k.2.2.size)⟩
theorem KS.grow {w W W' : World} {bx : Nat} {a : ActV} {g mp : Nat} {room h m : Int} {V : List Vis} {n c : Nat} {A : Option Addr} {xs : List Value} (k : KS w W bx a g mp room h m V) (ho : W.ownsRow w.heap.size 3 1 (.slice A n c) n xs) (hg : W.grownBy W' (Value.slice A n c).ownBlock) : KS w W' bx a g mp room h m V :=
  ⟨k.1.grow ho (by decide) hg, ((Fr.of_grown hg).block bx (Array.getElem?_eq_some_iff.1 k.2.1).1 (fun e => own_ne ho k.2.1 (by decide) e.symm)).trans k.2.1, below_append k.2.2 (Nat.le_refl _) k.2.2.size ho hg⟩
def LoopP (w3 wr : World) (V : List Vis) (j : Nat) (A : Option Addr) (m c : Nat) : Prop := m = (pinned V ((V.map (·.1)).take j)).length ∧ wr.ownsRow w3.heap.size 3 1 (.slice A m c) m ((pinned V ((V.map (·.1)).take j)).map intCell) ∧ Up w3 wr
theorem pinned_step {V : List Vis} {L : List Int} {j : Nat} (hj : j < L.length) : pinned V (L.take (j + 1)) = pinned V (L.take j) ++ if 0 < pinsV L[j] V then [L[j]] else [] := by
  rw [List.take_succ_eq_append_getElem hj]
  unfold pinned
  rw [List.filter_append, List.filter_cons, List.filter_nil]
  congr 1
  by_cases h : 0 < pinsV L[j] V
  · rw [if_pos h, if_pos (decide_eq_true h)]
  · rw [if_neg h, if_neg (by simpa using h)]
theorem pinned_len (V : List Vis) (L : List Int) : (pinned V L).length ≤ L.length := List.length_filter_le _ _
theorem int_at {w : World} {A : Option Addr} {L : List Int} (h : Rd w A (L.map intCell)) {j : Nat} (hj : j < L.length) : ∃ g off, A = some ⟨g, off, none⟩ ∧ w.cell? ⟨g, off + j, none⟩ = some (.int .i64 L[j]) :=
  h j (intCell L[j]) (by rw [List.getElem?_map, List.getElem?_eq_getElem hj]; rfl)
theorem any_step {p : Int} {L : List Int} {j : Nat} (hj : j < L.length) (b : Bool) : (b || (L.take (j + 1)).any fun q => decide (p = q)) = ((b || (L.take j).any fun q => decide (p = q)) || decide (p = L[j])) := by
  rw [List.take_succ_eq_append_getElem hj, List.any_append, List.any_cons, List.any_nil, Bool.or_false, Bool.or_assoc]
set_option maxRecDepth 100000 in
set_option maxHeartbeats 2000000 in
theorem cacheKeeps_walk (w : World) (s : UInt8) (A : Option Addr) (l : List ActV) (c : Nat) (hl : Hid (l.length ≤ 9223372036854775807)) (hr : Hid (Rd w A (l.flatMap actCells))) (hwf : Hid (∀ a ∈ l, ActWf a)) :
    Calls Try.prog 6 #[.int .u8 (n8 s), .slice A l.length c] w fun en w' => en = .returned (.bool true) ∧ Below w.heap.size w w' := by
  obtain ⟨n, hn⟩ : ∃ n, l.length = n := ⟨_, rfl⟩
  rw [hn]
  have HN := hid hn
  clear hn
  by_cases hlen : (150 : Int) < (n : Int)
  · go_enter Try.func6, Try.ntmps6
    go_wp2_with fail
    refine (lives_calls _).mono ?_
    rintro en wz ⟨rfl, uz⟩
    go_wp2
    go_ret
    exact ⟨rfl, uz⟩
  have hlen2 : (n : Int) ≤ 150 := by omega
  have HLE := hid hlen2
  clear hlen2
  have s0 := n8_lo s
  have s1 := n8_hi s
  go_enter Try.func6, Try.ntmps6
  go_wp2_with fail
  obtain ⟨room, hN⟩ : ∃ r : Int, 1 + n8 s % 6 = r := ⟨_, rfl⟩
  have HR : Hid (1 ≤ room ∧ room ≤ 6) := hid (by omega)
  rw [hN]
  clear hN s0 s1
  refine (new_calls w room HR.out.1 (by have := HR.out.2; omega)).mono ?_
  rintro en w1 ⟨g, mp, r, rfl, h1⟩
  have START : Hid (KeepI w w1 g mp room 0) := hid ⟨[], 0, 0, ⟨r, [], h1.out.1, rfl⟩, Ok5.nil, ⟨by decide, by decide, by decide, by decide⟩, h1.out.2⟩
  clear h1
  unfold ptr
  go_wp2
  go_loopw [34] (fun i wr => ∃ k : Nat, k ≤ n ∧ i = .int .i64 k ∧ Hid (KeepI w wr g mp room k)) (fun i _ => n - (intOf i).toNat)
  case atStart => exact ⟨0, Nat.zero_le _, rfl, START⟩
  case round =>
    obtain ⟨k, hk, rfl, iv⟩ := hrel
    by_cases hlt : (k : Int) < n
    · have hkl : k < l.length := by have := HN.out; omega
      obtain ⟨V, h, m, cm, ok, nm, bl⟩ := iv.out
      obtain ⟨gl, off, rfl, hgl, q0, q1, q2, q3⟩ := act_cells hr.out hkl
      have hwa := hwf.out l[k] (List.getElem_mem hkl)
      generalize l[k] = a at *
      have c0 : wr.cell? ⟨gl, off + k * 4, none⟩ = some (.int .i64 a.kind) := (bl.cell (p := ⟨gl, off + k * 4, none⟩) hgl).trans q0
      have c1 : wr.cell? ⟨gl, off + k * 4 + 1, none⟩ = some (.int .i64 a.page) := (bl.cell (p := ⟨gl, off + k * 4 + 1, none⟩) hgl).trans q1
      have c2 : wr.cell? ⟨gl, off + k * 4 + 2, none⟩ = some (.int .u8 (n8 a.seed)) := (bl.cell (p := ⟨gl, off + k * 4 + 2, none⟩) hgl).trans q2
      have c3 : wr.cell? ⟨gl, off + k * 4 + 3, none⟩ = some (.bool a.short) := (bl.cell (p := ⟨gl, off + k * 4 + 3, none⟩) hgl).trans q3
      have uA : Up wr (wr.alloc (.cells #[.int .i64 a.kind, .int .i64 a.page, .int .u8 (n8 a.seed), .bool a.short] 51)) := upAl (Up.refl wr) _
      have bxA : BoxAt (wr.alloc (.cells #[.int .i64 a.kind, .int .i64 a.page, .int .u8 (n8 a.seed), .bool a.short] 51)) wr.heap.size a := heap_alloc_new wr _
      have KA := hid (show KS w _ wr.heap.size a g mp room h m V from ⟨cm.up uA, bxA, bl.trans (uA.mono bl.size)⟩)
      have OK := hid (And.intro ok nm)
      have WA := hid hwa
      have HK := hid (And.intro hkl hlt)
      have HLV : Hid (V.length < 1000000 ∧ V.length ≤ 150) := hid (by have := ok.len; have := HLE.out; omega)
      have CW : Hid (∀ v ∈ V, (Lit.int .i64 v.1).wf = true) := hid cm.wf
      clear iv cm ok nm bl q0 q1 q2 q3 uA bxA hwa hkl
      obtain ⟨bx, hbx⟩ : ∃ z, wr.heap.size = z := ⟨_, rfl⟩
      go_wp2_with fail
      refine (dirtyM_calls _ w.heap.size g mp room h m V (hid KA.out.1) (hid HLV.out.1)).mono ?_
      rintro en w2 ⟨A1, cc1, n1, rfl, d1⟩
      have K2 := hid (KA.out.up d1.out.2.2)
      have D2 := hid (And.intro d1.out.1 (own_base d1.out.2.1 KA.out.2.2.size))
      rw [hbx] at K2 KA
      clear d1 c0 c1 c2 c3 KA hbx
      go_wp2_with fail
      refine (orderM_calls _ w.heap.size g mp room h m V (hid K2.out.1) (hid HLV.out.1)).mono ?_
      rintro en w3 ⟨A2, cc2, n2, rfl, d2⟩
      have K3 := hid (K2.out.up d2.out.2.2)
      have D3 := hid (And.intro D2.out.1 ((Fr.of_below d2.out.2.2).own D2.out.2 (fun _ _ => id)))
      have L3 := hid (show n2 = (V.map (·.1)).length ∧ Rd w3 A2 ((V.map (·.1)).map intCell) from ⟨d2.out.1, Rd.own d2.out.2.1⟩)
      clear d2 D2 K2
      go_wp2
      have START1 : Hid (LoopP w3 w3 V 0 none 0 0) := hid ⟨rfl, own_nil _ _ _ _, Up.refl _⟩
      go_loopw [10, 43] (fun pv i w4 => ∃ (j : Nat) (A3 : Option Addr) (m3 c3 : Nat), j ≤ n2 ∧ pv = .slice A3 m3 c3 ∧ i = .int .i64 j ∧ Hid (LoopP w3 w4 V j A3 m3 c3)) (fun _ i _ => n2 - (intOf i).toNat)
      case atStart => exact ⟨0, none, 0, 0, Nat.zero_le _, rfl, rfl, START1⟩
      case round =>
        obtain ⟨j, A3, m3, c3, hj, rfl, rfl, iv⟩ := hrel
        by_cases hlj : (j : Int) < n2
        · have hjl : j < (V.map (·.1)).length := by have := L3.out.1; omega
          obtain ⟨hm3, o3, u3⟩ := iv.out
          obtain ⟨gp, op, rfl, cp⟩ := int_at (L3.out.2.grown u3) hjl
          have hmem := List.getElem_mem hjl
          have hst := pinned_step (V := V) hjl
          have hpl := pinned_len V ((V.map (·.1)).take j)
          rw [List.length_take, ← hm3, List.length_map] at hpl
          generalize (V.map (·.1))[j] = p at *
          have WP : Hid ((Lit.int .i64 p).wf = true) := by
            obtain ⟨v, hv, e⟩ := List.mem_map.1 hmem
            exact hid (by rw [← e]; exact CW.out v hv)
          have LP := hid (show LoopP w3 wr V j A3 m3 c3 from ⟨hm3, o3, u3⟩)
          have ST := hid hst
          have HJ : Hid (j < n2 ∧ j < 150) := hid (by have h1 := hjl; have h2 := HLV.out.2; have h3 := L3.out.1; rw [List.length_map] at h1; omega)
          have HM : Hid (m3 ≤ 150) := hid (by have := HLV.out.2; omega)
          have K4 := hid (K3.out.up u3)
          clear iv hm3 o3 u3 hmem hst hjl hpl
          go_wp2_with fail
          refine (pinsS_calls _ w.heap.size g mp room h m V p (hid K4.out.1) WP).mono ?_
          rintro en w5 ⟨rfl, u5⟩
          have L5 := hid (show LoopP w3 w5 V j A3 m3 c3 from ⟨LP.out.1, (Fr.of_below u5).own LP.out.2.1 (fun _ _ => id), LP.out.2.2.t u5⟩)
          generalize pinsV p V = q at *
          clear u5 LP cp
          by_cases hq : 0 < q
          · have e1 := ST.out
            rw [if_pos hq] at e1
            have ST1 := hid e1
            clear ST e1
            obtain ⟨x5, o5, u5⟩ := L5.out
            have o6 := World.ownsRow.alloc o5 (.cells #[.int .i64 p] 3)
            have u6 : Up w3 (w5.alloc (.cells #[.int .i64 p] 3)) := upAl u5 _
            have U6 := hid u6
            clear u5
            have hs6 : w3.heap.size ≤ (w5.alloc (.cells #[.int .i64 p] 3)).heap.size := u6.size
            clear u6 o5 x5
            go_wp2_with (at_builtin; refine hold ?_)
            refine hid (wl_append elemI rfl (.tmp 51) (.tmp 53) rfl rfl o6 rfl (Rd.new w5 3 (0, 0) [.int .i64 p]) rfl (by simp [Value.oneCell']) (by have := HM.out; simp only [maxLen]; omega) (by have := HM.out; omega) hs6 ?_)
            intro A7 c7 w7 o7 g7 d7
            have L7 := hid (show LoopP w3 w7 V (j + 1) A7 (m3 + 1) c7 from ⟨by rw [ST1.out, List.length_append, ← L5.out.1]; rfl, by rw [ST1.out, List.map_append]; exact o7, below_append U6.out (Nat.le_refl _) hs6 o6 g7⟩)
            clear o7 g7 d7 o6 hs6
            go_wp2
            go_roundw
            case rel => exact ⟨j + 1, A7, m3 + 1, c7, HJ.out.1, rfl, by have := HJ.out.2; rw [show wrap64 ((j : Int) + 1) = ((j + 1 : Nat) : Int) by unfold wrap64; omega], L7⟩
            case measure => have := HJ.out; rw [show wrap64 ((j : Int) + 1) = ((j + 1 : Nat) : Int) by unfold wrap64; omega]; simp only [intOf]; omega
          · have e1 := ST.out
            rw [if_neg hq, List.append_nil] at e1
            have ST1 := hid e1
            clear ST e1
            go_wp2
            go_roundw
            case rel => exact ⟨j + 1, A3, m3, c3, HJ.out.1, rfl, by have := HJ.out.2; rw [show wrap64 ((j : Int) + 1) = ((j + 1 : Nat) : Int) by unfold wrap64; omega], hid ⟨by rw [ST1.out]; exact L5.out.1, by rw [ST1.out]; exact L5.out.2.1, L5.out.2.2⟩⟩
            case measure => have := HJ.out; rw [show wrap64 ((j : Int) + 1) = ((j + 1 : Nat) : Int) by unfold wrap64; omega]; simp only [intOf]; omega
        · have hjn : j = (V.map (·.1)).length := by have := L3.out.1; omega
          have PR : Hid (m3 = (pinned V (V.map (·.1))).length ∧ wr.ownsRow w3.heap.size 3 1 (.slice A3 m3 c3) m3 ((pinned V (V.map (·.1))).map intCell) ∧ m3 ≤ 150) := by
            obtain ⟨a1, a2, _⟩ := iv.out
            rw [hjn, List.take_length] at a1 a2
            have := pinned_len V (V.map (·.1))
            rw [List.length_map] at this
            exact hid ⟨a1, a2, by have := HLV.out.2; omega⟩
          have K4 := hid (K3.out.up iv.out.2.2)
          have D4 := hid (show n1 = (rising (dirtyOf V)).length ∧ wr.ownsRow w.heap.size 3 1 (.slice A1 n1 cc1) n1 ((rising (dirtyOf V)).map intCell) ∧ n1 ≤ 150 from ⟨D3.out.1, (Fr.of_below iv.out.2.2).own D3.out.2 (fun _ _ => id), by have := rising_length (dirtyOf V); have := dirtyOf_length V; have := D3.out.1; have := HLV.out.2; omega⟩)
          clear iv hjn D3 L3 K3 START1
          obtain ⟨b0, b1, b2, b3⟩ := K4.out.2.1.cells
          by_cases hk0 : a.kind = 0
          · rw [hk0] at b0
            go_wp2
            have HK0 := hid hk0
            clear hk0 b0 b1 b2 b3
            replace K4 := hid (K4.out.up (Up.drew _))
            have US := K4.out.2.1
            refine s_start (fun w9 => BoxAt w9 bx a) (by kernel_rfl) ?_
            refine s_take 0 (some 63) (v := ?_) US rfl rfl (by kernel_rfl) (by kernel_rfl) (by kernel_rfl) (fun _ _ _ h => h) (by rfl) (fun w9 hS => ?_) ?_
            rotate_left
            · go_simp <;> with_reducible rfl
            try simp only [Act.put, List.setIfInBounds_toArray, List.set_cons_zero, List.set_cons_succ]
            refine s_take 1 (some 64) (v := ?_) US rfl rfl (by kernel_rfl) (by kernel_rfl) (by kernel_rfl) (fun _ _ _ h => h) (by rfl) (fun w9 hS => ?_) ?_
            rotate_left
            · go_simp <;> with_reducible rfl
            try simp only [Act.put, List.setIfInBounds_toArray, List.set_cons_zero, List.set_cons_succ]
            refine s_take 2 (some 65) (v := ?_) US rfl rfl (by kernel_rfl) (by kernel_rfl) (by kernel_rfl) (fun _ _ _ h => h) (by rfl) (fun w9 hS => ?_) ?_
            rotate_left
            · obtain ⟨e0, e1, e2, e3⟩ := BoxAt.cells hS; go_simp <;> with_reducible rfl
            try simp only [Act.put, List.setIfInBounds_toArray, List.set_cons_zero, List.set_cons_succ]
            refine s_take 3 (some 66) (v := ?_) US rfl rfl (by kernel_rfl) (by kernel_rfl) (by kernel_rfl) (fun _ _ _ h => h) (by rfl) (fun w9 hS => ?_) ?_
            rotate_left
            · obtain ⟨e0, e1, e2, e3⟩ := BoxAt.cells hS; go_simp <;> with_reducible rfl
            try simp only [Act.put, List.setIfInBounds_toArray, List.set_cons_zero, List.set_cons_succ]
            refine s_op 4 (by kernel_rfl) rfl (by rfl) (fun K9 hK9 => ?_)
            go_simp
            refine (bytes5_calls _ a).mono ?_
            rintro en w5 ⟨A5, c5, rfl, hh⟩
            have K5 := hid (K4.out.up hh.out.2)
            have O5 := hid hh.out.1
            have D5 := hid ((Fr.of_below (hh.out.2)).own ((Fr.of_below (Up.drew wr)).own D4.out.2.1 (fun _ _ => id)) (fun _ _ => id))
            have P5 := hid ((Fr.of_below (hh.out.2)).own ((Fr.of_below (Up.drew wr)).own PR.out.2.1 (fun _ _ => id)) (fun _ _ => id))
            clear US hh
            have US : BoxAt w5 bx a := K5.out.2.1
            refine hK9.out _ _ US ?_
            clear hK9 K9
            try simp only [Act.put, List.setIfInBounds_toArray, List.set_cons_zero, List.set_cons_succ]
            have PUT := putS_calls _ w.heap.size g mp room h m V a.page A5 (actN a) c5 (actD a) (hid K5.out.1) (hid ⟨OK.out.1, by have := HLE.out; have := HK.out.2; omega⟩) (hid WA.out.2) (hid (actD_length a)) (hid (Rd.bytes (Rd.own O5.out)))
            by_cases hc : a.page < 1 ∨ actN a ≠ 512
            · rw [if_pos hc, if_pos hc] at PUT
              refine s_op 5 (by kernel_rfl) rfl (by rfl) (fun K9 hK9 => ?_)
              go_simp
              refine PUT.mono ?_
              rintro en w6 ⟨rfl, hh⟩
              have NI : Hid (KeepI w w6 g mp room (k + 1)) := hid ⟨V, h, m, hh.out.1, OK.out.1.mono (Nat.le_succ k), OK.out.2.up, K5.out.2.2.trans (hh.out.2.1)⟩
              have US2 : BoxAt w6 bx a := cell_afterC (i := 0) K5.out.1 hh.out.2.2 US (by decide)
              clear US hh PUT hc
              have US := US2
              clear US2
              refine hK9.out _ _ US ?_
              clear hK9 K9
              try simp only [Act.put, List.setIfInBounds_toArray, List.set_cons_zero, List.set_cons_succ]
              refine s_take 6 (some 69) (v := ?_) US rfl rfl (by kernel_rfl) (by kernel_rfl) (by kernel_rfl) (fun _ _ _ h => h) (by rfl) (fun w9 hS => ?_) ?_
              rotate_left
              · go_simp <;> with_reducible rfl
              try simp only [Act.put, List.setIfInBounds_toArray, List.set_cons_zero, List.set_cons_succ]
              refine s_done (by kernel_rfl) ?_
              rename_i K1 h1
              first | refine h1 _ _ ?_ | skip
              clear US
              go_wp2
              go_roundw
              case rel => exact ⟨k + 1, by have := HK.out.2; omega, rfl, NI⟩
              case measure => have := HLE.out; have := HK.out.2; simp only [intOf]; omega
            · rw [if_neg hc, if_neg hc] at PUT
              obtain ⟨V2, hV2⟩ : ∃ z, putV room a.page (actD a) V = z := ⟨_, rfl⟩
              have OK2 : Hid (Ok5 V2 (k + 1)) := hid (by rw [← hV2]; exact OK.out.1.put)
              have FND : Hid (∀ q ∈ rising (dirtyOf V) ++ pinned V (V.map (·.1)), foundV q V2 = true ∧ (Lit.int .i64 q).wf = true) := hid (fun q hq => ⟨by rw [← hV2]; exact keeps_all OK.out.1 hq, keeps_wf CW.out hq⟩)
              have HLD : Hid (room < (V2.length : Int) → ∀ p ∈ V2.map (·.1), heldB a.page V2 (rising (dirtyOf V2)) p = true) := hid (fun hf p hp => by rw [← hV2] at hf hp ⊢; exact held_all OK.out.1 OK.out.1.put hf hp)
              rw [hV2] at PUT
              clear hV2 hc
              refine s_op 5 (by kernel_rfl) rfl (by rfl) (fun K9 hK9 => ?_)
              go_simp
              refine PUT.mono ?_
              rintro en w6 ⟨rfl, hh⟩
              have US2 : BoxAt w6 bx a := cell_afterC (i := 0) K5.out.1 hh.out.2.2 US (by decide)
              have K6 : Hid (KS w w6 bx a g mp room h m V2) := hid ⟨hh.out.1, US2, K5.out.2.2.trans hh.out.2.1⟩
              have D6 := hid (own_afterC K5.out.1 hh.out.2.2 (by decide) D5.out)
              have P6 := hid (Rd.own (own_afterC K5.out.1 hh.out.2.2 (by decide) P5.out))
              have NN := hid (show n1 ≤ 150 ∧ m3 ≤ 150 ∧ m3 = (pinned V (V.map (·.1))).length ∧ n1 = (rising (dirtyOf V)).length from ⟨D4.out.2.2, PR.out.2.2, PR.out.1, D4.out.1⟩)
              clear US hh PUT D5 P5 O5 K5 K4 D4 PR
              have US := US2
              clear US2
              refine hK9.out _ _ US ?_
              clear hK9 K9
              try simp only [Act.put, List.setIfInBounds_toArray, List.set_cons_zero, List.set_cons_succ]
              refine s_take 6 (some 69) (v := ?_) US rfl rfl (by kernel_rfl) (by kernel_rfl) (by kernel_rfl) (fun _ _ _ h => h) (by rfl) (fun w9 hS => ?_) ?_
              rotate_left
              · go_simp <;> with_reducible rfl
              try simp only [Act.put, List.setIfInBounds_toArray, List.set_cons_zero, List.set_cons_succ]
              refine s_done (by kernel_rfl) ?_
              rename_i K1 h1
              first | refine h1 _ _ ?_ | skip
              clear US
              have sl : (rising (dirtyOf V) ++ pinned V (V.map (·.1))).length = n1 + m3 := by rw [List.length_append, ← NN.out.2.2.1, ← NN.out.2.2.2]
              have SL := hid sl
              clear sl
              have d6 := D6.out
              go_wp2_with (at_builtin; refine hold ?_)
              refine hid (wl_append elemI rfl (.tmp 70) (.tmp 71) rfl rfl d6 rfl P6.out (by rw [List.length_map, NN.out.2.2.1, Nat.mul_one]) (by intro u hu; obtain ⟨x, _, rfl⟩ := List.mem_map.1 hu; rfl) (by have := NN.out; simp only [maxLen]; omega) (by have := NN.out; omega) K6.out.2.2.size ?_)
              intro A8 c8 w8 o8 g8 d8
              have K8 := hid (K6.out.grow D6.out g8)
              have R8 : Hid (Rd w8 A8 ((rising (dirtyOf V) ++ pinned V (V.map (·.1))).map intCell)) := hid (by have := Rd.own o8; rwa [← List.map_append] at this)
              clear o8 g8 d8 d6 D6 P6 K6
              generalize rising (dirtyOf V) ++ pinned V (V.map (·.1)) = SLL at *
              obtain ⟨N8, hN8⟩ : ∃ z, n1 + m3 = z := ⟨_, rfl⟩
              have HN8 : Hid (N8 ≤ 300 ∧ SLL.length = N8) := hid (by have := NN.out; have := SL.out; omega)
              rw [hN8]
              clear hN8 NN SL
              go_wp2
              have ST2 : Hid (Up w8 w8) := hid (Up.refl _)
              go_loopw [74] (fun i w9 => ∃ j : Nat, j ≤ N8 ∧ i = .int .i64 j ∧ Hid (Up w8 w9)) (fun i _ => N8 - (intOf i).toNat)
              case atStart => exact ⟨0, Nat.zero_le _, rfl, ST2⟩
              case round =>
                clear ST2
                obtain ⟨j2, hj, rfl, iv⟩ := hrel
                by_cases hlj2 : (j2 : Int) < N8
                · have hjl : j2 < SLL.length := by have := HN8.out.2; omega
                  obtain ⟨gp, op, rfl, cp⟩ := int_at (R8.out.grown iv.out) hjl
                  have hf := FND.out _ (List.getElem_mem hjl)
                  generalize SLL[j2] = p at *
                  have HP := hid hf.2
                  have HJ : Hid (j2 < N8 ∧ j2 < 300) := hid (by have := HN8.out; omega)
                  have K9 := hid (K8.out.up iv.out)
                  have PK := peekS_calls wr w.heap.size g mp room h m V2 p (hid K9.out.1) HP
                  unfold DataO at PK
                  rw [hf.1] at PK
                  clear hf hjl
                  go_wp2_with fail
                  refine PK.mono ?_
                  rintro en w9 ⟨A9, n9, c9, rfl, _, u9⟩
                  have U9 := hid (iv.out.t u9.out)
                  clear PK u9 iv cp
                  go_wp2
                  go_roundw
                  case rel => exact ⟨j2 + 1, HJ.out.1, by have := HJ.out.2; rw [show wrap64 ((j2 : Int) + 1) = ((j2 + 1 : Nat) : Int) by unfold wrap64; omega], U9⟩
                  case measure => have := HJ.out; rw [show wrap64 ((j2 : Int) + 1) = ((j2 + 1 : Nat) : Int) by unfold wrap64; omega]; simp only [intOf]; omega
                · have K9 := hid (K8.out.up iv.out)
                  clear iv hj K8 R8 FND HN8
                  go_wp2_with fail
                  refine (lenM_calls _ w.heap.size g mp room h m V2 (hid K9.out.1)).mono ?_
                  rintro en w9 ⟨rfl, u9⟩
                  have KA := hid (K9.out.up u9)
                  have HL2 : Hid (V2.length ≤ 151) := hid (by have := OK2.out.len; have := HLE.out; have := HK.out.2; omega)
                  clear K9 u9
                  by_cases hfull : room < (V2.length : Int)
                  · have HH := hid (HLD.out hfull)
                    have CW2 : Hid (∀ v ∈ V2, (Lit.int .i64 v.1).wf = true) := hid KA.out.1.wf
                    clear HLD
                    go_wp2_with fail
                    refine (orderM_calls _ w.heap.size g mp room h m V2 (hid KA.out.1) (hid (by have := HL2.out; omega))).mono ?_
                    rintro en wb ⟨Ab, cb, nb, rfl, db⟩
                    have KB := hid (KA.out.up db.out.2.2)
                    have LB := hid (show nb = (V2.map (·.1)).length ∧ Rd wb Ab ((V2.map (·.1)).map intCell) from ⟨db.out.1, Rd.own db.out.2.1⟩)
                    have NB : Hid (nb ≤ 151) := hid (by have h1 := LB.out.1; rw [List.length_map] at h1; have := HL2.out; omega)
                    clear db KA
                    have ST3 : Hid (Up wb wb) := hid (Up.refl _)
                    go_wp2
                    go_loopw [94] (fun i w9 => ∃ j : Nat, j ≤ nb ∧ i = .int .i64 j ∧ Hid (Up wb w9)) (fun i _ => nb - (intOf i).toNat)
                    case atStart => exact ⟨0, Nat.zero_le _, rfl, ST3⟩
                    case round =>
                      clear ST3
                      obtain ⟨j3, hj, rfl, iv⟩ := hrel
                      by_cases hlj3 : (j3 : Int) < nb
                      · have hjl : j3 < (V2.map (·.1)).length := by have := LB.out.1; omega
                        obtain ⟨gp, op, rfl, cp⟩ := int_at (LB.out.2.grown iv.out) hjl
                        have hh := HH.out _ (List.getElem_mem hjl)
                        have hmem := List.getElem_mem hjl
                        generalize (V2.map (·.1))[j3] = p at *
                        have HP : Hid ((Lit.int .i64 p).wf = true) := by
                          obtain ⟨v, hv, e⟩ := List.mem_map.1 hmem
                          exact hid (by rw [← e]; exact CW2.out v hv)
                        have HHP := hid hh
                        have HJ : Hid (j3 < nb ∧ j3 < 151) := hid (by have := NB.out; omega)
                        have K9 := hid (KB.out.up iv.out)
                        have U9 := hid iv.out
                        clear hh hmem hjl iv
                        go_wp2_with fail
                        refine (pinsS_calls _ w.heap.size g mp room h m V2 p (hid K9.out.1) HP).mono ?_
                        rintro en wd ⟨rfl, ud⟩
                        have KD := hid (K9.out.up ud)
                        have UD := hid (U9.out.t ud)
                        clear K9 U9 ud cp
                        obtain ⟨q, hq⟩ : ∃ z, pinsV p V2 = z := ⟨_, rfl⟩
                        have HQ := hid hq
                        rw [hq]
                        clear hq
                        obtain ⟨_, bp, _, _⟩ := KD.out.2.1.cells
                        obtain ⟨hb0, hhb0⟩ : ∃ b, (decide (0 < q) || decide (p = a.page)) = b := ⟨_, rfl⟩
                        have HB0 := hid hhb0
                        by_cases hq0 : 0 < q
                        · obtain rfl : true = hb0 := by rw [← hhb0, decide_eq_true hq0]; rfl
                          clear hhb0
                          go_wp2_with fail
                          refine (dirtyM_calls _ w.heap.size g mp room h m V2 (hid KD.out.1) (hid (by have := HL2.out; omega))).mono ?_
                          rintro en we ⟨Ae, ce, ne, rfl, de⟩
                          have UE := hid (UD.out.t de.out.2.2)
                          have LE := hid (show ne = (rising (dirtyOf V2)).length ∧ Rd we Ae ((rising (dirtyOf V2)).map intCell) from ⟨de.out.1, Rd.own de.out.2.1⟩)
                          have NE : Hid (ne ≤ 151) := hid (by have h1 := LE.out.1; rw [rising_length] at h1; have h2 := dirtyOf_length V2; have := HL2.out; omega)
                          have HF : Hid ((true || (rising (dirtyOf V2)).any fun q => decide (p = q)) = true) := hid (by have h1 := HHP.out; unfold heldB at h1; rw [HQ.out, HB0.out] at h1; exact h1)
                          generalize rising (dirtyOf V2) = DL at LE HF
                          clear de KD HHP HB0 HQ bp
                          have ST4 : Hid (Up we we) := hid (Up.refl _)
                          go_wp2
                          go_loopw [19, 111] (fun hv i w9 => ∃ j : Nat, j ≤ ne ∧ hv = .bool (true || (DL.take j).any fun q => decide (p = q)) ∧ i = .int .i64 j ∧ Hid (Up we w9)) (fun _ i _ => ne - (intOf i).toNat)
                          case atStart => exact ⟨0, Nat.zero_le _, rfl, rfl, ST4⟩
                          case round =>
                            clear ST4
                            obtain ⟨j4, hj4, rfl, rfl, iv⟩ := hrel
                            by_cases hlj4 : (j4 : Int) < ne
                            · have hjl : j4 < DL.length := by have := LE.out.1; omega
                              obtain ⟨gp2, op2, rfl, cp⟩ := int_at (LE.out.2.grown iv.out) hjl
                              have hst4 := any_step (p := p) hjl true
                              generalize DL[j4] = d at *
                              have AS := hid hst4
                              have HJ4 : Hid (j4 < ne ∧ j4 < 151) := hid (by have := NE.out; omega)
                              obtain ⟨bb, hbb⟩ : ∃ z, (true || (DL.take j4).any fun q => decide (p = q)) = z := ⟨_, rfl⟩
                              rw [hbb] at hst4 ⊢
                              have AS := hid hst4
                              clear hst4 hbb hjl
                              cases bb with
                              | true =>
                                go_wp2
                                go_roundw
                                case rel => exact ⟨j4 + 1, HJ4.out.1, by rw [AS.out]; rfl, by have := HJ4.out.2; rw [show wrap64 ((j4 : Int) + 1) = ((j4 + 1 : Nat) : Int) by unfold wrap64; omega], iv⟩
                                case measure => have := HJ4.out; rw [show wrap64 ((j4 : Int) + 1) = ((j4 + 1 : Nat) : Int) by unfold wrap64; omega]; simp only [intOf]; omega
                              | false =>
                                by_cases hpd : p = d
                                · go_wp2
                                  go_roundw
                                  case rel => exact ⟨j4 + 1, HJ4.out.1, by rw [AS.out, decide_eq_true hpd]; first | rfl | (have h9 := hpd; rw [hpa] at h9; rw [h9]; simp), by have := HJ4.out.2; rw [show wrap64 ((j4 : Int) + 1) = ((j4 + 1 : Nat) : Int) by unfold wrap64; omega], iv⟩
                                  case measure => have := HJ4.out; rw [show wrap64 ((j4 : Int) + 1) = ((j4 + 1 : Nat) : Int) by unfold wrap64; omega]; simp only [intOf]; omega
                                · go_wp2
                                  go_roundw
                                  case rel => exact ⟨j4 + 1, HJ4.out.1, by rw [AS.out, decide_eq_false hpd]; first | (rw [beq_eq_false_iff_ne.2 hpd]; rfl) | (have h9 := hpd; rw [hpa] at h9; rw [beq_eq_false_iff_ne.2 h9]; rfl), by have := HJ4.out.2; rw [show wrap64 ((j4 : Int) + 1) = ((j4 + 1 : Nat) : Int) by unfold wrap64; omega], iv⟩
                                  case measure => have := HJ4.out; rw [show wrap64 ((j4 : Int) + 1) = ((j4 + 1 : Nat) : Int) by unfold wrap64; omega]; simp only [intOf]; omega
                            · have hjn : j4 = DL.length := by have := LE.out.1; omega
                              have ht : (true || (DL.take j4).any fun q => decide (p = q)) = true := by rw [hjn, List.take_length]; exact HF.out
                              rw [ht]
                              have UF := hid (UE.out.t iv.out)
                              clear iv ht hjn LE HF
                              go_wp2
                              go_roundw
                              case rel => exact ⟨j3 + 1, HJ.out.1, by have := HJ.out.2; rw [show wrap64 ((j3 : Int) + 1) = ((j3 + 1 : Nat) : Int) by unfold wrap64; omega], UF⟩
                              case measure => have := HJ.out; rw [show wrap64 ((j3 : Int) + 1) = ((j3 + 1 : Nat) : Int) by unfold wrap64; omega]; simp only [intOf]; omega
                        · by_cases hpa : p = a.page
                          · obtain rfl : true = hb0 := by rw [← hhb0, decide_eq_false hq0, decide_eq_true hpa]; rfl
                            clear hhb0
                            go_wp2_with fail
                            refine (dirtyM_calls _ w.heap.size g mp room h m V2 (hid KD.out.1) (hid (by have := HL2.out; omega))).mono ?_
                            rintro en we ⟨Ae, ce, ne, rfl, de⟩
                            have UE := hid (UD.out.t de.out.2.2)
                            have LE := hid (show ne = (rising (dirtyOf V2)).length ∧ Rd we Ae ((rising (dirtyOf V2)).map intCell) from ⟨de.out.1, Rd.own de.out.2.1⟩)
                            have NE : Hid (ne ≤ 151) := hid (by have h1 := LE.out.1; rw [rising_length] at h1; have h2 := dirtyOf_length V2; have := HL2.out; omega)
                            have HF : Hid ((true || (rising (dirtyOf V2)).any fun q => decide (p = q)) = true) := hid (by have h1 := HHP.out; unfold heldB at h1; rw [HQ.out, HB0.out] at h1; exact h1)
                            generalize rising (dirtyOf V2) = DL at LE HF
                            clear de KD HHP HB0 HQ bp
                            have ST4 : Hid (Up we we) := hid (Up.refl _)
                            go_wp2
                            go_loopw [19, 111] (fun hv i w9 => ∃ j : Nat, j ≤ ne ∧ hv = .bool (true || (DL.take j).any fun q => decide (p = q)) ∧ i = .int .i64 j ∧ Hid (Up we w9)) (fun _ i _ => ne - (intOf i).toNat)
                            case atStart => exact ⟨0, Nat.zero_le _, rfl, rfl, ST4⟩
                            case round =>
                              clear ST4
                              obtain ⟨j4, hj4, rfl, rfl, iv⟩ := hrel
                              by_cases hlj4 : (j4 : Int) < ne
                              · have hjl : j4 < DL.length := by have := LE.out.1; omega
                                obtain ⟨gp2, op2, rfl, cp⟩ := int_at (LE.out.2.grown iv.out) hjl
                                have hst4 := any_step (p := p) hjl true
                                generalize DL[j4] = d at *
                                have AS := hid hst4
                                have HJ4 : Hid (j4 < ne ∧ j4 < 151) := hid (by have := NE.out; omega)
                                obtain ⟨bb, hbb⟩ : ∃ z, (true || (DL.take j4).any fun q => decide (p = q)) = z := ⟨_, rfl⟩
                                rw [hbb] at hst4 ⊢
                                have AS := hid hst4
                                clear hst4 hbb hjl
                                cases bb with
                                | true =>
                                  go_wp2
                                  go_roundw
                                  case rel => exact ⟨j4 + 1, HJ4.out.1, by rw [AS.out]; rfl, by have := HJ4.out.2; rw [show wrap64 ((j4 : Int) + 1) = ((j4 + 1 : Nat) : Int) by unfold wrap64; omega], iv⟩
                                  case measure => have := HJ4.out; rw [show wrap64 ((j4 : Int) + 1) = ((j4 + 1 : Nat) : Int) by unfold wrap64; omega]; simp only [intOf]; omega
                                | false =>
                                  by_cases hpd : p = d
                                  · go_wp2
                                    go_roundw
                                    case rel => exact ⟨j4 + 1, HJ4.out.1, by rw [AS.out, decide_eq_true hpd]; first | rfl | (have h9 := hpd; rw [hpa] at h9; rw [h9]; simp), by have := HJ4.out.2; rw [show wrap64 ((j4 : Int) + 1) = ((j4 + 1 : Nat) : Int) by unfold wrap64; omega], iv⟩
                                    case measure => have := HJ4.out; rw [show wrap64 ((j4 : Int) + 1) = ((j4 + 1 : Nat) : Int) by unfold wrap64; omega]; simp only [intOf]; omega
                                  · go_wp2
                                    go_roundw
                                    case rel => exact ⟨j4 + 1, HJ4.out.1, by rw [AS.out, decide_eq_false hpd]; first | (rw [beq_eq_false_iff_ne.2 hpd]; rfl) | (have h9 := hpd; rw [hpa] at h9; rw [beq_eq_false_iff_ne.2 h9]; rfl), by have := HJ4.out.2; rw [show wrap64 ((j4 : Int) + 1) = ((j4 + 1 : Nat) : Int) by unfold wrap64; omega], iv⟩
                                    case measure => have := HJ4.out; rw [show wrap64 ((j4 : Int) + 1) = ((j4 + 1 : Nat) : Int) by unfold wrap64; omega]; simp only [intOf]; omega
                              · have hjn : j4 = DL.length := by have := LE.out.1; omega
                                have ht : (true || (DL.take j4).any fun q => decide (p = q)) = true := by rw [hjn, List.take_length]; exact HF.out
                                rw [ht]
                                have UF := hid (UE.out.t iv.out)
                                clear iv ht hjn LE HF
                                go_wp2
                                go_roundw
                                case rel => exact ⟨j3 + 1, HJ.out.1, by have := HJ.out.2; rw [show wrap64 ((j3 : Int) + 1) = ((j3 + 1 : Nat) : Int) by unfold wrap64; omega], UF⟩
                                case measure => have := HJ.out; rw [show wrap64 ((j3 : Int) + 1) = ((j3 + 1 : Nat) : Int) by unfold wrap64; omega]; simp only [intOf]; omega
                          · have HQN := hid (And.intro hq0 hpa)
                            obtain rfl : false = hb0 := by rw [← hhb0, decide_eq_false hq0, decide_eq_false hpa]; rfl
                            clear hhb0
                            go_wp2_with fail
                            refine (dirtyM_calls _ w.heap.size g mp room h m V2 (hid KD.out.1) (hid (by have := HL2.out; omega))).mono ?_
                            rintro en we ⟨Ae, ce, ne, rfl, de⟩
                            have UE := hid (UD.out.t de.out.2.2)
                            have LE := hid (show ne = (rising (dirtyOf V2)).length ∧ Rd we Ae ((rising (dirtyOf V2)).map intCell) from ⟨de.out.1, Rd.own de.out.2.1⟩)
                            have NE : Hid (ne ≤ 151) := hid (by have h1 := LE.out.1; rw [rising_length] at h1; have h2 := dirtyOf_length V2; have := HL2.out; omega)
                            have HF : Hid ((false || (rising (dirtyOf V2)).any fun q => decide (p = q)) = true) := hid (by have h1 := HHP.out; unfold heldB at h1; rw [HQ.out, HB0.out] at h1; exact h1)
                            generalize rising (dirtyOf V2) = DL at LE HF
                            clear de KD HHP HB0 HQ bp
                            have ST4 : Hid (Up we we) := hid (Up.refl _)
                            go_wp2
                            go_loopw [19, 111] (fun hv i w9 => ∃ j : Nat, j ≤ ne ∧ hv = .bool (false || (DL.take j).any fun q => decide (p = q)) ∧ i = .int .i64 j ∧ Hid (Up we w9)) (fun _ i _ => ne - (intOf i).toNat)
                            case atStart => exact ⟨0, Nat.zero_le _, by rw [decide_eq_false (Int.not_lt.2 HQN.out.1), beq_eq_false_iff_ne.2 HQN.out.2]; rfl, rfl, ST4⟩
                            case round =>
                              clear ST4
                              obtain ⟨j4, hj4, rfl, rfl, iv⟩ := hrel
                              by_cases hlj4 : (j4 : Int) < ne
                              · have hjl : j4 < DL.length := by have := LE.out.1; omega
                                obtain ⟨gp2, op2, rfl, cp⟩ := int_at (LE.out.2.grown iv.out) hjl
                                have hst4 := any_step (p := p) hjl false
                                generalize DL[j4] = d at *
                                have AS := hid hst4
                                have HJ4 : Hid (j4 < ne ∧ j4 < 151) := hid (by have := NE.out; omega)
                                obtain ⟨bb, hbb⟩ : ∃ z, (false || (DL.take j4).any fun q => decide (p = q)) = z := ⟨_, rfl⟩
                                rw [hbb] at hst4 ⊢
                                have AS := hid hst4
                                clear hst4 hbb hjl
                                cases bb with
                                | true =>
                                  go_wp2
                                  go_roundw
                                  case rel => exact ⟨j4 + 1, HJ4.out.1, by rw [AS.out]; rfl, by have := HJ4.out.2; rw [show wrap64 ((j4 : Int) + 1) = ((j4 + 1 : Nat) : Int) by unfold wrap64; omega], iv⟩
                                  case measure => have := HJ4.out; rw [show wrap64 ((j4 : Int) + 1) = ((j4 + 1 : Nat) : Int) by unfold wrap64; omega]; simp only [intOf]; omega
                                | false =>
                                  by_cases hpd : p = d
                                  · go_wp2
                                    go_roundw
                                    case rel => exact ⟨j4 + 1, HJ4.out.1, by rw [AS.out, decide_eq_true hpd]; first | rfl | (have h9 := hpd; rw [hpa] at h9; rw [h9]; simp), by have := HJ4.out.2; rw [show wrap64 ((j4 : Int) + 1) = ((j4 + 1 : Nat) : Int) by unfold wrap64; omega], iv⟩
                                    case measure => have := HJ4.out; rw [show wrap64 ((j4 : Int) + 1) = ((j4 + 1 : Nat) : Int) by unfold wrap64; omega]; simp only [intOf]; omega
                                  · go_wp2
                                    go_roundw
                                    case rel => exact ⟨j4 + 1, HJ4.out.1, by rw [AS.out, decide_eq_false hpd]; first | (rw [beq_eq_false_iff_ne.2 hpd]; rfl) | (have h9 := hpd; rw [hpa] at h9; rw [beq_eq_false_iff_ne.2 h9]; rfl), by have := HJ4.out.2; rw [show wrap64 ((j4 : Int) + 1) = ((j4 + 1 : Nat) : Int) by unfold wrap64; omega], iv⟩
                                    case measure => have := HJ4.out; rw [show wrap64 ((j4 : Int) + 1) = ((j4 + 1 : Nat) : Int) by unfold wrap64; omega]; simp only [intOf]; omega
                              · have hjn : j4 = DL.length := by have := LE.out.1; omega
                                have ht : (false || (DL.take j4).any fun q => decide (p = q)) = true := by rw [hjn, List.take_length]; exact HF.out
                                rw [ht]
                                have UF := hid (UE.out.t iv.out)
                                clear iv ht hjn LE HF
                                go_wp2
                                go_roundw
                                case rel => exact ⟨j3 + 1, HJ.out.1, by have := HJ.out.2; rw [show wrap64 ((j3 : Int) + 1) = ((j3 + 1 : Nat) : Int) by unfold wrap64; omega], UF⟩
                                case measure => have := HJ.out; rw [show wrap64 ((j3 : Int) + 1) = ((j3 + 1 : Nat) : Int) by unfold wrap64; omega]; simp only [intOf]; omega
                      · have KF := hid (KB.out.up iv.out)
                        have NI : Hid (KeepI w wr g mp room (k + 1)) := hid ⟨V2, h, m, KF.out.1, OK2.out, OK.out.2.up, KF.out.2.2⟩
                        go_wp2
                        go_roundw
                        case rel => exact ⟨k + 1, by have := HK.out.2; omega, rfl, NI⟩
                        case measure => have := HLE.out; have := HK.out.2; simp only [intOf]; omega
                  · have KF := hid KA.out
                    have NI : Hid (KeepI w w9 g mp room (k + 1)) := hid ⟨V2, h, m, KF.out.1, OK2.out, OK.out.2.up, KF.out.2.2⟩
                    clear HLD
                    go_wp2
                    go_roundw
                    case rel => exact ⟨k + 1, by have := HK.out.2; omega, rfl, NI⟩
                    case measure => have := HLE.out; have := HK.out.2; simp only [intOf]; omega
          · go_wp2
            replace K4 := hid (K4.out.up (Up.drew _))
            have US := K4.out.2.1
            refine s_start (fun w9 => BoxAt w9 bx a) (by kernel_rfl) ?_
            refine s_take 0 (some 59) (v := ?_) US rfl rfl (by kernel_rfl) (by kernel_rfl) (by kernel_rfl) (fun _ _ _ h => h) (by rfl) (fun w9 hS => ?_) ?_
            rotate_left
            · go_simp <;> with_reducible rfl
            try simp only [Act.put, List.setIfInBounds_toArray, List.set_cons_zero, List.set_cons_succ]
            refine s_take 2 (some 61) (v := ?_) US rfl rfl (by kernel_rfl) (by kernel_rfl) (by kernel_rfl) (fun _ _ _ h => h) (by rfl) (fun w9 hS => ?_) ?_
            rotate_left
            · obtain ⟨e0, e1, e2, e3⟩ := BoxAt.cells hS; go_simp <;> with_reducible rfl
            try simp only [Act.put, List.setIfInBounds_toArray, List.set_cons_zero, List.set_cons_succ]
            refine s_op 1 (by kernel_rfl) rfl (by rfl) (fun K9 hK9 => ?_)
            go_simp
            refine (rnew_calls _ 1 (by decide) (by decide)).mono ?_
            rintro en w5 ⟨b, rfl, hh⟩
            have R5 := hid hh.out.1
            have BB := hid K4.out.2.2.size
            have K5 := hid (K4.out.up hh.out.2.1)
            clear US hh
            have US : BoxAt w5 bx a := K5.out.2.1
            unfold ptr
            refine hK9.out _ _ US ?_
            clear hK9 K9
            try simp only [Act.put, List.setIfInBounds_toArray, List.set_cons_zero, List.set_cons_succ]
            refine s_op 3 (by kernel_rfl) rfl (by rfl) (fun K9 hK9 => ?_)
            go_simp
            refine (actG_calls _ w.heap.size g mp room h m V _ b 1 0 0 [] a k (hid K5.out.1) R5 OK (hid ⟨Ok5.nil.mono (Nat.zero_le k), ⟨by decide, by omega, by decide, by omega⟩⟩) (by have := HLE.out; have := HK.out.2; omega) (hid WA.out.2)).mono ?_
            rintro en w6 ⟨r, V2, h2, m2, U2, i2, j2, rfl, hh⟩
            obtain ⟨cm, _, okv, _, rest, _⟩ := hh.out
            have NI : Hid (KeepI w w6 g mp room (k + 1)) := hid ⟨V2, h2, m2, cm, okv.1, okv.2, K5.out.2.2.trans (rest.1 w.heap.size (Nat.le_refl _) BB.out)⟩
            have US2 : BoxAt w6 bx a := rest.2 _ _ _ _ US (by decide)
            clear US hh cm okv rest
            have US := US2
            refine hK9.out _ _ US ?_
            clear hK9 K9
            try simp only [Act.put, List.setIfInBounds_toArray, List.set_cons_zero, List.set_cons_succ]
            refine s_done (by kernel_rfl) ?_
            rename_i K1 h1
            first | refine h1 _ _ ?_ | skip
            clear US US2
            go_wp2
            go_roundw
            case rel => exact ⟨k + 1, by have := HK.out.2; omega, rfl, NI⟩
            case measure => have := HLE.out; have := HK.out.2; simp only [intOf]; omega
    · have I := iv
      clear iv
      go_wp2_with fail
      refine (lives_calls _).mono ?_
      rintro en wz ⟨rfl, uz⟩
      go_wp2
      go_ret
      obtain ⟨V, h, m, cm, ok, nm, bl⟩ := I.out
      exact ⟨rfl, bl.trans (uz.mono bl.size)⟩
end Go.Proofs.Ytlikggeceeennaa
