/- THE CONTRACTS of spill.Read, Pages and Free. THE CONTRACTS of spill.Read, Pages and Free. THE CONTRACTS of spill.Pages and Free, of a chain that is there. -/
import Derived.Test.YtbcghggkfnagoaaGreatDoorSch2
set_option linter.unusedVariables false
set_option linter.unusedSimpArgs false
namespace Go.Proofs.YtbcghggkfnagoaaGreatDoor
open Go Go.RowKit Go.Maps Hach

theorem read1_calls (w : World) (x : UInt8) : Calls Tryz.prog 109 #[byteCell x] w fun en w' => en = .returned (.bool (nz x)) ∧ w' = w := by
  have hx : decide (n8 x = 0) = !(nz x) := by
    unfold n8 nz
    by_cases e : x = 0
    · subst e; rfl
    · have : ¬ ((x.toNat : Int) = 0) := fun h => e (UInt8.toNat.inj (by rw [Int.natCast_eq_zero.1 h]; rfl))
      rw [decide_eq_false this, decide_eq_true e]; rfl
  by_cases h0 : n8 x = 0
  · have e : nz x = false := by rw [decide_eq_true h0] at hx; cases h : nz x <;> rw [h] at hx <;> simp_all
    rw [e]
    clear hx e
    unfold byteCell
    go_enter Tryz.func109, Tryz.ntmps109
    go_wp2
    go_ret
    exact ⟨by first | rfl | (simp [h0]; done), rfl⟩
  · have e : nz x = true := by rw [decide_eq_false h0] at hx; cases h : nz x <;> rw [h] at hx <;> simp_all
    rw [e]
    clear hx e
    unfold byteCell
    go_enter Tryz.func109, Tryz.ntmps109
    go_wp2
    go_ret
    exact ⟨by first | rfl | (simp [h0]; done), rfl⟩
/-- Where the first byte lies that is none. -/
def nzAt (xs : List UInt8) : Int := match xs.findIdx? nz with
  | none => -1
  | some i => (i : Int)
theorem nzAt_none {xs : List UInt8} (h : ∀ (i : Nat) (x : UInt8), xs[i]? = some x → nz x = false) : nzAt xs = -1 := by
  unfold nzAt
  rw [List.findIdx?_eq_none_iff.2 (fun x hx => by obtain ⟨i, hi⟩ := List.getElem?_of_mem hx; exact h i x hi)]
theorem nzAt_some {xs : List UInt8} {k : Nat} {x : UInt8} (hk : xs[k]? = some x) (hx : nz x = true) (h : ∀ i, i < k → ∀ y, xs[i]? = some y → nz y = false) : nzAt xs = (k : Int) := by
  unfold nzAt
  obtain ⟨hl, he⟩ := List.getElem?_eq_some_iff.1 hk
  rw [List.findIdx?_eq_some_iff_getElem.2 ⟨hl, by rw [he]; exact hx, fun j hj => by
    have := h j hj _ (List.getElem?_eq_getElem (by omega))
    rw [this]; decide⟩]
theorem nzAt_any (xs : List UInt8) : decide (0 ≤ nzAt xs) = xs.any nz := by
  unfold nzAt
  cases h : xs.findIdx? nz with
  | none =>
    have := List.findIdx?_eq_none_iff.1 h
    rw [show xs.any nz = false from List.any_eq_false.2 (fun x hx => by rw [this x hx]; decide)]
    rfl
  | some i =>
    obtain ⟨hl, he, _⟩ := List.findIdx?_eq_some_iff_getElem.1 h
    rw [show xs.any nz = true from List.any_eq_true.2 ⟨_, List.getElem_mem hl, he⟩]
    exact decide_eq_true (by show (0 : Int) ≤ (i : Int); omega)
set_option maxRecDepth 100000 in
set_option maxHeartbeats 1000000 in
theorem nzIdx_calls (w : World) (A : Option Addr) (xs : List UInt8) (c m : Nat) (hm : Hid (xs.length = m)) (hb : Hid (Bytes w A xs)) (hl : Hid (m < 1000000)) :
    Calls Tryz.prog 154 #[.slice A m c, .func (.func 109) #[] #[]] w fun en w' => en = .returned (.int .i64 (nzAt xs)) ∧ w' = w := by
  go_enter Tryz.func154, Tryz.ntmps154
  go_wp2
  go_loopw [8] (fun i wr => ∃ k : Nat, k ≤ m ∧ i = .int .i64 k ∧ wr = w ∧ Hid (∀ i, i < k → ∀ y, xs[i]? = some y → nz y = false)) (fun i _ => m - (intOf i).toNat)
  case atStart => exact ⟨0, Nat.zero_le _, rfl, rfl, hid (fun i hi => by omega)⟩
  case round =>
    obtain ⟨k, hk, rfl, hwr, iv⟩ := hrel
    subst hwr
    by_cases hlt : (k : Int) < m
    · have hkx : k < xs.length := by have := hm.out; omega
      obtain ⟨x, hx⟩ : ∃ x, xs[k]? = some x := ⟨_, List.getElem?_eq_getElem hkx⟩
      obtain ⟨b, off, rfl, hc⟩ := hb.out k hkx
      rw [hx] at hc
      have hc : wr.cell? ⟨b, off + k, none⟩ = some (byteCell x) := hc
      have HX := hid hx
      have KB : Hid (k < m ∧ m < 1000000) := hid ⟨by omega, hl.out⟩
      clear hx hkx
      unfold byteCell at hc
      cases hnz : nz x with
      | true =>
        have CR := read1_calls wr x
        rw [hnz] at CR
        unfold byteCell at CR
        have RES := hid (nzAt_some HX.out hnz iv.out)
        clear hnz
        go_wp2_with (go_at_call 109; refine CR.mono ?_; rintro e w' ⟨rfl, hw⟩; obtain rfl := hw)
        go_ret
        exact ⟨by rw [RES.out]; rfl, rfl⟩
      | false =>
        have CR := read1_calls wr x
        rw [hnz] at CR
        unfold byteCell at CR
        have REL : Hid (∀ i, i < k + 1 → ∀ y, xs[i]? = some y → nz y = false) := hid (fun i hi y hy => by
          by_cases e : i = k
          · subst e; rw [HX.out] at hy; injection hy with hy; subst hy; exact hnz
          · exact iv.out i (by omega) y hy)
        have W1 : Hid (wrap64 ((k : Int) + 1) = ((k + 1 : Nat) : Int)) := hid (by have := KB.out; unfold wrap64; omega)
        clear hnz
        go_wp2_with (go_at_call 109; refine CR.mono ?_; rintro e w' ⟨rfl, hw⟩; obtain rfl := hw)
        go_roundw
        case rel => exact ⟨k + 1, by have := KB.out; omega, by rw [W1.out], trivial, REL⟩
        case measure => rw [W1.out]; have := KB.out; simp only [intOf]; omega
    · obtain rfl : k = m := by omega
      have RES := hid (nzAt_none (xs := xs) (fun i x hx => iv.out i (by have := (List.getElem?_eq_some_iff.1 hx).1; have := hm.out; omega) x hx))
      go_wp2
      go_ret
      exact ⟨by rw [RES.out]; rfl, rfl⟩
set_option maxRecDepth 100000 in
theorem nzAny_calls (w : World) (A : Option Addr) (xs : List UInt8) (c m : Nat) (hm : Hid (xs.length = m)) (hb : Hid (Bytes w A xs)) (hl : Hid (m < 1000000)) :
    Calls Tryz.prog 108 #[.slice A m c, .func (.func 109) #[] #[]] w fun en w' => en = .returned (.bool (xs.any nz)) ∧ w' = w := by
  have CI := nzIdx_calls w A xs c m hm hb hl
  rw [← nzAt_any]
  obtain ⟨r, hr⟩ : ∃ r, nzAt xs = r := ⟨_, rfl⟩
  rw [hr] at CI ⊢
  clear hr
  by_cases h0 : 0 ≤ r
  · rw [decide_eq_true h0]
    go_enter Tryz.func108, Tryz.ntmps108
    go_wp2_with (go_at_call 154; refine CI.mono ?_; rintro e w' ⟨rfl, hw⟩; obtain rfl := hw)
    go_ret
    exact ⟨by first | rfl | (simp; omega), rfl⟩
  · rw [decide_eq_false h0]
    go_enter Tryz.func108, Tryz.ntmps108
    go_wp2_with (go_at_call 154; refine CI.mono ?_; rintro e w' ⟨rfl, hw⟩; obtain rfl := hw)
    go_ret
    exact ⟨by first | rfl | (simp; omega), rfl⟩
end Go.Proofs.YtbcghggkfnagoaaGreatDoor

namespace Go.Proofs.YtbcghggkfnagoaaGreatDoor
open Go Go.RowKit Go.Maps Hach

theorem bodies_len {E : List (Int × List UInt8 × Int)} (h : ∀ x ∈ E, x.2.1.length = 512) : (bodies E).length = E.length * 508 := by
  induction E with
  | nil => rfl
  | cons x E ih =>
    show (x.2.1.drop 4 ++ bodies E).length = _
    rw [List.length_append, List.length_drop, h x List.mem_cons_self, ih (fun y hy => h y (List.mem_cons_of_mem _ hy)), List.length_cons]
    omega
theorem bodies_snoc (E : List (Int × List UInt8 × Int)) (x : Int × List UInt8 × Int) : bodies (E ++ [x]) = bodies E ++ x.2.1.drop 4 := by
  unfold bodies
  rw [List.flatMap_append]
  simp
theorem Lk.cs_len (x : Lk) : x.cs.length = 3 := rfl
theorem take_next {α : Type} {l : List α} {j : Nat} {x : α} (h : l[j]? = some x) : l.take (j + 1) = l.take j ++ [x] := by
  obtain ⟨hj, he⟩ := List.getElem?_eq_some_iff.1 h
  rw [List.take_add_one, h]; rfl
/-- What Read tells. -/
def ReadSp (w : World) (n : Nat) (B : Nat → List UInt8) (page k : Int) (en : Ending) (w' : World) : Prop :=
  ∃ (A : Option Addr) (m c : Nat), en = .returned (.tuple #[.slice A m c, .int .i64 (readV n B page k).2]) ∧ Hid (m = (readV n B page k).1.length ∧ Bytes w' A (readV n B page k).1 ∧ Up w w')
theorem ReadSp.mk' {w w' : World} {n m c : Nat} {B : Nat → List UInt8} {page k e : Int} {A : Option Addr} {xs : List UInt8} {en : Ending} (hv : readV n B page k = (xs, e)) (h : en = .returned (.tuple #[.slice A m c, .int .i64 e])) (h2 : m = xs.length ∧ Bytes w' A xs ∧ Up w w') : ReadSp w n B page k en w' := by
  unfold ReadSp
  rw [hv]
  exact ⟨A, m, c, h, hid h2⟩
theorem bytes_nil (w : World) (A : Option Addr) : Bytes w A [] := fun j hj => absurd hj (Nat.not_lt_zero j)
set_option maxRecDepth 100000 in
set_option maxHeartbeats 2000000 in
theorem readNo_calls (w : World) (n : Nat) (B : Nat → List UInt8) (h : Nat) (page k e : Int) (he : ¬ e = 0) (hv : Hid (readV n B page k = ([], e)))
    (CA : Calls Tryz.prog 107 #[.pointer (some ⟨h, 0, none⟩), .int .i64 page, .int .i64 k] w fun en w' => en = .returned (.tuple #[.slice none 0 0, .int .i64 e]) ∧ Up w w') :
    Calls Tryz.prog 35 #[.pointer (some ⟨h, 0, none⟩), .int .i64 page, .int .i64 k] w (ReadSp w n B page k) := by
  unfold ReadSp
  rw [hv.out]
  go_enter Tryz.func35, Tryz.ntmps35
  go_wp2_with (go_at_call 107; refine CA.mono ?_; rintro e w' ⟨rfl, hu⟩)
  go_ret2
  exact ⟨none, 0, 0, rfl, hid ⟨rfl, bytes_nil _ _, hu⟩⟩
set_option maxRecDepth 100000 in
set_option maxHeartbeats 4000000 in
theorem readYes_calls (w : World) (n : Nat) (B : Nat → List UInt8) (h : Nat) (page : Int) (k : Nat) (hk : Hid (1 ≤ k ∧ k ≤ 20000))
    (CA : Calls Tryz.prog 107 #[.pointer (some ⟨h, 0, none⟩), .int .i64 page, .int .i64 k] w (AllSp w n B page k)) :
    Calls Tryz.prog 35 #[.pointer (some ⟨h, 0, none⟩), .int .i64 page, .int .i64 k] w (ReadSp w n B page k) := by
  go_enter Tryz.func35, Tryz.ntmps35
  go_wp2_with fail
  refine CA.mono ?_
  clear CA
  rintro en w1 ⟨hu, ⟨hv, rfl⟩ | ⟨A, c, xs, hv, rfl, ho, hx⟩⟩
  · have RV2 : Hid (readV n B page k = ([], 9)) := hid (by
      unfold readV
      rw [if_neg (by have := hk.out; omega), Int.toNat_natCast, hv])
    have UW := hid hu
    clear hv hu
    go_wp2
    go_ret2
    exact ReadSp.mk' RV2.out rfl ⟨rfl, bytes_nil _ _, UW.out⟩
  replace hv := hid hv
  replace ho := hid ho
  replace hx := hid hx
  replace hu := hid hu
  have hb512 : ∀ x ∈ xs, x.bs.length = 512 := fun x hx' => by
    obtain ⟨h0, h1⟩ := hx.out x hx'
    rcases h1 with ⟨h9, _⟩ | ⟨_, _, h2, _⟩
    · rw [h0] at h9; exact absurd h9 (by decide)
    · exact h2
  obtain ⟨N, hN⟩ : ∃ N, xs.length = N := ⟨_, rfl⟩
  have HN := hid hN
  have NC : Hid (N = cnt k) := hid (by
    have := hv.out
    unfold allV at this
    simp only at this
    split at this
    · cases this
    · split at this
      · rename_i h1 h2
        injection this with this
        rw [this, List.length_map] at h2
        omega
      · cases this)
  have NB : Hid (1 ≤ N ∧ N ≤ 40 ∧ k ≤ N * 508) := hid (by have := NC.out; have := hk.out; have := cnt_room k this.1; unfold cnt at *; omega)
  have HB := hid hb512
  have LEN : Hid (∀ j, j ≤ N → (bodies ((xs.map Lk.key).take j)).length = j * 508) := hid (fun j hj => by
    rw [bodies_len (fun y hy => by
      obtain ⟨x, hx1, rfl⟩ := List.mem_map.1 (List.mem_of_mem_take hy)
      exact hb512 x hx1), List.length_take, List.length_map, HN.out]
    congr 1; omega)
  rw [hN]
  clear hN hb512
  go_wp2
  go_loopw [25, 10] (fun i b wr => ∃ (j : Nat) (A1 : Option Addr) (c1 l : Nat), j ≤ N ∧ i = .int .i64 j ∧ b = .slice A1 l c1 ∧ Hid (l = j * 508 ∧ Up w1 wr ∧ wr.ownsRow w1.heap.size 5 1 (.slice A1 l c1) l ((bodies ((xs.map Lk.key).take j)).map byteCell))) (fun i _ _ => N - (intOf i).toNat)
  case atStart => exact ⟨0, none, 0, 0, Nat.zero_le _, rfl, rfl, hid ⟨rfl, Up.refl _, own_nil _ _ _ _⟩⟩
  case round =>
    obtain ⟨j, A1, c1, l, hj, rfl, rfl, iv⟩ := hrel
    by_cases hlt : (j : Int) < N
    · have hjx : j < xs.length := by have := HN.out; omega
      obtain ⟨x, hjx⟩ : ∃ x, xs[j]? = some x := ⟨_, List.getElem?_eq_getElem hjx⟩
      obtain ⟨hl, u1, o1⟩ := iv.out
      obtain ⟨gb, go, hA, hcg⟩ := ((Rd.own ho.out).grown u1).row (f := Lk.cs) (k := 3) Lk.cs_len hjx (by decide)
      subst hA
      have d0 := hcg 0 _ rfl
      have d1 := hcg 1 _ rfl
      have d2 := hcg 2 _ rfl
      rw [Nat.add_zero] at d0
      rw [← Nat.add_assoc] at d1 d2
      have HX := hid (hx.out x (List.mem_of_getElem? hjx))
      have HXB := hid (HB.out x (List.mem_of_getElem? hjx))
      have HJX := hid hjx
      obtain ⟨pg, Ad, len, cap, e, bs⟩ := x
      simp only at d0 d1 d2
      obtain ⟨h0, hrow⟩ := HX.out
      simp only at h0
      subst h0
      rcases hrow with ⟨h9, _⟩ | ⟨_, h5, _, hown⟩
      · exact absurd h9 (by show ¬ (0 : Int) = 9; decide)
      simp only at h5 hown
      subst h5
      obtain ⟨g, hAd, hpr, _⟩ := own_pgRow HXB.out hown
      subst hAd
      have HPR := hid hpr
      have hcap := hpr.cap
      simp only at hcap
      have hc4 : ¬ (4 : Nat) = cap := by omega
      have hc5 : ¬ cap = 4 := by omega
      have KB : Hid (j < N ∧ N ≤ 40) := hid ⟨by omega, NB.out.2.1⟩
      have HL := hid hl
      have U1 := hid u1
      have O1 := hid o1
      clear hl u1 o1 hown hpr hjx hcg iv
      have RX : Hid (Rd (wr.alloc (.cells #[.int .i64 pg, .slice (some ⟨g, 0, none⟩) 512 cap, .int .i64 0] 167)) (some ⟨g, 4, none⟩) ((bs.drop 4).map byteCell)) := hid (by
        have hy : Rd w1 (some ⟨g, 0, none⟩) (bs.map byteCell) := HPR.out.bytes.rd
        have hy := ((hy.grown U1.out).grown (upAlD (Up.refl wr) (.cells #[.int .i64 pg, .slice (some ⟨g, 0, none⟩) 512 cap, .int .i64 0] 167))).drop 4
        rw [Nat.zero_add, ← List.map_drop] at hy
        exact hy)
      have UA := hid (upAlD (Up.refl wr) (.cells #[.int .i64 pg, .slice (some ⟨g, 0, none⟩) 512 cap, .int .i64 0] 167))
      obtain ⟨l2, hl2⟩ : ∃ l2, l + 508 = l2 := ⟨_, rfl⟩
      have HL2 := hid hl2
      clear hl2
      go_wp2_with (at_builtin; refine hold ?_)
      refine hid (wl_append elemB rfl (.tmp 29) (.tmp 32) rfl rfl (World.ownsRow.alloc O1.out _) rfl RX.out (m := 508) (by rw [List.length_map, List.length_drop, HXB.out]) (byteCells_one _) (by have := KB.out; have := HL.out; simp only [maxLen]; omega) (by have := KB.out; have := HL.out; omega) (by have := U1.out.size; simp; omega) ?_)
      intro A6 c6 w6 o6 g6 d6
      rw [HL2.out] at o6 ⊢
      have U6 : Hid (Up w1 w6) := hid (below_append (U1.out.t UA.out) (Nat.le_refl _) (by have := U1.out.size; have := UA.out.size; omega) (World.ownsRow.alloc O1.out _) g6)
      have O6 := hid o6
      clear o6 g6 d6
      have W1 : Hid (wrap64 ((j : Int) + 1) = ((j + 1 : Nat) : Int)) := hid (by have := KB.out; unfold wrap64; omega)
      go_wp2
      go_roundw
      case rel => exact ⟨j + 1, A6, c6, l2, by have := KB.out; omega, by rw [W1.out], rfl, hid ⟨by have := HL.out; have := HL2.out; omega, U6.out, by
        rw [take_next (by rw [List.getElem?_map, HJX.out]; rfl), bodies_snoc, List.map_append]
        exact O6.out⟩⟩
      case measure => rw [W1.out]; have := KB.out; simp only [intOf]; omega
    · obtain rfl : j = N := by omega
      obtain ⟨hl, u1, o1⟩ := iv.out
      rw [List.take_of_length_le (by rw [List.length_map, HN.out]; exact Nat.le_refl _)] at o1
      obtain ⟨b, hb⟩ : ∃ b, bodies (xs.map Lk.key) = b := ⟨_, rfl⟩
      have BL : Hid (b.length = l) := hid (by
        have := LEN.out j (Nat.le_refl _)
        rw [List.take_of_length_le (by rw [List.length_map, HN.out]; exact Nat.le_refl _), hb] at this
        omega)
      rw [hb] at o1
      have UW := hid (hu.out.t u1)
      have hlc : l ≤ c1 := by obtain ⟨_, _, e, h⟩ := own_form o1; injection e with _ _ e; omega
      have hA1 : ∃ g, A1 = some ⟨g, 0, none⟩ := by
        rcases o1.2 with ⟨hv, h0⟩ | ⟨g, cap, cur, hv, _⟩
        · have := NB.out; omega
        · injection hv with e1 _ _; exact ⟨g, e1⟩
      obtain ⟨g, rfl⟩ := hA1
      have hkl : k ≤ l := by have := NB.out; omega
      have hkc1 : (k : Int) ≤ (c1 : Int) := by omega
      have HKL : Hid (k ≤ l ∧ l ≤ c1 ∧ l < 1000000) := hid ⟨hkl, hlc, by have := NB.out; omega⟩
      have RB := hid (Rd.own o1)
      have RV : Hid (readV n B page k = if (b.drop k).any nz = true then ([], 9) else (b.take k, 0)) := hid (by
        unfold readV
        rw [if_neg (by have := hk.out; omega), Int.toNat_natCast, hv.out]
        simp only
        rw [hb])
      have TK : Hid (Bytes wr (some ⟨g, 0, none⟩) (b.take k) ∧ (b.take k).length = k) := hid ⟨by
        have := RB.out.take k
        rw [← List.map_take] at this
        exact this.bytes, by rw [List.length_take, BL.out]; omega⟩
      clear hl u1 o1 hb iv hlc
      by_cases hkc : c1 = k
      · have hlk : l = k := by have := HKL.out; omega
        have DR : Hid (b.drop k = []) := hid (List.drop_of_length_le (by rw [BL.out]; omega))
        have CF := nzAny_calls wr (some ⟨g, 0, none⟩) [] 0 0 (hid rfl) (hid (bytes_nil _ _)) (hid (by decide))
        have RV2 : Hid (readV n B page k = (b.take k, 0)) := hid (by rw [RV.out, DR.out]; rfl)
        subst hkc
        subst hlk
        clear RV
        go_wp2_with (go_at_call 108; refine CF.mono ?_; rintro e w' ⟨rfl, hw⟩; obtain rfl := hw.symm)
        go_ret2
        exact ReadSp.mk' RV2.out rfl ⟨TK.out.2.symm, TK.out.1, UW.out⟩
      · have CF := nzAny_calls wr (some ⟨g, k, none⟩) (b.drop k) (c1 - k) (l - k) (hid (by rw [List.length_drop, BL.out])) (hid (by
          have := RB.out.drop k
          rw [Nat.zero_add, ← List.map_drop] at this
          exact this.bytes)) (hid (by have := HKL.out; omega))
        cases han : (b.drop k).any nz with
        | true =>
          rw [han] at CF
          have RV2 : Hid (readV n B page k = ([], 9)) := hid (by rw [RV.out, han]; rfl)
          clear RV han
          go_wp2_with (go_at_call 108; refine CF.mono ?_; rintro e w' ⟨rfl, hw⟩; obtain rfl := hw.symm)
          go_ret2
          exact ReadSp.mk' RV2.out rfl ⟨rfl, bytes_nil _ _, UW.out⟩
        | false =>
          rw [han] at CF
          have RV2 : Hid (readV n B page k = (b.take k, 0)) := hid (by rw [RV.out, han]; rfl)
          clear RV han
          go_wp2_with (go_at_call 108; refine CF.mono ?_; rintro e w' ⟨rfl, hw⟩; obtain rfl := hw.symm)
          go_ret2
          exact ReadSp.mk' RV2.out rfl ⟨TK.out.2.symm, TK.out.1, UW.out⟩
/-- Read, whatever the heap's pages hold. -/
theorem readH_calls (w : World) (X : HpX) (n : Nat) (T : List Trk) (W : Nat → Int) (U : Nat → List UInt8) (hh : Hid (HeapW w X n T W U)) (hn : Hid (n ≤ 4000)) (page k : Int) :
    Calls Tryz.prog 35 #[.pointer (some ⟨X.h, 0, none⟩), .int .i64 page, .int .i64 k] w fun en w' => ∃ B, (∀ i, 2 ≤ i → i ≤ n → i ∉ allT T → B i = U i) ∧ ReadSp w n B page k en w' := by
  obtain ⟨L, hp, hs⟩ := hh.out
  obtain ⟨B, hB, hBU⟩ := hs.pgB
  by_cases hk : k < 1 ∨ 20000 < k
  · exact (readNo_calls w n B X.h page k 2 (by decide) (hid (by unfold readV; rw [if_pos hk])) (allNo_calls w X.h X.p X.t X.m X.q X.mv X.last n L (hid hp) page k (hid hk))).mono fun en w' h => ⟨B, hBU, h⟩
  · obtain ⟨kn, rfl⟩ : ∃ kn : Nat, k = (kn : Int) := ⟨k.toNat, by omega⟩
    exact (readYes_calls w n B X.h page kn (hid (by omega)) (all_calls w X.h X.p X.t X.m X.q X.mv X.last n L (hid hp) (hid ⟨hs.one, hn.out⟩) B (hid hB) page kn (hid (by omega)))).mono fun en w' h => ⟨B, hBU, h⟩
end Go.Proofs.YtbcghggkfnagoaaGreatDoor

namespace Go.Proofs.YtbcghggkfnagoaaGreatDoor
open Go Go.RowKit Go.Maps Hach

def PagesSp (w : World) (l : List Nat) (en : Ending) (w' : World) : Prop :=
  ∃ (A : Option Addr) (m c : Nat), en = .returned (.tuple #[.slice A m c, .int .i64 0]) ∧ Hid (m = l.length ∧ w'.ownsRow w.heap.size 3 1 (.slice A m c) m (l.map natCell) ∧ Up w w')
set_option maxRecDepth 100000 in
set_option maxHeartbeats 4000000 in
theorem pagesYes_calls (w : World) (n : Nat) (B : Nat → List UInt8) (h : Nat) (page : Int) (k : Nat) (E : List (Int × List UInt8 × Int)) (l : List Nat) (hv : Hid (allV n B page k = some E)) (hl : Hid (E.map Prod.fst = l.map fun p : Nat => (p : Int))) (hn : Hid (l.length ≤ 100))
    (CA : Calls Tryz.prog 107 #[.pointer (some ⟨h, 0, none⟩), .int .i64 page, .int .i64 k] w (AllSp w n B page k)) :
    Calls Tryz.prog 64 #[.pointer (some ⟨h, 0, none⟩), .int .i64 page, .int .i64 k] w (PagesSp w l) := by
  go_enter Tryz.func64, Tryz.ntmps64
  go_wp2_with fail
  refine CA.mono ?_
  clear CA
  rintro en w1 ⟨hu, ⟨hv2, rfl⟩ | ⟨A, c, xs, hv2, rfl, ho, hx⟩⟩
  · exact absurd (hv2.symm.trans hv.out) (by simp)
  have hE := Option.some.inj (hv2.symm.trans hv.out)
  replace hl : Hid (xs.map Lk.page = l.map fun p : Nat => (p : Int)) := hid (by
    have h1 := hl.out
    rw [← hE, List.map_map] at h1
    exact h1)
  replace ho := hid ho
  replace hu := hid hu
  clear hv2 hE hx
  obtain ⟨N, hN⟩ : ∃ N, xs.length = N := ⟨_, rfl⟩
  have HN := hid hN
  have LN : Hid (l.length = N) := hid (by have := congrArg List.length hl.out; rw [List.length_map, List.length_map] at this; omega)
  have NB : Hid (N ≤ 100) := hid (by have := hn.out; have := LN.out; omega)
  rw [hN]
  clear hN
  go_wp2
  go_loopw [22, 10] (fun i b wr => ∃ (j : Nat) (A1 : Option Addr) (c1 : Nat), j ≤ N ∧ i = .int .i64 j ∧ b = .slice A1 j c1 ∧ Hid (Up w1 wr ∧ wr.ownsRow w1.heap.size 3 1 (.slice A1 j c1) j ((l.take j).map natCell))) (fun i _ _ => N - (intOf i).toNat)
  case atStart => exact ⟨0, none, 0, Nat.zero_le _, rfl, rfl, hid ⟨Up.refl _, own_nil _ _ _ _⟩⟩
  case round =>
    obtain ⟨j, A1, c1, hj, rfl, rfl, iv⟩ := hrel
    by_cases hlt : (j : Int) < N
    · have hjx : j < xs.length := by have := HN.out; omega
      obtain ⟨x, hjx⟩ : ∃ x, xs[j]? = some x := ⟨_, List.getElem?_eq_getElem hjx⟩
      obtain ⟨u1, o1⟩ := iv.out
      obtain ⟨gb, go, hA, hcg⟩ := ((Rd.own ho.out).grown u1).row (f := Lk.cs) (k := 3) Lk.cs_len hjx (by decide)
      subst hA
      have d0 := hcg 0 _ rfl
      have d1 := hcg 1 _ rfl
      have d2 := hcg 2 _ rfl
      rw [Nat.add_zero] at d0
      rw [← Nat.add_assoc] at d1 d2
      obtain ⟨p, hp, hpx⟩ : ∃ p : Nat, l[j]? = some p ∧ x.page = (p : Int) := by
        have h1 := congrArg (fun y => y[j]?) hl.out
        simp only [List.getElem?_map, hjx, Option.map_some] at h1
        cases hlj : l[j]? with
        | none => rw [hlj] at h1; cases h1
        | some p => rw [hlj] at h1; exact ⟨p, rfl, Option.some.inj h1⟩
      have HP := hid hp
      obtain ⟨pg, Ad, len, cap, e, bs⟩ := x
      simp only at d0 d1 d2 hpx
      subst hpx
      have KB : Hid (j < N ∧ N ≤ 100) := hid ⟨by omega, NB.out⟩
      have U1 := hid u1
      have O1 := hid o1
      clear u1 o1 hjx hcg iv hp
      have UA := hid ((upAlD (Up.refl wr) (.cells #[.int .i64 p, .slice Ad len cap, .int .i64 e] 167)).t (upAlD (Up.refl _) (.cells #[.int .i64 p] 3)))
      have W1 : Hid (wrap64 ((j : Int) + 1) = ((j + 1 : Nat) : Int)) := hid (by have := KB.out; unfold wrap64; omega)
      have RN : Hid (Rd ((wr.alloc (.cells #[.int .i64 p, .slice Ad len cap, .int .i64 e] 167)).alloc (.cells #[.int .i64 p] 3)) (some ⟨wr.heap.size + 1, 0, none⟩) [.int .i64 p]) := hid (by
        have := Rd.new (wr.alloc (.cells #[.int .i64 p, .slice Ad len cap, .int .i64 e] 167)) 3 (0, 0) [.int .i64 p]
        rw [World.size_alloc] at this
        exact this)
      go_wp2_with (at_builtin; refine hold ?_)
      refine hid (wl_append elemIN rfl (.tmp 26) (.tmp 29) rfl rfl (World.ownsRow.alloc (World.ownsRow.alloc O1.out _) _) rfl RN.out rfl (by simp [Value.oneCell']) (by have := KB.out; simp only [maxLen]; omega) (by have := KB.out; omega) (by have := U1.out.size; simp; omega) ?_)
      intro A6 c6 w6 o6 g6 d6
      have U6 : Hid (Up w1 w6) := hid (below_append (U1.out.t UA.out) (Nat.le_refl _) (by have := U1.out.size; have := UA.out.size; omega) (World.ownsRow.alloc (World.ownsRow.alloc O1.out _) _) g6)
      have O6 := hid o6
      clear o6 g6 d6
      go_wp2
      go_roundw
      case rel => exact ⟨j + 1, A6, c6, by have := KB.out; omega, by rw [W1.out], rfl, hid ⟨U6.out, by rw [take_next HP.out, List.map_append]; exact O6.out⟩⟩
      case measure => rw [W1.out]; have := KB.out; simp only [intOf]; omega
    · obtain rfl : j = N := by omega
      obtain ⟨u1, o1⟩ := iv.out
      rw [List.take_of_length_le (by rw [LN.out]; exact Nat.le_refl _)] at o1
      have UW := hid (hu.out.t u1)
      have OW := hid (own_base o1 hu.out.size)
      clear u1 o1 iv
      go_wp2
      go_ret2
      exact ⟨_, _, _, rfl, hid ⟨LN.out.symm, OW.out, UW.out⟩⟩
/-- Pages are given back, one by one. -/
def givesV (T : List Trk) (l : List Nat) : List Trk := l.foldl giveV T
theorem givesV_snoc (T : List Trk) (l : List Nat) (x : Nat) : givesV T (l ++ [x]) = giveV (givesV T l) x := by unfold givesV; rw [List.foldl_append]; rfl
theorem givesV_mem (T : List Trk) (l : List Nat) (z : Nat) : z ∈ allT (givesV T l) ↔ z ∈ l ∨ z ∈ allT T := by
  induction l generalizing T with
  | nil => simp [givesV]
  | cons x l ih =>
    show z ∈ allT (givesV (giveV T x) l) ↔ _
    rw [ih, giveV_mem, List.mem_cons]
    constructor
    · rintro (h | h | h)
      · exact .inl (.inr h)
      · exact .inl (.inl h)
      · exact .inr h
    · rintro ((h | h) | h)
      · exact .inr (.inl h)
      · exact .inl h
      · exact .inr (.inr h)
theorem givesV_len (T : List Trk) (l : List Nat) : (allT (givesV T l)).length = (allT T).length + l.length := by
  induction l generalizing T with
  | nil => rfl
  | cons x l ih => show (allT (givesV (giveV T x) l)).length = _; rw [ih, giveV_len, List.length_cons]; omega
/-- What a change of the heap leaves: a row of links. -/
theorem links_kept {w w' : World} {X : HpX} {n : Nat} {T : List Trk} {W : Nat → Int} {U : Nat → List UInt8} (h : HeapW w X n T W U) (hf : Fr (HpS X) w w') {base m : Nat} {v : Value} {e : TypeId} {size : Nat} {ys : List Value} (he : e ≠ 131) (ho : w.ownsRow base e size v m ys) : w'.ownsRow base e size v m ys := by
  obtain ⟨L, hp, hs⟩ := h
  obtain ⟨es, cl, hm⟩ := hp.tran.map.isMap
  refine hf.own ho (fun k hk => ?_)
  obtain ⟨cs, fr, e2⟩ := own_obj ho hk
  rintro (e3 | e3)
  · rw [e3, hp.tran.tran] at e2; injection e2 with e2; injection e2 with _ e2 _; exact he e2.symm
  · rw [e3, hm] at e2; cases e2
def FreeSp (w : World) (X : HpX) (n : Nat) (T : List Trk) (W : Nat → Int) (U : Nat → List UInt8) (l : List Nat) (en : Ending) (w' : World) : Prop :=
  en = .returned (.int .i64 0) ∧ Hid (HeapW w' X n (givesV T l) W U ∧ Fr (HpS X) w w')
set_option maxRecDepth 100000 in
set_option maxHeartbeats 4000000 in
theorem freeYes_calls (w : World) (X : HpX) (n : Nat) (T : List Trk) (W : Nat → Int) (U : Nat → List UInt8) (hh : Hid (HeapW w X n T W U)) (hn4 : Hid (n ≤ 4000)) (B : Nat → List UInt8) (page : Int) (k : Nat) (E : List (Int × List UInt8 × Int)) (l : List Nat)
    (hv : Hid (allV n B page k = some E)) (hl : Hid (E.map Prod.fst = l.map fun p : Nat => (p : Int))) (hn : Hid (l.length ≤ 100)) (hd : Hid (l.Nodup ∧ ∀ p ∈ l, 2 ≤ p ∧ p ≤ n ∧ p ∉ allT T))
    (CA : Calls Tryz.prog 107 #[.pointer (some ⟨X.h, 0, none⟩), .int .i64 page, .int .i64 k] w (AllSp w n B page k)) :
    Calls Tryz.prog 65 #[.pointer (some ⟨X.h, 0, none⟩), .int .i64 page, .int .i64 k] w (FreeSp w X n T W U l) := by
  go_enter Tryz.func65, Tryz.ntmps65
  go_wp2_with fail
  refine CA.mono ?_
  clear CA
  rintro en w1 ⟨hu, ⟨hv2, rfl⟩ | ⟨A, c, xs, hv2, rfl, ho, hx⟩⟩
  · exact absurd (hv2.symm.trans hv.out) (by simp)
  have hE := Option.some.inj (hv2.symm.trans hv.out)
  replace hl : Hid (xs.map Lk.page = l.map fun p : Nat => (p : Int)) := hid (by
    have h1 := hl.out
    rw [← hE, List.map_map] at h1
    exact h1)
  replace ho := hid ho
  replace hu := hid hu
  clear hv2 hE hx
  obtain ⟨N, hN⟩ : ∃ N, xs.length = N := ⟨_, rfl⟩
  have HN := hid hN
  have LN : Hid (l.length = N) := hid (by have := congrArg List.length hl.out; rw [List.length_map, List.length_map] at this; omega)
  have NB : Hid (N ≤ 100) := hid (by have := hn.out; have := LN.out; omega)
  rw [hN]
  clear hN
  go_wp2
  go_loopw [9, 8] (fun i e wr => ∃ (j : Nat), j ≤ N ∧ i = .int .i64 j ∧ e = .int .i64 0 ∧ Hid (HeapW wr X n (givesV T (l.take j)) W U ∧ Fr (HpS X) w1 wr ∧ wr.ownsRow w.heap.size 167 3 (.slice A N c) N (xs.flatMap Lk.cs))) (fun i _ _ => N - (intOf i).toNat)
  case atStart => exact ⟨0, Nat.zero_le _, rfl, rfl, hid ⟨hh.out.up hu.out, Fr.refl _ _, by rw [← HN.out]; exact ho.out⟩⟩
  case round =>
    obtain ⟨j, hj, rfl, rfl, iv⟩ := hrel
    by_cases hlt : (j : Int) < N
    · have hjx : j < xs.length := by have := HN.out; omega
      obtain ⟨x, hjx⟩ : ∃ x, xs[j]? = some x := ⟨_, List.getElem?_eq_getElem hjx⟩
      obtain ⟨h1, f1, o1⟩ := iv.out
      obtain ⟨gb, go, hA, hcg⟩ := (Rd.own o1).row (f := Lk.cs) (k := 3) Lk.cs_len hjx (by decide)
      subst hA
      have d0 := hcg 0 _ rfl
      rw [Nat.add_zero] at d0
      obtain ⟨p, hp, hpx⟩ : ∃ p : Nat, l[j]? = some p ∧ x.page = (p : Int) := by
        have h1 := congrArg (fun y => y[j]?) hl.out
        simp only [List.getElem?_map, hjx, Option.map_some] at h1
        cases hlj : l[j]? with
        | none => rw [hlj] at h1; cases h1
        | some p => rw [hlj] at h1; exact ⟨p, rfl, Option.some.inj h1⟩
      obtain ⟨pg, Ad, len, cap, e, bs⟩ := x
      simp only at d0 hpx
      subst hpx
      have PB := hd.out.2 p (List.mem_of_getElem? hp)
      have CG := giveH_calls wr X n (givesV T (l.take j)) W U p (hid h1) hn4 (hid ⟨PB.1, PB.2.1, fun e => by
        rcases (givesV_mem _ _ _).1 e with e | e
        · have hnd := hd.out.1
          have hs := split_at hp
          rw [hs, List.nodup_append] at hnd
          exact hnd.2.2 p e p List.mem_cons_self rfl
        · exact PB.2.2 e⟩)
      have HP := hid hp
      have KB : Hid (j < N ∧ N ≤ 100) := hid ⟨by omega, NB.out⟩
      have W1 : Hid (wrap64 ((j : Int) + 1) = ((j + 1 : Nat) : Int)) := hid (by have := KB.out; unfold wrap64; omega)
      have IV := iv
      clear h1 f1 o1 hjx hcg iv hp PB
      go_wp2_with (go_at_call 16; refine CG.mono ?_; rintro e w5 ⟨rfl, hr⟩)
      have REL : Hid (HeapW w5 X n (givesV T (l.take (j + 1))) W U ∧ Fr (HpS X) w1 w5 ∧ w5.ownsRow w.heap.size 167 3 (.slice (some ⟨gb, go, none⟩) N c) N (xs.flatMap Lk.cs)) := hid (by
        obtain ⟨h1, f1, o1⟩ := IV.out
        exact ⟨by rw [take_next HP.out, givesV_snoc]; exact hr.out.1, f1.trans' hr.out.2, links_kept h1 hr.out.2 (by decide) o1⟩)
      clear hr CG
      go_wp2
      go_roundw
      case rel => exact ⟨j + 1, by have := KB.out; omega, by rw [W1.out], rfl, REL⟩
      case measure => rw [W1.out]; have := KB.out; simp only [intOf]; omega
    · obtain rfl : j = N := by omega
      obtain ⟨h1, f1, o1⟩ := iv.out
      rw [List.take_of_length_le (by rw [LN.out]; exact Nat.le_refl _)] at h1
      have RES : Hid (HeapW wr X n (givesV T l) W U ∧ Fr (HpS X) w wr) := hid ⟨h1, ((Fr.of_below hu.out).mono (fun _ e => e.elim)).trans' f1⟩
      clear h1 f1 o1 iv
      go_wp2
      go_ret
      exact ⟨rfl, RES⟩
end Go.Proofs.YtbcghggkfnagoaaGreatDoor
