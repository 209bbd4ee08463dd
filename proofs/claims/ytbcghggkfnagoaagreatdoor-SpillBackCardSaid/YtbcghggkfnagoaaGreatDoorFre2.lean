/- THE WALKS of free's Heap: made, Pager, root, trunk, puts. THE WALK of free.Make. -/
import Derived.Test.YtbcghggkfnagoaaGreatDoorFre1
import Derived.Lib.BufferWrite
set_option linter.unusedVariables false
set_option linter.unusedSimpArgs false
namespace Go.Proofs.YtbcghggkfnagoaaGreatDoor
open Go Go.RowKit Go.Maps Hach

/-- A heap over a pager in a transaction. -/
structure HeapP (w : World) (h p : Nat) (q : PgN) (t m : Nat) (mv : Value) (last : Int) (n : Nat) (L : PgL) : Prop where
  own : w.heap[h]? = some (.cells #[.pointer (some ⟨p, 0, none⟩)] 110 (0, 0))
  tran : TranAt w p q t m mv last n L
section
variable {w w' : World} {h p t m : Nat} {q : PgN} {mv : Value} {last : Int} {n n' : Nat} {L L' : PgL}
theorem HeapP.cell (hh : HeapP w h p q t m mv last n L) : w.cell? ⟨h, 0, none⟩ = some (.pointer (some ⟨p, 0, none⟩)) := by rw [cell_of_row _ _ _ _ _ _ hh.own]; rfl
theorem HeapP.up (hh : HeapP w h p q t m mv last n L) (hu : Up w w') : HeapP w' h p q t m mv last n L := ⟨(hu.block h (Array.getElem?_eq_some_iff.1 hh.own).1).trans hh.own, hh.tran.up hu⟩
theorem HeapP.ne (hh : HeapP w h p q t m mv last n L) : h ≠ t ∧ h ≠ m := by
  have h1 := hh.own
  obtain ⟨es, cl, hm⟩ := hh.tran.map.isMap
  refine ⟨fun e => ?_, fun e => ?_⟩
  · rw [e, hh.tran.tran] at h1; injection h1 with h1; injection h1 with _ h1 _; exact absurd h1 (by decide)
  · rw [e, hm] at h1; cases h1
theorem HeapP.step (hh : HeapP w h p q t m mv last n L) (ht : TranAt w' p q t m mv last n' L') (hf : Fr (fun k => k = t ∨ k = m) w w') : HeapP w' h p q t m mv last n' L' :=
  ⟨(hf.block h (Array.getElem?_eq_some_iff.1 hh.own).1 (fun e => e.elim hh.ne.1 hh.ne.2)).trans hh.own, ht⟩
end
section
variable (w : World) (h p t m : Nat) (q : PgN) (mv : Value) (last : Int) (n : Nat) (L : PgL)
theorem hmade_calls (hh : Hid (HeapP w h p q t m mv last n L)) : Calls Tryz.prog 110 #[.pointer (some ⟨h, 0, none⟩)] w fun en w' => en = .returned (.bool true) ∧ w' = w := by
  have e0 := hh.out.cell
  go_enter Tryz.func110, Tryz.ntmps110
  go_wp2
  go_ret
  exact ⟨rfl, rfl⟩
theorem hpager_calls (hh : Hid (HeapP w h p q t m mv last n L)) : Calls Tryz.prog 37 #[.pointer (some ⟨h, 0, none⟩)] w fun en w' => en = .returned (.pointer (some ⟨p, 0, none⟩)) ∧ w' = w := by
  have e0 := hh.out.cell
  go_enter Tryz.func37, Tryz.ntmps37
  go_wp2_with (go_at_call 110; refine (hmade_calls w h p t m q mv last n L hh).mono ?_; rintro e w' ⟨rfl, hw⟩; obtain rfl := hw.symm)
  go_ret
  exact ⟨rfl, rfl⟩
/-- A page's bytes are handed back, in a block of the call's own. -/
def PageRet (w : World) (bs : List UInt8) (en : Ending) (w' : World) : Prop := ∃ g c, en = .returned (.tuple #[.slice (some ⟨g, 0, none⟩) 512 c, .int .i64 0]) ∧ Hid (OwnB w' w.heap.size (some ⟨g, 0, none⟩) c bs ∧ Up w w' ∧ bs.length = 512 ∧ 512 ≤ c ∧ w.heap.size ≤ g)
theorem pgetR_calls (hh : Hid (TranAt w p q t m mv last n L)) (i : Nat) (hi : Hid (1 ≤ i ∧ i ≤ n ∧ n < 1000000)) (x : PgX) (hx : Hid (gget L i = some x)) :
    Calls Tryz.prog 44 #[.pointer (some ⟨p, 0, none⟩), .int .i64 i] w (PageRet w x.bs) := by
  refine (pget_calls w p t m q mv last n L hh i hi x hx).mono ?_
  rintro en w' ⟨A, c, rfl, hr⟩
  have hl := (hh.out.rows _ (gget_mem hx.out)).len
  obtain ⟨g, rfl, hrow, hg⟩ := own_pgRow hl hr.out.1
  exact ⟨g, c, rfl, hid ⟨hr.out.1, hr.out.2, hl, hrow.cap, hg⟩⟩
set_option maxRecDepth 100000 in
set_option maxHeartbeats 2000000 in
theorem hroot_calls (hh : Hid (HeapP w h p q t m mv last n L)) (hn : Hid (1 ≤ n ∧ n < 1000000)) (x : PgX) (hx : Hid (gget L 1 = some x)) :
    Calls Tryz.prog 66 #[.pointer (some ⟨h, 0, none⟩)] w (PageRet w x.bs) := by
  have e0 := hh.out.cell
  go_enter Tryz.func66, Tryz.ntmps66
  go_wp2_with (go_at_call 110; refine (hmade_calls w h p t m q mv last n L hh).mono ?_; rintro e w' ⟨rfl, hw⟩; obtain rfl := hw.symm)
  refine (pgetR_calls w p t m q mv last n L (hid hh.out.tran) 1 (hid (by have := hn.out; omega)) x hx).mono ?_
  rintro en w2 ⟨g, c, rfl, hr⟩
  go_wp2
  go_ret2
  exact ⟨g, c, rfl, hr⟩
set_option maxRecDepth 100000 in
set_option maxHeartbeats 2000000 in
theorem htrunk_calls (hh : Hid (HeapP w h p q t m mv last n L)) (i : Nat) (hi : Hid (1 < i ∧ i ≤ n ∧ n < 1000000)) (x : PgX) (hx : Hid (gget L i = some x)) (hlf : Hid (pgGet x.bs 4 4 ≤ 126)) :
    Calls Tryz.prog 68 #[.pointer (some ⟨h, 0, none⟩), .int .i64 i] w (PageRet w x.bs) := by
  have e0 := hh.out.cell
  have h1 : ¬ (i : Int) ≤ 1 := by have := hi.out; omega
  have h2 : ¬ (n : Int) < i := by have := hi.out; omega
  have hwr : wrap64 (pgGet x.bs 4 4 : Int) = (pgGet x.bs 4 4 : Int) := by have := hlf.out; unfold wrap64; omega
  have h3 : (pgGet x.bs 4 4 : Int) ≤ 126 := by have := hlf.out; omega
  go_enter Tryz.func68, Tryz.ntmps68
  go_wp2_with (go_at_call 18; refine (ppages_calls w p t m q mv last n L (hid hh.out.tran)).mono ?_; rintro e w' ⟨rfl, hw⟩; obtain rfl := hw.symm)
  refine (pgetR_calls w p t m q mv last n L (hid hh.out.tran) i (hid (by have := hi.out; omega)) x hx).mono ?_
  rintro en w2 ⟨g, c, rfl, hr⟩
  go_wp2_with fail
  refine (fget_calls w2 g c x.bs 512 4 4 (hid hr.out.2.2.1) (hid ⟨by decide, by decide, by decide, by decide, hr.out.2.2.2.1⟩) (hid hr.out.1.bytes)).mono ?_
  rintro en w3 ⟨rfl, hw⟩
  obtain rfl := hw
  rw [hwr]
  go_wp2
  go_ret2
  exact ⟨g, c, rfl, hr⟩
theorem insG_len {α : Type} (x : Int × α) (L : List (Int × α)) : (insG x L).length = L.length + 1 := by
  induction L with
  | nil => rfl
  | cons y r ih => unfold insG; split <;> simp [ih]
theorem gput_len {α : Type} (L : List (Int × α)) (k : Int) (a : α) : (gput L k a).length ≤ L.length + 1 := by
  unfold gput
  rw [insG_len]
  have := List.length_filter_le (fun q : Int × α => !decide (q.1 = k)) L
  omega
theorem bytes_past {S : Nat → Prop} {w w' : World} {A : Option Addr} {xs : List UInt8} {m : Nat} (hb : Bytes w A xs) (hm : ∃ es cl, w.heap[m]? = some (.map es cl)) (hf : Fr (fun k => k = m) w w') : Bytes w' A xs := by
  cases xs with
  | nil => exact Bytes.nil _ _
  | cons x r =>
    obtain ⟨b, off, e, hc⟩ := hb 0 (by simp)
    refine (hb.rd.fr hf (fun b' off' e' hk => ?_)).bytes
    rw [e] at e'
    injection e' with e'
    injection e' with e1 _
    obtain ⟨es, cl, hm⟩ := hm
    have hbm : b = m := e1.trans hk
    subst hbm
    unfold World.cell? at hc
    rw [show (⟨b, off + 0, none⟩ : Addr).block = b from rfl, hm] at hc
    cases hc
set_option maxRecDepth 100000 in
set_option maxHeartbeats 2000000 in
-- Two pages are put.
theorem hputs_calls (hh : Hid (HeapP w h p q t m mv last n L)) (hL : Hid (L.length < 900000)) (i j : Nat) (hi : Hid (1 ≤ i ∧ i ≤ n ∧ n < 1000000)) (hj : Hid (1 ≤ j ∧ j ≤ n))
    (A : Option Addr) (xs : List UInt8) (c : Nat) (hxs : Hid (xs.length = 512)) (hb : Hid (Bytes w A xs)) (A2 : Option Addr) (ys : List UInt8) (c2 : Nat) (hys : Hid (ys.length = 512)) (hb2 : Hid (Bytes w A2 ys)) :
    Calls Tryz.prog 70 #[.pointer (some ⟨h, 0, none⟩), .int .i64 i, .slice A 512 c, .int .i64 j, .slice A2 512 c2] w fun en w' => en = .returned (.int .i64 0) ∧ ∃ g1 d1 g2 d2, Hid (HeapP w' h p q t m mv last n (gput (gput L i ⟨g1, d1, xs⟩) j ⟨g2, d2, ys⟩) ∧ Fr (fun k => k = m) w w') := by
  have e0 := hh.out.cell
  go_enter Tryz.func70, Tryz.ntmps70
  go_wp2_with fail
  refine (pput_calls w p t m q mv last n L (hid hh.out.tran) i hi (hid (by have := hL.out; omega)) A xs c hxs hb).mono ?_
  rintro en w2 ⟨rfl, g1, d1, hr⟩
  have H2 : Hid (HeapP w2 h p q t m mv last n (gput L i ⟨g1, d1, xs⟩)) := hid (hh.out.step hr.out.1 (hr.out.2.1.mono (fun k e => .inr e)))
  have e2 := H2.out.cell
  have hb3 : Hid (Bytes w2 A2 ys) := hid (bytes_past (S := fun _ => True) hb2.out hh.out.tran.map.isMap hr.out.2.1)
  have F2 := hid hr.out.2.1
  have HL2 : Hid ((gput L i ⟨g1, d1, xs⟩).length < 1000000) := hid (by have := gput_len L i ⟨g1, d1, xs⟩; have := hL.out; omega)
  clear hr e0
  go_wp2_with fail
  refine (pput_calls w2 p t m q mv last n _ (hid H2.out.tran) j (hid (by have := hi.out; have := hj.out; omega)) HL2 A2 ys c2 hys hb3).mono ?_
  rintro en w3 ⟨rfl, g2, d2, hr⟩
  have RES : Hid (HeapP w3 h p q t m mv last n (gput (gput L i ⟨g1, d1, xs⟩) j ⟨g2, d2, ys⟩) ∧ Fr (fun k => k = m) w w3) := hid ⟨H2.out.step hr.out.1 (hr.out.2.1.mono (fun k e => .inr e)), F2.out.trans' hr.out.2.1⟩
  clear hr e2
  go_wp2
  go_ret
  exact ⟨rfl, g1, d1, g2, d2, RES⟩
end
end Go.Proofs.YtbcghggkfnagoaaGreatDoor

namespace Go.Proofs.YtbcghggkfnagoaaGreatDoor
open Go Go.RowKit Go.Maps Hach

theorem elemFP : Elem Tryz.prog 121 5 (.int .u8 0) 1 1 := ⟨Tryz.underlying121, by kernel_rfl, rfl, by decide⟩
def magicB : List UInt8 := [104, 97, 99, 104, 117, 114, 101, 49]
def rootPage : List UInt8 := mkPut noPage 0 magicB
theorem rootPage_len : rootPage.length = 512 := by unfold rootPage; rw [mkPut_length (by rw [noPage_len]; decide), noPage_len]
set_option maxRecDepth 100000 in
set_option maxHeartbeats 1000000 in
theorem copyMagic {w : World} {base g c : Nat} (h : OwnB w base (some ⟨g, 0, none⟩) c noPage) :
    ∃ w', (∀ ty, (Builtin.copy_ #[121, 9] ty #[.slice (some ⟨g, 0, none⟩) 512 512, .string { data := #[104, 97, 99, 104, 117, 114, 101, 49] }]).run Tryz.prog w = .ok (goInt 8) w') ∧ OwnB w' base (some ⟨g, 0, none⟩) c rootPage ∧ Fr (fun k => k = g) w w' := by
  have h' : w.ownsRow base 5 1 (.slice (some ⟨g, 0, none⟩) noPage.length c) noPage.length (noPage.map byteCell) := h
  obtain ⟨cur, hg, hsz, hsp⟩ := own_splice h'
  have hr := hsp 0 (magicB.map byteCell) (by rw [List.length_map, noPage_len]; decide)
  rw [splice_bytes, List.length_map] at hr
  have hrun := fun ty => Lib.run_copy_row_string (P := Tryz.prog) w 121 9 ty 5 g 0 512 512 ⟨#[104, 97, 99, 104, 117, 114, 101, 49]⟩ cur 5 Tryz.underlying121 (by kernel_rfl) hg (by decide) (by rw [noPage_len] at hsz; show 0 + 8 ≤ _; omega)
  rw [← List.append_assoc] at hr
  refine ⟨_, hrun, ?_, fr_setRow w g _⟩
  unfold OwnB
  rw [rootPage_len]
  rw [noPage_len] at hr
  exact hr
def MakeRet (w : World) (p : Nat) (q : PgN) (t m : Nat) (mv : Value) (last : Int) (en : Ending) (w' : World) : Prop :=
  ∃ h g c, en = .returned (.tuple #[.pointer (some ⟨h, 0, none⟩), .int .i64 0]) ∧ Hid (HeapP w' h p q t m mv last 1 [(1, ⟨g, c, rootPage⟩)] ∧ Fr (fun k => k = t ∨ k = m) w w')
set_option maxRecDepth 100000 in
set_option maxHeartbeats 2000000 in
theorem make_calls (w : World) (p t m : Nat) (q : PgN) (mv : Value) (last : Int) (hh : Hid (TranAt w p q t m mv last 0 [])) :
    Calls Tryz.prog 60 #[.pointer (some ⟨p, 0, none⟩)] w (MakeRet w p q t m mv last) := by
  go_enter Tryz.func60, Tryz.ntmps60
  go_wp2_with (go_at_call 18; refine (ppages_calls w p t m q mv last 0 [] hh).mono ?_; rintro e w' ⟨rfl, hw⟩; obtain rfl := hw.symm)
  refine (pgrow_calls w p t m q mv last 0 [] hh (hid (by decide)) (hid (by decide))).mono ?_
  rintro en w2 ⟨rfl, g1, c1, hr⟩
  have T2 := hid hr.out.1
  have F2 := hid hr.out.2
  clear hr
  go_wp2_with (at_make; refine hold ?_)
  refine hid (wl_make elemFP rfl (.const (.int .i64 512)) (.const (.int .i64 512)) rfl w2.heap.size 512 rfl rfl rfl rfl (by decide) (by decide) (Nat.le_refl _) ?_)
  intro w3 o3 b3 z3
  have e3 : (madeCells (Value.int .u8 0).cells (512 * 1)).toList = noPage.map byteCell := by
    unfold noPage
    rw [Nat.mul_one]; show (madeCells #[Value.int IntKind.u8 0] 512).toList = _
    rw [toList_madeCells_one, List.map_replicate]; rfl
  rw [e3] at o3
  have O3 : OwnB w3 w2.heap.size (some ⟨w2.heap.size, 0, none⟩) 512 noPage := by unfold OwnB; rw [noPage_len]; exact o3
  obtain ⟨w4, hcp, o4, f4⟩ := copyMagic O3
  have B3 := hid b3
  have O4 := hid o4
  have F4 := hid f4
  have Z3 := hid z3
  clear o3 b3 z3 e3 O3 o4 f4
  go_wp2_with fail
  have U4 : Up w2 w4 := B3.out.trans (F4.out.below (Nat.le_of_lt Z3.out) (fun k hk e => by omega))
  have uA := upAlD (Up.refl w4) (.cells #[.pointer (some ⟨p, 0, none⟩)] 110)
  have TA := hid ((T2.out.up U4).up uA)
  have UA := hid (U4.t uA)
  have BA : Hid (Bytes (w4.alloc (.cells #[.pointer (some ⟨p, 0, none⟩)] 110)) (some ⟨w2.heap.size, 0, none⟩) rootPage) := hid (O4.out.bytes.grown uA)
  have hown : (w4.alloc (.cells #[.pointer (some ⟨p, 0, none⟩)] 110)).heap[w4.heap.size]? = some (.cells #[.pointer (some ⟨p, 0, none⟩)] 110 (0, 0)) := heap_alloc_new w4 _
  have HO := hid hown
  clear U4 uA hown hcp
  refine (pput_calls _ p t m q mv last 1 _ TA 1 (hid ⟨by decide, by decide, by decide⟩) (hid (by show (1 : Nat) < _; decide)) _ rootPage 512 (hid rootPage_len) BA).mono ?_
  rintro en w5 ⟨rfl, g5, c5, hr⟩
  have key : ∀ x y : PgX, gput (gput ([] : PgL) ((0 + 1 : Nat) : Int) x) ((1 : Nat) : Int) y = [(1, y)] := fun x y => by simp [gput, insG]
  have RES : Hid (HeapP w5 w4.heap.size p q t m mv last 1 [(1, ⟨g5, c5, rootPage⟩)] ∧ Fr (fun k => k = t ∨ k = m) w w5) := hid (by
    have h1 := hr.out.1
    rw [key] at h1
    have hm : w4.heap.size ≠ m := by
      intro e
      obtain ⟨es, cl, hmm⟩ := TA.out.map.isMap
      rw [← e, HO.out] at hmm; cases hmm
    exact ⟨⟨(hr.out.2.1.block w4.heap.size (Array.getElem?_eq_some_iff.1 HO.out).1 hm).trans HO.out, h1⟩, (F2.out.trans' ((Fr.of_below UA.out).mono (fun _ e => e.elim))).trans' (hr.out.2.1.mono (fun k e => .inr e))⟩)
  clear hr key
  go_wp2
  go_ret2
  exact ⟨_, g5, c5, rfl, RES⟩
end Go.Proofs.YtbcghggkfnagoaaGreatDoor
