/- THE WALK of free.Make. -/
import Derived.Test.YtbcghggkfnagoaaGreatDoorFre2
import Derived.Lib.BufferWrite
set_option linter.unusedVariables false
set_option linter.unusedSimpArgs false
namespace Go.Proofs.YtbcghggkfnagoaaGreatDoor
open Go Go.RowKit Go.Maps Hach

theorem elemFP : Elem Tryz.prog 121 5 (.int .u8 0) 1 1 := ⟨Tryz.underlying121, by kernel_rfl, rfl, by decide⟩
def magicB : List UInt8 := [104, 97, 99, 104, 117, 114, 101, 49]
def rootPage : List UInt8 := mkPut noPage 0 magicB
theorem rootPage_len : rootPage.length = 512 := by unfold rootPage; rw [mkPut_length (by rw [noPage_len]; decide), noPage_len]
set_option maxRecDepth 100000 in
set_option maxHeartbeats 1000000 in
theorem copyMagic {w : World} {base g c : Nat} (h : OwnB w base (some ⟨g, 0, none⟩) c noPage) :
    ∃ w', (∀ ty, (Builtin.copy_ #[121, 9] ty #[.slice (some ⟨g, 0, none⟩) 512 512, .string { data := #[104, 97, 99, 104, 117, 114, 101, 49] }]).run Tryz.prog w = .ok (goInt 8) w') ∧ OwnB w' base (some ⟨g, 0, none⟩) c rootPage ∧ Fr (fun k => k = g) w w' := by
  have h' : w.ownsRow base 5 1 (.slice (some ⟨g, 0, none⟩) noPage.length c) noPage.length (noPage.map byteCell) := h
  obtain ⟨cur, hg, hsz, hsp⟩ := own_splice h'
  have hr := hsp 0 (magicB.map byteCell) (by rw [List.length_map, noPage_len]; decide)
  rw [splice_bytes, List.length_map] at hr
  have hrun := fun ty => Lib.run_copy_row_string (P := Tryz.prog) w 121 9 ty 5 g 0 512 512 ⟨#[104, 97, 99, 104, 117, 114, 101, 49]⟩ cur 5 Tryz.underlying121 (by kernel_rfl) hg (by decide) (by rw [noPage_len] at hsz; show 0 + 8 ≤ _; omega)
  rw [← List.append_assoc] at hr
  refine ⟨_, hrun, ?_, fr_setRow w g _⟩
  unfold OwnB
  rw [rootPage_len]
  rw [noPage_len] at hr
  exact hr
def MakeRet (w : World) (p : Nat) (q : PgN) (t m : Nat) (mv : Value) (last : Int) (en : Ending) (w' : World) : Prop :=
  ∃ h g c, en = .returned (.tuple #[.pointer (some ⟨h, 0, none⟩), .int .i64 0]) ∧ Hid (HeapP w' h p q t m mv last 1 [(1, ⟨g, c, rootPage⟩)] ∧ Fr (fun k => k = t ∨ k = m) w w')
set_option maxRecDepth 100000 in
set_option maxHeartbeats 2000000 in
theorem make_calls (w : World) (p t m : Nat) (q : PgN) (mv : Value) (last : Int) (hh : Hid (TranAt w p q t m mv last 0 [])) :
    Calls Tryz.prog 60 #[.pointer (some ⟨p, 0, none⟩)] w (MakeRet w p q t m mv last) := by
  go_enter Tryz.func60, Tryz.ntmps60
  go_wp2_with (go_at_call 18; refine (ppages_calls w p t m q mv last 0 [] hh).mono ?_; rintro e w' ⟨rfl, hw⟩; obtain rfl := hw.symm)
  refine (pgrow_calls w p t m q mv last 0 [] hh (hid (by decide)) (hid (by decide))).mono ?_
  rintro en w2 ⟨rfl, g1, c1, hr⟩
  have T2 := hid hr.out.1
  have F2 := hid hr.out.2
  clear hr
  go_wp2_with (at_make; refine hold ?_)
  refine hid (wl_make elemFP rfl (.const (.int .i64 512)) (.const (.int .i64 512)) rfl w2.heap.size 512 rfl rfl rfl rfl (by decide) (by decide) (Nat.le_refl _) ?_)
  intro w3 o3 b3 z3
  have e3 : (madeCells (Value.int .u8 0).cells (512 * 1)).toList = noPage.map byteCell := by
    unfold noPage
    rw [Nat.mul_one]; show (madeCells #[Value.int IntKind.u8 0] 512).toList = _
    rw [toList_madeCells_one, List.map_replicate]; rfl
  rw [e3] at o3
  have O3 : OwnB w3 w2.heap.size (some ⟨w2.heap.size, 0, none⟩) 512 noPage := by unfold OwnB; rw [noPage_len]; exact o3
  obtain ⟨w4, hcp, o4, f4⟩ := copyMagic O3
  have B3 := hid b3
  have O4 := hid o4
  have F4 := hid f4
  have Z3 := hid z3
  clear o3 b3 z3 e3 O3 o4 f4
  go_wp2_with fail
  have U4 : Up w2 w4 := B3.out.trans (F4.out.below (Nat.le_of_lt Z3.out) (fun k hk e => by omega))
  have uA := upAlD (Up.refl w4) (.cells #[.pointer (some ⟨p, 0, none⟩)] 110)
  have TA := hid ((T2.out.up U4).up uA)
  have UA := hid (U4.t uA)
  have BA : Hid (Bytes (w4.alloc (.cells #[.pointer (some ⟨p, 0, none⟩)] 110)) (some ⟨w2.heap.size, 0, none⟩) rootPage) := hid (O4.out.bytes.grown uA)
  have hown : (w4.alloc (.cells #[.pointer (some ⟨p, 0, none⟩)] 110)).heap[w4.heap.size]? = some (.cells #[.pointer (some ⟨p, 0, none⟩)] 110 (0, 0)) := heap_alloc_new w4 _
  have HO := hid hown
  clear U4 uA hown hcp
  refine (pput_calls _ p t m q mv last 1 _ TA 1 (hid ⟨by decide, by decide, by decide⟩) (hid (by show (1 : Nat) < _; decide)) _ rootPage 512 (hid rootPage_len) BA).mono ?_
  rintro en w5 ⟨rfl, g5, c5, hr⟩
  have key : ∀ x y : PgX, gput (gput ([] : PgL) ((0 + 1 : Nat) : Int) x) ((1 : Nat) : Int) y = [(1, y)] := fun x y => by simp [gput, insG]
  have RES : Hid (HeapP w5 w4.heap.size p q t m mv last 1 [(1, ⟨g5, c5, rootPage⟩)] ∧ Fr (fun k => k = t ∨ k = m) w w5) := hid (by
    have h1 := hr.out.1
    rw [key] at h1
    have hm : w4.heap.size ≠ m := by
      intro e
      obtain ⟨es, cl, hmm⟩ := TA.out.map.isMap
      rw [← e, HO.out] at hmm; cases hmm
    exact ⟨⟨(hr.out.2.1.block w4.heap.size (Array.getElem?_eq_some_iff.1 HO.out).1 hm).trans HO.out, h1⟩, (F2.out.trans' ((Fr.of_below UA.out).mono (fun _ e => e.elim))).trans' (hr.out.2.1.mono (fun k e => .inr e))⟩)
  clear hr key
  go_wp2
  go_ret2
  exact ⟨_, g5, c5, rfl, RES⟩
end Go.Proofs.YtbcghggkfnagoaaGreatDoor
