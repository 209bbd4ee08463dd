/- PARTS OF A PROOF, one behind the other: THE WALKS of free's Heap: made, Pager, root, trunk, puts. THE WALK of free.Make. THE WALK of free's Take. THE WALK of free's Take, of a trunk without leaves. THE WALK of free's Take, of a trunk with leaves. THE WALK of free's Give, where no page is free. THE WALK of free's Give, onto a trunk that has room. THE WALK of free's Give, onto a trunk that is full. THE HEAP, as its pages' numbers tell it: plain laws of what Take and Give do. THE HEAP's Take and Give, whatever is free. THE WALK of free's All. THE WALKS of hachurelaw08's fresh and lives. A SET OF NUMBERS, as a map of truth values. THE HEAP beside other memory; a new heap in the document's words. CONDITIONS: none of this text's own. -/
import Derived.Test.YtbcghggkfnagoaaGreatDoorQS16
import Derived.Lib.BufferWrite
import Derived.Maps.OwnSet
import Derived.Maps.OwnOps
set_option linter.unusedVariables false
set_option linter.unusedSimpArgs false
namespace Go.Proofs.YtbcghggkfnagoaaGreatDoor
open Go Go.RowKit Go.Maps Hach

structure HeapP (w : World) (h p : Nat) (q : PgN) (t m : Nat) (mv : Value) (last : Int) (n : Nat) (L : PgL) : Prop where
  own : w.heap[h]? = some (.cells #[.pointer (some ⟨p, 0, none⟩)] 110 (0, 0))
  tran : TranAt w p q t m mv last n L
section
variable {w w' : World} {h p t m : Nat} {q : PgN} {mv : Value} {last : Int} {n n' : Nat} {L L' : PgL}
theorem HeapP.cell (hh : HeapP w h p q t m mv last n L) : w.cell? ⟨h, 0, none⟩ = some (.pointer (some ⟨p, 0, none⟩)) := by rw [cell_of_row _ _ _ _ _ _ hh.own]; rfl
theorem HeapP.up (hh : HeapP w h p q t m mv last n L) (hu : Up w w') : HeapP w' h p q t m mv last n L := ⟨(hu.block h (Array.getElem?_eq_some_iff.1 hh.own).1).trans hh.own, hh.tran.up hu⟩
theorem HeapP.ne (hh : HeapP w h p q t m mv last n L) : h ≠ t ∧ h ≠ m := by
  have h1 := hh.own
  obtain ⟨es, cl, hm⟩ := hh.tran.map.isMap
  refine ⟨fun e => ?_, fun e => ?_⟩
  · rw [e, hh.tran.tran] at h1; injection h1 with h1; injection h1 with _ h1 _; exact absurd h1 (by decide)
  · rw [e, hm] at h1; cases h1
theorem HeapP.step (hh : HeapP w h p q t m mv last n L) (ht : TranAt w' p q t m mv last n' L') (hf : Fr (fun k => k = t ∨ k = m) w w') : HeapP w' h p q t m mv last n' L' :=
  ⟨(hf.block h (Array.getElem?_eq_some_iff.1 hh.own).1 (fun e => e.elim hh.ne.1 hh.ne.2)).trans hh.own, ht⟩
end
section
variable (w : World) (h p t m : Nat) (q : PgN) (mv : Value) (last : Int) (n : Nat) (L : PgL)
theorem hmade_calls (hh : Hid (HeapP w h p q t m mv last n L)) : Calls Tryz.prog 110 #[.pointer (some ⟨h, 0, none⟩)] w fun en w' => en = .returned (.bool true) ∧ w' = w := by
  have e0 := hh.out.cell
  go_enter Tryz.func110, Tryz.ntmps110
  go_wp2
  go_ret
  exact ⟨rfl, rfl⟩
def PageRet (w : World) (bs : List UInt8) (en : Ending) (w' : World) : Prop := ∃ g c, en = .returned (.tuple #[.slice (some ⟨g, 0, none⟩) 512 c, .int .i64 0]) ∧ Hid (OwnB w' w.heap.size (some ⟨g, 0, none⟩) c bs ∧ Up w w' ∧ bs.length = 512 ∧ 512 ≤ c ∧ w.heap.size ≤ g)
theorem pgetR_calls (hh : Hid (TranAt w p q t m mv last n L)) (i : Nat) (hi : Hid (1 ≤ i ∧ i ≤ n ∧ n < 1000000)) (x : PgX) (hx : Hid (gget L i = some x)) :
    Calls Tryz.prog 44 #[.pointer (some ⟨p, 0, none⟩), .int .i64 i] w (PageRet w x.bs) := by
  refine (pget_calls w p t m q mv last n L hh i hi x hx).mono ?_
  rintro en w' ⟨A, c, rfl, hr⟩
  have hl := (hh.out.rows _ (gget_mem hx.out)).len
  obtain ⟨g, rfl, hrow, hg⟩ := own_pgRow hl hr.out.1
  exact ⟨g, c, rfl, hid ⟨hr.out.1, hr.out.2, hl, hrow.cap, hg⟩⟩
set_option maxRecDepth 100000 in
set_option maxHeartbeats 2000000 in
theorem hroot_calls (hh : Hid (HeapP w h p q t m mv last n L)) (hn : Hid (1 ≤ n ∧ n < 1000000)) (x : PgX) (hx : Hid (gget L 1 = some x)) :
    Calls Tryz.prog 66 #[.pointer (some ⟨h, 0, none⟩)] w (PageRet w x.bs) := by
  have e0 := hh.out.cell
  go_enter Tryz.func66, Tryz.ntmps66
  go_wp2_with (go_at_call 110; refine (hmade_calls w h p t m q mv last n L hh).mono ?_; rintro e w' ⟨rfl, hw⟩; obtain rfl := hw.symm)
  refine (pgetR_calls w p t m q mv last n L (hid hh.out.tran) 1 (hid (by have := hn.out; omega)) x hx).mono ?_
  rintro en w2 ⟨g, c, rfl, hr⟩
  go_wp2
  go_ret2
  exact ⟨g, c, rfl, hr⟩
set_option maxRecDepth 100000 in
set_option maxHeartbeats 2000000 in
theorem htrunk_calls (hh : Hid (HeapP w h p q t m mv last n L)) (i : Nat) (hi : Hid (1 < i ∧ i ≤ n ∧ n < 1000000)) (x : PgX) (hx : Hid (gget L i = some x)) (hlf : Hid (pgGet x.bs 4 4 ≤ 126)) :
    Calls Tryz.prog 68 #[.pointer (some ⟨h, 0, none⟩), .int .i64 i] w (PageRet w x.bs) := by
  have e0 := hh.out.cell
  have h1 : ¬ (i : Int) ≤ 1 := by have := hi.out; omega
  have h2 : ¬ (n : Int) < i := by have := hi.out; omega
  have hwr : wrap64 (pgGet x.bs 4 4 : Int) = (pgGet x.bs 4 4 : Int) := by have := hlf.out; unfold wrap64; omega
  have h3 : (pgGet x.bs 4 4 : Int) ≤ 126 := by have := hlf.out; omega
  go_enter Tryz.func68, Tryz.ntmps68
  go_wp2_with (go_at_call 18; refine (ppages_calls w p t m q mv last n L (hid hh.out.tran)).mono ?_; rintro e w' ⟨rfl, hw⟩; obtain rfl := hw.symm)
  refine (pgetR_calls w p t m q mv last n L (hid hh.out.tran) i (hid (by have := hi.out; omega)) x hx).mono ?_
  rintro en w2 ⟨g, c, rfl, hr⟩
  go_wp2_with fail
  refine (fget_calls w2 g c x.bs 512 4 4 (hid hr.out.2.2.1) (hid ⟨by decide, by decide, by decide, by decide, hr.out.2.2.2.1⟩) (hid hr.out.1.bytes)).mono ?_
  rintro en w3 ⟨rfl, hw⟩
  obtain rfl := hw
  rw [hwr]
  go_wp2
  go_ret2
  exact ⟨g, c, rfl, hr⟩
theorem insG_len {α : Type} (x : Int × α) (L : List (Int × α)) : (insG x L).length = L.length + 1 := by
  induction L with
  | nil => rfl
  | cons y r ih => unfold insG; split <;> simp [ih]
theorem gput_len {α : Type} (L : List (Int × α)) (k : Int) (a : α) : (gput L k a).length ≤ L.length + 1 := by
  unfold gput
  rw [insG_len]
  have := List.length_filter_le (fun q : Int × α => !decide (q.1 = k)) L
  omega
theorem bytes_past {S : Nat → Prop} {w w' : World} {A : Option Addr} {xs : List UInt8} {m : Nat} (hb : Bytes w A xs) (hm : ∃ es cl, w.heap[m]? = some (.map es cl)) (hf : Fr (fun k => k = m) w w') : Bytes w' A xs := by
  cases xs with
  | nil => exact Bytes.nil _ _
  | cons x r =>
    obtain ⟨b, off, e, hc⟩ := hb 0 (by simp)
    refine (hb.rd.fr hf (fun b' off' e' hk => ?_)).bytes
    rw [e] at e'
    injection e' with e'
    injection e' with e1 _
    obtain ⟨es, cl, hm⟩ := hm
    have hbm : b = m := e1.trans hk
    subst hbm
    unfold World.cell? at hc
    rw [show (⟨b, off + 0, none⟩ : Addr).block = b from rfl, hm] at hc
    cases hc
set_option maxRecDepth 100000 in
set_option maxHeartbeats 2000000 in
-- Two pages are put.
theorem hputs_calls (hh : Hid (HeapP w h p q t m mv last n L)) (hL : Hid (L.length < 900000)) (i j : Nat) (hi : Hid (1 ≤ i ∧ i ≤ n ∧ n < 1000000)) (hj : Hid (1 ≤ j ∧ j ≤ n))
    (A : Option Addr) (xs : List UInt8) (c : Nat) (hxs : Hid (xs.length = 512)) (hb : Hid (Bytes w A xs)) (A2 : Option Addr) (ys : List UInt8) (c2 : Nat) (hys : Hid (ys.length = 512)) (hb2 : Hid (Bytes w A2 ys)) :
    Calls Tryz.prog 70 #[.pointer (some ⟨h, 0, none⟩), .int .i64 i, .slice A 512 c, .int .i64 j, .slice A2 512 c2] w fun en w' => en = .returned (.int .i64 0) ∧ ∃ g1 d1 g2 d2, Hid (HeapP w' h p q t m mv last n (gput (gput L i ⟨g1, d1, xs⟩) j ⟨g2, d2, ys⟩) ∧ Fr (fun k => k = m) w w') := by
  have e0 := hh.out.cell
  go_enter Tryz.func70, Tryz.ntmps70
  go_wp2_with fail
  refine (pput_calls w p t m q mv last n L (hid hh.out.tran) i hi (hid (by have := hL.out; omega)) A xs c hxs hb).mono ?_
  rintro en w2 ⟨rfl, g1, d1, hr⟩
  have H2 : Hid (HeapP w2 h p q t m mv last n (gput L i ⟨g1, d1, xs⟩)) := hid (hh.out.step hr.out.1 (hr.out.2.1.mono (fun k e => .inr e)))
  have e2 := H2.out.cell
  have hb3 : Hid (Bytes w2 A2 ys) := hid (bytes_past (S := fun _ => True) hb2.out hh.out.tran.map.isMap hr.out.2.1)
  have F2 := hid hr.out.2.1
  have HL2 : Hid ((gput L i ⟨g1, d1, xs⟩).length < 1000000) := hid (by have := gput_len L i ⟨g1, d1, xs⟩; have := hL.out; omega)
  clear hr e0
  go_wp2_with fail
  refine (pput_calls w2 p t m q mv last n _ (hid H2.out.tran) j (hid (by have := hi.out; have := hj.out; omega)) HL2 A2 ys c2 hys hb3).mono ?_
  rintro en w3 ⟨rfl, g2, d2, hr⟩
  have RES : Hid (HeapP w3 h p q t m mv last n (gput (gput L i ⟨g1, d1, xs⟩) j ⟨g2, d2, ys⟩) ∧ Fr (fun k => k = m) w w3) := hid ⟨H2.out.step hr.out.1 (hr.out.2.1.mono (fun k e => .inr e)), F2.out.trans' hr.out.2.1⟩
  clear hr e2
  go_wp2
  go_ret
  exact ⟨rfl, g1, d1, g2, d2, RES⟩
end
end Go.Proofs.YtbcghggkfnagoaaGreatDoor

namespace Go.Proofs.YtbcghggkfnagoaaGreatDoor
open Go Go.RowKit Go.Maps Hach

theorem elemFP : Elem Tryz.prog 121 5 (.int .u8 0) 1 1 := ⟨Tryz.underlying121, by kernel_rfl, rfl, by decide⟩
def magicB : List UInt8 := [104, 97, 99, 104, 117, 114, 101, 49]
def rootPage : List UInt8 := mkPut noPage 0 magicB
theorem rootPage_len : rootPage.length = 512 := by unfold rootPage; rw [mkPut_length (by rw [noPage_len]; decide), noPage_len]
set_option maxRecDepth 100000 in
set_option maxHeartbeats 1000000 in
theorem copyMagic {w : World} {base g c : Nat} (h : OwnB w base (some ⟨g, 0, none⟩) c noPage) :
    ∃ w', (∀ ty, (Builtin.copy_ #[121, 9] ty #[.slice (some ⟨g, 0, none⟩) 512 512, .string { data := #[104, 97, 99, 104, 117, 114, 101, 49] }]).run Tryz.prog w = .ok (goInt 8) w') ∧ OwnB w' base (some ⟨g, 0, none⟩) c rootPage ∧ Fr (fun k => k = g) w w' := by
  have h' : w.ownsRow base 5 1 (.slice (some ⟨g, 0, none⟩) noPage.length c) noPage.length (noPage.map byteCell) := h
  obtain ⟨cur, hg, hsz, hsp⟩ := own_splice h'
  have hr := hsp 0 (magicB.map byteCell) (by rw [List.length_map, noPage_len]; decide)
  rw [splice_bytes, List.length_map] at hr
  have hrun := fun ty => Lib.run_copy_row_string (P := Tryz.prog) w 121 9 ty 5 g 0 512 512 ⟨#[104, 97, 99, 104, 117, 114, 101, 49]⟩ cur 5 Tryz.underlying121 (by kernel_rfl) hg (by decide) (by rw [noPage_len] at hsz; show 0 + 8 ≤ _; omega)
  rw [← List.append_assoc] at hr
  refine ⟨_, hrun, ?_, fr_setRow w g _⟩
  unfold OwnB
  rw [rootPage_len]
  rw [noPage_len] at hr
  exact hr
def MakeRet (w : World) (p : Nat) (q : PgN) (t m : Nat) (mv : Value) (last : Int) (en : Ending) (w' : World) : Prop :=
  ∃ h g c, en = .returned (.tuple #[.pointer (some ⟨h, 0, none⟩), .int .i64 0]) ∧ Hid (HeapP w' h p q t m mv last 1 [(1, ⟨g, c, rootPage⟩)] ∧ Fr (fun k => k = t ∨ k = m) w w')
set_option maxRecDepth 100000 in
set_option maxHeartbeats 2000000 in
theorem make_calls (w : World) (p t m : Nat) (q : PgN) (mv : Value) (last : Int) (hh : Hid (TranAt w p q t m mv last 0 [])) :
    Calls Tryz.prog 60 #[.pointer (some ⟨p, 0, none⟩)] w (MakeRet w p q t m mv last) := by
  go_enter Tryz.func60, Tryz.ntmps60
  go_wp2_with (go_at_call 18; refine (ppages_calls w p t m q mv last 0 [] hh).mono ?_; rintro e w' ⟨rfl, hw⟩; obtain rfl := hw.symm)
  refine (pgrow_calls w p t m q mv last 0 [] hh (hid (by decide)) (hid (by decide))).mono ?_
  rintro en w2 ⟨rfl, g1, c1, hr⟩
  have T2 := hid hr.out.1
  have F2 := hid hr.out.2
  clear hr
  go_wp2_with (at_make; refine hold ?_)
  refine hid (wl_make elemFP rfl (.const (.int .i64 512)) (.const (.int .i64 512)) rfl w2.heap.size 512 rfl rfl rfl rfl (by decide) (by decide) (Nat.le_refl _) ?_)
  intro w3 o3 b3 z3
  have e3 : (madeCells (Value.int .u8 0).cells (512 * 1)).toList = noPage.map byteCell := by
    unfold noPage
    rw [Nat.mul_one]; show (madeCells #[Value.int IntKind.u8 0] 512).toList = _
    rw [toList_madeCells_one, List.map_replicate]; rfl
  rw [e3] at o3
  have O3 : OwnB w3 w2.heap.size (some ⟨w2.heap.size, 0, none⟩) 512 noPage := by unfold OwnB; rw [noPage_len]; exact o3
  obtain ⟨w4, hcp, o4, f4⟩ := copyMagic O3
  have B3 := hid b3
  have O4 := hid o4
  have F4 := hid f4
  have Z3 := hid z3
  clear o3 b3 z3 e3 O3 o4 f4
  go_wp2_with fail
  have U4 : Up w2 w4 := B3.out.trans (F4.out.below (Nat.le_of_lt Z3.out) (fun k hk e => by omega))
  have uA := upAlD (Up.refl w4) (.cells #[.pointer (some ⟨p, 0, none⟩)] 110)
  have TA := hid ((T2.out.up U4).up uA)
  have UA := hid (U4.t uA)
  have BA : Hid (Bytes (w4.alloc (.cells #[.pointer (some ⟨p, 0, none⟩)] 110)) (some ⟨w2.heap.size, 0, none⟩) rootPage) := hid (O4.out.bytes.grown uA)
  have hown : (w4.alloc (.cells #[.pointer (some ⟨p, 0, none⟩)] 110)).heap[w4.heap.size]? = some (.cells #[.pointer (some ⟨p, 0, none⟩)] 110 (0, 0)) := heap_alloc_new w4 _
  have HO := hid hown
  clear U4 uA hown hcp
  refine (pput_calls _ p t m q mv last 1 _ TA 1 (hid ⟨by decide, by decide, by decide⟩) (hid (by show (1 : Nat) < _; decide)) _ rootPage 512 (hid rootPage_len) BA).mono ?_
  rintro en w5 ⟨rfl, g5, c5, hr⟩
  have key : ∀ x y : PgX, gput (gput ([] : PgL) ((0 + 1 : Nat) : Int) x) ((1 : Nat) : Int) y = [(1, y)] := fun x y => by simp [gput, insG]
  have RES : Hid (HeapP w5 w4.heap.size p q t m mv last 1 [(1, ⟨g5, c5, rootPage⟩)] ∧ Fr (fun k => k = t ∨ k = m) w w5) := hid (by
    have h1 := hr.out.1
    rw [key] at h1
    have hm : w4.heap.size ≠ m := by
      intro e
      obtain ⟨es, cl, hmm⟩ := TA.out.map.isMap
      rw [← e, HO.out] at hmm; cases hmm
    exact ⟨⟨(hr.out.2.1.block w4.heap.size (Array.getElem?_eq_some_iff.1 HO.out).1 hm).trans HO.out, h1⟩, (F2.out.trans' ((Fr.of_below UA.out).mono (fun _ e => e.elim))).trans' (hr.out.2.1.mono (fun k e => .inr e))⟩)
  clear hr key
  go_wp2
  go_ret2
  exact ⟨_, g5, c5, rfl, RES⟩
end Go.Proofs.YtbcghggkfnagoaaGreatDoor

namespace Go.Proofs.YtbcghggkfnagoaaGreatDoor
open Go Go.RowKit Go.Maps Hach

theorem pgGet_lt (b : List UInt8) (i : Nat) : pgGet b i 4 < 4294967296 := by
  unfold pgGet
  have h := Oct.val_lt ((b.drop i).take 4)
  have h2 : ((b.drop i).take 4).length ≤ 4 := by rw [List.length_take]; omega
  have h3 : 256 ^ ((b.drop i).take 4).length ≤ 256 ^ 4 := Nat.pow_le_pow_right (by decide) h2
  have h4 : (256 : Nat) ^ 4 = 4294967296 := by decide
  omega
theorem pg4 (b : List UInt8) (i : Nat) : wrap64 (pgGet b i 4 : Int) = (pgGet b i 4 : Int) := by have := pgGet_lt b i; unfold wrap64; omega
theorem u64w {k : Nat} (h : k < 9223372036854775807) : IntKind.u64.wrap (k : Int) = (k : Int) := IntWalk.u64_in _ (by omega)
section
variable (w : World) (h p t m : Nat) (q : PgN) (mv : Value) (last : Int) (n : Nat) (L : PgL)
def TakeRet (w : World) (h p t m : Nat) (q : PgN) (mv : Value) (last : Int) (k n' : Nat) (S : PgL → Prop) (en : Ending) (w' : World) : Prop :=
  en = .returned (.tuple #[.int .i64 k, .int .i64 0]) ∧ ∃ L', Hid (HeapP w' h p q t m mv last n' L' ∧ Fr (fun k => k = t ∨ k = m) w w' ∧ S L')
set_option maxRecDepth 100000 in
set_option maxHeartbeats 2000000 in
theorem take0_calls (hh : Hid (HeapP w h p q t m mv last n L)) (hn : Hid (1 ≤ n ∧ n < 4000)) (hL : Hid (L.length < 900000)) (x : PgX) (hx : Hid (gget L 1 = some x)) (hc : Hid (pgGet x.bs 12 4 = 0)) :
    Calls Tryz.prog 15 #[.pointer (some ⟨h, 0, none⟩)] w (TakeRet w h p t m q mv last (n + 1) (n + 1) fun L' => ∃ g c, L' = gput L (n + 1 : Nat) ⟨g, c, noPage⟩) := by
  obtain ⟨n1, hn1⟩ : ∃ k, n + 1 = k := ⟨_, rfl⟩
  have CG : ∀ w', Up w w' → Calls _ _ _ w' _ := fun w' hu => pgrow_calls w' p t m q mv last n L (hid ((hh.out.up hu).tran)) (hid (by have := hn.out; omega)) (hid (by have := hL.out; omega))
  rw [hn1] at CG ⊢
  have p12 := pg4 x.bs 12
  have p8 := pg4 x.bs 8
  rw [hc.out] at p12
  obtain ⟨F, hF⟩ : ∃ k, pgGet x.bs 8 4 = k := ⟨_, rfl⟩
  rw [hF] at p8
  go_enter Tryz.func15, Tryz.ntmps15
  go_wp2_with (go_at_call 66; refine (hroot_calls w h p t m q mv last n L hh (hid (by have := hn.out; omega)) x hx).mono ?_; rintro en w2 ⟨g, c, rfl, hr⟩)
  have C12 := fget_calls w2 g c x.bs 512 12 4 (hid hr.out.2.2.1) (hid ⟨by decide, by decide, by decide, by decide, hr.out.2.2.2.1⟩) (hid hr.out.1.bytes)
  have C8 := fget_calls w2 g c x.bs 512 8 4 (hid hr.out.2.2.1) (hid ⟨by decide, by decide, by decide, by decide, hr.out.2.2.2.1⟩) (hid hr.out.1.bytes)
  rw [hc.out, p12] at C12
  rw [hF, p8] at C8
  refine C12.mono ?_
  rintro en w3 ⟨rfl, hw⟩
  obtain rfl := hw.symm
  clear hw
  go_wp2_with fail
  refine C8.mono ?_
  rintro en w3 ⟨rfl, hw⟩
  obtain rfl := hw.symm
  clear hw
  have e0 := (hh.out.up hr.out.2.1).cell
  have UR := hid hr.out.2.1
  have HH2 := hid (hh.out.up hr.out.2.1)
  clear hr C12 C8
  go_wp2_with fail
  refine (CG _ UR.out).mono ?_
  rintro en w4 ⟨rfl, g4, c4, hr⟩
  have RES : Hid (HeapP w4 h p q t m mv last n1 (gput L n1 ⟨g4, c4, noPage⟩) ∧ Fr (fun k => k = t ∨ k = m) w w4) := hid ⟨HH2.out.step hr.out.1 hr.out.2, ((Fr.of_below UR.out).mono (fun _ e => e.elim)).trans' hr.out.2⟩
  clear hr
  go_wp2
  go_ret2
  exact ⟨rfl, _, hid ⟨RES.out.1, RES.out.2, g4, c4, rfl⟩⟩
end
end Go.Proofs.YtbcghggkfnagoaaGreatDoor

namespace Go.Proofs.YtbcghggkfnagoaaGreatDoor
open Go Go.RowKit Go.Maps Hach

theorem be4_len (k : Nat) : (Oct.be k 4).length = 4 := Oct.be_length k 4
theorem mk4_len {b : List UInt8} (h : b.length = 512) {i : Nat} (hi : i + 4 ≤ 512) (k : Nat) : (mkPut b i (Oct.be k 4)).length = 512 := by rw [mkPut_length (by rw [be4_len, h]; exact hi), h]
section
variable (w : World) (h p t m : Nat) (q : PgN) (mv : Value) (last : Int) (n : Nat) (L : PgL)
set_option maxRecDepth 100000 in
set_option maxHeartbeats 2000000 in
theorem take2_calls (hh : Hid (HeapP w h p q t m mv last n L)) (hn : Hid (1 ≤ n ∧ n ≤ 4000)) (hL : Hid (L.length < 800000)) (x : PgX) (hx : Hid (gget L 1 = some x)) (C F NX : Nat) (hC : Hid (pgGet x.bs 12 4 = C ∧ 0 < C ∧ C < 1000000)) (hF : Hid (pgGet x.bs 8 4 = F ∧ 1 < F ∧ F ≤ n)) (y : PgX) (hy : Hid (gget L F = some y)) (h0 : Hid (pgGet y.bs 4 4 = 0)) (hNX : Hid (pgGet y.bs 0 4 = NX)) :
    Calls Tryz.prog 15 #[.pointer (some ⟨h, 0, none⟩)] w (TakeRet w h p t m q mv last F n fun L' => ∃ g1 c1 g2 c2, L' = gput (gput L (1 : Nat) ⟨g1, c1, mkPut (mkPut x.bs 8 (Oct.be NX 4)) 12 (Oct.be (C - 1) 4)⟩) F ⟨g2, c2, noPage⟩) := by
  have p12 := pg4 x.bs 12
  have p8 := pg4 x.bs 8
  have q4 := pg4 y.bs 4
  have q0 := pg4 y.bs 0
  rw [hC.out.1] at p12
  rw [hF.out.1] at p8
  rw [h0.out] at q4
  rw [hNX.out] at q0
  have hC0 : ¬ (C : Int) = 0 := by have := hC.out; omega
  have hC1 : wrap64 ((C : Int) - 1) = ((C - 1 : Nat) : Int) := by have := hC.out; unfold wrap64; omega
  have NXB : Hid (NX < 4294967296) := hid (by rw [← hNX.out]; exact pgGet_lt _ _)
  obtain ⟨C1, hC1'⟩ : ∃ k, C - 1 = k := ⟨_, rfl⟩
  have C1B : Hid (C1 < 1000000) := hid (by have := hC.out; omega)
  rw [hC1'] at hC1 ⊢
  clear hC1'
  obtain ⟨RB, hRB⟩ : ∃ r, mkPut (mkPut x.bs 8 (Oct.be NX 4)) 12 (Oct.be C1 4) = r := ⟨_, rfl⟩
  rw [hRB]
  have HRB := hid hRB
  clear hRB
  go_enter Tryz.func15, Tryz.ntmps15
  go_wp2_with (go_at_call 66; refine (hroot_calls w h p t m q mv last n L hh (hid (by have := hn.out; omega)) x hx).mono ?_; rintro en w2 ⟨g, c, rfl, hr⟩)
  have C12 := fget_calls w2 g c x.bs 512 12 4 (hid hr.out.2.2.1) (hid ⟨by decide, by decide, by decide, by decide, hr.out.2.2.2.1⟩) (hid hr.out.1.bytes)
  have C8 := fget_calls w2 g c x.bs 512 8 4 (hid hr.out.2.2.1) (hid ⟨by decide, by decide, by decide, by decide, hr.out.2.2.2.1⟩) (hid hr.out.1.bytes)
  rw [hC.out.1, p12] at C12
  rw [hF.out.1, p8] at C8
  refine C12.mono ?_
  rintro en w3 ⟨rfl, hw⟩
  obtain rfl := hw.symm
  clear hw
  go_wp2_with fail
  refine C8.mono ?_
  rintro en w3 ⟨rfl, hw⟩
  obtain rfl := hw.symm
  clear hw C12 C8
  have XL : Hid (x.bs.length = 512 ∧ 512 ≤ c) := hid ⟨hr.out.2.2.1, hr.out.2.2.2.1⟩
  have UR := hid hr.out.2.1
  have HH2 := hid (hh.out.up hr.out.2.1)
  have OR := hid hr.out.1
  have GR : Hid (w.heap.size ≤ g) := hid hr.out.2.2.2.2
  have GR2 : Hid (g < w2.heap.size) := hid (own_block hr.out.1 g rfl).2
  clear hr
  go_wp2_with fail
  refine (htrunk_calls w2 h p t m q mv last n L HH2 F (hid (by have := hF.out; have := hn.out; omega)) y hy (hid (by rw [h0.out]; decide))).mono ?_
  rintro en w3 ⟨gT, cT, rfl, hr⟩
  have U3 := hid (UR.out.t hr.out.2.1)
  have HH3 := hid (HH2.out.up hr.out.2.1)
  have OR3 : Hid (OwnB w3 w.heap.size (some ⟨g, 0, none⟩) c x.bs) := hid ((Fr.of_below hr.out.2.1).own OR.out (fun _ _ e => e))
  have D4 := fget_calls w3 gT cT y.bs 512 4 4 (hid hr.out.2.2.1) (hid ⟨by decide, by decide, by decide, by decide, hr.out.2.2.2.1⟩) (hid hr.out.1.bytes)
  have D0 := fget_calls w3 gT cT y.bs 512 0 4 (hid hr.out.2.2.1) (hid ⟨by decide, by decide, by decide, by decide, hr.out.2.2.2.1⟩) (hid hr.out.1.bytes)
  rw [h0.out, q4] at D4
  rw [hNX.out, q0] at D0
  clear hr OR HH2
  go_wp2_with fail
  refine D4.mono ?_
  rintro en w4 ⟨rfl, hw⟩
  obtain rfl := hw.symm
  clear hw D4
  go_wp2_with fail
  refine D0.mono ?_
  rintro en w4 ⟨rfl, hw⟩
  obtain rfl := hw.symm
  clear hw D0
  go_wp2_with fail
  refine (fset_calls w3 w.heap.size g c x.bs 512 8 4 (NX : Int) NX (hid (u64w (by have := NXB.out; omega))) (hid (by have := NXB.out; omega)) (hid XL.out.1) (hid ⟨by decide, by decide, by decide, by decide, XL.out.2⟩) OR3).mono ?_
  rintro en w4 ⟨rfl, hr⟩
  have O4 := hid hr.out.1
  have F4 : Hid (Fr (fun k => k = g) w3 w4) := hid hr.out.2
  clear hr OR3
  go_wp2_with fail
  refine (fset_calls w4 w.heap.size g c _ 512 12 4 (C1 : Int) C1 (hid (u64w (by have := C1B.out; omega))) (hid (by have := C1B.out; omega)) (hid (mk4_len XL.out.1 (by decide) NX)) (hid ⟨by decide, by decide, by decide, by decide, XL.out.2⟩) O4).mono ?_
  rintro en w5 ⟨rfl, hr⟩
  have O5 := hid hr.out.1
  have U5 : Hid (Up w w5) := hid (U3.out.trans ((F4.out.trans' hr.out.2).below U3.out.size (fun k hk e => by have := GR.out; omega)))
  have RL : Hid ((mkPut (mkPut x.bs 8 (Oct.be NX 4)) 12 (Oct.be C1 4)).length = 512) := hid (mk4_len (mk4_len XL.out.1 (by decide) NX) (by decide) C1)
  rw [HRB.out] at O5 RL
  clear hr O4 F4
  go_wp2_with (at_make; refine hold ?_)
  refine hid (wl_make elemFP rfl (.const (.int .i64 512)) (.const (.int .i64 512)) rfl w5.heap.size 512 rfl rfl rfl rfl (by decide) (by decide) (Nat.le_refl _) ?_)
  intro w6 o6 b6 z6
  have e6 : (madeCells (Value.int .u8 0).cells (512 * 1)).toList = noPage.map byteCell := by
    unfold noPage
    rw [Nat.mul_one]; show (madeCells #[Value.int IntKind.u8 0] 512).toList = _
    rw [toList_madeCells_one, List.map_replicate]; rfl
  rw [e6] at o6
  have B6 : Hid (Bytes w6 (some ⟨w5.heap.size, 0, none⟩) noPage) := hid (Rd.own o6).bytes
  have R6 : Hid (Bytes w6 (some ⟨g, 0, none⟩) RB) := hid (O5.out.bytes.grown b6)
  have U6 : Hid (Up w w6) := hid (U5.out.t b6)
  have HH6 := hid (hh.out.up U6.out)
  clear o6 b6 z6 e6
  go_wp2_with fail
  refine (hputs_calls w6 h p t m q mv last n L HH6 (hid (by have := hL.out; omega)) 1 F (hid (by have := hn.out; omega)) (hid (by have := hF.out; omega)) _ RB c RL R6 _ noPage 512 (hid noPage_len) B6).mono ?_
  rintro en w7 ⟨rfl, g1, d1, g2, d2, hr⟩
  have RES := hid (show HeapP w7 h p q t m mv last n (gput (gput L (1 : Nat) ⟨g1, d1, RB⟩) F ⟨g2, d2, noPage⟩) ∧ Fr (fun k => k = t ∨ k = m) w w7 from ⟨hr.out.1, ((Fr.of_below U6.out).mono (fun _ e => e.elim)).trans' (hr.out.2.mono (fun k e => .inr e))⟩)
  clear hr
  go_wp2
  go_ret2
  exact ⟨rfl, _, hid ⟨RES.out.1, RES.out.2, g1, d1, g2, d2, rfl⟩⟩
end
end Go.Proofs.YtbcghggkfnagoaaGreatDoor

namespace Go.Proofs.YtbcghggkfnagoaaGreatDoor
open Go Go.RowKit Go.Maps Hach

theorem own_ne_map {w : World} {base g c m : Nat} {xs : List UInt8} (hl : xs.length = 512) (h : OwnB w base (some ⟨g, 0, none⟩) c xs) (hm : ∃ es cl, w.heap[m]? = some (.map es cl)) : g ≠ m := by
  obtain ⟨g', e, hr, _⟩ := own_pgRow hl h
  injection e with e
  injection e with e
  subst e
  obtain ⟨cs, fr, hb⟩ := hr.row.1
  obtain ⟨es, cl, hm⟩ := hm
  intro e9
  rw [← e9, show w.heap[g]? = _ from hb] at hm
  cases hm
theorem block_of_row {w : World} {x : PgX} (h : PgRow w x) : x.g < w.heap.size := by
  obtain ⟨cs, fr, hb⟩ := h.row.1
  exact (Array.getElem?_eq_some_iff.1 hb).1
theorem HeapP.past {w w' : World} {h p t m base g c n : Nat} {q : PgN} {mv : Value} {last : Int} {L : PgL} {xs : List UInt8} (hh : HeapP w h p q t m mv last n L) (hl : xs.length = 512) (ho : OwnB w base (some ⟨g, 0, none⟩) c xs) (hf : Fr (fun k => k = g) w w') (hr : ∀ y ∈ L, y.2.g ≠ g) : HeapP w' h p q t m mv last n L := by
  obtain ⟨g', e, hrow, _⟩ := own_pgRow hl ho
  injection e with e
  injection e with e
  subst e
  obtain ⟨cs, fr, hb⟩ := hrow.row.1
  have hb : w.heap[g]? = some (.cells cs 5 fr) := hb
  have h1 := hh.own
  have h2 := hh.tran.tran
  have h3 : w.heap[p]? = some (.cells (pagerCs q (.pointer (some ⟨t, 0, none⟩)) false) 80 (0, 0)) := hh.tran.own
  obtain ⟨es, cl, hm⟩ := hh.tran.map.isMap
  have e1 : h ≠ g := fun e => by rw [e, hb] at h1; injection h1 with h1; injection h1 with _ h1 _; exact absurd h1 (by decide)
  have e2 : t ≠ g := fun e => by rw [e, hb] at h2; injection h2 with h2; injection h2 with _ h2 _; exact absurd h2 (by decide)
  have e3 : p ≠ g := fun e => by rw [e, hb] at h3; injection h3 with h3; injection h3 with _ h3 _; exact absurd h3 (by decide)
  have e4 : m ≠ g := fun e => by rw [e, hb] at hm; cases hm
  exact ⟨(hf.block h (Array.getElem?_eq_some_iff.1 h1).1 e1).trans h1, hh.tran.own.fr hf e3, (hf.block t (Array.getElem?_eq_some_iff.1 h2).1 e2).trans h2, hh.tran.map.kept hf e4, fun y hy => (hh.tran.rows y hy).fr hf (hr y hy)⟩
section
variable (w : World) (h p t m : Nat) (q : PgN) (mv : Value) (last : Int) (n : Nat) (L : PgL)
set_option maxRecDepth 100000 in
set_option maxHeartbeats 2000000 in
theorem take1_calls (hh : Hid (HeapP w h p q t m mv last n L)) (hn : Hid (1 ≤ n ∧ n ≤ 4000)) (hL : Hid (L.length < 800000)) (x : PgX) (hx : Hid (gget L 1 = some x)) (C F k K1 POS TK : Nat) (hC : Hid (pgGet x.bs 12 4 = C ∧ 0 < C ∧ C < 1000000)) (hF : Hid (pgGet x.bs 8 4 = F ∧ 1 < F ∧ F ≤ n)) (y : PgX) (hy : Hid (gget L F = some y)) (hk : Hid (pgGet y.bs 4 4 = k ∧ k = K1 + 1 ∧ k ≤ 126)) (hpos : Hid (POS = 8 + K1 * 4)) (htk : Hid (pgGet y.bs POS 4 = TK ∧ 1 < TK ∧ TK ≤ n)) :
    Calls Tryz.prog 15 #[.pointer (some ⟨h, 0, none⟩)] w (TakeRet w h p t m q mv last TK n fun L' => ∃ g0 c0 g1 c1 g2 c2, L' = gput (gput (gput L F ⟨g0, c0, mkPut (mkPut y.bs 4 (Oct.be K1 4)) POS (Oct.be 0 4)⟩) (1 : Nat) ⟨g1, c1, mkPut x.bs 12 (Oct.be (C - 1) 4)⟩) TK ⟨g2, c2, noPage⟩) := by
  have p12 := pg4 x.bs 12
  have p8 := pg4 x.bs 8
  have q4 := pg4 y.bs 4
  have qP := pg4 y.bs POS
  rw [hC.out.1] at p12
  rw [hF.out.1] at p8
  rw [hk.out.1] at q4
  rw [htk.out.1] at qP
  have hC0 : ¬ (C : Int) = 0 := by have := hC.out; omega
  have hC1 : wrap64 ((C : Int) - 1) = ((C - 1 : Nat) : Int) := by have := hC.out; unfold wrap64; omega
  have hk0 : (0 : Int) < (k : Int) := by have := hk.out; omega
  have hk1 : wrap64 ((k : Int) - 1) = (K1 : Int) := by have := hk.out; unfold wrap64; omega
  obtain ⟨M4, hM4⟩ : ∃ z, K1 * 4 = z := ⟨_, rfl⟩
  have hk2 : wrap64 ((K1 : Int) * 4) = (M4 : Int) := by have := hk.out; unfold wrap64; omega
  have hk3 : wrap64 (8 + (M4 : Int)) = (POS : Int) := by have := hk.out; have := hpos.out; unfold wrap64; omega
  have htk1 : ¬ (TK : Int) ≤ 1 := by have := htk.out; omega
  have htk2 : ¬ (n : Int) < (TK : Int) := by have := htk.out; omega
  have PB : Hid (POS + 4 ≤ 512 ∧ K1 < 200) := hid (by have := hk.out; have := hpos.out; omega)
  obtain ⟨C1, hC1'⟩ : ∃ k, C - 1 = k := ⟨_, rfl⟩
  have C1B : Hid (C1 < 1000000) := hid (by have := hC.out; omega)
  rw [hC1'] at hC1 ⊢
  clear hC1' hM4
  obtain ⟨RB, hRB⟩ : ∃ r, mkPut x.bs 12 (Oct.be C1 4) = r := ⟨_, rfl⟩
  obtain ⟨TB, hTB⟩ : ∃ r, mkPut (mkPut y.bs 4 (Oct.be K1 4)) POS (Oct.be 0 4) = r := ⟨_, rfl⟩
  rw [hRB, hTB]
  have HRB := hid hRB
  have HTB := hid hTB
  clear hRB hTB
  go_enter Tryz.func15, Tryz.ntmps15
  go_wp2_with (go_at_call 66; refine (hroot_calls w h p t m q mv last n L hh (hid (by have := hn.out; omega)) x hx).mono ?_; rintro en w2 ⟨g, c, rfl, hr⟩)
  have C12 := fget_calls w2 g c x.bs 512 12 4 (hid hr.out.2.2.1) (hid ⟨by decide, by decide, by decide, by decide, hr.out.2.2.2.1⟩) (hid hr.out.1.bytes)
  have C8 := fget_calls w2 g c x.bs 512 8 4 (hid hr.out.2.2.1) (hid ⟨by decide, by decide, by decide, by decide, hr.out.2.2.2.1⟩) (hid hr.out.1.bytes)
  rw [hC.out.1, p12] at C12
  rw [hF.out.1, p8] at C8
  refine C12.mono ?_
  rintro en w3 ⟨rfl, hw⟩
  obtain rfl := hw.symm
  clear hw
  go_wp2_with fail
  refine C8.mono ?_
  rintro en w3 ⟨rfl, hw⟩
  obtain rfl := hw.symm
  clear hw C12 C8
  have XL : Hid (x.bs.length = 512 ∧ 512 ≤ c) := hid ⟨hr.out.2.2.1, hr.out.2.2.2.1⟩
  have UR := hid hr.out.2.1
  have HH2 := hid (hh.out.up hr.out.2.1)
  have OR := hid hr.out.1
  have GR : Hid (w.heap.size ≤ g) := hid hr.out.2.2.2.2
  have GR2 : Hid (g < w2.heap.size) := hid (own_block hr.out.1 g rfl).2
  clear hr
  go_wp2_with fail
  refine (htrunk_calls w2 h p t m q mv last n L HH2 F (hid (by have := hF.out; have := hn.out; omega)) y hy (hid (by have := hk.out; omega))).mono ?_
  rintro en w3 ⟨gT, cT, rfl, hr⟩
  have U3 := hid (UR.out.t hr.out.2.1)
  have HH3 := hid (HH2.out.up hr.out.2.1)
  have OR3 : Hid (OwnB w3 w.heap.size (some ⟨g, 0, none⟩) c x.bs) := hid ((Fr.of_below hr.out.2.1).own OR.out (fun _ _ e => e))
  have D4 := fget_calls w3 gT cT y.bs 512 4 4 (hid hr.out.2.2.1) (hid ⟨by decide, by decide, by decide, by decide, hr.out.2.2.2.1⟩) (hid hr.out.1.bytes)
  have DP := fget_calls w3 gT cT y.bs 512 POS 4 (hid hr.out.2.2.1) (hid ⟨PB.out.1, by decide, by decide, by decide, hr.out.2.2.2.1⟩) (hid hr.out.1.bytes)
  rw [hk.out.1, q4] at D4
  rw [htk.out.1, qP] at DP
  have YL : Hid (y.bs.length = 512 ∧ 512 ≤ cT) := hid ⟨hr.out.2.2.1, hr.out.2.2.2.1⟩
  have OT := hid hr.out.1
  have GT : Hid (w2.heap.size ≤ gT) := hid hr.out.2.2.2.2
  have W2B : Hid (w.heap.size ≤ w2.heap.size ∧ w2.heap.size ≤ w3.heap.size) := hid ⟨UR.out.size, hr.out.2.1.size⟩
  clear hr OR HH2
  go_wp2_with fail
  refine D4.mono ?_
  rintro en w4 ⟨rfl, hw⟩
  obtain rfl := hw.symm
  clear hw D4
  go_wp2_with fail
  refine DP.mono ?_
  rintro en w4 ⟨rfl, hw⟩
  obtain rfl := hw.symm
  clear hw DP
  have e30 := HH3.out.cell
  go_wp2_with (go_at_call 18; refine (ppages_calls w3 p t m q mv last n L (hid HH3.out.tran)).mono ?_; rintro en w' ⟨rfl, hw⟩; obtain rfl := hw.symm; clear hw)
  refine (fset_calls w3 w2.heap.size gT cT y.bs 512 4 4 (K1 : Int) K1 (hid (u64w (by have := PB.out; omega))) (hid (by have := PB.out; omega)) (hid YL.out.1) (hid ⟨by decide, by decide, by decide, by decide, YL.out.2⟩) OT).mono ?_
  rintro en w4 ⟨rfl, hr⟩
  have OT4 := hid hr.out.1
  have FT4 : Hid (Fr (fun k => k = gT) w3 w4) := hid hr.out.2
  clear hr OT e30
  go_wp2_with fail
  refine (fset_calls w4 w2.heap.size gT cT _ 512 POS 4 (0 : Int) 0 (hid (u64w (by decide))) (hid (by decide)) (hid (mk4_len YL.out.1 (by decide) K1)) (hid ⟨PB.out.1, by decide, by decide, by decide, YL.out.2⟩) OT4).mono ?_
  rintro en w5 ⟨rfl, hr⟩
  have OT5 := hid hr.out.1
  have FT5 : Hid (Fr (fun k => k = gT) w3 w5) := hid (FT4.out.trans' hr.out.2)
  have TL : Hid ((mkPut (mkPut y.bs 4 (Oct.be K1 4)) POS (Oct.be 0 4)).length = 512) := hid (mk4_len (mk4_len YL.out.1 (by decide) K1) PB.out.1 0)
  rw [HTB.out] at OT5 TL
  have U5 : Hid (Up w w5) := hid (U3.out.trans (FT5.out.below U3.out.size (fun k hk e => by have := GT.out; have := W2B.out; omega)))
  have OR5 : Hid (OwnB w5 w.heap.size (some ⟨g, 0, none⟩) c x.bs) := hid (FT5.out.own OR3.out (fun k e e2 => by have e' : g = k := Option.some.inj e; have := GT.out; have := GR2.out; omega))
  have HH5 := hid (hh.out.up U5.out)
  clear hr OT4 FT4 FT5 OR3 HH3
  have e50 := HH5.out.cell
  go_wp2_with fail
  refine (pput_calls w5 p t m q mv last n L (hid HH5.out.tran) F (hid (by have := hF.out; have := hn.out; omega)) (hid (by have := hL.out; omega)) _ TB cT TL (hid OT5.out.bytes)).mono ?_
  rintro en w6 ⟨rfl, g0, c0, hr⟩
  have HH6 := hid (HH5.out.step hr.out.1 (hr.out.2.1.mono (fun k e => .inr e)))
  have F6 := hid hr.out.2.1
  have G06 : Hid (w5.heap.size ≤ g0) := hid hr.out.2.2
  have GM : Hid (g ≠ m) := hid (own_ne_map XL.out.1 OR5.out HH5.out.tran.map.isMap)
  have OR6 : Hid (OwnB w6 w.heap.size (some ⟨g, 0, none⟩) c x.bs) := hid (F6.out.own OR5.out (fun k e e2 => GM.out ((Option.some.inj e).trans e2)))
  have GR5 : Hid (g < w5.heap.size) := hid (own_block OR5.out g rfl).2
  clear hr e50 OR5 OT5
  go_wp2_with fail
  refine (fset_calls w6 w.heap.size g c x.bs 512 12 4 (C1 : Int) C1 (hid (u64w (by have := C1B.out; omega))) (hid (by have := C1B.out; omega)) (hid XL.out.1) (hid ⟨by decide, by decide, by decide, by decide, XL.out.2⟩) OR6).mono ?_
  rintro en w7 ⟨rfl, hr⟩
  have O7 := hid hr.out.1
  have RL : Hid ((mkPut x.bs 12 (Oct.be C1 4)).length = 512) := hid (mk4_len XL.out.1 (by decide) C1)
  rw [HRB.out] at O7 RL
  have F7 : Hid (Fr (fun k => k = g) w6 w7) := hid hr.out.2
  have HH7 := hid (HH6.out.past XL.out.1 OR6.out F7.out (fun z hz => by
    rcases mem_gput hz with rfl | ⟨hz, _⟩
    · have h1 := G06.out; have h2 := GR5.out; show g0 ≠ g; omega
    · have h1 := block_of_row (hh.out.tran.rows z hz); have h2 := GR.out; omega))
  clear hr OR6 HH6
  go_wp2_with (at_make; refine hold ?_)
  refine hid (wl_make elemFP rfl (.const (.int .i64 512)) (.const (.int .i64 512)) rfl w7.heap.size 512 rfl rfl rfl rfl (by decide) (by decide) (Nat.le_refl _) ?_)
  intro w8 o8 b8 z8
  have e8 : (madeCells (Value.int .u8 0).cells (512 * 1)).toList = noPage.map byteCell := by
    unfold noPage
    rw [Nat.mul_one]; show (madeCells #[Value.int IntKind.u8 0] 512).toList = _
    rw [toList_madeCells_one, List.map_replicate]; rfl
  rw [e8] at o8
  have B8 : Hid (Bytes w8 (some ⟨w7.heap.size, 0, none⟩) noPage) := hid (Rd.own o8).bytes
  have R8 : Hid (Bytes w8 (some ⟨g, 0, none⟩) RB) := hid (O7.out.bytes.grown b8)
  have HH8 := hid (HH7.out.up b8)
  have U8 := hid b8
  clear o8 b8 z8 e8 HH7
  have HL8 : Hid ((gput L F ⟨g0, c0, TB⟩).length < 900000) := hid (by have := gput_len L F ⟨g0, c0, TB⟩; have := hL.out; omega)
  go_wp2_with fail
  refine (hputs_calls w8 h p t m q mv last n _ HH8 HL8 1 TK (hid (by have := hn.out; omega)) (hid (by have := htk.out; omega)) _ RB c RL R8 _ noPage 512 (hid noPage_len) B8).mono ?_
  rintro en w9 ⟨rfl, g1, d1, g2, d2, hr⟩
  have FF : Hid (Fr (fun k => k = t ∨ k = m) w w9) := hid ⟨by rw [hr.out.2.os, U8.out.os, F7.out.os, F6.out.os, U5.out.os], by rw [hr.out.2.tape, U8.out.tape, F7.out.tape, F6.out.tape, U5.out.tape], by rw [hr.out.2.output, U8.out.output, F7.out.output, F6.out.output, U5.out.output], by have := hr.out.2.size; have := U8.out.size; have := F7.out.size; have := F6.out.size; have := U5.out.size; omega, fun k hk hn => by
    have a1 := U5.out.size; have a2 := F6.out.size; have a3 := F7.out.size; have a4 := U8.out.size; have a5 := GR.out
    rw [hr.out.2.block k (by omega) (fun e => hn (.inr e)), U8.out.block k (by omega), F7.out.block k (by omega) (fun e => by omega), F6.out.block k (by omega) (fun e => hn (.inr e)), U5.out.block k hk]⟩
  have RES := hid (show HeapP w9 h p q t m mv last n (gput (gput (gput L F ⟨g0, c0, TB⟩) (1 : Nat) ⟨g1, d1, RB⟩) TK ⟨g2, d2, noPage⟩) ∧ Fr (fun k => k = t ∨ k = m) w w9 from ⟨hr.out.1, FF.out⟩)
  clear hr FF
  go_wp2
  go_ret2
  exact ⟨rfl, _, hid ⟨RES.out.1, RES.out.2, g0, c0, g1, d1, g2, d2, rfl⟩⟩
end
end Go.Proofs.YtbcghggkfnagoaaGreatDoor

namespace Go.Proofs.YtbcghggkfnagoaaGreatDoor
open Go Go.RowKit Go.Maps Hach

def GiveRet (w : World) (h p t m : Nat) (q : PgN) (mv : Value) (last : Int) (n : Nat) (S : PgL → Prop) (en : Ending) (w' : World) : Prop :=
  en = .returned (.int .i64 0) ∧ ∃ L', Hid (HeapP w' h p q t m mv last n L' ∧ Fr (fun k => k = t ∨ k = m) w w' ∧ S L')
section
variable (w : World) (h p t m : Nat) (q : PgN) (mv : Value) (last : Int) (n : Nat) (L : PgL)
set_option maxRecDepth 100000 in
set_option maxHeartbeats 2000000 in
theorem give0_calls (hh : Hid (HeapP w h p q t m mv last n L)) (hn : Hid (1 ≤ n ∧ n ≤ 4000)) (hL : Hid (L.length < 800000)) (x : PgX) (hx : Hid (gget L 1 = some x)) (i : Nat) (hi : Hid (1 < i ∧ i ≤ n)) (C : Nat) (hC : Hid (pgGet x.bs 12 4 = C ∧ C < 1000000)) (hF : Hid (pgGet x.bs 8 4 = 0)) :
    Calls Tryz.prog 16 #[.pointer (some ⟨h, 0, none⟩), .int .i64 i] w (GiveRet w h p t m q mv last n fun L' => ∃ g1 c1 g2 c2, L' = gput (gput L (1 : Nat) ⟨g1, c1, mkPut (mkPut x.bs 12 (Oct.be (C + 1) 4)) 8 (Oct.be i 4)⟩) i ⟨g2, c2, mkPut noPage 0 (Oct.be 0 4)⟩) := by
  have p12 := pg4 x.bs 12
  have p8 := pg4 x.bs 8
  rw [hC.out.1] at p12
  rw [hF.out] at p8
  have hi1 : ¬ (i : Int) ≤ 1 := by have := hi.out; omega
  have hi2 : ¬ (n : Int) < (i : Int) := by have := hi.out; omega
  obtain ⟨C1, hC1'⟩ : ∃ k, C + 1 = k := ⟨_, rfl⟩
  have hC1 : wrap64 ((C : Int) + 1) = (C1 : Int) := by have := hC.out; unfold wrap64; omega
  have C1B : Hid (C1 < 1000001) := hid (by have := hC.out; omega)
  rw [hC1']
  clear hC1'
  obtain ⟨RB, hRB⟩ : ∃ r, mkPut (mkPut x.bs 12 (Oct.be C1 4)) 8 (Oct.be i 4) = r := ⟨_, rfl⟩
  obtain ⟨TB, hTB⟩ : ∃ r, mkPut noPage 0 (Oct.be 0 4) = r := ⟨_, rfl⟩
  rw [hRB, hTB]
  have HRB := hid hRB
  have HTB := hid hTB
  clear hRB hTB
  go_enter Tryz.func16, Tryz.ntmps16
  go_wp2_with (go_at_call 66; refine (hroot_calls w h p t m q mv last n L hh (hid (by have := hn.out; omega)) x hx).mono ?_; rintro en w2 ⟨g, c, rfl, hr⟩; have e20 := (hh.out.up hr.out.2.1).cell)
  have XL : Hid (x.bs.length = 512 ∧ 512 ≤ c) := hid ⟨hr.out.2.2.1, hr.out.2.2.2.1⟩
  have UR := hid hr.out.2.1
  have HH2 := hid (hh.out.up hr.out.2.1)
  have OR := hid hr.out.1
  have GR : Hid (w.heap.size ≤ g) := hid hr.out.2.2.2.2
  have GR2 : Hid (g < w2.heap.size) := hid (own_block hr.out.1 g rfl).2
  clear hr
  refine (ppages_calls w2 p t m q mv last n L (hid HH2.out.tran)).mono ?_
  rintro en w' ⟨rfl, hw⟩
  obtain rfl := hw.symm
  clear hw e20
  have C12 := fget_calls w2 g c x.bs 512 12 4 (hid XL.out.1) (hid ⟨by decide, by decide, by decide, by decide, XL.out.2⟩) (hid OR.out.bytes)
  have C8 := fget_calls w2 g c x.bs 512 8 4 (hid XL.out.1) (hid ⟨by decide, by decide, by decide, by decide, XL.out.2⟩) (hid OR.out.bytes)
  rw [hC.out.1, p12] at C12
  rw [hF.out, p8] at C8
  go_wp2_with fail
  refine C8.mono ?_
  rintro en w3 ⟨rfl, hw⟩
  obtain rfl := hw.symm
  clear hw C8
  go_wp2_with fail
  refine C12.mono ?_
  rintro en w3 ⟨rfl, hw⟩
  obtain rfl := hw.symm
  clear hw C12
  go_wp2_with fail
  refine (fset_calls w2 w.heap.size g c x.bs 512 12 4 (C1 : Int) C1 (hid (u64w (by have := C1B.out; omega))) (hid (by have := C1B.out; omega)) (hid XL.out.1) (hid ⟨by decide, by decide, by decide, by decide, XL.out.2⟩) OR).mono ?_
  rintro en w3 ⟨rfl, hr⟩
  have O3 := hid hr.out.1
  have F3 : Hid (Fr (fun k => k = g) w2 w3) := hid hr.out.2
  clear hr OR
  go_wp2_with (at_make; refine hold ?_)
  refine hid (wl_make elemFP rfl (.const (.int .i64 512)) (.const (.int .i64 512)) rfl w3.heap.size 512 rfl rfl rfl rfl (by decide) (by decide) (Nat.le_refl _) ?_)
  intro w4 o4 b4 z4
  have e4 : (madeCells (Value.int .u8 0).cells (512 * 1)).toList = noPage.map byteCell := by
    unfold noPage
    rw [Nat.mul_one]; show (madeCells #[Value.int IntKind.u8 0] 512).toList = _
    rw [toList_madeCells_one, List.map_replicate]; rfl
  rw [e4] at o4
  have OT4 : Hid (OwnB w4 w3.heap.size (some ⟨w3.heap.size, 0, none⟩) 512 noPage) := hid (by unfold OwnB; rw [noPage_len]; exact o4)
  have O4 : Hid (OwnB w4 w.heap.size (some ⟨g, 0, none⟩) c _) := hid ((Fr.of_below b4).own O3.out (fun _ _ e => e))
  have U4 := hid b4
  clear o4 b4 z4 e4 O3
  go_wp2_with fail
  refine (fset_calls w4 w3.heap.size w3.heap.size 512 noPage 512 0 4 (0 : Int) 0 (hid (u64w (by decide))) (hid (by decide)) (hid noPage_len) (hid ⟨by decide, by decide, by decide, by decide, by decide⟩) OT4).mono ?_
  rintro en w5 ⟨rfl, hr⟩
  have OT5 := hid hr.out.1
  have TL : Hid ((mkPut noPage 0 (Oct.be 0 4)).length = 512) := hid (mk4_len noPage_len (by decide) 0)
  rw [HTB.out] at OT5 TL
  have F5 : Hid (Fr (fun k => k = w3.heap.size) w4 w5) := hid hr.out.2
  have G3 : Hid (g < w3.heap.size) := hid (by have := GR2.out; have := F3.out.size; omega)
  have O5 := hid (F5.out.own O4.out (fun k e e2 => by have e' : g = k := Option.some.inj e; have := G3.out; omega))
  clear hr OT4 O4
  go_wp2_with fail
  refine (fset_calls w5 w.heap.size g c _ 512 8 4 (i : Int) i (hid (u64w (by have := hi.out; have := hn.out; omega))) (hid (by have := hi.out; have := hn.out; omega)) (hid (mk4_len XL.out.1 (by decide) C1)) (hid ⟨by decide, by decide, by decide, by decide, XL.out.2⟩) O5).mono ?_
  rintro en w6 ⟨rfl, hr⟩
  have O6 := hid hr.out.1
  have RL : Hid ((mkPut (mkPut x.bs 12 (Oct.be C1 4)) 8 (Oct.be i 4)).length = 512) := hid (mk4_len (mk4_len XL.out.1 (by decide) C1) (by decide) i)
  rw [HRB.out] at O6 RL
  have OT6 : Hid (OwnB w6 w3.heap.size (some ⟨w3.heap.size, 0, none⟩) 512 TB) := hid (hr.out.2.own OT5.out (fun k e e2 => by have e' : w3.heap.size = k := Option.some.inj e; have := G3.out; omega))
  have U6 : Hid (Up w w6) := hid (by
    have u3 : Up w w3 := UR.out.trans (F3.out.below UR.out.size (fun k hk e => by have := GR.out; omega))
    have u5 : Up w w5 := (u3.t U4.out).trans (F5.out.below (Nat.le_trans u3.size U4.out.size) (fun k hk e => by have := u3.size; omega))
    exact u5.trans (hr.out.2.below u5.size (fun k hk e => by have := GR.out; omega)))
  have HH6 := hid (hh.out.up U6.out)
  clear hr O5 OT5 HH2
  go_wp2_with fail
  refine (hputs_calls w6 h p t m q mv last n L HH6 (hid (by have := hL.out; omega)) 1 i (hid (by have := hn.out; omega)) (hid (by have := hi.out; omega)) _ RB c RL (hid O6.out.bytes) _ TB 512 TL (hid OT6.out.bytes)).mono ?_
  rintro en w7 ⟨rfl, g1, d1, g2, d2, hr⟩
  have RES := hid (show HeapP w7 h p q t m mv last n (gput (gput L (1 : Nat) ⟨g1, d1, RB⟩) i ⟨g2, d2, TB⟩) ∧ Fr (fun k => k = t ∨ k = m) w w7 from ⟨hr.out.1, ((Fr.of_below U6.out).mono (fun _ e => e.elim)).trans' (hr.out.2.mono (fun k e => .inr e))⟩)
  clear hr
  go_wp2
  go_ret
  exact ⟨rfl, _, hid ⟨RES.out.1, RES.out.2, g1, d1, g2, d2, rfl⟩⟩
end
end Go.Proofs.YtbcghggkfnagoaaGreatDoor

namespace Go.Proofs.YtbcghggkfnagoaaGreatDoor
open Go Go.RowKit Go.Maps Hach

theorem wS {k K : Nat} (h : k < 1000000000) (e : k + 1 = K) : wrap64 ((k : Int) + 1) = (K : Int) := by subst e; unfold wrap64; omega
theorem wM4 {k K : Nat} (h : k < 1000000000) (e : k * 4 = K) : wrap64 ((k : Int) * 4) = (K : Int) := by subst e; unfold wrap64; omega
theorem w8p {k K : Nat} (h : k < 1000000000) (e : 8 + k = K) : wrap64 (8 + (k : Int)) = (K : Int) := by subst e; unfold wrap64; omega
section
variable (w : World) (h p t m : Nat) (q : PgN) (mv : Value) (last : Int) (n : Nat) (L : PgL)
set_option maxRecDepth 100000 in
set_option maxHeartbeats 2000000 in
theorem give1_calls (hh : Hid (HeapP w h p q t m mv last n L)) (hn : Hid (1 ≤ n ∧ n ≤ 4000)) (hL : Hid (L.length < 800000)) (x : PgX) (hx : Hid (gget L 1 = some x)) (i : Nat) (hi : Hid (1 < i ∧ i ≤ n)) (C F k POS : Nat) (hC : Hid (pgGet x.bs 12 4 = C ∧ C < 1000000)) (hF : Hid (pgGet x.bs 8 4 = F ∧ 1 < F ∧ F ≤ n)) (y : PgX) (hy : Hid (gget L F = some y)) (hk : Hid (pgGet y.bs 4 4 = k ∧ k < 126)) (hpos : Hid (POS = 8 + k * 4)) :
    Calls Tryz.prog 16 #[.pointer (some ⟨h, 0, none⟩), .int .i64 i] w (GiveRet w h p t m q mv last n fun L' => ∃ g1 c1 g2 c2, L' = gput (gput L (1 : Nat) ⟨g1, c1, mkPut x.bs 12 (Oct.be (C + 1) 4)⟩) F ⟨g2, c2, mkPut (mkPut y.bs 4 (Oct.be (k + 1) 4)) POS (Oct.be i 4)⟩) := by
  have hi1 : ¬ (i : Int) ≤ 1 := by have := hi.out; omega
  have hi2 : ¬ (n : Int) < (i : Int) := by have := hi.out; omega
  have hF0 : (0 : Int) < (F : Int) := by have := hF.out; omega
  have hk0 : (k : Int) < 126 := by have := hk.out; omega
  have B1 : C < 1000000000 := by have := hC.out; omega
  have B2 : k < 1000000000 := by have := hk.out; omega
  obtain ⟨C1, hC1'⟩ : ∃ k, C + 1 = k := ⟨_, rfl⟩
  obtain ⟨K1, hK1'⟩ : ∃ z, k + 1 = z := ⟨_, rfl⟩
  obtain ⟨M4, hM4⟩ : ∃ z, k * 4 = z := ⟨_, rfl⟩
  have B3 : M4 < 1000000000 := by have := hk.out; omega
  have B4 : 8 + M4 = POS := by have := hpos.out; omega
  have NB : Hid (C1 < 1000001 ∧ K1 < 200 ∧ POS + 4 ≤ 512) := hid (by have := hC.out; have := hk.out; have := hpos.out; omega)
  have HC1 : Hid (wrap64 ((C : Int) + 1) = (C1 : Int)) := hid (wS B1 hC1')
  have HK : Hid ((k : Int) + 1 = (K1 : Int) ∧ 8 + (k : Int) * 4 = (POS : Int)) := hid ⟨by omega, by omega⟩
  clear B1 B2 B3 B4
  have K1B : Hid (IntKind.u64.wrap (K1 : Int) = (K1 : Int)) := hid (u64w (by have := NB.out; omega))
  have UB : Hid ((K1 : Int) < 18446744073709551616 ∧ True) := hid ⟨by have := NB.out; omega, trivial⟩
  have P12 : Hid (wrap64 (pgGet x.bs 12 4 : Int) = (C : Int)) := hid ((pg4 x.bs 12).trans (by rw [hC.out.1]))
  have P8 : Hid (wrap64 (pgGet x.bs 8 4 : Int) = (F : Int)) := hid ((pg4 x.bs 8).trans (by rw [hF.out.1]))
  have Q4 : Hid (wrap64 (pgGet y.bs 4 4 : Int) = (k : Int)) := hid ((pg4 y.bs 4).trans (by rw [hk.out.1]))
  rw [hC1', hK1']
  clear hC1' hK1' hM4
  obtain ⟨RB, hRB⟩ : ∃ r, mkPut x.bs 12 (Oct.be C1 4) = r := ⟨_, rfl⟩
  obtain ⟨TB, hTB⟩ : ∃ r, mkPut (mkPut y.bs 4 (Oct.be K1 4)) POS (Oct.be i 4) = r := ⟨_, rfl⟩
  rw [hRB, hTB]
  have HRB := hid hRB
  have HTB := hid hTB
  clear hRB hTB
  go_enter Tryz.func16, Tryz.ntmps16
  go_wp2_with (go_at_call 66; refine (hroot_calls w h p t m q mv last n L hh (hid (by have := hn.out; omega)) x hx).mono ?_; rintro en w2 ⟨g, c, rfl, hr⟩; have e20 := (hh.out.up hr.out.2.1).cell)
  have XL : Hid (x.bs.length = 512 ∧ 512 ≤ c) := hid ⟨hr.out.2.2.1, hr.out.2.2.2.1⟩
  have UR := hid hr.out.2.1
  have HH2 := hid (hh.out.up hr.out.2.1)
  have OR := hid hr.out.1
  have GR : Hid (w.heap.size ≤ g) := hid hr.out.2.2.2.2
  have GR2 : Hid (g < w2.heap.size) := hid (own_block hr.out.1 g rfl).2
  clear hr
  refine (ppages_calls w2 p t m q mv last n L (hid HH2.out.tran)).mono ?_
  rintro en w' ⟨rfl, hw⟩
  obtain rfl := hw.symm
  clear hw e20
  have C12 := fget_calls w2 g c x.bs 512 12 4 (hid XL.out.1) (hid ⟨by decide, by decide, by decide, by decide, XL.out.2⟩) (hid OR.out.bytes)
  have C8 := fget_calls w2 g c x.bs 512 8 4 (hid XL.out.1) (hid ⟨by decide, by decide, by decide, by decide, XL.out.2⟩) (hid OR.out.bytes)
  rw [P12.out] at C12
  rw [P8.out] at C8
  go_wp2_with fail
  refine C8.mono ?_
  rintro en w3 ⟨rfl, hw⟩
  obtain rfl := hw.symm
  clear hw C8
  go_wp2_with fail
  refine C12.mono ?_
  rintro en w3 ⟨rfl, hw⟩
  obtain rfl := hw.symm
  clear hw C12
  have hC1 := HC1.out
  go_wp2_with fail
  clear hC1
  refine (fset_calls w2 w.heap.size g c x.bs 512 12 4 (C1 : Int) C1 (hid (u64w (by have := NB.out; omega))) (hid (by have := NB.out; omega)) (hid XL.out.1) (hid ⟨by decide, by decide, by decide, by decide, XL.out.2⟩) OR).mono ?_
  rintro en w3 ⟨rfl, hr⟩
  have O3 := hid hr.out.1
  have RL : Hid ((mkPut x.bs 12 (Oct.be C1 4)).length = 512) := hid (mk4_len XL.out.1 (by decide) C1)
  rw [HRB.out] at O3 RL
  have U3 : Hid (Up w w3) := hid (UR.out.trans (hr.out.2.below UR.out.size (fun k hk e => by have := GR.out; omega)))
  have HH3 := hid (hh.out.up U3.out)
  have G3 : Hid (g < w3.heap.size) := hid (own_block hr.out.1 g rfl).2
  clear hr OR HH2 GR2
  go_wp2_with fail
  refine (htrunk_calls w3 h p t m q mv last n L HH3 F (hid (by have := hF.out; have := hn.out; omega)) y hy (hid (by have := hk.out; omega))).mono ?_
  rintro en w4 ⟨gT, cT, rfl, hr⟩
  have U4 := hid hr.out.2.1
  have O4 : Hid (OwnB w4 w.heap.size (some ⟨g, 0, none⟩) c RB) := hid ((Fr.of_below hr.out.2.1).own O3.out (fun _ _ e => e))
  have D4 := fget_calls w4 gT cT y.bs 512 4 4 (hid hr.out.2.2.1) (hid ⟨by decide, by decide, by decide, by decide, hr.out.2.2.2.1⟩) (hid hr.out.1.bytes)
  rw [Q4.out] at D4
  have YL : Hid (y.bs.length = 512 ∧ 512 ≤ cT) := hid ⟨hr.out.2.2.1, hr.out.2.2.2.1⟩
  have OT := hid hr.out.1
  have GT : Hid (w3.heap.size ≤ gT) := hid hr.out.2.2.2.2
  clear hr O3 HH3
  go_wp2_with fail
  refine D4.mono ?_
  rintro en w5 ⟨rfl, hw⟩
  obtain rfl := hw.symm
  clear hw D4
  go_wp2_with fail
  rw [HK.out.1]
  refine (fset_calls w4 w3.heap.size gT cT y.bs 512 4 4 (K1 : Int) K1 K1B (hid UB.out.1) (hid YL.out.1) (hid ⟨by decide, by decide, by decide, by decide, YL.out.2⟩) OT).mono ?_
  rintro en w5 ⟨rfl, hr⟩
  have OT5 := hid hr.out.1
  have FT5 : Hid (Fr (fun k => k = gT) w4 w5) := hid hr.out.2
  clear hr OT
  go_wp2_with fail
  rw [HK.out.2]
  refine (fset_calls w5 w3.heap.size gT cT _ 512 POS 4 (i : Int) i (hid (u64w (by have := hi.out; have := hn.out; omega))) (hid (by have := hi.out; have := hn.out; omega)) (hid (mk4_len YL.out.1 (by decide) K1)) (hid ⟨NB.out.2.2, by decide, by decide, by decide, YL.out.2⟩) OT5).mono ?_
  rintro en w6 ⟨rfl, hr⟩
  have OT6 := hid hr.out.1
  have FT6 : Hid (Fr (fun k => k = gT) w4 w6) := hid (FT5.out.trans' hr.out.2)
  have TL : Hid ((mkPut (mkPut y.bs 4 (Oct.be K1 4)) POS (Oct.be i 4)).length = 512) := hid (mk4_len (mk4_len YL.out.1 (by decide) K1) NB.out.2.2 i)
  rw [HTB.out] at OT6 TL
  have O6 : Hid (OwnB w6 w.heap.size (some ⟨g, 0, none⟩) c RB) := hid (FT6.out.own O4.out (fun k e e2 => by have e' : g = k := Option.some.inj e; have := GT.out; have := G3.out; omega))
  have U6 : Hid (Up w w6) := hid ((U3.out.t U4.out).trans (FT6.out.below (Nat.le_trans U3.out.size U4.out.size) (fun k hk e => by have := GT.out; have := U3.out.size; omega)))
  have HH6 := hid (hh.out.up U6.out)
  clear hr OT5 FT5 FT6 O4
  go_wp2_with fail
  refine (hputs_calls w6 h p t m q mv last n L HH6 (hid (by have := hL.out; omega)) 1 F (hid (by have := hn.out; omega)) (hid (by have := hF.out; omega)) _ RB c RL (hid O6.out.bytes) _ TB cT TL (hid OT6.out.bytes)).mono ?_
  rintro en w7 ⟨rfl, g1, d1, g2, d2, hr⟩
  have RES := hid (show HeapP w7 h p q t m mv last n (gput (gput L (1 : Nat) ⟨g1, d1, RB⟩) F ⟨g2, d2, TB⟩) ∧ Fr (fun k => k = t ∨ k = m) w w7 from ⟨hr.out.1, ((Fr.of_below U6.out).mono (fun _ e => e.elim)).trans' (hr.out.2.mono (fun k e => .inr e))⟩)
  clear hr
  go_wp2
  go_ret
  exact ⟨rfl, _, hid ⟨RES.out.1, RES.out.2, g1, d1, g2, d2, rfl⟩⟩
end
end Go.Proofs.YtbcghggkfnagoaaGreatDoor

namespace Go.Proofs.YtbcghggkfnagoaaGreatDoor
open Go Go.RowKit Go.Maps Hach

section
variable (w : World) (h p t m : Nat) (q : PgN) (mv : Value) (last : Int) (n : Nat) (L : PgL)
set_option maxRecDepth 100000 in
set_option maxHeartbeats 2000000 in
theorem give2_calls (hh : Hid (HeapP w h p q t m mv last n L)) (hn : Hid (1 ≤ n ∧ n ≤ 4000)) (hL : Hid (L.length < 800000)) (x : PgX) (hx : Hid (gget L 1 = some x)) (i : Nat) (hi : Hid (1 < i ∧ i ≤ n)) (C F k : Nat) (hC : Hid (pgGet x.bs 12 4 = C ∧ C < 1000000)) (hF : Hid (pgGet x.bs 8 4 = F ∧ 1 < F ∧ F ≤ n)) (y : PgX) (hy : Hid (gget L F = some y)) (hk : Hid (pgGet y.bs 4 4 = k ∧ k = 126)) :
    Calls Tryz.prog 16 #[.pointer (some ⟨h, 0, none⟩), .int .i64 i] w (GiveRet w h p t m q mv last n fun L' => ∃ g1 c1 g2 c2, L' = gput (gput L (1 : Nat) ⟨g1, c1, mkPut (mkPut x.bs 12 (Oct.be (C + 1) 4)) 8 (Oct.be i 4)⟩) i ⟨g2, c2, mkPut noPage 0 (Oct.be F 4)⟩) := by
  have hi1 : ¬ (i : Int) ≤ 1 := by have := hi.out; omega
  have hi2 : ¬ (n : Int) < (i : Int) := by have := hi.out; omega
  have hF0 : (0 : Int) < (F : Int) := by have := hF.out; omega
  have HK0 : Hid (¬ (k : Int) < 126) := hid (by have := hk.out; omega)
  have B1 : C < 1000000000 := by have := hC.out; omega
  obtain ⟨C1, hC1'⟩ : ∃ k, C + 1 = k := ⟨_, rfl⟩
  have NB : Hid (C1 < 1000001 ∧ F < 4294967296) := hid (by have := hC.out; have := hF.out; have := hn.out; omega)
  have HC1 : Hid (wrap64 ((C : Int) + 1) = (C1 : Int)) := hid (wS B1 hC1')
  clear B1
  have P12 : Hid (wrap64 (pgGet x.bs 12 4 : Int) = (C : Int)) := hid ((pg4 x.bs 12).trans (by rw [hC.out.1]))
  have P8 : Hid (wrap64 (pgGet x.bs 8 4 : Int) = (F : Int)) := hid ((pg4 x.bs 8).trans (by rw [hF.out.1]))
  have Q4 : Hid (wrap64 (pgGet y.bs 4 4 : Int) = (k : Int)) := hid ((pg4 y.bs 4).trans (by rw [hk.out.1]))
  rw [hC1']
  clear hC1'
  obtain ⟨RB, hRB⟩ : ∃ r, mkPut (mkPut x.bs 12 (Oct.be C1 4)) 8 (Oct.be i 4) = r := ⟨_, rfl⟩
  obtain ⟨TB, hTB⟩ : ∃ r, mkPut noPage 0 (Oct.be F 4) = r := ⟨_, rfl⟩
  rw [hRB, hTB]
  have HRB := hid hRB
  have HTB := hid hTB
  clear hRB hTB
  go_enter Tryz.func16, Tryz.ntmps16
  go_wp2_with (go_at_call 66; refine (hroot_calls w h p t m q mv last n L hh (hid (by have := hn.out; omega)) x hx).mono ?_; rintro en w2 ⟨g, c, rfl, hr⟩; have e20 := (hh.out.up hr.out.2.1).cell)
  have XL : Hid (x.bs.length = 512 ∧ 512 ≤ c) := hid ⟨hr.out.2.2.1, hr.out.2.2.2.1⟩
  have UR := hid hr.out.2.1
  have HH2 := hid (hh.out.up hr.out.2.1)
  have OR := hid hr.out.1
  have GR : Hid (w.heap.size ≤ g) := hid hr.out.2.2.2.2
  have GR2 : Hid (g < w2.heap.size) := hid (own_block hr.out.1 g rfl).2
  clear hr
  refine (ppages_calls w2 p t m q mv last n L (hid HH2.out.tran)).mono ?_
  rintro en w' ⟨rfl, hw⟩
  obtain rfl := hw.symm
  clear hw e20
  have C12 := fget_calls w2 g c x.bs 512 12 4 (hid XL.out.1) (hid ⟨by decide, by decide, by decide, by decide, XL.out.2⟩) (hid OR.out.bytes)
  have C8 := fget_calls w2 g c x.bs 512 8 4 (hid XL.out.1) (hid ⟨by decide, by decide, by decide, by decide, XL.out.2⟩) (hid OR.out.bytes)
  rw [P12.out] at C12
  rw [P8.out] at C8
  go_wp2_with fail
  refine C8.mono ?_
  rintro en w3 ⟨rfl, hw⟩
  obtain rfl := hw.symm
  clear hw C8
  go_wp2_with fail
  refine C12.mono ?_
  rintro en w3 ⟨rfl, hw⟩
  obtain rfl := hw.symm
  clear hw C12
  have hC1 := HC1.out
  go_wp2_with fail
  clear hC1
  refine (fset_calls w2 w.heap.size g c x.bs 512 12 4 (C1 : Int) C1 (hid (u64w (by have := NB.out; omega))) (hid (by have := NB.out; omega)) (hid XL.out.1) (hid ⟨by decide, by decide, by decide, by decide, XL.out.2⟩) OR).mono ?_
  rintro en w3 ⟨rfl, hr⟩
  have O3 := hid hr.out.1
  have U3 : Hid (Up w w3) := hid (UR.out.trans (hr.out.2.below UR.out.size (fun k hk e => by have := GR.out; omega)))
  have HH3 := hid (hh.out.up U3.out)
  have G3 : Hid (g < w3.heap.size) := hid (own_block hr.out.1 g rfl).2
  clear hr OR HH2 GR2
  go_wp2_with fail
  refine (htrunk_calls w3 h p t m q mv last n L HH3 F (hid (by have := hF.out; have := hn.out; omega)) y hy (hid (by have := hk.out; omega))).mono ?_
  rintro en w4 ⟨gT, cT, rfl, hr⟩
  have U4 : Hid (Up w w4) := hid (U3.out.t hr.out.2.1)
  have O4 : Hid (OwnB w4 w.heap.size (some ⟨g, 0, none⟩) c _) := hid ((Fr.of_below hr.out.2.1).own O3.out (fun _ _ e => e))
  have D4 := fget_calls w4 gT cT y.bs 512 4 4 (hid hr.out.2.2.1) (hid ⟨by decide, by decide, by decide, by decide, hr.out.2.2.2.1⟩) (hid hr.out.1.bytes)
  rw [Q4.out] at D4
  have G4 : Hid (g < w4.heap.size) := hid (Nat.lt_of_lt_of_le G3.out hr.out.2.1.size)
  clear hr O3 HH3
  go_wp2_with fail
  refine D4.mono ?_
  rintro en w5 ⟨rfl, hw⟩
  obtain rfl := hw.symm
  clear hw D4
  have hk0 := HK0.out
  go_wp2_with (at_make; refine hold ?_)
  refine hid (wl_make elemFP rfl (.const (.int .i64 512)) (.const (.int .i64 512)) rfl w4.heap.size 512 rfl rfl rfl rfl (by decide) (by decide) (Nat.le_refl _) ?_)
  intro w5 o5 b5 z5
  have e5 : (madeCells (Value.int .u8 0).cells (512 * 1)).toList = noPage.map byteCell := by
    unfold noPage
    rw [Nat.mul_one]; show (madeCells #[Value.int IntKind.u8 0] 512).toList = _
    rw [toList_madeCells_one, List.map_replicate]; rfl
  rw [e5] at o5
  have OT5 : Hid (OwnB w5 w4.heap.size (some ⟨w4.heap.size, 0, none⟩) 512 noPage) := hid (by unfold OwnB; rw [noPage_len]; exact o5)
  have O5 : Hid (OwnB w5 w.heap.size (some ⟨g, 0, none⟩) c _) := hid ((Fr.of_below b5).own O4.out (fun _ _ e => e))
  have U5 : Hid (Up w w5) := hid (U4.out.t b5)
  clear o5 b5 z5 e5 O4
  go_wp2_with fail
  refine (fset_calls w5 w4.heap.size w4.heap.size 512 noPage 512 0 4 (F : Int) F (hid (u64w (by have := NB.out; omega))) (hid (by have := NB.out; omega)) (hid noPage_len) (hid ⟨by decide, by decide, by decide, by decide, by decide⟩) OT5).mono ?_
  rintro en w6 ⟨rfl, hr⟩
  have OT6 := hid hr.out.1
  have TL : Hid ((mkPut noPage 0 (Oct.be F 4)).length = 512) := hid (mk4_len noPage_len (by decide) F)
  rw [HTB.out] at OT6 TL
  have O6 := hid (hr.out.2.own O5.out (fun k e e2 => by have e' : g = k := Option.some.inj e; have := G4.out; omega))
  have U6 : Hid (Up w w6) := hid (U5.out.trans (hr.out.2.below U5.out.size (fun k hk e => by have := U4.out.size; omega)))
  clear hr OT5 O5
  go_wp2_with fail
  refine (fset_calls w6 w.heap.size g c _ 512 8 4 (i : Int) i (hid (u64w (by have := hi.out; have := hn.out; omega))) (hid (by have := hi.out; have := hn.out; omega)) (hid (mk4_len XL.out.1 (by decide) C1)) (hid ⟨by decide, by decide, by decide, by decide, XL.out.2⟩) O6).mono ?_
  rintro en w7 ⟨rfl, hr⟩
  have O7 := hid hr.out.1
  have RL : Hid ((mkPut (mkPut x.bs 12 (Oct.be C1 4)) 8 (Oct.be i 4)).length = 512) := hid (mk4_len (mk4_len XL.out.1 (by decide) C1) (by decide) i)
  rw [HRB.out] at O7 RL
  have OT7 : Hid (OwnB w7 w4.heap.size (some ⟨w4.heap.size, 0, none⟩) 512 TB) := hid (hr.out.2.own OT6.out (fun k e e2 => by have e' : w4.heap.size = k := Option.some.inj e; have := G4.out; omega))
  have U7 : Hid (Up w w7) := hid (U6.out.trans (hr.out.2.below U6.out.size (fun k hk e => by have := GR.out; omega)))
  have HH7 := hid (hh.out.up U7.out)
  clear hr O6 OT6
  go_wp2_with fail
  refine (hputs_calls w7 h p t m q mv last n L HH7 (hid (by have := hL.out; omega)) 1 i (hid (by have := hn.out; omega)) (hid (by have := hi.out; omega)) _ RB c RL (hid O7.out.bytes) _ TB 512 TL (hid OT7.out.bytes)).mono ?_
  rintro en w8 ⟨rfl, g1, d1, g2, d2, hr⟩
  have RES := hid (show HeapP w8 h p q t m mv last n (gput (gput L (1 : Nat) ⟨g1, d1, RB⟩) i ⟨g2, d2, TB⟩) ∧ Fr (fun k => k = t ∨ k = m) w w8 from ⟨hr.out.1, ((Fr.of_below U7.out).mono (fun _ e => e.elim)).trans' (hr.out.2.mono (fun k e => .inr e))⟩)
  clear hr
  go_wp2
  go_ret
  exact ⟨rfl, _, hid ⟨RES.out.1, RES.out.2, g1, d1, g2, d2, rfl⟩⟩
end
end Go.Proofs.YtbcghggkfnagoaaGreatDoor

namespace Go.Proofs.YtbcghggkfnagoaaGreatDoor
open Go Go.RowKit Go.Maps Hach

/-! ### numbers in a page -/
theorem mkPut_get {b : List UInt8} {i : Nat} {x : List UInt8} (h : i + x.length ≤ b.length) (k : Nat) : (mkPut b i x)[k]? = if k < i then b[k]? else if k < i + x.length then x[k - i]? else b[k]? := by
  unfold mkPut
  have h1 : (b.take i).length = i := by rw [List.length_take]; omega
  by_cases hk : k < i
  · rw [if_pos hk, List.getElem?_append_left (by omega), List.getElem?_take, if_pos hk]
  · rw [if_neg hk, List.getElem?_append_right (by omega), h1]
    by_cases hk2 : k < i + x.length
    · rw [if_pos hk2, List.getElem?_append_left (by omega)]
    · rw [if_neg hk2, List.getElem?_append_right (by omega), List.getElem?_drop]
      congr 1; omega
theorem pg_same {b : List UInt8} {i s v : Nat} (hi : i + s ≤ b.length) (hv : v < 256 ^ s) : pgGet (mkPut b i (Oct.be v s)) i s = v := by
  have hb := Oct.be_length v s
  have e : ((mkPut b i (Oct.be v s)).drop i).take s = Oct.be v s := by
    apply List.ext_getElem?
    intro k
    rw [List.getElem?_take]
    by_cases hk : k < s
    · rw [if_pos hk, List.getElem?_drop, mkPut_get (by omega), if_neg (by omega), if_pos (by omega)]
      congr 1; omega
    · rw [if_neg hk, List.getElem?_eq_none (by omega)]
  unfold pgGet
  rw [e, Oct.val_be, Nat.mod_eq_of_lt hv]
theorem pg_other {b : List UInt8} {i j s : Nat} {x : List UInt8} (hi : i + x.length ≤ b.length) (h : j + s ≤ i ∨ i + x.length ≤ j) : pgGet (mkPut b i x) j s = pgGet b j s := by
  have e : ((mkPut b i x).drop j).take s = (b.drop j).take s := by
    apply List.ext_getElem?
    intro k
    rw [List.getElem?_take, List.getElem?_take]
    by_cases hk : k < s
    · rw [if_pos hk, if_pos hk, List.getElem?_drop, List.getElem?_drop, mkPut_get hi]
      rcases h with h | h
      · rw [if_pos (by omega)]
      · rw [if_neg (by omega), if_neg (by omega)]
    · rw [if_neg hk, if_neg hk]
  unfold pgGet; rw [e]
theorem p256 : (256 : Nat) ^ 4 = 4294967296 := by decide
theorem pg_same4 {b : List UInt8} {i v : Nat} (hb : b.length = 512) (hi : i + 4 ≤ 512) (hv : v < 4294967296) : pgGet (mkPut b i (Oct.be v 4)) i 4 = v := pg_same (by omega) (by rw [p256]; exact hv)
theorem pg_other4 {b : List UInt8} {i j s v : Nat} (hb : b.length = 512) (hi : i + 4 ≤ 512) (h : j + s ≤ i ∨ i + 4 ≤ j) : pgGet (mkPut b i (Oct.be v 4)) j s = pgGet b j s := pg_other (by rw [be4_len]; omega) (by rw [be4_len]; exact h)
/-! ### keys -/
structure KeysIn (L : PgL) (n : Nat) : Prop where
  srt : L.Pairwise fun a b => a.1 < b.1
  inn : ∀ y ∈ L, 1 ≤ y.1 ∧ y.1 ≤ n
theorem insG_srt {α : Type} {x : Int × α} {L : List (Int × α)} (h : L.Pairwise fun a b => a.1 < b.1) (hx : ∀ y ∈ L, y.1 ≠ x.1) : (insG x L).Pairwise fun a b => a.1 < b.1 := by
  induction L with
  | nil => simp [insG]
  | cons y r ih =>
    have hy := hx y List.mem_cons_self
    rw [List.pairwise_cons] at h
    unfold insG
    by_cases hl : x.1 < y.1
    · rw [if_pos hl, List.pairwise_cons]
      refine ⟨fun z hz => ?_, List.pairwise_cons.2 h⟩
      rcases List.mem_cons.1 hz with rfl | hz
      · exact hl
      · exact Int.lt_trans hl (h.1 z hz)
    · rw [if_neg hl, List.pairwise_cons]
      refine ⟨fun z hz => ?_, ih h.2 (fun z hz => hx z (List.mem_cons_of_mem _ hz))⟩
      rcases mem_insG.1 hz with rfl | hz
      · omega
      · exact h.1 z hz
theorem gput_srt {α : Type} {L : List (Int × α)} (h : L.Pairwise fun a b => a.1 < b.1) (k : Int) (a : α) : (gput L k a).Pairwise fun a b => a.1 < b.1 := by
  unfold gput
  refine insG_srt (h.filter _) fun y hy e => ?_
  have := (List.mem_filter.1 hy).2
  have e' : y.1 = k := e
  rw [decide_eq_true e'] at this
  cases this
theorem KeysIn.put {L : PgL} {n : Nat} (h : KeysIn L n) {k : Nat} (hk : 1 ≤ k ∧ k ≤ n) (x : PgX) : KeysIn (gput L k x) n := by
  refine ⟨gput_srt h.srt _ _, fun y hy => ?_⟩
  rcases mem_gput hy with rfl | ⟨hy, _⟩
  · show (1 : Int) ≤ k ∧ (k : Int) ≤ n; omega
  · exact h.inn y hy
theorem KeysIn.mono {L : PgL} {n n' : Nat} (h : KeysIn L n) (hn : n ≤ n') : KeysIn L n' := ⟨h.srt, fun y hy => by have := h.inn y hy; omega⟩
theorem srt_len {α : Type} (L : List (Int × α)) (hi : Int) : ∀ lo : Int, L.Pairwise (fun a b => a.1 < b.1) → (∀ y ∈ L, lo ≤ y.1 ∧ y.1 ≤ hi) → L = [] ∨ (L.length : Int) ≤ hi - lo + 1 := by
  induction L with
  | nil => intro _ _ _; exact .inl rfl
  | cons y r ih =>
    intro lo hp hb
    rw [List.pairwise_cons] at hp
    have hy := hb y List.mem_cons_self
    rcases ih (y.1 + 1) hp.2 (fun z hz => ⟨by have := hp.1 z hz; omega, (hb z (List.mem_cons_of_mem _ hz)).2⟩) with rfl | h
    · right; simp only [List.length_cons, List.length_nil]; omega
    · right; simp only [List.length_cons]; omega
theorem KeysIn.len {L : PgL} {n : Nat} (h : KeysIn L n) : L.length ≤ n := by
  rcases srt_len L n 1 h.srt h.inn with e | e
  · rw [e]; exact Nat.zero_le _
  · omega
/-! ### trunks and the root -/
abbrev Trk := Nat × List Nat
def headT : List Trk → Nat
  | [] => 0
  | t :: _ => t.1
def allT (T : List Trk) : List Nat := T.flatMap fun t => t.1 :: t.2
theorem allT_cons (t : Trk) (T : List Trk) : allT (t :: T) = t.1 :: (t.2 ++ allT T) := by unfold allT; rw [List.flatMap_cons]; rfl
structure TrunkB (b : List UInt8) (nx : Nat) (ls : List Nat) : Prop where
  next : pgGet b 0 4 = nx
  count : pgGet b 4 4 = ls.length
  most : ls.length ≤ 126
  leaf : ∀ j x, ls[j]? = some x → pgGet b (8 + j * 4) 4 = x
def ChainT (L : PgL) : List Trk → Prop
  | [] => True
  | t :: r => (∃ y, gget L t.1 = some y ∧ TrunkB y.bs (headT r) t.2) ∧ ChainT L r
structure RootB (b : List UInt8) (f c : Nat) (W : Nat → Int) : Prop where
  first : pgGet b 8 4 = f
  count : pgGet b 12 4 = c
  words : ∀ i, i < 60 → wrap64 (pgGet b (16 + i * 8) 8 : Int) = W i
  magic : b.take 8 = magicB
def Full (L : PgL) (n : Nat) : Prop := ∀ i : Nat, 1 ≤ i → i ≤ n → ∃ y, gget L i = some y
theorem full_put {L : PgL} {n : Nat} {k : Int} {x : PgX} (h : Full L n) : Full (gput L k x) n := by
  intro i h1 hi
  rw [gget_put]
  by_cases e : k = (i : Int)
  · exact ⟨x, if_pos e⟩
  · rw [if_neg e]; exact h i h1 hi
theorem full_succ {L : PgL} {n : Nat} {x : PgX} (h : Full L n) : Full (gput L (n + 1 : Nat) x) (n + 1) := by
  intro i h1 hi
  rw [gget_put]
  by_cases e : ((n + 1 : Nat) : Int) = (i : Int)
  · exact ⟨x, if_pos e⟩
  · rw [if_neg e]; exact h i h1 (by omega)
structure HeapS (L : PgL) (n : Nat) (T : List Trk) (W : Nat → Int) (U : Nat → List UInt8) : Prop where
  keys : KeysIn L n
  lens : ∀ y ∈ L, y.2.bs.length = 512
  one : 1 ≤ n
  root : ∃ x, gget L (1 : Nat) = some x ∧ RootB x.bs (headT T) (allT T).length W
  chain : ChainT L T
  nodup : (allT T).Nodup
  inn : ∀ x ∈ allT T, 2 ≤ x ∧ x ≤ n
  used : ∀ i : Nat, 2 ≤ i → i ≤ n → i ∉ allT T → ∃ y, gget L i = some y ∧ y.bs = U i
  full : Full L n
theorem ChainT.put {L : PgL} {T : List Trk} (h : ChainT L T) {k : Nat} (x : PgX) (hk : k ∉ allT T) : ChainT (gput L k x) T := by
  induction T with
  | nil => exact trivial
  | cons t r ih =>
    rw [allT_cons] at hk
    obtain ⟨⟨y, hy, hb⟩, hr⟩ := h
    refine ⟨⟨y, ?_, hb⟩, ih hr (fun e => hk (by simp [e]))⟩
    rw [gget_put, if_neg ?_]
    · exact hy
    · intro e; exact hk (by have : k = t.1 := by omega
                            simp [this])
theorem gput_lens {L : PgL} {k : Int} {x : PgX} (h : ∀ y ∈ L, y.2.bs.length = 512) (hx : x.bs.length = 512) : ∀ y ∈ gput L k x, y.2.bs.length = 512 := by
  intro y hy
  rcases mem_gput hy with rfl | ⟨hy, _⟩
  · exact hx
  · exact h y hy
theorem take8_put {b : List UInt8} {i v : Nat} (hb : b.length = 512) (hi : 8 ≤ i ∧ i + 4 ≤ 512) : (mkPut b i (Oct.be v 4)).take 8 = b.take 8 := by
  apply List.ext_getElem?
  intro k
  rw [List.getElem?_take, List.getElem?_take]
  by_cases hk : k < 8
  · rw [if_pos hk, if_pos hk, mkPut_get (by rw [be4_len]; omega), if_pos (by omega)]
  · rw [if_neg hk, if_neg hk]
theorem RootB.first' {b : List UInt8} {f c : Nat} {W : Nat → Int} (h : RootB b f c W) (hb : b.length = 512) {f' : Nat} (hf : f' < 4294967296) : RootB (mkPut b 8 (Oct.be f' 4)) f' c W :=
  ⟨pg_same4 hb (by decide) hf, (pg_other4 hb (by decide) (.inr (by decide))).trans h.count, fun i hi => by rw [pg_other4 hb (by decide) (.inr (by omega))]; exact h.words i hi, (take8_put hb (by decide)).trans h.magic⟩
theorem RootB.count' {b : List UInt8} {f c : Nat} {W : Nat → Int} (h : RootB b f c W) (hb : b.length = 512) {c' : Nat} (hc : c' < 4294967296) : RootB (mkPut b 12 (Oct.be c' 4)) f c' W :=
  ⟨(pg_other4 hb (by decide) (.inl (by decide))).trans h.first, pg_same4 hb (by decide) hc, fun i hi => by rw [pg_other4 hb (by decide) (.inr (by omega))]; exact h.words i hi, (take8_put hb (by decide)).trans h.magic⟩
theorem noTrunk {f : Nat} (hf : f < 4294967296) : TrunkB (mkPut noPage 0 (Oct.be f 4)) f [] :=
  ⟨pg_same4 noPage_len (by decide) hf, (pg_other4 noPage_len (by decide) (.inr (by decide))).trans (by decide +kernel), by decide, fun j x h => by simp at h⟩
theorem nodup_len (m : Nat) : ∀ l : List Nat, l.Nodup → (∀ x ∈ l, x < m) → l.length ≤ m := by
  induction m with
  | zero =>
    intro l _ h
    cases l with
    | nil => exact Nat.le_refl _
    | cons x r => exact absurd (h x List.mem_cons_self) (by omega)
  | succ m ih =>
    intro l hd h
    by_cases hm : m ∈ l
    · have h1 := ih (l.erase m) (hd.erase m) fun x hx => by
        rw [hd.mem_erase_iff] at hx
        have := h x hx.2
        omega
      rw [List.length_erase_of_mem hm] at h1
      omega
    · have h1 := ih l hd fun x hx => by
        have := h x hx
        have : x ≠ m := fun e => hm (e ▸ hx)
        omega
      omega
theorem allT_len {T : List Trk} {n : Nat} (hd : (allT T).Nodup) (hi : ∀ x ∈ allT T, 2 ≤ x ∧ x ≤ n) : (allT T).length ≤ n := by
  have h1 := nodup_len n ((allT T).map fun x => x - 1) (by
    rw [List.Nodup, List.pairwise_map]
    refine List.Pairwise.imp_of_mem ?_ hd
    intro a b ha hb hne e
    have := hi a ha; have := hi b hb
    exact hne (by omega)) (fun x hx => by
    obtain ⟨y, hy, rfl⟩ := List.mem_map.1 hx
    have := hi y hy; omega)
  rw [List.length_map] at h1
  exact h1
/-! ### what Take and Give do -/
def takeV : List Trk → Nat → Nat × Nat × List Trk
  | [], n => (n + 1, n + 1, [])
  | (f, ls) :: r, n => match ls.getLast? with
    | none => (f, n, r)
    | some x => (x, n, (f, ls.dropLast) :: r)
def giveV : List Trk → Nat → List Trk
  | [], i => [(i, [])]
  | (f, ls) :: r, i => if ls.length < 126 then (f, ls ++ [i]) :: r else (i, []) :: (f, ls) :: r
def upd (U : Nat → List UInt8) (k : Nat) (b : List UInt8) : Nat → List UInt8 := fun i => if i = k then b else U i
section
variable {L : PgL} {n : Nat} {T : List Trk} {W : Nat → Int} {U : Nat → List UInt8}
theorem HeapS.take0 (h : HeapS L n [] W U) (g c : Nat) : HeapS (gput L (n + 1 : Nat) ⟨g, c, noPage⟩) (n + 1) [] W (upd U (n + 1) noPage) := by
  obtain ⟨x, hx, hr⟩ := h.root
  have h1 := h.one
  refine ⟨(h.keys.mono (Nat.le_succ n)).put ⟨by omega, by omega⟩ _, gput_lens h.lens noPage_len, by omega, ⟨x, ?_, hr⟩, trivial, h.nodup, fun x hx => by simp [allT] at hx, fun i h2 hi hn => ?_, full_succ h.full⟩
  · rw [gget_put, if_neg (by omega)]; exact hx
  · unfold upd
    rw [gget_put]
    by_cases e : i = n + 1
    · subst e
      rw [if_pos rfl, if_pos rfl]
      exact ⟨_, rfl, rfl⟩
    · rw [if_neg (by omega), if_neg e]
      exact h.used i h2 (by omega) hn
theorem HeapS.take2 {f : Nat} {r : List Trk} (h : HeapS L n ((f, []) :: r) W U) (hn : n < 1000000) {x : PgX} (hx : gget L (1 : Nat) = some x) (g1 c1 g2 c2 : Nat) :
    HeapS (gput (gput L (1 : Nat) ⟨g1, c1, mkPut (mkPut x.bs 8 (Oct.be (headT r) 4)) 12 (Oct.be ((allT ((f, []) :: r)).length - 1) 4)⟩) f ⟨g2, c2, noPage⟩) n r W (upd U f noPage) := by
  obtain ⟨x', hx', hr⟩ := h.root
  obtain rfl : x = x' := Option.some.inj (hx.symm.trans hx')
  have hd := h.nodup
  have hi := h.inn
  have hl := allT_len hd hi
  rw [allT_cons] at hd hi hl ⊢
  rw [List.nil_append] at hd hi hl ⊢
  rw [List.length_cons] at hl ⊢
  rw [List.nodup_cons] at hd
  rw [Nat.add_sub_cancel]
  have hf := hi f List.mem_cons_self
  have lx := h.lens _ (gget_mem hx)
  have hh : headT r < 4294967296 := by
    cases r with
    | nil => decide
    | cons t r => have := hi t.1 (List.mem_cons_of_mem _ (by rw [allT_cons]; exact List.mem_cons_self)); show t.1 < _; omega
  have R1 := hr.first' lx hh
  have R2 := R1.count' (mk4_len lx (by decide) _) (c' := (allT r).length) (by omega)
  refine ⟨(h.keys.put ⟨by omega, h.one⟩ _).put ⟨by omega, hf.2⟩ _, gput_lens (gput_lens h.lens (mk4_len (mk4_len lx (by decide) _) (by decide) _)) noPage_len, h.one, ⟨⟨g1, c1, _⟩, ?_, R2⟩, ?_, hd.2, fun z hz => hi z (List.mem_cons_of_mem _ hz), fun i h2 hin hni => ?_, full_put (full_put h.full)⟩
  · rw [gget_put, if_neg (by omega), gget_put, if_pos rfl]; try rfl
  · exact (h.chain.2.put _ (fun e => by have := hi 1 (List.mem_cons_of_mem _ e); omega)).put _ hd.1
  · unfold upd
    rw [gget_put]
    by_cases e : i = f
    · subst e
      rw [if_pos rfl, if_pos rfl]
      exact ⟨_, rfl, rfl⟩
    · rw [if_neg (by omega), if_neg e, gget_put, if_neg (by omega)]
      refine h.used i h2 hin ?_
      rw [allT_cons, List.nil_append, List.mem_cons]
      exact fun o => o.elim e hni
theorem HeapS.take1 {f : Nat} {ls : List Nat} {TK : Nat} {r : List Trk} (h : HeapS L n ((f, ls ++ [TK]) :: r) W U) (hn : n < 1000000) {x y : PgX} (hx : gget L (1 : Nat) = some x) (hy : gget L f = some y) (g0 c0 g1 c1 g2 c2 : Nat) :
    HeapS (gput (gput (gput L f ⟨g0, c0, mkPut (mkPut y.bs 4 (Oct.be ls.length 4)) (8 + ls.length * 4) (Oct.be 0 4)⟩) (1 : Nat) ⟨g1, c1, mkPut x.bs 12 (Oct.be ((allT ((f, ls ++ [TK]) :: r)).length - 1) 4)⟩) TK ⟨g2, c2, noPage⟩) n ((f, ls) :: r) W (upd U TK noPage) := by
  obtain ⟨x', hx', hr⟩ := h.root
  obtain rfl : x = x' := Option.some.inj (hx.symm.trans hx')
  obtain ⟨⟨y', hy', ht⟩, hc⟩ := h.chain
  obtain rfl : y = y' := Option.some.inj (hy.symm.trans hy')
  have hd := h.nodup
  have hi := h.inn
  have hl := allT_len hd hi
  have hu := h.used
  have e1 : allT ((f, ls ++ [TK]) :: r) = f :: (ls ++ (TK :: allT r)) := by rw [allT_cons, List.append_assoc]; rfl
  have e2 : allT ((f, ls) :: r) = f :: (ls ++ allT r) := allT_cons _ _
  rw [e1] at hd hi hl hu ⊢
  have el : (f :: (ls ++ (TK :: allT r))).length - 1 = (allT ((f, ls) :: r)).length := by rw [e2]; simp only [List.length_cons, List.length_append]; omega
  rw [el]
  have hf := hi f List.mem_cons_self
  have hT := hi TK (by simp)
  have lx := h.lens _ (gget_mem hx)
  have ly := h.lens _ (gget_mem hy)
  have hm : ls.length + 1 ≤ 126 := by have := ht.most; rw [List.length_append] at this; exact this
  have hc' : (allT ((f, ls) :: r)).length < 4294967296 := by rw [e2]; simp only [List.length_cons, List.length_append] at hl ⊢; omega
  have R1 := hr.count' lx hc'
  have dp : (TK :: (f :: (ls ++ allT r))).Nodup := by
    refine (List.Perm.nodup_iff ?_).1 hd
    calc (f :: (ls ++ (TK :: allT r))).Perm (f :: (TK :: (ls ++ allT r))) := List.Perm.cons _ List.perm_middle
      _ |>.Perm (TK :: (f :: (ls ++ allT r))) := List.Perm.swap _ _ _
  rw [List.nodup_cons] at dp
  have hTf : TK ≠ f := fun e => dp.1 (by rw [e]; exact List.mem_cons_self)
  have hfr : f ∉ allT r := fun e => by
    have := (List.nodup_cons.1 dp.2).1
    exact this (List.mem_append_right _ e)
  have hTr : TK ∉ allT r := fun e => dp.1 (List.mem_cons_of_mem _ (List.mem_append_right _ e))
  have l1 := mk4_len ly (i := 4) (by decide) ls.length
  have TB : TrunkB (mkPut (mkPut y.bs 4 (Oct.be ls.length 4)) (8 + ls.length * 4) (Oct.be 0 4)) (headT r) ls := by
    refine ⟨?_, ?_, by omega, fun j z hz => ?_⟩
    · rw [pg_other4 l1 (by omega) (.inl (by omega)), pg_other4 ly (by decide) (.inl (by decide))]; exact ht.next
    · rw [pg_other4 l1 (by omega) (.inl (by omega)), pg_same4 ly (by decide) (by omega)]
    · have hj := (List.getElem?_eq_some_iff.1 hz).1
      rw [pg_other4 l1 (by omega) (.inl (by omega)), pg_other4 ly (by decide) (.inr (by omega))]
      exact ht.leaf j z (by rw [List.getElem?_append_left hj]; exact hz)
  refine ⟨((h.keys.put ⟨by omega, hf.2⟩ _).put ⟨by omega, h.one⟩ _).put ⟨by omega, hT.2⟩ _, gput_lens (gput_lens (gput_lens h.lens (mk4_len l1 (by omega) 0)) (mk4_len lx (by decide) _)) noPage_len, h.one, ⟨⟨g1, c1, _⟩, ?_, R1⟩, ⟨⟨⟨g0, c0, _⟩, ?_, TB⟩, ?_⟩, ?_, fun z hz => ?_, fun i h2 hin hni => ?_, full_put (full_put (full_put h.full))⟩
  · rw [gget_put, if_neg (by omega), gget_put, if_pos rfl]; try rfl
  · rw [gget_put, if_neg (by show ¬ (TK : Int) = ((f, ls).1 : Nat); simp only; omega), gget_put, if_neg (by simp only; omega), gget_put, if_pos rfl]; try rfl
  · refine ((hc.put _ hfr).put _ (fun e => ?_)).put _ hTr
    have := hi 1 (by simp [e]); omega
  · rw [e2]; exact dp.2
  · rw [e2] at hz
    refine hi z ?_
    simp only [List.mem_cons, List.mem_append] at hz ⊢
    rcases hz with hz | hz | hz
    · exact .inl hz
    · exact .inr (.inl hz)
    · exact .inr (.inr (.inr hz))
  · rw [e2] at hni
    simp only [List.mem_cons, List.mem_append, not_or] at hni
    unfold upd
    rw [gget_put]
    by_cases e : i = TK
    · subst e
      rw [if_pos rfl, if_pos rfl]
      exact ⟨_, rfl, rfl⟩
    · rw [if_neg (by omega), if_neg e, gget_put, if_neg (by omega), gget_put, if_neg (by have := hni.1; omega)]
      refine hu i h2 hin ?_
      simp only [List.mem_cons, List.mem_append, not_or]
      exact ⟨hni.1, hni.2.1, e, hni.2.2⟩
theorem HeapS.give0 (h : HeapS L n [] W U) (hn : n < 1000000) {x : PgX} (hx : gget L (1 : Nat) = some x) {i : Nat} (hi : 2 ≤ i ∧ i ≤ n) (g1 c1 g2 c2 : Nat) :
    HeapS (gput (gput L (1 : Nat) ⟨g1, c1, mkPut (mkPut x.bs 12 (Oct.be (0 + 1) 4)) 8 (Oct.be i 4)⟩) i ⟨g2, c2, mkPut noPage 0 (Oct.be 0 4)⟩) n [(i, [])] W U := by
  obtain ⟨x', hx', hr⟩ := h.root
  obtain rfl : x = x' := Option.some.inj (hx.symm.trans hx')
  have lx := h.lens _ (gget_mem hx)
  have R1 := hr.count' lx (c' := 1) (by decide)
  have R2 := R1.first' (mk4_len lx (by decide) _) (f' := i) (by omega)
  have ea : allT [(i, [])] = [i] := rfl
  refine ⟨(h.keys.put ⟨by omega, h.one⟩ _).put ⟨by omega, hi.2⟩ _, gput_lens (gput_lens h.lens (mk4_len (mk4_len lx (by decide) _) (by decide) _)) (mk4_len noPage_len (by decide) _), h.one, ⟨⟨g1, c1, _⟩, ?_, R2⟩, ⟨⟨⟨g2, c2, _⟩, ?_, noTrunk (f := 0) (by decide)⟩, trivial⟩, ?_, fun z hz => ?_, fun j h2 hj hnj => ?_, full_put (full_put h.full)⟩
  · rw [gget_put, if_neg (by omega), gget_put, if_pos rfl]; try rfl
  · rw [gget_put, if_pos rfl]; try rfl
  · rw [ea]; simp
  · rw [ea, List.mem_singleton] at hz; subst hz; exact hi
  · rw [ea, List.mem_singleton] at hnj
    rw [gget_put, if_neg (by omega), gget_put, if_neg (by omega)]
    exact h.used j h2 hj (by simp [allT])
theorem HeapS.give1 {f : Nat} {ls : List Nat} {r : List Trk} (h : HeapS L n ((f, ls) :: r) W U) (hn : n < 1000000) (hls : ls.length < 126) {x y : PgX} (hx : gget L (1 : Nat) = some x) (hy : gget L f = some y) {i : Nat} (hi : 2 ≤ i ∧ i ≤ n) (hni : i ∉ allT ((f, ls) :: r)) (g1 c1 g2 c2 : Nat) :
    HeapS (gput (gput L (1 : Nat) ⟨g1, c1, mkPut x.bs 12 (Oct.be ((allT ((f, ls) :: r)).length + 1) 4)⟩) f ⟨g2, c2, mkPut (mkPut y.bs 4 (Oct.be (ls.length + 1) 4)) (8 + ls.length * 4) (Oct.be i 4)⟩) n ((f, ls ++ [i]) :: r) W U := by
  obtain ⟨x', hx', hr⟩ := h.root
  obtain rfl : x = x' := Option.some.inj (hx.symm.trans hx')
  obtain ⟨⟨y', hy', ht⟩, hc⟩ := h.chain
  obtain rfl : y = y' := Option.some.inj (hy.symm.trans hy')
  have hd := h.nodup
  have hin := h.inn
  have hu := h.used
  have hl := allT_len hd hin
  have e1 : allT ((f, ls ++ [i]) :: r) = f :: (ls ++ (i :: allT r)) := by rw [allT_cons, List.append_assoc]; rfl
  have e2 : allT ((f, ls) :: r) = f :: (ls ++ allT r) := allT_cons _ _
  have el : (allT ((f, ls) :: r)).length + 1 = (allT ((f, ls ++ [i]) :: r)).length := by rw [e1, e2]; simp only [List.length_cons, List.length_append]; omega
  have hf := hin f (by rw [e2]; exact List.mem_cons_self)
  have lx := h.lens _ (gget_mem hx)
  have ly := h.lens _ (gget_mem hy)
  have R1 := hr.count' lx (c' := (allT ((f, ls) :: r)).length + 1) (by omega)
  have l1 := mk4_len ly (i := 4) (by decide) (ls.length + 1)
  rw [e2] at hd hin hni hu
  have hfr : f ∉ allT r := fun e => (List.nodup_cons.1 hd).1 (List.mem_append_right _ e)
  have TB : TrunkB (mkPut (mkPut y.bs 4 (Oct.be (ls.length + 1) 4)) (8 + ls.length * 4) (Oct.be i 4)) (headT r) (ls ++ [i]) := by
    refine ⟨?_, ?_, by rw [List.length_append]; simp only [List.length_cons, List.length_nil]; omega, fun j z hz => ?_⟩
    · rw [pg_other4 l1 (by omega) (.inl (by omega)), pg_other4 ly (by decide) (.inl (by decide))]; exact ht.next
    · rw [pg_other4 l1 (by omega) (.inl (by omega)), pg_same4 ly (by decide) (by omega), List.length_append]; rfl
    · by_cases hj : j < ls.length
      · rw [List.getElem?_append_left hj] at hz
        rw [pg_other4 l1 (by omega) (.inl (by omega)), pg_other4 ly (by decide) (.inr (by omega))]
        exact ht.leaf j z hz
      · have hj2 := (List.getElem?_eq_some_iff.1 hz).1
        rw [List.length_append] at hj2
        simp only [List.length_cons, List.length_nil] at hj2
        obtain rfl : j = ls.length := by omega
        rw [List.getElem?_append_right (Nat.le_refl _), Nat.sub_self] at hz
        obtain rfl := Option.some.inj hz
        exact pg_same4 l1 (by omega) (by omega)
  refine ⟨(h.keys.put ⟨by omega, h.one⟩ _).put ⟨by omega, hf.2⟩ _, gput_lens (gput_lens h.lens (mk4_len lx (by decide) _)) (mk4_len l1 (by omega) _), h.one, ⟨⟨g1, c1, _⟩, ?_, el ▸ R1⟩, ⟨⟨⟨g2, c2, _⟩, ?_, TB⟩, ?_⟩, ?_, fun z hz => ?_, fun j h2 hj hnj => ?_, full_put (full_put h.full)⟩
  · rw [gget_put, if_neg (by omega), gget_put, if_pos rfl, el]; try rfl
  · rw [gget_put, if_pos rfl]; try rfl
  · exact (hc.put _ (fun e => by have := hin 1 (List.mem_cons_of_mem _ (List.mem_append_right _ e)); omega)).put _ hfr
  · rw [e1]
    refine (List.Perm.nodup_iff ?_).2 (List.nodup_cons.2 ⟨hni, hd⟩)
    calc (f :: (ls ++ (i :: allT r))).Perm (f :: (i :: (ls ++ allT r))) := List.Perm.cons _ List.perm_middle
      _ |>.Perm (i :: (f :: (ls ++ allT r))) := List.Perm.swap _ _ _
  · rw [e1] at hz
    simp only [List.mem_cons, List.mem_append] at hz
    rcases hz with rfl | hz | rfl | hz
    · exact hf
    · exact hin z (by simp [hz])
    · exact hi
    · exact hin z (by simp [hz])
  · rw [e1] at hnj
    simp only [List.mem_cons, List.mem_append, not_or] at hnj
    rw [gget_put, if_neg (by have := hnj.1; omega), gget_put, if_neg (by omega)]
    refine hu j h2 hj ?_
    simp only [List.mem_cons, List.mem_append, not_or]
    exact ⟨hnj.1, hnj.2.1, hnj.2.2.2⟩
theorem HeapS.give2 {f : Nat} {ls : List Nat} {r : List Trk} (h : HeapS L n ((f, ls) :: r) W U) (hn : n < 1000000) {x : PgX} (hx : gget L (1 : Nat) = some x) {i : Nat} (hi : 2 ≤ i ∧ i ≤ n) (hni : i ∉ allT ((f, ls) :: r)) (g1 c1 g2 c2 : Nat) :
    HeapS (gput (gput L (1 : Nat) ⟨g1, c1, mkPut (mkPut x.bs 12 (Oct.be ((allT ((f, ls) :: r)).length + 1) 4)) 8 (Oct.be i 4)⟩) i ⟨g2, c2, mkPut noPage 0 (Oct.be f 4)⟩) n ((i, []) :: (f, ls) :: r) W U := by
  obtain ⟨x', hx', hr⟩ := h.root
  obtain rfl : x = x' := Option.some.inj (hx.symm.trans hx')
  have hl := allT_len h.nodup h.inn
  have lx := h.lens _ (gget_mem hx)
  have R1 := hr.count' lx (c' := (allT ((f, ls) :: r)).length + 1) (by omega)
  have R2 := R1.first' (mk4_len lx (by decide) _) (f' := i) (by omega)
  have e1 : allT ((i, []) :: (f, ls) :: r) = i :: allT ((f, ls) :: r) := by rw [allT_cons]; rfl
  have hf := h.inn f (by rw [allT_cons]; exact List.mem_cons_self)
  have h1n : 1 ∉ allT ((f, ls) :: r) := fun e => by have := h.inn 1 e; omega
  refine ⟨(h.keys.put ⟨by omega, h.one⟩ _).put ⟨by omega, hi.2⟩ _, gput_lens (gput_lens h.lens (mk4_len (mk4_len lx (by decide) _) (by decide) _)) (mk4_len noPage_len (by decide) _), h.one, ⟨⟨g1, c1, _⟩, ?_, by rw [e1]; exact R2⟩, ⟨⟨⟨g2, c2, _⟩, ?_, noTrunk (f := f) (by omega)⟩, (h.chain.put _ h1n).put _ hni⟩, ?_, fun z hz => ?_, fun j h2 hj hnj => ?_, full_put (full_put h.full)⟩
  · rw [gget_put, if_neg (by omega), gget_put, if_pos rfl]; try rfl
  · rw [gget_put, if_pos rfl]; try rfl
  · rw [e1]; exact List.nodup_cons.2 ⟨hni, h.nodup⟩
  · rw [e1, List.mem_cons] at hz
    rcases hz with rfl | hz
    · exact hi
    · exact h.inn z hz
  · rw [e1, List.mem_cons, not_or] at hnj
    rw [gget_put, if_neg (by have := hnj.1; omega), gget_put, if_neg (by omega)]
    exact h.used j h2 hj hnj.2
end
end Go.Proofs.YtbcghggkfnagoaaGreatDoor

namespace Go.Proofs.YtbcghggkfnagoaaGreatDoor
open Go Go.RowKit Go.Maps Hach

structure HpX where
  h : Nat
  p : Nat
  t : Nat
  m : Nat
  q : PgN
  mv : Value
  last : Int
def HeapW (w : World) (X : HpX) (n : Nat) (T : List Trk) (W : Nat → Int) (U : Nat → List UInt8) : Prop := ∃ L, HeapP w X.h X.p X.q X.t X.m X.mv X.last n L ∧ HeapS L n T W U
def HpS (X : HpX) : Nat → Prop := fun k => k = X.t ∨ k = X.m
theorem HeapW.up {w w' : World} {X : HpX} {n : Nat} {T : List Trk} {W : Nat → Int} {U : Nat → List UInt8} (h : HeapW w X n T W U) (hu : Up w w') : HeapW w' X n T W U := by
  obtain ⟨L, hp, hs⟩ := h
  exact ⟨L, hp.up hu, hs⟩
def TakeH (w : World) (X : HpX) (n : Nat) (T : List Trk) (W : Nat → Int) (U : Nat → List UInt8) (en : Ending) (w' : World) : Prop :=
  en = .returned (.tuple #[.int .i64 (takeV T n).1, .int .i64 0]) ∧ Hid (HeapW w' X (takeV T n).2.1 (takeV T n).2.2 W (upd U (takeV T n).1 noPage) ∧ Fr (HpS X) w w')
def GiveH (w : World) (X : HpX) (n : Nat) (T : List Trk) (W : Nat → Int) (U : Nat → List UInt8) (i : Nat) (en : Ending) (w' : World) : Prop :=
  en = .returned (.int .i64 0) ∧ Hid (HeapW w' X n (giveV T i) W U ∧ Fr (HpS X) w w')
theorem getLast_split {ls : List Nat} {x : Nat} (h : ls.getLast? = some x) : ls = ls.dropLast ++ [x] := by
  obtain ⟨ys, rfl⟩ := List.getLast?_eq_some_iff.1 h
  simp
theorem takeH_calls (w : World) (X : HpX) (n : Nat) (T : List Trk) (W : Nat → Int) (U : Nat → List UInt8) (hh : Hid (HeapW w X n T W U)) (hn : Hid (n < 4000)) :
    Calls Tryz.prog 15 #[.pointer (some ⟨X.h, 0, none⟩)] w (TakeH w X n T W U) := by
  obtain ⟨L, hp, hs⟩ := hh.out
  have hn' := hn.out
  have h1 := hs.one
  have hlen := hs.keys.len
  obtain ⟨x, hx, hr⟩ := hs.root
  unfold TakeH
  match T, hs, hr with
  | [], hs, hr =>
    refine (take0_calls w X.h X.p X.t X.m X.q X.mv X.last n L (hid hp) (hid ⟨h1, hn'⟩) (hid (by omega)) x (hid hx) (hid hr.count)).mono ?_
    rintro en w' ⟨rfl, L', hr'⟩
    obtain ⟨k1, k2, g, c, rfl⟩ := hr'.out
    exact ⟨rfl, hid ⟨⟨_, k1, hs.take0 g c⟩, k2⟩⟩
  | (f, ls) :: r, hs, hr =>
    have hl := allT_len hs.nodup hs.inn
    have hf := hs.inn f (by rw [allT_cons]; exact List.mem_cons_self)
    obtain ⟨⟨y, hy, ht⟩, hc⟩ := hs.chain
    cases hg : ls.getLast? with
    | none =>
      obtain rfl := List.getLast?_eq_none_iff.1 hg
      have eC : (allT ((f, []) :: r)).length = 1 + (allT r).length := by rw [allT_cons]; simp only [List.nil_append, List.length_cons]; omega
      refine (take2_calls w X.h X.p X.t X.m X.q X.mv X.last n L (hid hp) (hid ⟨h1, by omega⟩) (hid (by omega)) x (hid hx) _ f (headT r) (hid ⟨hr.count, by omega, by omega⟩) (hid ⟨hr.first, by omega, hf.2⟩) y (hid hy) (hid ht.count) (hid ht.next)).mono ?_
      rintro en w' ⟨rfl, L', hr'⟩
      obtain ⟨k1, k2, g1, c1, g2, c2, rfl⟩ := hr'.out
      have et : takeV ((f, []) :: r) n = (f, n, r) := rfl
      rw [et]
      exact ⟨rfl, hid ⟨⟨_, k1, hs.take2 (by omega) hx g1 c1 g2 c2⟩, k2⟩⟩
    | some TK =>
      have e := getLast_split hg
      obtain ⟨l0, hl0⟩ : ∃ l0, ls.dropLast = l0 := ⟨_, rfl⟩
      rw [hl0] at e
      have et : takeV ((f, ls) :: r) n = (TK, n, (f, l0) :: r) := by unfold takeV; simp only [hg, hl0]
      rw [et]
      subst e
      have eC : 0 < (allT ((f, l0 ++ [TK]) :: r)).length := by rw [allT_cons]; simp
      have hT := hs.inn TK (by rw [allT_cons]; simp)
      have hm := ht.most
      have hcnt := ht.count
      rw [List.length_append] at hm hcnt
      have h0 : ([TK] : List Nat).length = 1 := rfl
      rw [h0] at hm hcnt
      refine (take1_calls w X.h X.p X.t X.m X.q X.mv X.last n L (hid hp) (hid ⟨h1, by omega⟩) (hid (by omega)) x (hid hx) _ f (l0.length + 1) l0.length (8 + l0.length * 4) TK (hid ⟨hr.count, eC, by omega⟩) (hid ⟨hr.first, by omega, hf.2⟩) y (hid hy) (hid ⟨hcnt, rfl, hm⟩) (hid rfl) (hid ⟨ht.leaf l0.length TK (by simp), by omega, hT.2⟩)).mono ?_
      rintro en w' ⟨rfl, L', hr'⟩
      obtain ⟨k1, k2, g0, c0, g1, c1, g2, c2, rfl⟩ := hr'.out
      exact ⟨rfl, hid ⟨⟨_, k1, hs.take1 (by omega) hx hy g0 c0 g1 c1 g2 c2⟩, k2⟩⟩
theorem giveH_calls (w : World) (X : HpX) (n : Nat) (T : List Trk) (W : Nat → Int) (U : Nat → List UInt8) (i : Nat) (hh : Hid (HeapW w X n T W U)) (hn : Hid (n ≤ 4000)) (hi : Hid (2 ≤ i ∧ i ≤ n ∧ i ∉ allT T)) :
    Calls Tryz.prog 16 #[.pointer (some ⟨X.h, 0, none⟩), .int .i64 i] w (GiveH w X n T W U i) := by
  obtain ⟨L, hp, hs⟩ := hh.out
  have hn' := hn.out
  obtain ⟨hi2, hin, hni⟩ := hi.out
  have h1 := hs.one
  have hlen := hs.keys.len
  obtain ⟨x, hx, hr⟩ := hs.root
  unfold GiveH
  match T, hs, hr, hni with
  | [], hs, hr, hni =>
    refine (give0_calls w X.h X.p X.t X.m X.q X.mv X.last n L (hid hp) (hid ⟨h1, hn'⟩) (hid (by omega)) x (hid hx) i (hid ⟨by omega, hin⟩) 0 (hid ⟨hr.count, by decide⟩) (hid hr.first)).mono ?_
    rintro en w' ⟨rfl, L', hr'⟩
    obtain ⟨k1, k2, g1, c1, g2, c2, rfl⟩ := hr'.out
    exact ⟨rfl, hid ⟨⟨_, k1, hs.give0 (by omega) hx ⟨hi2, hin⟩ g1 c1 g2 c2⟩, k2⟩⟩
  | (f, ls) :: r, hs, hr, hni =>
    have hl := allT_len hs.nodup hs.inn
    have hf := hs.inn f (by rw [allT_cons]; exact List.mem_cons_self)
    obtain ⟨⟨y, hy, ht⟩, hc⟩ := hs.chain
    by_cases hls : ls.length < 126
    · have et : giveV ((f, ls) :: r) i = (f, ls ++ [i]) :: r := if_pos hls
      rw [et]
      refine (give1_calls w X.h X.p X.t X.m X.q X.mv X.last n L (hid hp) (hid ⟨h1, by omega⟩) (hid (by omega)) x (hid hx) i (hid ⟨by omega, hin⟩) _ f ls.length (8 + ls.length * 4) (hid ⟨hr.count, by omega⟩) (hid ⟨hr.first, by omega, hf.2⟩) y (hid hy) (hid ⟨ht.count, hls⟩) (hid rfl)).mono ?_
      rintro en w' ⟨rfl, L', hr'⟩
      obtain ⟨k1, k2, g1, c1, g2, c2, rfl⟩ := hr'.out
      exact ⟨rfl, hid ⟨⟨_, k1, hs.give1 (by omega) hls hx hy ⟨hi2, hin⟩ hni g1 c1 g2 c2⟩, k2⟩⟩
    · have et : giveV ((f, ls) :: r) i = (i, []) :: (f, ls) :: r := if_neg hls
      rw [et]
      have hm := ht.most
      refine (give2_calls w X.h X.p X.t X.m X.q X.mv X.last n L (hid hp) (hid ⟨h1, by omega⟩) (hid (by omega)) x (hid hx) i (hid ⟨by omega, hin⟩) _ f ls.length (hid ⟨hr.count, by omega⟩) (hid ⟨hr.first, by omega, hf.2⟩) y (hid hy) (hid ⟨ht.count, by simp only at hm; omega⟩)).mono ?_
      rintro en w' ⟨rfl, L', hr'⟩
      obtain ⟨k1, k2, g1, c1, g2, c2, rfl⟩ := hr'.out
      exact ⟨rfl, hid ⟨⟨_, k1, hs.give2 (by omega) hx ⟨hi2, hin⟩ hni g1 c1 g2 c2⟩, k2⟩⟩
set_option maxRecDepth 100000 in
set_option maxHeartbeats 2000000 in
theorem giveBad_calls (w : World) (X : HpX) (n : Nat) (T : List Trk) (W : Nat → Int) (U : Nat → List UInt8) (i : Int) (hh : Hid (HeapW w X n T W U)) (hn : Hid (n ≤ 4000)) (hi : Hid (i ≤ 1 ∨ (n : Int) < i)) :
    Calls Tryz.prog 16 #[.pointer (some ⟨X.h, 0, none⟩), .int .i64 i] w fun en w' => en = .returned (.int .i64 2) ∧ Hid (Up w w') := by
  obtain ⟨L, hp, hs⟩ := hh.out
  have h1 := hs.one
  obtain ⟨x, hx, hr⟩ := hs.root
  obtain ⟨h, p, t, m, q, mv, last⟩ := X
  have HP := hid hp
  have HX := hid hx
  have H1 := hid h1
  simp only at HP
  clear hp hx h1 hs hr
  show Calls _ _ #[.pointer (some ⟨h, 0, none⟩), _] _ _
  by_cases hi1 : i ≤ 1
  · go_enter Tryz.func16, Tryz.ntmps16
    go_wp2_with (go_at_call 66; refine (hroot_calls w h p t m q mv last n L HP (hid (by have := hn.out; have := H1.out; omega)) x HX).mono ?_; rintro en w2 ⟨g, c, rfl, hr⟩)
    go_ret
    exact ⟨rfl, hid hr.out.2.1⟩
  · have hi2 : (n : Int) < i := hi.out.resolve_left hi1
    go_enter Tryz.func16, Tryz.ntmps16
    go_wp2_with (go_at_call 66; refine (hroot_calls w h p t m q mv last n L HP (hid (by have := hn.out; have := H1.out; omega)) x HX).mono ?_; rintro en w2 ⟨g, c, rfl, hr⟩; have e20 := (HP.out.up hr.out.2.1).cell)
    have U2 := hid hr.out.2.1
    have HH2 := hid (HP.out.up hr.out.2.1)
    clear hr
    refine (ppages_calls w2 p t m q mv last n L (hid HH2.out.tran)).mono ?_
    rintro en w' ⟨rfl, hw⟩
    obtain rfl := hw.symm
    clear hw e20
    go_wp2
    go_ret
    exact ⟨rfl, U2⟩
end Go.Proofs.YtbcghggkfnagoaaGreatDoor

namespace Go.Proofs.YtbcghggkfnagoaaGreatDoor
open Go Go.RowKit Go.Maps Hach

theorem elemIN : Elem Tryz.prog 30 3 (.int .i64 0) 1 8 := ⟨Tryz.underlying30, by kernel_rfl, rfl, by decide⟩
def natCell (x : Nat) : Value := .int .i64 (x : Int)
theorem natCell_one (l : List Nat) : ∀ u ∈ l.map natCell, u.oneCell' = true := by
  intro u hu; obtain ⟨x, _, rfl⟩ := List.mem_map.1 hu; rfl
def lenV : Value → Nat
  | .slice _ n _ => n
  | _ => 0
def OwnN (w : World) (base : Nat) (A : Option Addr) (c : Nat) (l : List Nat) : Prop := w.ownsRow base 3 1 (.slice A l.length c) l.length (l.map natCell)
theorem ChainT.at {L : PgL} {T : List Trk} (h : ChainT L T) {k : Nat} {f : Nat} {ls : List Nat} {r : List Trk} (hd : T.drop k = (f, ls) :: r) : ∃ y, gget L f = some y ∧ TrunkB y.bs (headT r) ls := by
  induction T generalizing k with
  | nil => simp at hd
  | cons t T ih =>
    cases k with
    | zero =>
      rw [List.drop_zero] at hd
      injection hd with e1 e2
      subst e1; subst e2
      exact h.1
    | succ k => exact ih h.2 (by simpa using hd)
theorem allT_app (a b : List Trk) : allT (a ++ b) = allT a ++ allT b := by unfold allT; rw [List.flatMap_append]
def LeafI (w wr : World) (gT : Nat) (ys : List UInt8) (pre ls : List Nat) (A : Option Addr) (n c i : Nat) : Prop :=
  Up w wr ∧ wr.ownsRow w.heap.size 3 1 (.slice A n c) n ((pre ++ ls.take i).map natCell) ∧ Bytes wr (some ⟨gT, 0, none⟩) ys ∧ (∀ k, (Value.slice A n c).ownBlock = some k → k ≠ gT) ∧ gT < wr.heap.size ∧ n = pre.length + i
theorem LeafI.grow {w wr w2 w3 : World} {gT : Nat} {ys : List UInt8} {pre ls : List Nat} {A A3 : Option Addr} {n c i c3 : Nat} {x : Nat} (h : LeafI w wr gT ys pre ls A n c i) (hu : Up wr w2) (ho : w3.ownsRow w.heap.size 3 1 (.slice A3 (n + 1) c3) (n + 1) ((pre ++ ls.take i).map natCell ++ [natCell x])) (hg : w2.grownBy w3 (Value.slice A n c).ownBlock)
    (hd : (Value.slice A3 (n + 1) c3).ownBlock = (Value.slice A n c).ownBlock ∨ (Value.slice A3 (n + 1) c3).ownBlock = some w2.heap.size) (hx : ls.take (i + 1) = ls.take i ++ [x]) : LeafI w w3 gT ys pre ls A3 (n + 1) c3 (i + 1) := by
  obtain ⟨h1, h2, h3, h4, h5, h6⟩ := h
  have hz := hu.size
  have hf := Fr.of_grown hg
  refine ⟨below_append (h1.t hu) (Nat.le_refl _) (Nat.le_trans h1.size hz) ((Fr.of_below hu).own h2 (fun _ _ e => e)) hg, ?_, ?_, ?_, Nat.lt_of_lt_of_le (Nat.lt_of_lt_of_le h5 hz) hf.size, by omega⟩
  · rw [hx, ← List.append_assoc, List.map_append (l₂ := [x])]; exact ho
  · refine ((h3.grown hu).rd.fr hf (fun b off e he => ?_)).bytes
    injection e with e
    injection e with e _ _
    subst e
    exact h4 _ he.symm rfl
  · intro k hk
    rcases hd with hd | hd
    · exact h4 k (hd ▸ hk)
    · rw [hd] at hk
      have := Option.some.inj hk
      omega
def AllRet (w : World) (T : List Trk) (en : Ending) (w' : World) : Prop := ∃ A c k, en = .returned (.tuple #[.slice A k c, .int .i64 0]) ∧ Hid (k = (allT T).length ∧ OwnN w' w.heap.size A c (allT T) ∧ Up w w')
set_option maxRecDepth 100000 in
set_option maxHeartbeats 4000000 in
theorem allH_calls (w : World) (X : HpX) (n : Nat) (T : List Trk) (W : Nat → Int) (U : Nat → List UInt8) (hh : Hid (HeapW w X n T W U)) (hn : Hid (n ≤ 4000)) :
    Calls Tryz.prog 17 #[.pointer (some ⟨X.h, 0, none⟩)] w (AllRet w T) := by
  obtain ⟨L, hp, hs⟩ := hh.out
  obtain ⟨x, hx, hr⟩ := hs.root
  obtain ⟨h, p, t, m, q, mv, last⟩ := X
  have HP := hid hp
  have HS := hid hs
  have HX := hid hx
  have hl := allT_len hs.nodup hs.inn
  have h1 := hs.one
  obtain ⟨N, hN⟩ : ∃ N, (allT T).length = N := ⟨_, rfl⟩
  have HN : Hid ((allT T).length = N ∧ N ≤ 4000 ∧ 1 ≤ n ∧ n < 1000000) := hid ⟨hN, by have := hn.out; omega, h1, by have := hn.out; omega⟩
  obtain ⟨F, hF⟩ : ∃ F, headT T = F := ⟨_, rfl⟩
  have HF := hid hF
  have P12 : Hid (wrap64 (pgGet x.bs 12 4 : Int) = (N : Int)) := hid ((pg4 x.bs 12).trans (by rw [hr.count, hN]))
  have P8 : Hid (wrap64 (pgGet x.bs 8 4 : Int) = (F : Int)) := hid ((pg4 x.bs 8).trans (by rw [hr.first, hF]))
  simp only at HP
  clear hp hx hs hr hl h1 hN hF hh
  show Calls _ _ #[.pointer (some ⟨h, 0, none⟩)] _ _
  go_enter Tryz.func17, Tryz.ntmps17
  go_wp2_with fail
  go_step3
  go_wp2_with (go_at_call 66; refine (hroot_calls w h p t m q mv last n L HP (hid (by have := HN.out; omega)) x HX).mono ?_; rintro en w2 ⟨g, c, rfl, hr⟩)
  have C12 := fget_calls w2 g c x.bs 512 12 4 (hid hr.out.2.2.1) (hid ⟨by decide, by decide, by decide, by decide, hr.out.2.2.2.1⟩) (hid hr.out.1.bytes)
  have C8 := fget_calls w2 g c x.bs 512 8 4 (hid hr.out.2.2.1) (hid ⟨by decide, by decide, by decide, by decide, hr.out.2.2.2.1⟩) (hid hr.out.1.bytes)
  rw [P12.out] at C12
  rw [P8.out] at C8
  have U2 := hid hr.out.2.1
  clear hr
  refine C12.mono ?_
  rintro en w3 ⟨rfl, hw⟩
  obtain rfl := hw.symm
  clear hw C12
  go_wp2_with fail
  go_step3
  go_wp2_with fail
  refine C8.mono ?_
  rintro en w3 ⟨rfl, hw⟩
  obtain rfl := hw.symm
  clear hw C8
  go_wp2
  have START : Hid (Up w w2 ∧ OwnN w2 w.heap.size none 0 (allT (T.take 0)) ∧ F = headT (T.drop 0) ∧ 0 = (allT (T.take 0)).length) := hid ⟨U2.out, own_nil _ _ _ _, HF.out.symm, rfl⟩
  go_loopw [6, 8] (fun lv nv wr => ∃ (k : Nat) (A : Option Addr) (c j f : Nat), lv = .slice A j c ∧ nv = .int .i64 f ∧ Hid (Up w wr ∧ OwnN wr w.heap.size A c (allT (T.take k)) ∧ f = headT (T.drop k) ∧ j = (allT (T.take k)).length)) (fun lv _ _ => N - lenV lv)
  case atStart => exact ⟨0, none, 0, 0, F, rfl, rfl, START⟩
  case round =>
    obtain ⟨k, A, c, j, f, rfl, rfl, iv⟩ := hrel
    cases hd : T.drop k with
    | nil =>
      have e0 : f = 0 := by rw [iv.out.2.2.1, hd]; rfl
      have ht : T.take k = T := List.take_of_length_le (List.drop_eq_nil_iff.1 hd)
      have RES : Hid (j = N ∧ OwnN wr w.heap.size A c (allT T) ∧ Up w wr) := hid ⟨by rw [iv.out.2.2.2, ht]; exact HN.out.1, by have := iv.out.2.1; rwa [ht] at this, iv.out.1⟩
      subst e0
      obtain rfl := RES.out.1
      clear iv ht hd START
      go_wp2
      go_ret2
      exact ⟨A, c, _, rfl, hid ⟨HN.out.1.symm, RES.out.2⟩⟩
    | cons tr r =>
      obtain ⟨f', ls⟩ := tr
      have ef : f = f' := by rw [iv.out.2.2.1, hd]; rfl
      subst ef
      obtain ⟨y, hy, hb⟩ := HS.out.chain.at hd
      have hT : T = T.take k ++ (f, ls) :: r := by rw [← hd, List.take_append_drop]
      have hall : allT T = allT (T.take k) ++ (f :: (ls ++ allT r)) := by
        have := congrArg allT hT
        rw [allT_app, allT_cons] at this
        exact this
      have hk1 : T.take (k + 1) = T.take k ++ [(f, ls)] := by
        have hl1 : k < T.length := by
          have := congrArg List.length hd
          rw [List.length_drop, List.length_cons] at this
          omega
        rw [List.take_succ_eq_append_getElem hl1]
        have : T[k]? = some (f, ls) := by
          have h0 : (T.drop k)[0]? = some (f, ls) := by rw [hd]; rfl
          rw [List.getElem?_drop] at h0
          exact h0
        rw [List.getElem?_eq_getElem hl1] at this
        rw [Option.some.inj this]
      have hd1 : T.drop (k + 1) = r := by rw [List.drop_add_one_eq_tail_drop, hd]; rfl
      have ff := HS.out.inn f (by rw [hall]; simp)
      obtain ⟨M, hM⟩ : ∃ M, ls.length = M := ⟨_, rfl⟩
      have hlen := congrArg List.length hall
      simp only [List.length_append, List.length_cons] at hlen
      have JB : Hid (j + 1 + M ≤ N ∧ N ≤ 4000 ∧ M ≤ 126 ∧ ls.length = M) := hid (by have h1 := HN.out; have h2 := iv.out.2.2.2; have h3 := hb.most; omega)
      have f0 : (0 : Int) < (f : Int) := by omega
      have jN : ¬ (N : Int) ≤ (j : Int) := by have := JB.out; omega
      have FF : Hid (1 < f ∧ f ≤ n ∧ n < 1000000) := hid (by have := HN.out; omega)
      have Q4 : Hid (wrap64 (pgGet y.bs 4 4 : Int) = (M : Int)) := hid ((pg4 y.bs 4).trans (by rw [hb.count, hM]))
      have Q0 : Hid (wrap64 (pgGet y.bs 0 4 : Int) = ((headT r : Nat) : Int)) := hid ((pg4 y.bs 0).trans (by rw [hb.next]))
      have HY := hid hy
      have HB := hid hb
      have K1 := hid (And.intro hk1 hd1)
      have HPr := hid (HP.out.up iv.out.1)
      have OL := hid iv.out.2.1
      have UL := hid iv.out.1
      have JL : Hid (j = (allT (T.take k)).length) := hid iv.out.2.2.2
      clear iv hd hT hall hk1 hd1 hlen hM ff hy hb START
      go_wp2_with fail
      refine (htrunk_calls wr h p t m q mv last n L HPr f FF y HY (hid (by have := HB.out.count; have := JB.out; omega))).mono ?_
      rintro en w4 ⟨gT, cT, rfl, hr⟩
      have U4 : Hid (Up w w4) := hid (UL.out.t hr.out.2.1)
      have O4 : Hid (OwnN w4 w.heap.size A c (allT (T.take k))) := hid ((Fr.of_below hr.out.2.1).own OL.out (fun _ _ => id))
      have YB : Hid (Bytes w4 (some ⟨gT, 0, none⟩) y.bs ∧ y.bs.length = 512 ∧ 512 ≤ cT) := hid ⟨hr.out.1.bytes, hr.out.2.2.1, hr.out.2.2.2.1⟩
      have GT : Hid (gT < w4.heap.size ∧ ∀ b, (Value.slice A (allT (T.take k)).length c).ownBlock = some b → b ≠ gT) := hid ⟨(own_block hr.out.1 gT rfl).2, fun b hb e => by have h1 := (own_block OL.out b hb).2; have h2 := hr.out.2.2.2.2; omega⟩
      clear hr OL UL HPr
      have o4 : w4.ownsRow w.heap.size 3 1 (.slice A j c) j ((allT (T.take k)).map natCell) := by have := O4.out; unfold OwnN at this; rw [← JL.out] at this; exact this
      have o5 := World.ownsRow.alloc o4 (.cells #[.int .i64 f] 3)
      have u5 : Up w4 (w4.alloc (.cells #[.int .i64 f] 3)) := upAlD (Up.refl w4) _
      have hs5 := Nat.le_trans U4.out.size u5.size
      have L4 : LeafI w w4 gT y.bs (allT (T.take k)) [f] A j c 0 := ⟨U4.out, by rw [List.take_zero, List.append_nil]; exact o4, YB.out.1, by have := GT.out.2; rwa [← JL.out] at this, GT.out.1, JL.out⟩
      have HL4 := hid L4
      have HU5 := hid u5
      clear u5 o4 O4 L4
      go_wp2_with (at_builtin; refine hold ?_)
      refine hid (wl_append elemIN rfl (.tmp 41) (.tmp 43) rfl rfl o5 rfl (Rd.new w4 3 (0, 0) [.int .i64 f]) rfl (by simp [Value.oneCell']) (by have := JB.out; simp only [maxLen]; omega) (by have := JB.out; omega) hs5 ?_)
      intro A6 c6 w6 o6 g6 d6
      have L6 := HL4.out.grow (x := f) (A3 := A6) (c3 := c6) HU5.out (by rw [List.take_zero, List.append_nil]; exact o6) g6 d6 rfl
      obtain ⟨pre, hpre⟩ : ∃ pre, allT (T.take k) ++ [f] = pre := ⟨_, rfl⟩
      have START2 : Hid (LeafI w w6 gT y.bs pre ls A6 (j + 1) c6 0) := hid (by
        obtain ⟨a1, a2, a3, a4, a5, a6⟩ := L6
        refine ⟨a1, ?_, a3, a4, a5, by rw [← hpre, List.length_append]; simpa using a6⟩
        rw [← hpre, List.take_zero, List.append_nil]
        exact a2)
      have HPRE := hid hpre
      clear L6 hpre o6 g6 d6 o5 hs5 HU5
      have C4 := fget_calls w6 gT cT y.bs 512 4 4 (hid YB.out.2.1) (hid ⟨by decide, by decide, by decide, by decide, YB.out.2.2⟩) (hid START2.out.2.2.1)
      rw [Q4.out] at C4
      go_wp2_with fail
      refine C4.mono ?_
      rintro en w7 ⟨rfl, hw⟩
      obtain rfl := hw.symm
      clear hw C4
      obtain ⟨wo, rfl⟩ : ∃ wo : World, wo = wr := ⟨_, rfl⟩
      go_wp2
      go_loopw [6, 47] (fun lv nv wr2 => ∃ (i : Nat) (A2 : Option Addr) (c2 n2 : Nat), i ≤ M ∧ lv = .slice A2 n2 c2 ∧ nv = .int .i64 i ∧ Hid (LeafI w wr2 gT y.bs pre ls A2 n2 c2 i)) (fun _ nv _ => M - (intOf nv).toNat)
      case atStart => exact ⟨0, A6, c6, j + 1, Nat.zero_le _, rfl, rfl, START2⟩
      case round =>
        obtain ⟨i, A2, c2, n2, hi, rfl, rfl, iv⟩ := hrel
        by_cases hlt : (i : Int) < M
        · obtain ⟨z, hz⟩ : ∃ z, ls[i]? = some z := ⟨_, List.getElem?_eq_getElem (by have := JB.out; omega)⟩
          have hz1 : ls.take (i + 1) = ls.take i ++ [z] := by rw [List.take_add_one, hz]; rfl
          have I8 : Hid (i < M ∧ i < 200 ∧ n2 < 4000) := hid (by have h1 := JB.out; have h2 := iv.out.2.2.2.2.2; have h3 := HPRE.out; have h4 := congrArg List.length h3; rw [List.length_append, ← JL.out] at h4; simp only [List.length_cons, List.length_nil] at h4; omega)
          have EW : Hid (wrap64 (8 + wrap64 ((i : Int) * 4)) = ((8 + i * 4 : Nat) : Int)) := hid (by rw [wM4 (K := i * 4) (by have := I8.out; omega) rfl, w8p (K := 8 + i * 4) (by have := I8.out; omega) rfl])
          have CI := fget_calls wr gT cT y.bs 512 (8 + i * 4) 4 (hid YB.out.2.1) (hid ⟨by have := JB.out; omega, by decide, by decide, by decide, YB.out.2.2⟩) (hid iv.out.2.2.1)
          rw [(pg4 y.bs (8 + i * 4)).trans (by rw [HB.out.leaf i z hz])] at CI
          have HZ1 := hid hz1
          have HI := iv
          have o9 := World.ownsRow.alloc iv.out.2.1 (.cells #[.int .i64 z] 3)
          have hs9 := Nat.le_trans iv.out.1.size (upAlD (Up.refl wr) (.cells #[.int .i64 z] 3)).size
          clear hz hz1 iv
          go_wp2_with fail
          rw [EW.out]
          refine CI.mono ?_
          rintro en w7 ⟨rfl, hw⟩
          obtain rfl := hw.symm
          clear hw CI
          go_wp2_with (at_builtin; refine hold ?_)
          refine hid (wl_append elemIN rfl (.tmp 50) (.tmp 56) rfl rfl o9 rfl (Rd.new wr 3 (0, 0) [.int .i64 z]) rfl (by simp [Value.oneCell']) (by have := I8.out; simp only [maxLen]; omega) (by have := I8.out; omega) hs9 ?_)
          intro A9 c9 w9 o9' g9 d9
          have L9 := hid (HI.out.grow (x := z) (A3 := A9) (c3 := c9) (upAlD (Up.refl wr) _) o9' g9 d9 HZ1.out)
          clear o9 o9' g9 d9 hs9
          go_wp2
          go_roundw
          case rel => exact ⟨i + 1, A9, c9, n2 + 1, I8.out.1, rfl, by rw [wS (K := i + 1) (by have := I8.out; omega) rfl], L9⟩
          case measure => have := I8.out; rw [wS (K := i + 1) (by omega) rfl]; simp only [intOf]; omega
        · have hiM : i = M := by omega
          have ELS : Hid (ls.take i = ls ∧ i = M) := hid ⟨List.take_of_length_le (by have := JB.out; omega), hiM⟩
          have HI := iv
          have C0 := fget_calls wr gT cT y.bs 512 0 4 (hid YB.out.2.1) (hid ⟨by decide, by decide, by decide, by decide, YB.out.2.2⟩) (hid iv.out.2.2.1)
          rw [Q0.out] at C0
          clear iv hiM
          go_wp2_with fail
          refine C0.mono ?_
          rintro en w7 ⟨rfl, hw⟩
          obtain rfl := hw.symm
          clear hw C0
          have REL : Hid (Up w wr ∧ OwnN wr w.heap.size A2 c2 (allT (T.take (k + 1))) ∧ headT r = headT (T.drop (k + 1)) ∧ n2 = (allT (T.take (k + 1))).length) := hid (by
            obtain ⟨a1, a2, a3, a4, a5, a6⟩ := HI.out
            have e1 : allT (T.take (k + 1)) = pre ++ ls := by
              rw [K1.out.1, allT_app, ← HPRE.out, List.append_assoc]
              congr 1
              rw [allT_cons]; simp [allT]
            have e2 : n2 = (allT (T.take (k + 1))).length := by rw [e1, List.length_append, a6]; have := JB.out; have := ELS.out.2; omega
            refine ⟨a1, ?_, by rw [K1.out.2], e2⟩
            rw [ELS.out.1, ← e1] at a2
            unfold OwnN
            rw [← e2]
            exact a2)
          have MB : Hid (j < n2 ∧ n2 ≤ N) := hid (by have h2 := HI.out.2.2.2.2.2; have h4 := congrArg List.length HPRE.out; rw [List.length_append, ← JL.out] at h4; simp only [List.length_cons, List.length_nil] at h4; have := JB.out; have := ELS.out.2; omega)
          clear HI
          go_wp2
          go_roundw
          case rel => exact ⟨k + 1, A2, c2, n2, _, rfl, rfl, REL⟩
          case measure => simp only [lenV]; have := MB.out; omega
end Go.Proofs.YtbcghggkfnagoaaGreatDoor

namespace Go.Proofs.YtbcghggkfnagoaaGreatDoor
open Go Go.RowKit Go.Maps Hach

def FreshRet (w : World) (en : Ending) (w' : World) : Prop :=
  ∃ p h t m q mv last g c, en = .returned (.tuple #[.pointer (some ⟨p, 0, none⟩), .pointer (some ⟨h, 0, none⟩), .bool true]) ∧ Hid (HeapP w' h p q t m mv last 1 [(1, ⟨g, c, rootPage⟩)] ∧ Up w w' ∧ w.heap.size ≤ t ∧ w.heap.size ≤ m)
set_option maxRecDepth 100000 in
set_option maxHeartbeats 2000000 in
theorem fresh8_calls (w : World) : Calls Tryz.prog 14 #[] w (FreshRet w) := by
  go_enter Tryz.func14, Tryz.ntmps14
  go_wp2_with (go_at_call 20; refine (dnew_calls w 32768 (by decide) (by decide)).mono ?_; rintro e w1 ⟨d, rfl, h1⟩)
  refine (open0_calls w1 w.heap.size d (newD 32768) 16 (hid h1.out.1) (hid rfl) (hid ⟨rfl, rfl⟩) (hid ⟨by decide, by decide⟩)).mono ?_
  rintro en w2 ⟨p, q, rfl, h2⟩
  have U2 : Hid (Up w w2) := hid (h1.out.2.t h2.out.2.2.1)
  have P2 := hid h2.out.1
  have Q2 : Hid (q.count = ((0 : Nat) : Int)) := hid h2.out.2.1.1
  have PB : Hid (w.heap.size ≤ p) := hid (by have := h1.out.2.size; have := h2.out.2.2.2; omega)
  clear h1 h2
  go_wp2_with (go_at_call 47; refine (pbegin_calls w2 p q 0 P2 Q2).mono ?_; rintro e w3 ⟨rfl, t, m, h3⟩)
  have T3 := hid h3.out.1
  have U3 : Hid (Up w w3) := hid (U2.out.trans (h3.out.2.1.below U2.out.size (fun k hk e => by have := PB.out; omega)))
  have TB : Hid (w.heap.size ≤ t ∧ w.heap.size ≤ m) := hid ⟨Nat.le_trans U2.out.size h3.out.2.2.1, Nat.le_trans U2.out.size h3.out.2.2.2⟩
  clear h3 U2
  refine (make_calls w3 p t m q _ 0 T3).mono ?_
  rintro en w4 ⟨h, g, c, rfl, h4⟩
  have RES := hid (show HeapP w4 h p q t m (.slice none 0 0) 0 1 [(1, ⟨g, c, rootPage⟩)] ∧ Up w w4 ∧ w.heap.size ≤ t ∧ w.heap.size ≤ m from ⟨h4.out.1, U3.out.trans (h4.out.2.below U3.out.size (fun k hk e => by have := TB.out; omega)), TB.out.1, TB.out.2⟩)
  clear h4 T3
  go_wp2
  exact bodyPost_ret (v := .tuple #[.pointer (some ⟨p, 0, none⟩), .pointer (some ⟨h, 0, none⟩), .bool true]) (by simp [results, Tryz.results14, go_sem]) rfl ⟨p, h, t, m, q, _, 0, g, c, rfl, RES⟩
theorem root_nums : pgGet rootPage 12 4 = 0 ∧ pgGet rootPage 8 4 = 0 := ⟨by decide +kernel, by decide +kernel⟩
theorem given_nums : pgGet (mkPut (mkPut rootPage 12 (Oct.be 1 4)) 8 (Oct.be 2 4)) 12 4 = 1 ∧ pgGet (mkPut (mkPut rootPage 12 (Oct.be 1 4)) 8 (Oct.be 2 4)) 8 4 = 2 ∧ pgGet (mkPut noPage 0 (Oct.be 0 4)) 4 4 = 0 ∧ pgGet (mkPut noPage 0 (Oct.be 0 4)) 0 4 = 0 := ⟨by decide +kernel, by decide +kernel, by decide +kernel, by decide +kernel⟩
set_option maxRecDepth 100000 in
set_option maxHeartbeats 2000000 in
theorem lives8_calls (w : World) : Calls Tryz.prog 13 #[] w fun en w' => en = .returned (.bool true) ∧ Up w w' := by
  go_enter Tryz.func13, Tryz.ntmps13
  go_wp2_with (go_at_call 14; refine (fresh8_calls w).mono ?_; rintro en w1 ⟨p, h, t, m, q, mv, last, g, c, rfl, h1⟩)
  have H1 := hid h1.out.1
  have U1 : Hid (Up w w1) := hid h1.out.2.1
  have TB : Hid (w.heap.size ≤ t ∧ w.heap.size ≤ m) := hid h1.out.2.2
  clear h1
  go_wp2_with fail
  refine (take0_calls w1 h p t m q mv last 1 _ H1 (hid ⟨by decide, by decide⟩) (hid (by show (1 : Nat) < _; decide)) ⟨g, c, rootPage⟩ (hid rfl) (hid root_nums.1)).mono ?_
  rintro en w2 ⟨rfl, L2, h2⟩
  obtain ⟨hp2, fr2, g2, c2, rfl⟩ := h2.out
  have H2 := hid hp2
  have U2 : Hid (Up w w2) := hid (U1.out.trans (fr2.below U1.out.size (fun k hk e => by have := TB.out; omega)))
  clear h2 hp2 fr2 U1 H1
  go_wp2_with fail
  refine (give0_calls w2 h p t m q mv last (1 + 1) _ H2 (hid ⟨by decide, by decide⟩) (hid (by have := gput_len ([(1, ⟨g, c, rootPage⟩)] : PgL) ((1 + 1 : Nat) : Int) ⟨g2, c2, noPage⟩; show (gput ([(1, ⟨g, c, rootPage⟩)] : PgL) ((1 + 1 : Nat) : Int) ⟨g2, c2, noPage⟩).length < 800000; have e : ([(1, ⟨g, c, rootPage⟩)] : PgL).length = 1 := rfl; omega)) ⟨g, c, rootPage⟩ (hid (by rw [gget_put]; rfl)) 2 (hid ⟨by decide, by decide⟩) 0 (hid ⟨root_nums.1, by decide⟩) (hid root_nums.2)).mono ?_
  rintro en w3 ⟨rfl, L3, h3⟩
  obtain ⟨hp3, fr3, g3, c3, g4, c4, rfl⟩ := h3.out
  have H3 := hid hp3
  have U3 : Hid (Up w w3) := hid (U2.out.trans (fr3.below U2.out.size (fun k hk e => by have := TB.out; omega)))
  clear h3 hp3 fr3 U2 H2
  have LL : Hid ((gput (gput (gput ([(1, ⟨g, c, rootPage⟩)] : PgL) ((1 + 1 : Nat) : Int) ⟨g2, c2, noPage⟩) (1 : Nat) ⟨g3, c3, mkPut (mkPut rootPage 12 (Oct.be (0 + 1) 4)) 8 (Oct.be 2 4)⟩) (2 : Nat) ⟨g4, c4, mkPut noPage 0 (Oct.be 0 4)⟩).length < 800000) := hid (by
    have a1 := gput_len ([(1, ⟨g, c, rootPage⟩)] : PgL) ((1 + 1 : Nat) : Int) ⟨g2, c2, noPage⟩
    have a2 := gput_len (gput ([(1, ⟨g, c, rootPage⟩)] : PgL) ((1 + 1 : Nat) : Int) ⟨g2, c2, noPage⟩) ((1 : Nat) : Int) ⟨g3, c3, mkPut (mkPut rootPage 12 (Oct.be (0 + 1) 4)) 8 (Oct.be 2 4)⟩
    have a3 := gput_len (gput (gput ([(1, ⟨g, c, rootPage⟩)] : PgL) ((1 + 1 : Nat) : Int) ⟨g2, c2, noPage⟩) ((1 : Nat) : Int) ⟨g3, c3, mkPut (mkPut rootPage 12 (Oct.be (0 + 1) 4)) 8 (Oct.be 2 4)⟩) ((2 : Nat) : Int) ⟨g4, c4, mkPut noPage 0 (Oct.be 0 4)⟩
    have e : ([(1, ⟨g, c, rootPage⟩)] : PgL).length = 1 := rfl
    omega)
  go_wp2_with fail
  refine (take2_calls w3 h p t m q mv last (1 + 1) _ H3 (hid ⟨by decide, by decide⟩) LL ⟨g3, c3, mkPut (mkPut rootPage 12 (Oct.be (0 + 1) 4)) 8 (Oct.be 2 4)⟩ (hid (by rw [gget_put, if_neg (by decide), gget_put, if_pos (by decide)])) 1 2 0 (hid ⟨given_nums.1, by decide, by decide⟩) (hid ⟨given_nums.2.1, by decide, by decide⟩) ⟨g4, c4, mkPut noPage 0 (Oct.be 0 4)⟩ (hid (by rw [gget_put, if_pos (by decide)])) (hid given_nums.2.2.1) (hid given_nums.2.2.2)).mono ?_
  rintro en w4 ⟨rfl, L4, h4⟩
  have U4 : Hid (Up w w4) := hid (U3.out.trans (h4.out.2.1.below U3.out.size (fun k hk e => by have := TB.out; omega)))
  clear h4 LL H3 U3
  go_wp2
  go_ret
  exact ⟨rfl, U4.out⟩
end Go.Proofs.YtbcghggkfnagoaaGreatDoor

namespace Go.Proofs.YtbcghggkfnagoaaGreatDoor
open Go Go.RowKit Go.Maps Hach

def yesElem (v : Value) : Option (DataW Unit × List MemPlace) :=
  match v with
  | .bool b => some (.lit (.bool b), [])
  | _ => none
theorem yesElem_mk (b : Bool) : yesElem (.bool b) = some (.lit (.bool b), []) := rfl
theorem yesElem_inv {v : Value} {b : Bool} {ps : List MemPlace} (h : yesElem v = some (.lit (.bool b), ps)) : v = .bool b := by
  unfold yesElem at h
  split at h
  · injection h with h
    injection h with h _
    injection h with h
    injection h with h
    rw [h]
  · cases h
theorem zeroY (w : World) : (zeroValue 4).run Tryz.prog w = .ok (.bool false) w := by kernel_rfl
def SetM (w : World) (m : Nat) (S : List Nat) : Prop :=
  ∃ D : DataW Unit, w.ownsMap Tryz.prog 3 yesElem m S.length D ∧ (∀ p : Nat, D.atKey (.int .i64 p) (.lit (.bool false)) = .lit (.bool (decide (p ∈ S)))) ∧ (∀ p : Nat, has D (.int .i64 p) = decide (p ∈ S)) ∧ Maps.size D = S.length
theorem SetM.made (w : World) : SetM (w.alloc (.map #[] 0)) w.heap.size [] :=
  ⟨.map [], World.ownsMap_made _ _ _ _, fun p => rfl, fun p => rfl, rfl⟩
theorem SetM.lt {w : World} {m : Nat} {S : List Nat} (h : SetM w m S) : m < w.heap.size := by obtain ⟨D, h1, _⟩ := h; exact World.ownsMap.lt h1
theorem SetM.kept {w w' : World} {m : Nat} {S : List Nat} {F : Nat → Prop} (h : SetM w m S) (hf : Fr F w w') (hS : ¬ F m) : SetM w' m S := by
  obtain ⟨D, h1, h2⟩ := h
  refine ⟨D, ?_, h2⟩
  have hlt := World.ownsMap.lt h1
  obtain ⟨es, clock, hb, r⟩ := h1
  exact ⟨es, clock, (hf.block m hlt hS).trans hb, r⟩
theorem SetM.up {w w' : World} {m : Nat} {S : List Nat} (h : SetM w m S) (hu : Up w w') : SetM w' m S := h.kept (Fr.of_below hu) id
theorem SetM.isMap {w : World} {m : Nat} {S : List Nat} (h : SetM w m S) : ∃ es clock, w.heap[m]? = some (.map es clock) := by obtain ⟨D, ⟨es, clock, hb, _⟩, _⟩ := h; exact ⟨es, clock, hb⟩
theorem SetM.look {w : World} {m : Nat} {S : List Nat} (h : SetM w m S) {p : Nat} (hp : (Lit.int .i64 (p : Int)).wf = true) :
    (Instr.lookup 29 (.map (some m)) (.int .i64 p) false).run Tryz.prog w = .ok (.bool (decide (p ∈ S))) w := by
  obtain ⟨D, h1, h2, _⟩ := h
  obtain ⟨v, ps, hrun, hv⟩ := World.ownsMap.lookup h1 keyI Tryz.underlying29 (zeroY w) (yesElem_mk false) (keyI_mk hp)
  rw [hrun]
  rw [h2] at hv
  rw [yesElem_inv hv]
theorem SetM.len {w : World} {m : Nat} {S : List Nat} (h : SetM w m S) (ty : TypeId) : (Builtin.len_ #[29] ty #[.map (some m)]).run Tryz.prog w = .ok (.int .i64 S.length) w := by
  obtain ⟨D, h1, _, _, h4⟩ := h
  rw [World.ownsMap.len h1 Tryz.underlying29 ty, h4]
theorem natLit_ne {p q : Nat} (h : q ≠ p) : (Lit.int .i64 (q : Int)) ≠ (Lit.int .i64 (p : Int)) := fun e => h (by injection e; omega)
theorem keyY (p : Int) : WideAt.IsKeyLit (.int .i64 p) := by simp [WideAt.IsKeyLit]
theorem SetM.add {w : World} {m : Nat} {S : List Nat} (h : SetM w m S) {p : Nat} (hp : (Lit.int .i64 (p : Int)).wf = true) (hn : p ∉ S) (hL : S.length < 1000000) :
    ∃ w', (Instr.mapUpdate 29 (.map (some m)) (.int .i64 p) (.bool true)).run Tryz.prog w = .ok () w' ∧ SetM w' m (S ++ [p]) ∧ w.grownBy w' (some m) := by
  obtain ⟨D, h1, h2, h3, h4⟩ := h
  obtain ⟨w', hrun, k1, k2⟩ := World.ownsMap.update h1 keyI Tryz.underlying29 (by unfold maxLen; omega) (keyI_mk hp) (yesElem_mk true)
  have hm := World.ownsMap.isMap h1
  have hno : has D (.int .i64 p) = false := by rw [h3, decide_eq_false hn]
  refine ⟨w', hrun, ⟨_, by rw [List.length_append]; exact k1, fun q => ?_, fun q => ?_, ?_⟩, k2⟩
  · by_cases e : q = p
    · subst e
      rw [atKey_put_same hm (keyY q), decide_eq_true (by simp)]
    · rw [atKey_put_other (natLit_ne e), h2, show decide (q ∈ S) = decide (q ∈ S ++ [p]) from decide_eq_decide.2 (by simp [e])]
  · by_cases e : q = p
    · subst e
      rw [has_put_same hm (keyY q), decide_eq_true (by simp)]
    · rw [has_put_other (natLit_ne e), h3]
      exact decide_eq_decide.2 (by simp [e])
  · rw [size_put (World.ownsMap.tidy h1 keyI), hno, List.length_append, h4]; rfl
theorem SetM.del {w : World} {m : Nat} {S S' : List Nat} {p : Nat} (h : SetM w m S) (hp : (Lit.int .i64 (p : Int)).wf = true) (hy : p ∈ S) (hm : ∀ q, q ∈ S' ↔ q ∈ S ∧ q ≠ p) (hl : S.length = S'.length + 1) (ty : TypeId) :
    ∃ w', (Builtin.delete_ #[29, 3] ty #[.map (some m), .int .i64 p]).run Tryz.prog w = .ok (.tuple #[]) w' ∧ SetM w' m S' ∧ w.grownBy w' (some m) := by
  obtain ⟨D, h1, h2, h3, h4⟩ := h
  obtain ⟨w', hrun, k1, k2⟩ := World.ownsMap.drop h1 keyI Tryz.underlying29 (keyI_mk hp) ty
  have hyes : has D (.int .i64 p) = true := by rw [h3, decide_eq_true hy]
  have hsz : Maps.size (D.del (.int .i64 p)) = S'.length := by
    have := size_del (k := Lit.int .i64 (p : Int)) (World.ownsMap.tidy h1 keyI)
    rw [hyes, h4] at this
    simp only [if_true] at this
    omega
  obtain ⟨es, clock, hb, F, hs, hD⟩ := k1
  refine ⟨w', hrun, ⟨_, ⟨es, clock, hb, F, ?_, hD⟩, fun q => ?_, fun q => ?_, hsz⟩, k2.grown⟩
  · rw [← hsz, hD, Maps.size_eq, length_sorted]; simp
  · by_cases e : q = p
    · subst e
      rw [atKey_del_same, decide_eq_false (fun h => ((hm q).1 h).2 rfl)]
    · rw [atKey_del_other (natLit_ne e), h2, show decide (q ∈ S) = decide (q ∈ S') from decide_eq_decide.2 (by rw [hm]; simp [e])]
  · by_cases e : q = p
    · subst e
      rw [has_del_same, decide_eq_false (fun h => ((hm q).1 h).2 rfl)]
    · rw [has_del_other (natLit_ne e), h3]
      exact decide_eq_decide.2 (by rw [hm]; simp [e])
end Go.Proofs.YtbcghggkfnagoaaGreatDoor

namespace Go.Proofs.YtbcghggkfnagoaaGreatDoor
open Go Go.RowKit Go.Maps Hach

theorem own_obj {w : World} {base : Nat} {e : TypeId} {size n : Nat} {v : Value} {xs : List Value} (h : w.ownsRow base e size v n xs) {k : Nat} (hk : v.ownBlock = some k) : ∃ cs fr, w.heap[k]? = some (.cells cs e fr) := by
  rcases h.2 with ⟨hv, _⟩ | ⟨g, cap, cur, hv, hb, hg, _⟩
  · subst hv; cases hk
  · subst hv
    obtain rfl := Option.some.inj hk
    exact ⟨_, _, hg⟩
def Apart (w : World) (X : HpX) (k : Nat) : Prop := (∃ cs fr, w.heap[k]? = some (.cells cs 3 fr)) ∨ (k ≠ X.m ∧ ∃ es cl, w.heap[k]? = some (.map es cl))
theorem HeapW.fr {S : Nat → Prop} {w w' : World} {X : HpX} {n : Nat} {T : List Trk} {W : Nat → Int} {U : Nat → List UInt8} (h : HeapW w X n T W U) (hf : Fr S w w') (hS : ∀ k, k < w.heap.size → S k → Apart w X k) : HeapW w' X n T W U := by
  obtain ⟨L, hp, hs⟩ := h
  refine ⟨L, ?_, hs⟩
  have h1 := hp.own
  have h2 := hp.tran.tran
  have h3 : w.heap[X.p]? = some (.cells (pagerCs X.q (.pointer (some ⟨X.t, 0, none⟩)) false) 80 (0, 0)) := hp.tran.own
  obtain ⟨es, cl, hm⟩ := hp.tran.map.isMap
  have lt : ∀ {k o}, w.heap[k]? = some o → k < w.heap.size := fun e => (Array.getElem?_eq_some_iff.1 e).1
  have key : ∀ {k : Nat} {cs : Array Value} {t : TypeId} {fr}, w.heap[k]? = some (.cells cs t fr) → t ≠ 3 → ¬ S k := fun hk ht hs => by
    rcases hS _ (lt hk) hs with ⟨cs', fr', e⟩ | ⟨_, es', cl', e⟩
    · rw [hk] at e; injection e with e; injection e with _ e _; exact ht e
    · rw [hk] at e; cases e
  have e1 := key h1 (by decide)
  have e2 := key h2 (by decide)
  have e3 := key h3 (by decide)
  have e4 : ¬ S X.m := fun hs => by
    rcases hS _ (lt hm) hs with ⟨cs', fr', e⟩ | ⟨e, _⟩
    · rw [hm] at e; cases e
    · exact e rfl
  refine ⟨(hf.block X.h (lt h1) e1).trans h1, hp.tran.own.fr hf e3, (hf.block X.t (lt h2) e2).trans h2, hp.tran.map.kept hf e4, fun y hy => ?_⟩
  have hr := hp.tran.rows y hy
  obtain ⟨cs, fr, hb⟩ := hr.row.1
  exact hr.fr hf (key hb (by decide))
theorem apart_own {w : World} {X : HpX} {base n c k : Nat} {A : Option Addr} {l : List Nat} {v : Value} (h : w.ownsRow base 3 1 v n (l.map natCell)) (hk : v.ownBlock = some k) : Apart w X k := .inl (own_obj h hk)
theorem root_words : ∀ i, i < 60 → wrap64 (pgGet rootPage (16 + i * 8) 8 : Int) = 0 := by
  have : ∀ i : Fin 60, wrap64 (pgGet rootPage (16 + i.1 * 8) 8 : Int) = 0 := by decide +kernel
  exact fun i hi => this ⟨i, hi⟩
theorem root_magic : rootPage.take 8 = magicB := by decide +kernel
theorem freshFull (g c : Nat) : Full [(1, ⟨g, c, rootPage⟩)] 1 := by
  intro i h1 hi
  have e : i = 1 := by omega
  subst e
  exact ⟨_, rfl⟩
theorem freshS (g c : Nat) (U : Nat → List UInt8) : HeapS [(1, ⟨g, c, rootPage⟩)] 1 [] (fun _ => 0) U := by
  refine ⟨⟨by simp, fun y hy => ?_⟩, fun y hy => ?_, Nat.le_refl _, ⟨_, rfl, ⟨root_nums.2, root_nums.1, root_words, root_magic⟩⟩, trivial, by simp [allT], fun x hx => by simp [allT] at hx, fun i h2 h1 _ => by omega, freshFull g c⟩
  · rw [List.mem_singleton.1 hy]; exact ⟨Int.le_refl _, Int.le_refl _⟩
  · rw [List.mem_singleton.1 hy]; exact rootPage_len
def FreshH (w : World) (en : Ending) (w' : World) : Prop :=
  ∃ X : HpX, en = .returned (.tuple #[.pointer (some ⟨X.p, 0, none⟩), .pointer (some ⟨X.h, 0, none⟩), .bool true]) ∧ Hid (HeapW w' X 1 [] (fun _ => 0) (fun _ => []) ∧ Up w w' ∧ (w.heap.size ≤ X.t ∧ X.t < w'.heap.size) ∧ (w.heap.size ≤ X.m ∧ X.m < w'.heap.size))
theorem HeapW.step {w w' : World} {X : HpX} {n : Nat} {T : List Trk} {W : Nat → Int} {U : Nat → List UInt8} (h : HeapW w X n T W U) : X.t < w.heap.size ∧ X.m < w.heap.size := by
  obtain ⟨L, hp, _⟩ := h
  exact ⟨(Array.getElem?_eq_some_iff.1 hp.tran.tran).1, hp.tran.map.lt⟩
/-! ### numbers that are taken, in a row and in a set -/
structure OnceI (w wr : World) (X : HpX) (mb n : Nat) (T : List Trk) (l : List Nat) (A : Option Addr) (k c : Nat) : Prop where
  up : Up w wr
  heap : ∃ U, HeapW wr X n T (fun _ => 0) U
  set : SetM wr mb l
  own : wr.ownsRow (mb + 1) 3 1 (.slice A k c) k (l.map natCell)
  len : l.length = k
  nd : l.Nodup
  inn : ∀ x ∈ l, 2 ≤ x ∧ x ≤ n ∧ x ∉ allT T
  sum : l.length + (allT T).length + 1 = n
  low : w.heap.size ≤ X.t ∧ X.t < mb ∧ w.heap.size ≤ X.m ∧ X.m < mb ∧ w.heap.size ≤ mb
theorem Fr.ups {S : Nat → Prop} {w a b : World} (hu : Up w a) (hf : Fr S a b) (hS : ∀ k, S k → w.heap.size ≤ k) : Up w b := hu.trans (hf.below hu.size (fun k hk e => by have := hS k e; omega))
theorem OnceI.fresh {w wr : World} {X : HpX} {mb n : Nat} {T : List Trk} {l : List Nat} {A : Option Addr} {k c : Nat} (h : OnceI w wr X mb n T l A k c) {w2 : World} (hu : Up wr w2) : OnceI w w2 X mb n T l A k c := by
  obtain ⟨U, hU⟩ := h.heap
  exact ⟨h.up.t hu, ⟨U, hU.up hu⟩, h.set.up hu, (Fr.of_below hu).own h.own (fun _ _ e => e), h.len, h.nd, h.inn, h.sum, h.low⟩
theorem OnceI.take {w wr w2 : World} {X : HpX} {mb n : Nat} {l : List Nat} {A : Option Addr} {k c : Nat} (h : OnceI w wr X mb n [] l A k c) {U : Nat → List UInt8} (hw : HeapW w2 X (n + 1) [] (fun _ => 0) U) (hf : Fr (HpS X) wr w2) :
    Up w w2 ∧ HeapW w2 X (n + 1) [] (fun _ => 0) U ∧ SetM w2 mb l ∧ w2.ownsRow (mb + 1) 3 1 (.slice A k c) k (l.map natCell) := by
  have hl := h.low
  refine ⟨Fr.ups h.up hf (fun k e => by rcases e with e | e <;> omega), hw, h.set.kept hf (fun e => by rcases e with e | e <;> omega), hf.own h.own (fun k hk e => ?_)⟩
  have := (own_block h.own k hk).1
  rcases e with e | e <;> omega
theorem split_at {α : Type} {l : List α} {i : Nat} {x : α} (h : l[i]? = some x) : l = l.take i ++ x :: l.drop (i + 1) := by
  obtain ⟨hi, he⟩ := List.getElem?_eq_some_iff.1 h
  conv => lhs; rw [← List.take_append_drop i l, List.drop_eq_getElem_cons hi, he]
theorem giveV_mem (T : List Trk) (x z : Nat) : z ∈ allT (giveV T x) ↔ z = x ∨ z ∈ allT T := by
  match T with
  | [] => simp [giveV, allT]
  | (f, ls) :: r =>
    unfold giveV
    simp only
    split
    · rw [allT_cons, allT_cons]
      simp only [List.mem_cons, List.mem_append, List.append_assoc, List.mem_nil_iff, List.not_mem_nil, or_false]
      constructor
      · rintro (h | h | h | h)
        · exact .inr (.inl h)
        · exact .inr (.inr (.inl h))
        · exact .inl h
        · exact .inr (.inr (.inr h))
      · rintro (h | h | h | h)
        · exact .inr (.inr (.inl h))
        · exact .inl h
        · exact .inr (.inl h)
        · exact .inr (.inr (.inr h))
    · rw [allT_cons (x, [])]
      simp
theorem giveV_len (T : List Trk) (x : Nat) : (allT (giveV T x)).length = (allT T).length + 1 := by
  match T with
  | [] => rfl
  | (f, ls) :: r =>
    unfold giveV
    simp only
    split
    · rw [allT_cons, allT_cons]
      simp only [List.length_cons, List.length_append, List.length_nil]
      omega
    · rw [allT_cons (x, [])]
      simp
end Go.Proofs.YtbcghggkfnagoaaGreatDoor
