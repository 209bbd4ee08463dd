/- PARTS OF A PROOF, one behind the other: slices.Sorted(maps.Keys(m)) at a map of sectors, by the kit's contracts. A SECTOR's end is copied over: what a crash does with one. WHAT A CRASH LEAVES, in plain; a file cut short. THE WALK of the disk's Crash, power on. THE WALKS of operation, and of a Crash whose disk is off. THE WALK of Sync. CONDITIONS: none of this text's own. -/
import Derived.Test.YtbcghggkfnagoaaGreatDoorQS14
import Derived.Test.YtbcghggkfnagoaaGreatDoorQS13
import Derived.Shelf.SlIterI.Nil
import Derived.Laws.CopyOwn
set_option linter.unusedVariables false
set_option linter.unusedSimpArgs false
namespace Go.Proofs.YtbcghggkfnagoaaGreatDoor
open Go.Shelf
def keysLy_ren : Go.Shelf.Ren := ⟨fun | 7 => 113 | 10 => 155 | n => n, fun | 23 => 82 | 26 => 3 | 3 => 173 | 28 => 154 | 0 => 0 | 27 => 153 | 33 => 158 | 4 => 4 | n => n, fun | n => n⟩
theorem keysLy : Go.Proofs.SlLaysZI.n7 Tryz.prog keysLy_ren := {
  mixed := by kernel_rfl
  f7 := ⟨Tryz.f113.name, by decide, Tryz.func113.trans (congrArg some (by kernel_rfl))⟩
  f10 := ⟨Tryz.f155.name, by decide, Tryz.func155.trans (congrArg some (by kernel_rfl))⟩
  t0 := Tryz.underlying0
  a0 := Tryz.isAgg0
  z0 := Tryz.sizeOf0
  v0 := Tryz.zeroValue0
  t4 := Tryz.underlying4
  a4 := Tryz.isAgg4
  z4 := Tryz.sizeOf4
  v4 := Tryz.zeroValue4
  t23 := Tryz.underlying82
  a23 := Tryz.isAgg82
  z23 := Tryz.sizeOf82
  v23 := Tryz.zeroValue82
  t26 := Tryz.underlying3
  a26 := Tryz.isAgg3
  z26 := Tryz.sizeOf3
  v26 := Tryz.zeroValue3
  t27 := Tryz.underlying153
  a27 := Tryz.isAgg153
  z27 := Tryz.sizeOf153
  v27 := Tryz.zeroValue153
  t28 := Tryz.underlying154
  a28 := Tryz.isAgg154
  z28 := Tryz.sizeOf154
  v28 := Tryz.zeroValue154
  t33 := Tryz.underlying158
  a33 := Tryz.isAgg158
  z33 := Tryz.sizeOf158
  v33 := Tryz.zeroValue158 }
def sortedLy_ren : Go.Shelf.Ren := ⟨fun | 6 => 101 | 8 => 149 | 9 => 128 | 11 => 183 | 13 => 160 | 12 => 159 | 23 => 194 | 24 => 195 | 14 => 185 | 15 => 186 | 16 => 187 | 17 => 188 | 18 => 189 | 19 => 190 | 20 => 191 | 21 => 192 | 22 => 193 | 25 => 200 | 26 => 201 | 27 => 202 | 28 => 203 | 29 => 204 | 30 => 205 | 31 => 208 | n => n, fun | 26 => 3 | 28 => 154 | 24 => 30 | 0 => 0 | 3 => 3 | 37 => 116 | 48 => 209 | 50 => 142 | 4 => 4 | 40 => 242 | 39 => 241 | 45 => 174 | 5 => 5 | 9 => 9 | 51 => 256 | 55 => 260 | 57 => 265 | 58 => 135 | 33 => 158 | n => n, fun | n => n⟩
theorem sortedLy : Go.Proofs.SlLaysZI.n6 Tryz.prog sortedLy_ren := {
  mixed := by kernel_rfl
  f6 := ⟨Tryz.f101.name, by decide, Tryz.func101.trans (congrArg some (by kernel_rfl))⟩
  f8 := ⟨Tryz.f149.name, by decide, Tryz.func149.trans (congrArg some (by kernel_rfl))⟩
  f11 := ⟨Tryz.f183.name, by decide, Tryz.func183.trans (congrArg some (by kernel_rfl))⟩
  t0 := Tryz.underlying0
  a0 := Tryz.isAgg0
  z0 := Tryz.sizeOf0
  v0 := Tryz.zeroValue0
  t24 := Tryz.underlying30
  a24 := Tryz.isAgg30
  z24 := Tryz.sizeOf30
  v24 := Tryz.zeroValue30
  t26 := Tryz.underlying3
  a26 := Tryz.isAgg3
  z26 := Tryz.sizeOf3
  v26 := Tryz.zeroValue3
  t28 := Tryz.underlying154
  a28 := Tryz.isAgg154
  z28 := Tryz.sizeOf154
  v28 := Tryz.zeroValue154
  i26 := by kernel_rfl }

end Go.Proofs.YtbcghggkfnagoaaGreatDoor
namespace Go.Proofs.YtbcghggkfnagoaaGreatDoor
open Go Go.RowKit Go.Maps Go.Sort Go.Shelf Hach

theorem sortsIn (m : Nat) : AnyZI.SortsIn Tryz.prog sortedLy_ren Fence.wide m :=
  ⟨fun blk off cap ss W hH hblk hsz => callsIn_wide.2 (AnyM.slices_Sort_int sortLy blk off cap ss W hH hblk hsz),
   fun p cap W => callsIn_wide.2 (AnyM.slices_Sort_int_none sortLy p cap W)⟩
def keysT : TypeId := keysLy_ren.t 23
theorem keys_calls (w : World) (m : Nat) : Calls Tryz.prog 113 #[.map (some m)] w fun e w' => e = .returned (.func (.func 155) #[] #[.pointer (some ⟨w.heap.size, 0, none⟩)]) ∧ w' = w.alloc (.cells #[.map (some m)] keysT) :=
  (callsIn_wide (n := 6)).1 (AnyZI.keys_in keysLy Fence.wide 6 trivial rfl (some m) w)
def KeysRet (w : World) (L : Olds) (en : Ending) (w' : World) : Prop := ∃ A c, en = .returned (.slice A L.length c) ∧ Hid (w'.ownsRow w.heap.size 3 1 (.slice A L.length c) L.length (L.map fun p => .int .i64 p.1) ∧ Up w w')
theorem sorted_calls (w : World) (m b : Nat) (L : Olds) (hm : Hid (MapS w m L)) (hl : Hid (L.length < 1000000)) (hr : Hid ((L.map (·.1)).Pairwise (· < ·))) (hb : Hid (w.heap[b]? = some (.cells #[.map (some m)] keysT (0, 0)))) :
    Calls Tryz.prog 101 #[.func (.func 155) #[] #[.pointer (some ⟨b, 0, none⟩)]] w (KeysRet w L) := by
  refine (callsIn_wide (n := 6)).1 ?_
  have hc : w.cell? ⟨b, 0, none⟩ = some (.map (some m)) := by rw [cell_of_row w b _ _ _ _ hb.out]; rfl
  have hf : w.frozen? ⟨b, 0, none⟩ = false := by unfold World.frozen?; rw [show (⟨b, 0, none⟩ : Addr).block = b from rfl, hb.out]; simp
  have hown : w.ownsMap Tryz.prog 3 secElem m L.length (datL L) := hm.out
  have hseq := AnyZI.keys_gives (ρ := keysLy_ren) { keysLy with } Fence.wide 3 trivial rfl (by omega) b m L.length (datL L) w (Array.getElem?_eq_some_iff.1 hb.out).1 hc hown
  have cS := AnyZI.sorted_in sortedLy Fence.wide 6 trivial trivial trivial trivial rfl (by omega) (sortsIn _) (enters_of Tryz.func128 (by kernel_rfl) rfl) 155 #[.pointer (some ⟨b, 0, none⟩)] trivial (enters_of Tryz.func155 (by kernel_rfl) rfl) _ _ (by rw [sizeL_dat]; have := hl.out; simp only [maxLen]; omega) (by rw [sizeL_dat]; have := hl.out; omega) w hseq
  refine cS.mono ?_
  rintro e w' ⟨v, ss, rfl, hp, hrow, hnil, hbe⟩
  have hks : ss.mergeSort (fun x y => decide (x ≤ y)) = L.map (·.1) := mergeSort_rising hr.out (by rw [← keysL_dat L]; exact hp)
  have hlen : ss.length = L.length := by have := congrArg List.length hks; rwa [List.length_mergeSort, List.length_map] at this
  rw [hks, hlen] at hrow
  obtain ⟨A, c, rfl, _⟩ := own_form hrow
  refine ⟨A, c, rfl, hid ⟨?_, hbe⟩⟩
  rw [List.map_map] at hrow
  exact hrow
end Go.Proofs.YtbcghggkfnagoaaGreatDoor

namespace Go.Proofs.YtbcghggkfnagoaaGreatDoor
open Go Go.RowKit Go.Maps Hach

def crashSec (now : List Sec) (i stay : Nat) (old : Sec) : List Sec := now.set i ((now[i]?.getD zeroS).take stay ++ old.drop stay)
theorem crashSec_length (now : List Sec) (i stay : Nat) (old : Sec) : (crashSec now i stay old).length = now.length := List.length_set
theorem crashSec_whole {now : List Sec} (h : Whole now) {i stay : Nat} (hi : i < now.length) (hs : stay ≤ 128) {old : Sec} (ho : old.length = 128) : Whole (crashSec now i stay old) := by
  refine Whole.set h i ?_
  rw [List.getElem?_eq_getElem hi, Option.getD_some, List.length_append, List.length_take, List.length_drop, h _ (List.getElem_mem hi), ho]
  omega
theorem splice_mid (P Q R X : List Value) (k : Nat) (hk : k ≤ Q.length) (hx : X.length = Q.length) : splice (P ++ (Q ++ R)) (P.length + k) (X.drop k) = P ++ ((Q.take k ++ X.drop k) ++ R) := by
  unfold splice
  have e1 : (P ++ (Q ++ R)).take (P.length + k) = P ++ Q.take k := by
    rw [List.take_length_add_append, List.take_append_of_le_length hk]
  have e2 : (P ++ (Q ++ R)).drop (P.length + k + (X.drop k).length) = R := by
    rw [List.length_drop, show P.length + k + (X.length - k) = P.length + Q.length by omega, List.drop_length_add_append, List.drop_left]
  rw [e1, e2, List.append_assoc, List.append_assoc]
theorem splice_sec {now : List Sec} (h : Whole now) {i stay : Nat} (hi : i < now.length) (hs : stay ≤ 128) {old : Sec} (ho : old.length = 128) :
    splice (now.flatMap secC) (i * 128 + stay) ((secC old).drop stay) = (crashSec now i stay old).flatMap secC := by
  have hl : ((now.take i).flatMap secC).length = i * 128 := by
    rw [flatS_length (fun s hs => h s (List.mem_of_mem_take hs)), List.length_take, Nat.min_eq_left (by omega)]
  have h8 := h _ (List.getElem_mem hi)
  rw [flatS_split h hi, ← hl, splice_mid _ _ _ _ _ (by rw [secC_length, h8]; exact hs) (by rw [secC_length, secC_length, ho, h8])]
  have e : crashSec now i stay old = now.take i ++ (now[i].take stay ++ old.drop stay) :: now.drop (i + 1) := by
    unfold crashSec
    rw [List.getElem?_eq_getElem hi, Option.getD_some]
    generalize now[i].take stay ++ old.drop stay = X
    conv => lhs; rw [← List.take_append_drop i now, List.drop_eq_getElem_cons hi]
    rw [List.set_append_right _ _ (by rw [List.length_take]; omega), List.length_take, Nat.min_eq_left (by omega), Nat.sub_self, List.set_cons_zero]
  rw [e, List.flatMap_append, List.flatMap_cons]
  congr 2
  unfold secC
  rw [List.map_append, List.map_take, List.map_drop]
theorem own_splice {w : World} {base : Nat} {e : TypeId} {size g n c : Nat} {xs : List Value} (h : w.ownsRow base e size (.slice (some ⟨g, 0, none⟩) n c) n xs) :
    ∃ cur : Array Value, w.heap[g]? = some (.cells cur e (0, 0)) ∧ n * size ≤ cur.size ∧ ∀ off news, off + news.length ≤ n * size →
      (w.setRow g (cur.toList.take off ++ (news ++ cur.toList.drop (off + news.length))).toArray).ownsRow base e size (.slice (some ⟨g, 0, none⟩) n c) n (splice xs off news) := by
  obtain ⟨hlen, hh | ⟨g', cap, cur, hv, hb, hg, hnc, hcm, hcs, htake⟩⟩ := h
  · cases hh.1
  injection hv with e1 _ e3
  injection e1 with e1
  injection e1 with e1 _ _
  subst e1; subst e3
  refine ⟨cur, hg, ?_, fun off news hfit => ?_⟩
  · rw [hcs]; exact Nat.mul_le_mul_right _ hnc
  · have hcn : n * size ≤ cur.size := by rw [hcs]; exact Nat.mul_le_mul_right _ hnc
    refine ⟨?_, .inr ⟨g, c, _, rfl, hb, setRow_heap w g _ _ _ _ hg, hnc, hcm, ?_, ?_⟩⟩
    · rw [length_splice]
      · exact hlen
      · rw [hlen]; omega
    · simp only [List.size_toArray, List.length_append, List.length_take, List.length_drop, Array.length_toList]
      omega
    · rw [← htake]
      exact take_splice _ _ _ _ (by omega)
theorem fr_setRow (w : World) (g : Nat) (cs : Array Value) : Fr (fun k => k = g) w (w.setRow g cs) := ⟨rfl, rfl, rfl, by simp [World.setRow], fun q _ hq => setRow_other w g q _ hq⟩
theorem wp_copyS {w : World} {base d o m c i g bx stay : Nat} {cs : Array Value} {t : TypeId} {A : Option Addr} {f : FileV} (h : FileAt w base d cs t o A c m f) (hi : i < f.now.length) (hA : A = some ⟨g, 0, none⟩) {old : Sec} (hold : w.rangeAt bx 0 (secC old)) (ho : old.length = 128) (hs : stay ≤ 128)
    {q : Oper} {a : Act} {K : Act → World → Prop} {Q : Exit → Act → World → Prop} (x y : Operand) (hq : q.op = .call { callee := .builtin .copy, args := #[x, y], argTypes := #[64, 64] }) {dp sp : Option Addr} {dc sc n : Nat}
    (hx : a.eval x = .slice dp n dc) (hy : a.eval y = .slice sp n sc) (hn : n = 128 - stay) (hpos : stay < 128 → dp = some ⟨g, i * 128 + stay, none⟩ ∧ sp = some ⟨bx, stay, none⟩)
    (hK : ∀ w', FileAt w' base d cs t o A c m { f with now := crashSec f.now i stay old } → Fr (fun k => k = g) w w' → K (a.put q.dst (goInt n)) w') : q.wp Tryz.prog a w K Q := by
  subst hA
  have hown : (Value.slice (some ⟨g, 0, none⟩) f.now.length c).ownBlock = some g := rfl
  have hne := h.ne.2 g hown
  have ht : Tryz.prog.underlying 64 = some (.slice 5) := Tryz.underlying64
  have hi1 : (Tryz.prog.info? 5).map (·.size) = some 1 := by kernel_rfl
  have GO : ∀ w', w'.ownsRow base 173 128 (.slice (some ⟨g, 0, none⟩) f.now.length c) f.now.length ((crashSec f.now i stay old).flatMap secC) → Fr (fun k => k = g) w w' →
      FileAt w' base d cs t o (some ⟨g, 0, none⟩) c m { f with now := crashSec f.now i stay old } := fun w' hr hf =>
    ⟨(hf.block d (Array.getElem?_eq_some_iff.1 h.own).1 (fun e => hne.1 e.symm)).trans h.own, by show cs[o]? = some (.slice _ (crashSec f.now i stay old).length c); rw [crashSec_length]; exact h.c0, h.c1, h.c2,
      by show World.ownsRow _ _ _ _ (.slice _ (crashSec f.now i stay old).length c) (crashSec f.now i stay old).length _; rw [crashSec_length]; exact hr, h.map.kept hf (fun e => hne.2 e.symm), crashSec_whole h.len hi hs ho, h.low, h.ty⟩
  obtain ⟨cur, hg, hsz, hsp⟩ := own_splice h.row
  have hin : i * 128 + 128 ≤ f.now.length * 128 := by omega
  have hdl : ((secC old).drop stay).length = 128 - stay := by rw [List.length_drop, secC_length, ho]
  by_cases h8 : stay = 128
  · subst h8
    have hrun := run_copy_none (P := Tryz.prog) w 64 64 q.type 5 dp sp n dc n sc ht hi1 (by rw [hn]; rfl)
    unfold Oper.wp
    simp [execOp, hq, resolve, invoke, builtin, hx, hy, hrun, Result.andThen]
    have e0 : n = 0 := by omega
    have := hK w (GO w (by
      have := h.row
      have e : crashSec f.now i 128 old = f.now := by
        unfold crashSec
        rw [List.getElem?_eq_getElem hi, Option.getD_some, List.take_of_length_le (by rw [h.len _ (List.getElem_mem hi)]; omega), List.drop_of_length_le (by omega), List.append_nil, List.set_getElem_self]
      rw [e]; exact this) (Fr.refl _ w)) (Fr.refl _ w)
    rw [e0] at this
    exact this
  · obtain ⟨rfl, rfl⟩ := hpos (by omega)
    have hrun := run_copy_row (P := Tryz.prog) w 64 64 q.type 5 g (i * 128 + stay) n dc ⟨bx, stay, none⟩ n sc cur 173 ((secC old).drop stay) ht hi1 hg (by rw [hdl, hn]; simp) (fun j v hv => by
      rw [add_plain]
      rw [List.getElem?_drop] at hv
      have := hold (stay + j) v hv
      rwa [Nat.zero_add] at this) (by rw [hdl]; omega) (fun v hv => secC_one old v (List.mem_of_mem_drop hv))
    have hr := hsp (i * 128 + stay) ((secC old).drop stay) (by rw [hdl]; omega)
    rw [splice_sec h.len hi hs ho] at hr
    have hdn : ((secC old).drop stay).length = n := by rw [hdl, hn]
    rw [hdn] at hrun hr
    rw [← List.append_assoc] at hr
    unfold Oper.wp execOp
    simp only [hq, resolve, invoke, builtin, Sem.run_bind, Sem.run_pure, Result.andThen_ok, List.map_toArray, List.map_cons, List.map_nil, hx, hy, hrun]
    exact hK _ (GO _ hr (fr_setRow w g _)) (fr_setRow w g _)
end Go.Proofs.YtbcghggkfnagoaaGreatDoor

namespace Go.Proofs.YtbcghggkfnagoaaGreatDoor
open Go Go.RowKit Go.Maps Hach

structure CSt where
  now : List Sec
  last : Nat
  n : Nat
  wh : Bool
def crashStep (keep : List Bool) (torn : Int) (s : CSt) (p : Int × Sec) : CSt :=
  ⟨crashSec s.now p.1.toNat (staysV keep torn s.n s.wh).1 p.2, if 0 < (staysV keep torn s.n s.wh).1 then max s.last (p.1.toNat + 1) else s.last, s.n + 1, s.wh && !(staysV keep torn s.n s.wh).2⟩
def crashRow (keep : List Bool) (torn : Int) (s : CSt) (L : Olds) : CSt := L.foldl (crashStep keep torn) s
def crashFile (keep : List Bool) (torn : Int) (f : FileV) (n : Nat) (wh : Bool) : CSt := crashRow keep torn ⟨f.now, f.sure, n, wh⟩ f.old
def fileOf (s : CSt) : FileV := ⟨s.now.take s.last, [], s.last⟩
def crash1 (keep : List Bool) (torn : Int) (b : Bool) (S : DiskV × Nat × Bool) : DiskV × Nat × Bool :=
  (S.1.setF b (fileOf (crashFile keep torn (S.1.fl b) S.2.1 S.2.2)), (crashFile keep torn (S.1.fl b) S.2.1 S.2.2).n, (crashFile keep torn (S.1.fl b) S.2.1 S.2.2).wh)
def crashOff (D : DiskV) : DiskV := { D with on := false, armed := 0 }
def stage (keep : List Bool) (torn : Int) (D : DiskV) : Nat → DiskV × Nat × Bool
  | 0 => (crashOff D, 0, true)
  | 1 => crash1 keep torn false (crashOff D, 0, true)
  | _ => crash1 keep torn true (crash1 keep torn false (crashOff D, 0, true))
def crashV (keep : List Bool) (torn : Int) (D : DiskV) : DiskV := (stage keep torn D 2).1
theorem clampT_le (t : Int) : clampT t ≤ 128 := by
  unfold clampT
  split
  · omega
  · split <;> omega
theorem staysV_le (keep : List Bool) (torn : Int) (n : Nat) (t : Bool) : (staysV keep torn n t).1 ≤ 128 := by
  unfold staysV
  split
  · exact Nat.le_refl _
  · split
    · exact clampT_le _
    · exact Nat.zero_le _
structure CStOk (z : Nat) (s : CSt) : Prop where
  whole : Whole s.now
  len : s.now.length = z
  last : s.last ≤ z
theorem CStOk.step {len : Nat} {s : CSt} (h : CStOk len s) (keep : List Bool) (torn : Int) {p : Int × Sec} (hp : 0 ≤ p.1 ∧ p.1 < (len : Int)) (ho : p.2.length = 128) : CStOk len (crashStep keep torn s p) := by
  have hi : p.1.toNat < s.now.length := by rw [h.len]; omega
  refine ⟨crashSec_whole h.whole hi (staysV_le _ _ _ _) ho, by unfold crashStep; rw [crashSec_length]; exact h.len, ?_⟩
  unfold crashStep
  simp only
  have := h.last
  split <;> omega
theorem CStOk.row {len : Nat} (keep : List Bool) (torn : Int) {L : Olds} {s : CSt} (h : CStOk len s) (hL : ∀ p ∈ L, (0 ≤ p.1 ∧ p.1 < (len : Int)) ∧ p.2.length = 128) : CStOk len (crashRow keep torn s L) := by
  induction L generalizing s with
  | nil => exact h
  | cons p L ih =>
    exact ih (h.step keep torn (hL p List.mem_cons_self).1 (hL p List.mem_cons_self).2) (fun q hq => hL q (List.mem_cons_of_mem _ hq))
theorem crashRow_n (keep : List Bool) (torn : Int) (L : Olds) (s : CSt) : (crashRow keep torn s L).n = s.n + L.length := by
  induction L generalizing s with
  | nil => rfl
  | cons p L ih => show (crashRow keep torn (crashStep keep torn s p) L).n = _; rw [ih]; show s.n + 1 + _ = _; rw [List.length_cons]; omega
theorem crashRow_take (keep : List Bool) (torn : Int) (L : Olds) (s : CSt) {j : Nat} (hj : j < L.length) : crashRow keep torn s (L.take (j + 1)) = crashStep keep torn (crashRow keep torn s (L.take j)) L[j] := by
  unfold crashRow
  rw [List.take_succ_eq_append_getElem hj, List.foldl_append]; rfl
theorem olds_le {L : Olds} {n : Nat} (hk : (L.map (·.1)).Pairwise (· < ·)) (hr : ∀ p ∈ L, 0 ≤ p.1 ∧ p.1 < (n : Int)) : L.length ≤ n := by
  have key : ∀ (l : List Int) (a : Int), l.Pairwise (· < ·) → (∀ x ∈ l, a ≤ x ∧ x < (n : Int)) → a ≤ (n : Int) → (l.length : Int) ≤ (n : Int) - a := by
    intro l
    induction l with
    | nil => intro a _ _ h; simp; omega
    | cons x r ih =>
      intro a hp hx ha
      rw [List.pairwise_cons] at hp
      have h0 := hx x List.mem_cons_self
      have := ih (x + 1) hp.2 (fun y hy => ⟨by have := hp.1 y hy; omega, (hx y (List.mem_cons_of_mem _ hy)).2⟩) (by omega)
      rw [List.length_cons]; omega
  have := key (L.map (·.1)) 0 hk (fun x hx => by obtain ⟨p, hp, rfl⟩ := List.mem_map.1 hx; exact hr p hp) (by omega)
  rw [List.length_map] at this
  omega
theorem FileOk.olds {f : FileV} (h : FileOk f) : f.old.length ≤ f.now.length := olds_le h.keys h.rng
theorem FileOk.cst {f : FileV} (h : FileOk f) (n : Nat) (wh : Bool) : CStOk f.now.length ⟨f.now, f.sure, n, wh⟩ := ⟨h.now, rfl, h.sure⟩
theorem FileOk.crashed {f : FileV} (h : FileOk f) (keep : List Bool) (torn : Int) (n : Nat) (wh : Bool) : CStOk f.now.length (crashFile keep torn f n wh) :=
  (h.cst n wh).row keep torn (fun p hp => ⟨h.rng p hp, h.old p hp⟩)
theorem FileOk.ofCrash {f : FileV} (h : FileOk f) (keep : List Bool) (torn : Int) (n : Nat) (wh : Bool) : FileOk (fileOf (crashFile keep torn f n wh)) := by
  have k := h.crashed keep torn n wh
  refine ⟨fun s hs => k.whole s (List.mem_of_mem_take hs), by simp [fileOf], by simp [fileOf], by simp [fileOf], ?_⟩
  show _ ≤ (List.take _ _).length
  rw [List.length_take, k.len]
  have := k.last
  show (crashFile keep torn f n wh).last ≤ _
  omega

/-! ### a file cut short -/
theorem own_shorter {w : World} {base : Nat} {e : TypeId} {size n c : Nat} {A : Option Addr} {xs : List Value} (h : w.ownsRow base e size (.slice A n c) n xs) {k : Nat} (hk : k ≤ n) : w.ownsRow base e size (.slice A k c) k (xs.take (k * size)) := by
  have hm : k * size ≤ n * size := Nat.mul_le_mul_right _ hk
  refine ⟨by rw [List.length_take, h.1]; omega, ?_⟩
  rcases h.2 with ⟨hv, h0⟩ | ⟨g, cap, cur, hv, hb, hg, hnc, hcm, hcs, ht⟩
  · injection hv with e1 e2 e3
    left
    subst e1; subst e3
    obtain rfl : k = 0 := by omega
    exact ⟨rfl, rfl⟩
  · injection hv with e1 e2 e3
    subst e1; subst e3
    refine .inr ⟨g, c, cur, rfl, hb, hg, by omega, hcm, hcs, ?_⟩
    rw [← ht, List.take_take, Nat.min_eq_left hm]
theorem flatS_take {l : List Sec} (h : Whole l) (k : Nat) (hk : k ≤ l.length) : (l.flatMap secC).take (k * 128) = (l.take k).flatMap secC := by
  have hl : ((l.take k).flatMap secC).length = k * 128 := by
    rw [flatS_length (fun s hs => h s (List.mem_of_mem_take hs)), List.length_take, Nat.min_eq_left hk]
  conv => lhs; rw [← List.take_append_drop k l, List.flatMap_append]
  rw [← hl, List.take_left]
theorem ownBlock_len (A : Option Addr) (n c n' c' : Nat) : (Value.slice A n c).ownBlock = (Value.slice A n' c').ownBlock := by cases A <;> rfl
theorem FileAt.short {w : World} {base d o m c : Nat} {cs : Array Value} {t : TypeId} {A : Option Addr} {f : FileV} (h : FileAt w base d cs t o A c m f) {k n : Nat} (hk : k ≤ f.now.length) (hn : (f.now.take k).length = n) :
    FileAt (w.setCell ⟨d, o, none⟩ (.slice A n c)) base d (cs.setIfInBounds o (.slice A n c)) t o A c m { f with now := f.now.take k } ∧ Fr (fun k => k = d) w (w.setCell ⟨d, o, none⟩ (.slice A n c)) := by
  have hkn : n = k := by rw [← hn, List.length_take]; omega
  subst hkn
  have f2 : Fr (fun k => k = d) w (w.setCell ⟨d, o, none⟩ (.slice A n c)) := (Fr.refl (fun k => k = d) w).setCell (p := ⟨d, o, none⟩) (fun _ => rfl) _
  have ne := h.ne
  have hr := f2.own (own_shorter h.row hk) (fun k9 hk9 e => (ne.2 k9 ((ownBlock_len A _ _ _ _).trans hk9)).1 e)
  rw [flatS_take h.len _ hk] at hr
  have hlt := (Array.getElem?_eq_some_iff.1 h.c0).1
  refine ⟨⟨heap_setCell_same w d o cs t _ h.own, ?_, ?_, ?_, ?_, h.map.kept f2 (fun e => ne.1 e.symm), fun s hs => h.len s (List.mem_of_mem_take hs), h.low, h.ty⟩, f2⟩
  · rw [hn]; simp [hlt]
  · rw [Array.getElem?_setIfInBounds_ne (by omega)]; exact h.c1
  · rw [Array.getElem?_setIfInBounds_ne (by omega)]; exact h.c2
  · rw [hn]; exact hr
end Go.Proofs.YtbcghggkfnagoaaGreatDoor

namespace Go.Proofs.YtbcghggkfnagoaaGreatDoor
open Go Go.RowKit Go.Maps Hach

def bOf (k : Nat) : Bool := decide (k = 1)
theorem off_of {k : Nat} (h : k < 2) : 1 + k * 3 = off (bOf k) := by
  rcases (by omega : k = 0 ∨ k = 1) with rfl | rfl <;> rfl
theorem stage_succ (keep : List Bool) (torn : Int) (D : DiskV) {k : Nat} (h : k < 2) : stage keep torn D (k + 1) = crash1 keep torn (bOf k) (stage keep torn D k) := by
  rcases (by omega : k = 0 ∨ k = 1) with rfl | rfl <;> rfl
theorem stage_fl (keep : List Bool) (torn : Int) (D : DiskV) {k : Nat} (h : k < 2) : (stage keep torn D k).1.fl (bOf k) = D.fl (bOf k) := by
  rcases (by omega : k = 0 ∨ k = 1) with rfl | rfl <;> rfl
theorem stage_n (keep : List Bool) (torn : Int) (D : DiskV) {k : Nat} (h : k < 2) : (stage keep torn D k).2.1 ≤ D.f0.old.length := by
  rcases (by omega : k = 0 ∨ k = 1) with rfl | rfl
  · exact Nat.zero_le _
  · show (crashRow keep torn ⟨D.f0.now, D.f0.sure, 0, true⟩ D.f0.old).n ≤ _
    rw [crashRow_n]; show 0 + _ ≤ _; omega
theorem fl_len (D : DiskV) (h : D.f0.now.length < 400000 ∧ D.f1.now.length < 400000) (b : Bool) : (D.fl b).now.length < 400000 := by
  cases b
  · exact h.1
  · exact h.2
theorem getL_at {L : Olds} (hk : (L.map (·.1)).Pairwise (· < ·)) {j : Nat} (hj : j < L.length) : getL L L[j].1 = some L[j].2 := by
  induction L generalizing j with
  | nil => cases hj
  | cons x r ih =>
    rw [List.map_cons, List.pairwise_cons] at hk
    unfold getL
    cases j with
    | zero => simp
    | succ j =>
      rw [List.find?_cons]
      have hj' : j < r.length := by simpa using hj
      have hne : decide (x.1 = (x :: r)[j + 1].1) = false := by
        have := hk.1 r[j].1 (List.mem_map.2 ⟨r[j], List.getElem_mem hj', rfl⟩)
        rw [List.getElem_cons_succ]
        exact decide_eq_false (by omega)
      rw [hne, List.getElem_cons_succ]
      exact ih hk.2 hj'
theorem diskCs_set (p : DiskP) (D : DiskV) (b : Bool) (A : Option Addr) (c : Nat) (f : FileV) : ((diskCs p D).setIfInBounds (off b) (.slice A f.now.length c)).setIfInBounds (off b + 2) (.int .i64 f.sure) = diskCs (p.setR b A c) (D.setF b f) := by
  cases b <;> rfl
def SeInv (w wi : World) (base d o : Nat) (cs : Array Value) (A : Option Addr) (c mm : Nat) (f : FileV) (s : CSt) : Prop :=
  FileAt wi base d cs 87 o A c mm { f with now := s.now } ∧ Fr (fun k => (Value.slice A f.now.length c).ownBlock = some k) w wi
def CrInv (w wr : World) (F : Nat → Prop) (base d : Nat) (D : DiskV) (keep : List Bool) (torn : Int) (bx : Nat) (KA : Option Addr) (kl kc k : Nat) : Prop :=
  Goes w F base d (stage keep torn D k).1 wr ∧ wr.heap[bx]? = some (.cells #[.slice KA kl kc, .int .i64 torn] 72 (0, 0))
set_option pp.deepTerms true in
set_option pp.maxSteps 10000000 in
set_option maxRecDepth 100000 in
set_option maxHeartbeats 2000000 in
theorem crashOn_calls (w : World) (base d : Nat) (p : DiskP) (D : DiskV) (h : Hid (DiskAt w base d p D)) (ho : Hid (D.on = true)) (hsz : Hid (D.f0.now.length < 400000 ∧ D.f1.now.length < 400000))
    (KA : Option Addr) (keep : List Bool) (kc : Nat) (torn : Int) (hkl : Hid (keep.length < 1000000)) (hk : Hid (∀ w', Fr (foot d p D) w w' → Rd w' KA (keep.map .bool))) :
    Calls Tryz.prog 41 #[.pointer (some ⟨d, 0, none⟩), .agg #[.slice KA keep.length kc, .int .i64 torn]] w (StepF w (foot d p D) base d (crashV keep torn D) (.bool true)) := by
  obtain ⟨kl, hkl2⟩ : ∃ z, keep.length = z := ⟨_, rfl⟩
  have HKL := hid hkl2
  rw [hkl2]
  have UA := upAlD (Up.refl w) (.cells #[.slice KA kl kc, .int .i64 torn] 72)
  have hA := h.out.up UA
  have E0 := hA.reads.1
  have E7 := hA.reads.2.2.2.2.2.2.2.1
  have E9 := hA.reads.2.2.2.2.2.2.2.2.2.1
  rw [ho.out] at E7
  have f7 := hA.free 7
  have f9 := hA.free 9
  have HR := hid h.out.room.1
  have HA := hid hA
  have UA := hid UA
  have DLT := hid (Array.getElem?_eq_some_iff.1 h.out.own).1
  have BB := hid (heap_alloc_new w (.cells #[.slice KA kl kc, .int .i64 torn] 72))
  clear hA hkl2
  go_enter Tryz.func41, Tryz.ntmps41
  go_wp2_with (go_at_call 111; refine (dmade_calls _ d _ E0 HR).mono ?_; rintro e w' ⟨rfl, rfl⟩)
  have START : Hid (CrInv w (((w.alloc (.cells #[.slice KA kl kc, .int .i64 torn] 72)).setCell ⟨d, 7, none⟩ (.bool false)).setCell ⟨d, 9, none⟩ (.int .i64 0)) (foot d p D) base d D keep torn w.heap.size KA kl kc 0) := by
    have k1 := heap_setCell_same _ d 7 (diskCs p D) _ (.bool false) HA.out.own
    have k2 := heap_setCell_same _ d 9 _ _ (.int .i64 0) k1
    have hf : Fr (fun k => k = d) (w.alloc (.cells #[.slice KA kl kc, .int .i64 torn] 72)) (((w.alloc (.cells #[.slice KA kl kc, .int .i64 torn] 72)).setCell ⟨d, 7, none⟩ (.bool false)).setCell ⟨d, 9, none⟩ (.int .i64 0)) := ((Fr.refl (fun k => k = d) _).setCell (p := ⟨d, 7, none⟩) (fun _ => rfl) _).setCell (p := ⟨d, 9, none⟩) (fun _ => rfl) _
    refine hid ⟨⟨⟨p, HA.out.nums hf k2 rfl rfl rfl rfl, fun k hk => .inl hk⟩, ((Fr.of_below UA.out).mono (fun _ e => e.elim)).trans' (hf.mono (fun k e => .inl e))⟩, ?_⟩
    exact (hf.block w.heap.size (by simp) (by have := DLT.out; omega)).trans BB.out
  have BX := hid (show d < w.heap.size ∧ w.heap.size ≤ w.heap.size from ⟨DLT.out, Nat.le_refl _⟩)
  clear E0 E7 E9 f7 f9 HA UA BB
  generalize ((w.alloc (.cells #[.slice KA kl kc, .int .i64 torn] 72)).setCell ⟨d, 7, none⟩ (.bool false)).setCell ⟨d, 9, none⟩ (.int .i64 0) = W1 at *
  generalize hbx : w.heap.size = bx at *
  have HBX := hid hbx
  clear hbx
  go_loopw [5, 6, 31] (fun n t i wr => ∃ k : Nat, k ≤ 2 ∧ i = .int .i64 k ∧ n = .int .i64 (stage keep torn D k).2.1 ∧ t = .bool (stage keep torn D k).2.2 ∧ Hid (CrInv w wr (foot d p D) base d D keep torn bx KA kl kc k)) (fun _ _ i _ => 2 - (numV i).toNat)
  case atStart => exact ⟨0, by omega, rfl, rfl, rfl, START⟩
  case round =>
    obtain ⟨wo, rfl⟩ : ∃ x, x = wr := ⟨wr, rfl⟩
    obtain ⟨k, hk2, rfl, rfl, rfl, iv⟩ := hrel
    by_cases hlt : (k : Int) < 2
    · have K2 := hid (show k < 2 by omega)
      obtain ⟨⟨⟨p', h', hf'⟩, fr⟩, bxc⟩ := iv.out
      have F0 := h'.fileB (bOf k)
      rw [← off_of K2.out] at F0
      have OK := h'.okB (bOf k)
      have FL := stage_fl keep torn D K2.out
      rw [FL] at F0 OK
      have SN := hid (stage_n keep torn D K2.out)
      obtain ⟨nn, hnn⟩ : ∃ z, (stage keep torn D k).2.1 = z := ⟨_, rfl⟩
      obtain ⟨wh, hwh⟩ : ∃ z, (stage keep torn D k).2.2 = z := ⟨_, rfl⟩
      have NN := hid hnn
      have WH := hid hwh
      rw [hnn, hwh]
      have LEN := hid (fl_len D hsz.out (bOf k))
      have OL := hid OK.olds
      obtain ⟨f, hf⟩ : ∃ f, D.fl (bOf k) = f := ⟨_, rfl⟩
      rw [hf] at F0 OK LEN OL
      have HFL := hid hf
      obtain ⟨e0, e1, e2⟩ := F0.cell0
      obtain ⟨A, hA⟩ : ∃ A, p'.rA (bOf k) = A := ⟨_, rfl⟩
      obtain ⟨c, hc⟩ : ∃ c, p'.rc (bOf k) = c := ⟨_, rfl⟩
      obtain ⟨mm, hm⟩ : ∃ c, p'.mm (bOf k) = c := ⟨_, rfl⟩
      have PA := hid (And.intro hA (And.intro hc hm))
      rw [hA, hc, hm] at F0
      rw [hA, hc] at e0
      rw [hm] at e1
      have FF := hid F0
      have HOK := hid OK
      have HP := hid h'
      have HPF := hid hf'
      have FRR := hid fr
      have BXC := hid bxc
      obtain ⟨len, hlen⟩ : ∃ z, f.now.length = z := ⟨_, rfl⟩
      rw [hlen] at e0
      have HLEN := hid hlen
      obtain ⟨sure, hsure⟩ : ∃ z, f.sure = z := ⟨_, rfl⟩
      rw [hsure] at e2
      have HSURE := hid hsure
      clear iv h' hf' fr bxc F0 OK FL hnn hwh hf hA hc hm hlen hsure hk2
      go_wp2_with (first
        | (go_at_call 113; refine (keys_calls _ mm).mono ?_; rintro e w' ⟨rfl, rfl⟩)
        | (go_at_call 101; refine (sorted_calls _ mm wo.heap.size f.old (hid (FF.out.map.up (upAlD (Up.refl wo) _))) (hid (by have := LEN.out; have := OL.out; omega)) (hid HOK.out.keys) (hid (heap_alloc_new wo _))).mono ?_; rintro e w2 ⟨AK, cK, rfl, hh⟩))
      have UW : Hid (Up wo w2) := hid ((upAlD (Up.refl wo) _).t hh.out.2)
      have KR := hid (own_base hh.out.1 (show wo.heap.size ≤ _ by simp))
      obtain ⟨ol, hol⟩ : ∃ z, f.old.length = z := ⟨_, rfl⟩
      rw [hol] at KR ⊢
      have HOL := hid hol
      clear hh hol e0 e1 e2
      have START2 : Hid (SeInv w2 w2 base d (1 + k * 3) (diskCs p' (stage keep torn D k).1) A c mm f (crashRow keep torn ⟨f.now, sure, nn, wh⟩ (f.old.take 0))) := hid ⟨FF.out.up UW.out, Fr.refl _ _⟩
      go_loopw [5, 6, 9, 50] (fun n t l i wi => ∃ j : Nat, j ≤ ol ∧ i = .int .i64 j ∧ n = .int .i64 (crashRow keep torn ⟨f.now, sure, nn, wh⟩ (f.old.take j)).n ∧ t = .bool (crashRow keep torn ⟨f.now, sure, nn, wh⟩ (f.old.take j)).wh ∧ l = .int .i64 (crashRow keep torn ⟨f.now, sure, nn, wh⟩ (f.old.take j)).last ∧
        Hid (SeInv w2 wi base d (1 + k * 3) (diskCs p' (stage keep torn D k).1) A c mm f (crashRow keep torn ⟨f.now, sure, nn, wh⟩ (f.old.take j)))) (fun _ _ _ i _ => ol - (numV i).toNat)
      case atStart => exact ⟨0, by omega, rfl, rfl, rfl, rfl, START2⟩
      case round =>
        obtain ⟨j, hj, rfl, rfl, rfl, rfl, iv⟩ := hrel
        by_cases hjl : (j : Int) < ol
        · have HJ : Hid (j < f.old.length) := hid (by have := HOL.out; omega)
          have SN2 := hid (crashRow_n keep torn (f.old.take j) ⟨f.now, sure, nn, wh⟩)
          have SOK : Hid (CStOk f.now.length (crashRow keep torn ⟨f.now, sure, nn, wh⟩ (f.old.take j))) := hid (by
            have := (HOK.out.cst nn wh).row keep torn (L := f.old.take j) (fun p hp => ⟨HOK.out.rng p (List.mem_of_mem_take hp), HOK.out.old p (List.mem_of_mem_take hp)⟩)
            rw [HSURE.out] at this; exact this)
          have NEXT := hid (crashRow_take keep torn f.old ⟨f.now, sure, nn, wh⟩ HJ.out)
          have GET := hid (getL_at HOK.out.keys HJ.out)
          have RNG := hid (HOK.out.rng _ (List.getElem_mem HJ.out))
          have OLD := hid (HOK.out.old _ (List.getElem_mem HJ.out))
          obtain ⟨s, hs⟩ : ∃ s, crashRow keep torn ⟨f.now, sure, nn, wh⟩ (f.old.take j) = s := ⟨_, rfl⟩
          rw [hs] at SN2 SOK NEXT iv ⊢
          obtain ⟨q, hq⟩ : ∃ q, f.old[j]'HJ.out = q := ⟨_, rfl⟩
          rw [hq] at NEXT GET RNG OLD
          have HQ := hid hq
          clear hs hq
          obtain ⟨ki, so⟩ := q
          obtain ⟨i, hi⟩ : ∃ i : Nat, ki = (i : Int) := ⟨ki.toNat, by have := RNG.out.1; simp only at this; omega⟩
          subst hi
          obtain ⟨nw, sl, sn, sw⟩ := s
          obtain ⟨⟨sv, tr⟩, hst⟩ : ∃ r, staysV keep torn sn sw = r := ⟨_, rfl⟩
          have HST := hid hst
          have SVL : Hid (sv ≤ 128) := hid (by have := staysV_le keep torn sn sw; rwa [hst] at this)
          have NX : Hid (crashRow keep torn ⟨f.now, sure, nn, wh⟩ (f.old.take (j + 1)) = ⟨crashSec nw i sv so, if 0 < sv then max sl (i + 1) else sl, sn + 1, sw && !tr⟩) := hid (by
            rw [NEXT.out]; unfold crashStep; simp only [hst]; rfl)
          clear hst NEXT
          have SNB : Hid (sn < 900000) := hid (by have h1 := SN2.out; simp only at h1; rw [List.length_take] at h1; have h2 := SN.out; have h3 := NN.out; have h4 := hsz.out; have h5 := OL.out; have h6 := LEN.out; have h7 := HJ.out; have h8 := h.out.ok0.olds; omega)
          obtain ⟨fi, fri⟩ := iv.out
          have hil : i < f.now.length := by have := RNG.out.2; simp only at this; omega
          have hinw : i < nw.length := by have := SOK.out.len; simp only at this; omega
          obtain ⟨g, hAg, hsec⟩ := fi.sec hinw
          obtain ⟨c0, c1, c2⟩ := fi.cell0
          rw [show ({ f with now := nw } : FileV).now.length = len from SOK.out.len.trans HLEN.out] at c0
          have NWL := hid hinw
          have ILT := hid hil
          rw [hAg] at c0
          have HAG := hid hAg
          have FI := hid fi
          have FRI := hid fri
          have b0 : wr.heap[bx]? = some (.cells #[.slice KA kl kc, .int .i64 torn] 72 (0, 0)) := (fri.block bx (Nat.lt_of_lt_of_le (Array.getElem?_eq_some_iff.1 BXC.out).1 UW.out.size) (fun e => row_blk FF.out.row BXC.out (by decide) bx e rfl)).trans ((UW.out.block bx (Array.getElem?_eq_some_iff.1 BXC.out).1).trans BXC.out)
          have AB : ∀ k9, (Value.slice A f.now.length c).ownBlock = some k9 → k9 < wo.heap.size := fun k9 hk9 => (own_block FF.out.row k9 hk9).2
          have FW : Hid (Fr (foot d p D) w wr) := hid ((FRR.out.trans (Fr.of_below UW.out) (fun _ _ e => e.elim)).trans fri (fun k9 hk9 e => by
            have h1 : foot d p' (stage keep torn D k).1 k9 := foot_own (bOf k) (.inr (.inr (by rw [PA.out.1]; exact (ownBlock_len A _ _ _ _).trans e)))
            rcases HPF.out k9 h1 with h2 | h2
            · exact h2
            · omega))
          have KRI := FRI.out.own KR.out (fun k9 hk9 e => by have h1 := (own_block KR.out k9 hk9).1; have h2 := AB k9 e; omega)
          obtain ⟨kb, kcell⟩ : ∃ kb, AK = some ⟨kb, 0, none⟩ ∧ wr.cell? ⟨kb, j, none⟩ = some (.int .i64 i) := by
            rcases KRI.2 with ⟨hv, h0⟩ | ⟨kb, cap, cur, hv, _⟩
            · have := HJ.out; have := HOL.out; omega
            · injection hv with e1 e2 e3
              subst e1
              refine ⟨kb, rfl, ?_⟩
              have := KRI.cellAt j (by have := HJ.out; have := HOL.out; omega)
              rw [this, List.getElem?_map, List.getElem?_eq_getElem HJ.out, HQ.out]; rfl
          obtain ⟨hAK, kcell⟩ := kcell
          have ST : Calls Tryz.prog 114 #[.agg #[.slice KA kl kc, .int .i64 torn], .int .i64 sn, .bool sw] wr (fun en w' => en = .returned (.tuple #[.int .i64 sv, .bool tr]) ∧ Hid (Up wr w')) := by
            have := stays_calls wr KA keep kc torn sn sw (hid (hk.out wr FW.out)) hkl (hid (by have := SNB.out; omega))
            rw [HKL.out] at this
            exact this.mono (fun en w' h => ⟨by rw [h.1, HST.out], h.2⟩)
          have bc0 : wr.cell? ⟨bx, 0, none⟩ = some (.slice KA kl kc) := by rw [cell_of_row _ _ _ _ _ _ b0]; rfl
          have bc1 : wr.cell? ⟨bx, 1, none⟩ = some (.int .i64 torn) := by rw [cell_of_row _ _ _ _ _ _ b0]; rfl
          have kil : (j : Int) < (ol : Int) := hjl
          subst hAK
          have WF : Hid ((Lit.int .i64 (i : Int)).wf = true) := hid (wf_nat (by have := ILT.out; have := LEN.out; omega))
          clear AB KRI b0 fi fri hAg hsec hil hinw c2 iv
          dsimp only
          have hil : i < len := by have := ILT.out; have := HLEN.out; omega
          have hil : i < len := by have := ILT.out; have := HLEN.out; omega
          have hil : i < len := by have := ILT.out; have := HLEN.out; omega
          have hil : i < len := by have := ILT.out; have := HLEN.out; omega
          have hil : i < len := by have := ILT.out; have := HLEN.out; omega
          have hil : i < len := by have := ILT.out; have := HLEN.out; omega
          by_cases h8 : sv = 128
          · subst h8
            have SVX : Hid (128 ≤ 128) := hid (Nat.le_refl _)
            clear SVL
            go_wp2_with (first
              | (go_at_call 114; refine ST.mono ?_; clear ST; rintro e w3 ⟨rfl, U3⟩; have hget := (FI.out.map.up U3.out).get WF.out; rw [GET.out, Option.getD_some] at hget; replace c0 := U3.out.c c0; replace c1 := U3.out.c c1; clear bc0 bc1 kcell)
              | (with_reducible refine hold_st 173 ?_))
            all_goals
              refine hid (wl_storeNew rfl (.tmp 14) (.tmp 73) rfl OLD.out rfl rfl ?_)
              replace c0 := (upAlD (Up.refl w3) (.cells (secC so).toArray 173)).c c0
              have U4 : Hid (Up wr (w3.alloc (.cells (secC so).toArray 173)).drew) := hid ((U3.out.t (upAlD (Up.refl w3) _)).t (Up.drew _))
              have HOLD : Hid ((w3.alloc (.cells (secC so).toArray 173)).drew.rangeAt w3.heap.size 0 (secC so)) := hid (fun j9 v9 hv9 => by
                show (w3.alloc (.cells (secC so).toArray 173)).cell? ⟨w3.heap.size, 0 + j9, none⟩ = some v9
                rw [Nat.zero_add, cell_of_row _ _ _ _ _ _ (heap_alloc_new w3 _)]
                simpa using hv9)
              have FI4 := hid (FI.out.up U4.out)
              go_wp2
              have US : (w3.alloc (.cells (secC so).toArray 173)).drew.cell? ⟨d, 1 + k * 3, none⟩ = some (.slice (some ⟨g, 0, none⟩) len c) := c0
              have W4 := hid (show w3.heap.size = w3.heap.size from rfl)
              clear hget
              generalize w3.alloc (.cells (secC so).toArray 173) = w4 at *
              generalize w3.heap.size = bs at *
              refine s_start (fun w9 => w9.cell? ⟨d, 1 + k * 3, none⟩ = some (.slice (some ⟨g, 0, none⟩) len c)) (by kernel_rfl) ?_
              refine s_tk 0 74 (v := ?_) US (fun w9 hS => ?_) ?_
              rotate_left
              · go_simp <;> with_reducible rfl
              try simp only [pz]
              refine s_tk 1 75 (v := ?_) US (fun w9 hS => ?_) ?_
              rotate_left
              · go_simp <;> with_reducible rfl
              try simp only [pz]
              refine s_tk 2 76 (v := ?_) US (fun w9 hS => ?_) ?_
              rotate_left
              · go_simp <;> with_reducible rfl
              try simp only [pz]
              refine s_tk 3 77 (v := ?_) US (fun w9 hS => ?_) ?_
              rotate_left
              · have e0 := hS; go_simp <;> with_reducible rfl
              try simp only [pz]
              refine s_tk 4 78 (v := ?_) US (fun w9 hS => ?_) ?_
              rotate_left
              · go_simp <;> with_reducible rfl
              try simp only [pz]
              refine s_tk 5 79 (v := ?_) US (fun w9 hS => ?_) ?_
              rotate_left
              · go_simp <;> with_reducible rfl
              try simp only [pz]
              refine s_tk 6 80 (v := ?_) US (fun w9 hS => ?_) ?_
              rotate_left
              · go_simp <;> with_reducible rfl
              try simp only [pz]
              refine s_tk 7 81 (v := ?_) US (fun w9 hS => ?_) ?_
              rotate_left
              · go_simp <;> with_reducible rfl
              try simp only [pz]
              refine s_tk 8 82 (v := ?_) US (fun w9 hS => ?_) ?_
              rotate_left
              · go_simp <;> with_reducible rfl
              try simp only [pz]
              refine s_tk 9 83 (v := ?_) US (fun w9 hS => ?_) ?_
              rotate_left
              · go_simp <;> with_reducible rfl
              try simp only [pz]
              refine s_op 10 (by kernel_rfl) rfl (by rfl) (fun K9 hK9 => ?_)
              refine wp_copyS FI4.out NWL.out HAG.out HOLD.out OLD.out SVX.out (.tmp 81) (.tmp 83) rfl rfl rfl rfl (fun e9 => absurd e9 (by omega)) ?_
              intro w5 fi5 fr5
              have FI5 := hid fi5
              have FR5 := hid fr5
              have US5 : w5.cell? ⟨d, 1 + k * 3, none⟩ = some (.slice (some ⟨g, 0, none⟩) len c) := by
                have h5 := FI5.out.cell0.1
                rw [HAG.out] at h5
                rw [h5]
                have h6 : (crashSec nw i 128 so).length = len := (crashSec_length _ _ _ _).trans (SOK.out.len.trans HLEN.out)
                rw [← h6]
              replace US := US5
              clear US5 fi5 fr5
              refine hK9.out _ _ US ?_
              clear hK9 K9
              try simp only [pz]
              refine s_done (by kernel_rfl) ?_
              rename_i K1 h1
              first | (refine h1 _ _ ?_; clear h1 K1) | skip
              clear US c0 c1
              have RES : Hid (SeInv w2 w5 base d (1 + k * 3) (diskCs p' (stage keep torn D k).1) A c mm f (crashRow keep torn ⟨f.now, sure, nn, wh⟩ (f.old.take (j + 1)))) := by
                rw [NX.out]
                refine hid ⟨FI5.out, (FRI.out.trans' ((Fr.of_below U4.out).mono (fun _ e => e.elim))).trans FR5.out (fun k9 hk9 e => ?_)⟩
                subst e
                exact (ownBlock_len A _ _ _ _).trans (show (Value.slice A 0 0).ownBlock = some _ by rw [HAG.out]; rfl)
              go_wp2
              all_goals
                go_roundw
                case measure => have := HJ.out; have := HOL.out; have := OL.out; have := LEN.out; rw [show wrap64 ((j : Int) + 1) = ((j + 1 : Nat) : Int) by unfold wrap64; omega]; simp only [numV]; omega
                case rel =>
                  refine ⟨j + 1, by have := HJ.out; have := HOL.out; omega, ?_, ?_, ?_, ?_, RES⟩
                  · have := HJ.out; have := HOL.out; have := OL.out; have := LEN.out; rw [show wrap64 ((j : Int) + 1) = ((j + 1 : Nat) : Int) by unfold wrap64; omega]
                  · rw [NX.out]; have := SNB.out; refine congrArg (Value.int .i64) ?_; show wrap64 ((sn : Int) + 1) = ((sn + 1 : Nat) : Int); unfold wrap64; omega
                  · rw [NX.out]; cases sw <;> cases tr <;> first | rfl | contradiction
                  · rw [NX.out]; refine congrArg (Value.int .i64) ?_; show _ = ((if 0 < 128 then max sl (i + 1) else sl : Nat) : Int); rw [if_pos (by omega)]; have := ILT.out; have := LEN.out; first | omega | (unfold wrap64; omega)

          · have SVX : Hid (sv ≤ 128) := SVL
            have hsv : sv ≤ 128 := SVL.out
            have hsi : (sv : Int) ≤ 128 := by omega
            clear SVL
            go_wp2_with (first
              | (go_at_call 114; refine ST.mono ?_; clear ST; rintro e w3 ⟨rfl, U3⟩; have hget := (FI.out.map.up U3.out).get WF.out; rw [GET.out, Option.getD_some] at hget; replace c0 := U3.out.c c0; replace c1 := U3.out.c c1; clear bc0 bc1 kcell)
              | (with_reducible refine hold_st 173 ?_))
            all_goals
              refine hid (wl_storeNew rfl (.tmp 14) (.tmp 73) rfl OLD.out rfl rfl ?_)
              replace c0 := (upAlD (Up.refl w3) (.cells (secC so).toArray 173)).c c0
              have U4 : Hid (Up wr (w3.alloc (.cells (secC so).toArray 173)).drew) := hid ((U3.out.t (upAlD (Up.refl w3) _)).t (Up.drew _))
              have HOLD : Hid ((w3.alloc (.cells (secC so).toArray 173)).drew.rangeAt w3.heap.size 0 (secC so)) := hid (fun j9 v9 hv9 => by
                show (w3.alloc (.cells (secC so).toArray 173)).cell? ⟨w3.heap.size, 0 + j9, none⟩ = some v9
                rw [Nat.zero_add, cell_of_row _ _ _ _ _ _ (heap_alloc_new w3 _)]
                simpa using hv9)
              have FI4 := hid (FI.out.up U4.out)
              go_wp2
              have US : (w3.alloc (.cells (secC so).toArray 173)).drew.cell? ⟨d, 1 + k * 3, none⟩ = some (.slice (some ⟨g, 0, none⟩) len c) := c0
              have W4 := hid (show w3.heap.size = w3.heap.size from rfl)
              clear hget
              generalize w3.alloc (.cells (secC so).toArray 173) = w4 at *
              generalize w3.heap.size = bs at *
              refine s_start (fun w9 => w9.cell? ⟨d, 1 + k * 3, none⟩ = some (.slice (some ⟨g, 0, none⟩) len c)) (by kernel_rfl) ?_
              refine s_tk 0 74 (v := ?_) US (fun w9 hS => ?_) ?_
              rotate_left
              · go_simp <;> with_reducible rfl
              try simp only [pz]
              refine s_tk 1 75 (v := ?_) US (fun w9 hS => ?_) ?_
              rotate_left
              · go_simp <;> with_reducible rfl
              try simp only [pz]
              refine s_tk 2 76 (v := ?_) US (fun w9 hS => ?_) ?_
              rotate_left
              · go_simp <;> with_reducible rfl
              try simp only [pz]
              refine s_tk 3 77 (v := ?_) US (fun w9 hS => ?_) ?_
              rotate_left
              · have e0 := hS; go_simp <;> with_reducible rfl
              try simp only [pz]
              refine s_tk 4 78 (v := ?_) US (fun w9 hS => ?_) ?_
              rotate_left
              · go_simp <;> with_reducible rfl
              try simp only [pz]
              refine s_tk 5 79 (v := ?_) US (fun w9 hS => ?_) ?_
              rotate_left
              · go_simp <;> with_reducible rfl
              try simp only [pz]
              refine s_tk 6 80 (v := ?_) US (fun w9 hS => ?_) ?_
              rotate_left
              · go_simp <;> with_reducible rfl
              try simp only [pz]
              refine s_tk 7 81 (v := ?_) US (fun w9 hS => ?_) ?_
              rotate_left
              · go_simp <;> with_reducible rfl
              try simp only [pz]
              refine s_tk 8 82 (v := ?_) US (fun w9 hS => ?_) ?_
              rotate_left
              · go_simp <;> with_reducible rfl
              try simp only [pz]
              refine s_tk 9 83 (v := ?_) US (fun w9 hS => ?_) ?_
              rotate_left
              · go_simp <;> with_reducible rfl
              try simp only [pz]
              refine s_op 10 (by kernel_rfl) rfl (by rfl) (fun K9 hK9 => ?_)
              refine wp_copyS FI4.out NWL.out HAG.out HOLD.out OLD.out SVX.out (.tmp 81) (.tmp 83) rfl rfl rfl rfl (fun e9 => ⟨by first | rfl | rw [if_neg (by omega)], by first | rfl | rw [if_neg (by omega)]⟩) ?_
              intro w5 fi5 fr5
              have FI5 := hid fi5
              have FR5 := hid fr5
              have US5 : w5.cell? ⟨d, 1 + k * 3, none⟩ = some (.slice (some ⟨g, 0, none⟩) len c) := by
                have h5 := FI5.out.cell0.1
                rw [HAG.out] at h5
                rw [h5]
                have h6 : (crashSec nw i sv so).length = len := (crashSec_length _ _ _ _).trans (SOK.out.len.trans HLEN.out)
                rw [← h6]
              replace US := US5
              clear US5 fi5 fr5
              refine hK9.out _ _ US ?_
              clear hK9 K9
              try simp only [pz]
              refine s_done (by kernel_rfl) ?_
              rename_i K1 h1
              first | (refine h1 _ _ ?_; clear h1 K1) | skip
              clear US c0 c1
              have RES : Hid (SeInv w2 w5 base d (1 + k * 3) (diskCs p' (stage keep torn D k).1) A c mm f (crashRow keep torn ⟨f.now, sure, nn, wh⟩ (f.old.take (j + 1)))) := by
                rw [NX.out]
                refine hid ⟨FI5.out, (FRI.out.trans' ((Fr.of_below U4.out).mono (fun _ e => e.elim))).trans FR5.out (fun k9 hk9 e => ?_)⟩
                subst e
                exact (ownBlock_len A _ _ _ _).trans (show (Value.slice A 0 0).ownBlock = some _ by rw [HAG.out]; rfl)
              go_wp2
              all_goals
                go_roundw
                case measure => have := HJ.out; have := HOL.out; have := OL.out; have := LEN.out; rw [show wrap64 ((j : Int) + 1) = ((j + 1 : Nat) : Int) by unfold wrap64; omega]; simp only [numV]; omega
                case rel =>
                  refine ⟨j + 1, by have := HJ.out; have := HOL.out; omega, ?_, ?_, ?_, ?_, RES⟩
                  · have := HJ.out; have := HOL.out; have := OL.out; have := LEN.out; rw [show wrap64 ((j : Int) + 1) = ((j + 1 : Nat) : Int) by unfold wrap64; omega]
                  · rw [NX.out]; have := SNB.out; refine congrArg (Value.int .i64) ?_; show wrap64 ((sn : Int) + 1) = ((sn + 1 : Nat) : Int); unfold wrap64; omega
                  · rw [NX.out]; cases sw <;> cases tr <;> first | rfl | contradiction
                  · rw [NX.out]; refine congrArg (Value.int .i64) ?_; have := ILT.out; have := LEN.out; show _ = ((if 0 < sv then max sl (i + 1) else sl : Nat) : Int); split <;> first | omega | (unfold wrap64; omega)

        · obtain rfl : j = ol := by omega
          have RR : crashRow keep torn ⟨f.now, sure, nn, wh⟩ (f.old.take j) = crashFile keep torn f nn wh := by
            unfold crashFile; rw [HSURE.out, List.take_of_length_le (by have := HOL.out; omega)]
          have SS : Hid (stage keep torn D (k + 1) = ((stage keep torn D k).1.setF (bOf k) (fileOf (crashFile keep torn f nn wh)), (crashFile keep torn f nn wh).n, (crashFile keep torn f nn wh).wh)) := hid (by
            rw [stage_succ keep torn D K2.out]; unfold crash1; rw [stage_fl keep torn D K2.out, HFL.out, NN.out, WH.out])
          have CO := hid (HOK.out.crashed keep torn nn wh)
          have FOK := hid (HOK.out.ofCrash keep torn nn wh)
          rw [RR] at iv ⊢
          obtain ⟨r, hr⟩ : ∃ r, crashFile keep torn f nn wh = r := ⟨_, rfl⟩
          rw [hr] at iv SS CO FOK ⊢
          clear RR hr
          obtain ⟨rn, rl, rk, rw9⟩ := r
          dsimp only
          obtain ⟨fi, fri⟩ := iv.out
          have hrl : rl ≤ rn.length := by have h1 := CO.out.len; have h2 := CO.out.last; simp only at h1 h2; omega
          have hrt : (rn.take rl).length = rl := by rw [List.length_take]; omega
          have hlc : rl ≤ c := by
            obtain ⟨A9, c9, e9, h9⟩ := own_form fi.row
            injection e9 with _ e1 e2
            show rl ≤ c
            rw [e2]
            exact Nat.le_trans hrl h9
          obtain ⟨c0, c1, c2⟩ := fi.cell0
          rw [show ({ f with now := rn } : FileV).now.length = len from CO.out.len.trans HLEN.out] at c0
          have fz := fi.free (1 + k * 3)
          obtain ⟨sh, shf⟩ := fi.short (k := rl) (n := rl) hrl hrt
          have SH := hid sh
          have SHF := hid shf
          have FRI := hid fri
          have HRT := hid hrt
          clear sh shf fi fri iv hrl hrt c1 c2
          have hlci : (rl : Int) ≤ (c : Int) := by omega
          go_wp2_with (go_at_call 115; refine (settle_calls _ base d _ _ (1 + k * 3) A c mm _ SH).mono ?_; rintro e w6 ⟨rfl, hh⟩)
          all_goals
            clear c0 fz
            obtain ⟨h61, _, h63⟩ := hh.out
            have EQ : settleF { now := rn.take rl, old := f.old, sure := f.sure } = fileOf ⟨rn, rl, rk, rw9⟩ := by
              unfold settleF fileOf
              simp only [HRT.out]
            have FRW : Fr (fun k9 => k9 = d ∨ k9 = mm ∨ (Value.slice A f.now.length c).ownBlock = some k9) wo w6 :=
              (((((Fr.of_below UW.out).mono (fun _ e => e.elim)).trans' (FRI.out.mono (fun k9 e => .inr (.inr e)))).trans' (SHF.out.mono (fun k9 e => .inl e))).trans' (h63.mono (fun k9 e => by
                rcases e with e | e
                · exact .inl e
                · exact .inr (.inl e))))
            have RES : Hid (CrInv w w6 (foot d p D) base d D keep torn bx KA kl kc (k + 1)) := by
              have HB := HP.out.back (n := 0) (b := bOf k) (A := A) (c := c) (f := fileOf ⟨rn, rl, rk, rw9⟩) (w' := w6) (cs := ((diskCs p' (stage keep torn D k).1).setIfInBounds (1 + k * 3) (.slice A rl c)).setIfInBounds (1 + k * 3 + 2) (.int .i64 (List.take rl rn).length))
                (by rw [PA.out.2.2, ← off_of K2.out, ← EQ]; exact h61)
                (by
                  rw [off_of K2.out, HRT.out]
                  have e1 : (fileOf ⟨rn, rl, rk, rw9⟩).now.length = rl := HRT.out
                  have := diskCs_set p' (stage keep torn D k).1 (bOf k) A c (fileOf ⟨rn, rl, rk, rw9⟩)
                  rw [e1] at this
                  exact this)
                (by rw [PA.out.1, PA.out.2.1, PA.out.2.2, stage_fl keep torn D K2.out, HFL.out]; exact FRW)
                (.inl (by rw [PA.out.1]; exact ownBlock_len A _ _ _ _)) FOK.out
              have FOOTS : ∀ k9, (k9 = d ∨ k9 = mm ∨ (Value.slice A f.now.length c).ownBlock = some k9) → plus (foot d p D) w k9 := fun k9 hk9 => HPF.out k9 (foot_own (bOf k) (by rw [PA.out.1, PA.out.2.1, PA.out.2.2, stage_fl keep torn D K2.out, HFL.out]; exact hk9))
              have FWW : Fr (foot d p D) w w6 := FRR.out.trans FRW (fun k9 hk9 e => by
                rcases FOOTS k9 e with h2 | h2
                · exact h2
                · omega)
              refine hid ⟨⟨⟨_, by rw [SS.out]; exact HB.1, fun k9 hk9 => ?_⟩, FWW⟩, ?_⟩
              · rw [SS.out] at hk9
                rcases HB.2 k9 hk9 with h2 | h2
                · exact HPF.out k9 h2
                · exact .inr (Nat.le_trans FRR.out.size h2)
              · refine (FRW.block bx (Array.getElem?_eq_some_iff.1 BXC.out).1 ?_).trans BXC.out
                rintro (e | e | e)
                · have := BX.out.1; omega
                · obtain ⟨es, clock, hb⟩ := FF.out.map.isMap
                  rw [← e, BXC.out] at hb
                  cases hb
                · exact row_blk FF.out.row BXC.out (by decide) bx e rfl
            clear hh h61 h63 FRW EQ
            go_wp2
            go_roundw
            case measure => have := K2.out; simp only [numV]; (try unfold wrap64); omega
            case rel =>
              refine ⟨k + 1, by have := K2.out; omega, ?_, ?_, ?_, RES⟩
              · have := K2.out; refine congrArg (Value.int .i64) ?_; (try unfold wrap64); omega
              · rw [SS.out]
              · rw [SS.out]
    · obtain rfl : k = 2 := by omega
      go_wp2
      go_ret
      exact ⟨rfl, hid iv.out.1⟩
end Go.Proofs.YtbcghggkfnagoaaGreatDoor

namespace Go.Proofs.YtbcghggkfnagoaaGreatDoor
open Go Go.RowKit Go.Maps Hach

theorem Goes.mono {w w' : World} {base d : Nat} {D : DiskV} {F G : Nat → Prop} (h : Goes w F base d D w') (hG : ∀ k, F k → G k) : Goes w G base d D w' :=
  ⟨h.1.mono (fun k hk => hk.imp (hG k) id), h.2.mono hG⟩
def tick (D : DiskV) : DiskV := { D with ops := D.ops + 1, armed := if 0 < D.armed then D.armed - 1 else D.armed }
structure NumOk (D : DiskV) : Prop where
  ops : 0 ≤ D.ops ∧ D.ops < 1000000000
  armed : 0 ≤ D.armed ∧ D.armed < 1000000000
  size : (D.f0.now.length + D.f1.now.length : Int) ≤ D.room
theorem crash_calls (w : World) (F : Nat → Prop) (base d : Nat) (D : DiskV) (h : Hid (DiskF w F base d D)) (ho : Hid (D.on = true)) (hn : Hid ((D.f0.now.length + D.f1.now.length : Int) ≤ D.room))
    (KA : Option Addr) (keep : List Bool) (kc : Nat) (torn : Int) (hkl : Hid (keep.length < 1000000)) (hk : Hid (∀ w', Fr F w w' → Rd w' KA (keep.map .bool))) :
    Calls Tryz.prog 41 #[.pointer (some ⟨d, 0, none⟩), .agg #[.slice KA keep.length kc, .int .i64 torn]] w (StepF w F base d (crashV keep torn D) (.bool true)) := by
  obtain ⟨p, h, hf⟩ := h.out
  have := hn.out
  have := h.room
  exact (crashOn_calls w base d p D (hid h) ho (hid ⟨by omega, by omega⟩) KA keep kc torn hkl (hid fun w' hw => hk.out w' (hw.mono hf))).mono fun en w' g => ⟨g.1, hid (g.2.out.mono hf)⟩
set_option maxRecDepth 100000 in
set_option maxHeartbeats 2000000 in
theorem opFire_calls (w : World) (base d : Nat) (p : DiskP) (D : DiskV) (h : Hid (DiskAt w base d p D)) (ho : Hid (D.on = true)) (hn : Hid (NumOk D)) (ha : Hid (D.armed = 1)) (hkl : Hid (D.keep.length < 1000000)) (fv : Nat) (lb : Array Value) :
    Calls Tryz.prog 166 #[.pointer (some ⟨d, 0, none⟩), .func (.func fv) #[] lb] w (StepF w (foot d p D) base d (crashV D.keep D.torn (tick D)) (.int .i64 4)) := by
  have e8 := h.out.reads.2.2.2.2.2.2.2.2.1
  have e9 := h.out.reads.2.2.2.2.2.2.2.2.2.1
  have e10 := h.out.reads.2.2.2.2.2.2.2.2.2.2.1
  have e11 := h.out.reads.2.2.2.2.2.2.2.2.2.2.2
  have f8 := h.out.free 8
  have f9 := h.out.free 9
  rw [ha.out] at e9
  obtain ⟨ops, hops⟩ : ∃ z, D.ops = z := ⟨_, rfl⟩
  have HO2 := hid hops
  rw [hops] at e8
  have hw1 : wrap64 (ops + 1) = ops + 1 := by have := hn.out.ops; unfold wrap64; omega
  have k1 := heap_setCell_same _ d 8 (diskCs p D) _ (.int .i64 (ops + 1)) h.out.own
  have k2 := heap_setCell_same _ d 9 _ _ (.int .i64 0) k1
  have hf : Fr (fun k => k = d) w ((w.setCell ⟨d, 8, none⟩ (.int .i64 (ops + 1))).setCell ⟨d, 9, none⟩ (.int .i64 0)) := ((Fr.refl (fun k => k = d) _).setCell (p := ⟨d, 8, none⟩) (fun _ => rfl) _).setCell (p := ⟨d, 9, none⟩) (fun _ => rfl) _
  have D1 : Hid (DiskAt ((w.setCell ⟨d, 8, none⟩ (.int .i64 (ops + 1))).setCell ⟨d, 9, none⟩ (.int .i64 0)) base d p (tick D)) := hid (h.out.nums hf (by
    have e : tick D = { D with ops := ops + 1, armed := 0 } := by unfold tick; rw [ha.out, hops]; rfl
    rw [e]; exact k2) rfl rfl rfl rfl)
  have HF := hid hf
  have CR := crash_calls ((w.setCell ⟨d, 8, none⟩ (.int .i64 (ops + 1))).setCell ⟨d, 9, none⟩ (.int .i64 0)) (foot d p (tick D)) base d (tick D) (hid ⟨p, D1.out, fun k hk => hk⟩) ho (hid hn.out.size) p.KA D.keep p.kc D.torn hkl (hid fun w' hw => Rd.own (hw.own D1.out.keepR (fun k hk => keep_apart D1.out D1.out k hk)))
  obtain ⟨kl, hkl9⟩ : ∃ z, D.keep.length = z := ⟨_, rfl⟩
  rw [hkl9] at e10 CR
  generalize D.torn = torn at *
  clear k1 k2 hops hkl9
  go_enter Tryz.func166, Tryz.ntmps166
  go_wp2_with (go_at_call 41; refine CR.mono ?_; rintro e w' ⟨rfl, hh⟩)
  go_ret
  refine ⟨rfl, hid ?_⟩
  have g := hh.out
  exact ⟨g.1.mono (fun k hk => hk.imp id (fun h2 => by have := HF.out.size; omega)), (HF.out.mono (fun k e => .inl e)).trans' g.2⟩
set_option maxRecDepth 100000 in
set_option maxHeartbeats 2000000 in
theorem opDo_calls (w : World) (base d : Nat) (p : DiskP) (D : DiskV) (h : Hid (DiskAt w base d p D)) (hn : Hid (NumOk D)) (ha : Hid (D.armed ≠ 1)) (fv : Nat) (lb : Array Value) (hent : ∀ (args : Array Value) (w : World), (callFunc fv args).run Tryz.prog w = .ok (.enter fv args) w) (v : Value) (R : World → Prop)
    (hdo : Hid (∀ w1, DiskAt w1 base d p (tick D) → Fr (fun k => k = d) w w1 → Calls Tryz.prog fv lb w1 fun en w' => en = .returned v ∧ Hid (R w'))) :
    Calls Tryz.prog 166 #[.pointer (some ⟨d, 0, none⟩), .func (.func fv) #[] lb] w (fun en w' => en = .returned v ∧ Hid (R w')) := by
  have e8 := h.out.reads.2.2.2.2.2.2.2.2.1
  have e9 := h.out.reads.2.2.2.2.2.2.2.2.2.1
  have f8 := h.out.free 8
  have f9 := h.out.free 9
  obtain ⟨ops, hops⟩ : ∃ z, D.ops = z := ⟨_, rfl⟩
  obtain ⟨ar, har⟩ : ∃ z, D.armed = z := ⟨_, rfl⟩
  rw [hops] at e8
  rw [har] at e9
  have hw1 : wrap64 (ops + 1) = ops + 1 := by have := hn.out.ops; unfold wrap64; omega
  have k1 := heap_setCell_same _ d 8 (diskCs p D) _ (.int .i64 (ops + 1)) h.out.own
  have hf1 : Fr (fun k => k = d) w (w.setCell ⟨d, 8, none⟩ (.int .i64 (ops + 1))) := (Fr.refl (fun k => k = d) _).setCell (p := ⟨d, 8, none⟩) (fun _ => rfl) _
  by_cases h0 : 0 < ar
  · have h1 : ¬ ar = 1 := by have := ha.out; omega
    have hw2 : wrap64 (ar - 1) = ar - 1 := by have := hn.out.armed; unfold wrap64; omega
    have h2 : ¬ ar - 1 = 0 := by omega
    have k2 := heap_setCell_same _ d 9 _ _ (.int .i64 (ar - 1)) k1
    have hf : Fr (fun k => k = d) w ((w.setCell ⟨d, 8, none⟩ (.int .i64 (ops + 1))).setCell ⟨d, 9, none⟩ (.int .i64 (ar - 1))) := hf1.setCell (p := ⟨d, 9, none⟩) (fun _ => rfl) _
    have D1 : DiskAt ((w.setCell ⟨d, 8, none⟩ (.int .i64 (ops + 1))).setCell ⟨d, 9, none⟩ (.int .i64 (ar - 1))) base d p (tick D) := h.out.nums hf (by
      have e : tick D = { D with ops := ops + 1, armed := ar - 1 } := by unfold tick; rw [har, hops, if_pos h0]
      rw [e]; exact k2) rfl rfl rfl rfl
    have CR := hdo.out _ D1 hf
    clear k1 k2 hops har hf hf1 D1
    go_enter Tryz.func166, Tryz.ntmps166
    go_wp2_with fail
    refine CR.mono ?_
    rintro en w2 ⟨rfl, hh⟩
    go_wp2
    go_ret
    exact ⟨rfl, hh⟩
  · have D1 : DiskAt (w.setCell ⟨d, 8, none⟩ (.int .i64 (ops + 1))) base d p (tick D) := h.out.nums hf1 (by
      have e : tick D = { D with ops := ops + 1 } := by unfold tick; rw [har, hops, if_neg h0]
      rw [e]; exact k1) rfl rfl rfl rfl
    have CR := hdo.out _ D1 hf1
    clear k1 hops har hf1 D1
    go_enter Tryz.func166, Tryz.ntmps166
    go_wp2_with fail
    refine CR.mono ?_
    rintro en w2 ⟨rfl, hh⟩
    go_wp2
    go_ret
    exact ⟨rfl, hh⟩
end Go.Proofs.YtbcghggkfnagoaaGreatDoor

namespace Go.Proofs.YtbcghggkfnagoaaGreatDoor
open Go Go.RowKit Go.Maps Hach

def opV (D D2 : DiskV) : DiskV := if D.armed = 1 then crashV D.keep D.torn (tick D) else D2
def opR (D : DiskV) (r : Int) : Int := if D.armed = 1 then 4 else r
theorem op_calls (w : World) (base d : Nat) (p : DiskP) (D : DiskV) (h : Hid (DiskAt w base d p D)) (ho : Hid (D.on = true)) (hn : Hid (NumOk D)) (hkl : Hid (D.keep.length < 1000000)) (fv : Nat) (lb : Array Value) (hent : ∀ (args : Array Value) (w : World), (callFunc fv args).run Tryz.prog w = .ok (.enter fv args) w) (r : Int) (D2 : DiskV)
    (hdo : Hid (∀ w1, DiskAt w1 base d p (tick D) → Fr (fun k => k = d) w w1 → Calls Tryz.prog fv lb w1 (StepF w1 (foot d p D) base d D2 (.int .i64 r)))) :
    Calls Tryz.prog 166 #[.pointer (some ⟨d, 0, none⟩), .func (.func fv) #[] lb] w (StepF w (foot d p D) base d (opV D D2) (.int .i64 (opR D r))) := by
  by_cases ha : D.armed = 1
  · unfold opV opR
    rw [if_pos ha, if_pos ha]
    exact opFire_calls w base d p D h ho hn (hid ha) hkl fv lb
  · unfold opV opR
    rw [if_neg ha, if_neg ha]
    refine opDo_calls w base d p D h hn (hid ha) fv lb hent (.int .i64 r) (fun w' => Goes w (foot d p D) base d D2 w') (hid fun w1 h1 f1 => ?_)
    refine (hdo.out w1 h1 f1).mono ?_
    rintro en w' ⟨rfl, g⟩
    have g := g.out
    refine ⟨rfl, hid ⟨g.1.mono (fun k hk => hk.imp id (fun h2 => Nat.le_trans f1.size h2)), (f1.mono (fun k e => .inl e)).trans' g.2⟩⟩
theorem DiskAt.goes {w w' : World} {base d : Nat} {p : DiskP} {D : DiskV} {f : FileV} {b : Bool} {cs : Array Value} {A : Option Addr} {c : Nat} (h : DiskAt w base d p D) (hk : FileAt w' base d cs 87 (off b) A c (p.mm b) f) (hcs : cs = diskCs (p.setR b A c) (D.setF b f))
    (hf : Fr (fun k => k = d ∨ k = p.mm b ∨ (Value.slice (p.rA b) (D.fl b).now.length (p.rc b)).ownBlock = some k) w w')
    (ho : (Value.slice A f.now.length c).ownBlock = (Value.slice (p.rA b) (D.fl b).now.length (p.rc b)).ownBlock ∨ (Value.slice A f.now.length c).ownBlock = none ∨ ∃ k, w.heap.size ≤ k ∧ (Value.slice A f.now.length c).ownBlock = some k) (hok : FileOk f) :
    Goes w (foot d p D) base d (D.setF b f) w' := by
  obtain ⟨h1, h2⟩ := h.back (n := 0) hk hcs hf ho hok
  exact ⟨⟨_, h1, h2⟩, hf.mono (fun k e => foot_own b e)⟩
def syncV (b : Bool) (D : DiskV) : DiskV := D.setF b (settleF (D.fl b))
theorem FileOk.settled {f : FileV} (h : FileOk f) : FileOk (settleF f) := ⟨h.now, by simp [settleF], by simp [settleF], by simp [settleF], Nat.le_refl _⟩
theorem diskCs_sure (p : DiskP) (D : DiskV) (b : Bool) (f : FileV) (hn : f.now.length = (D.fl b).now.length) : (diskCs p D).setIfInBounds (off b + 2) (.int .i64 f.sure) = diskCs (p.setR b (p.rA b) (p.rc b)) (D.setF b f) := by
  cases b
  · have hn : f.now.length = D.f0.now.length := hn
    unfold diskCs DiskV.setF DiskP.setR; simp only [hn]; rfl
  · have hn : f.now.length = D.f1.now.length := hn
    unfold diskCs DiskV.setF DiskP.setR; simp only [hn]; rfl
theorem sync1_ent (args : Array Value) (w : World) : (callFunc 171 args).run Tryz.prog w = .ok (.enter 171 args) w := by go_simp
set_option maxRecDepth 100000 in
set_option maxHeartbeats 2000000 in
theorem sync1_calls (w : World) (base d : Nat) (p : DiskP) (D : DiskV) (b : Bool) (bx : Nat) (h : Hid (DiskAt w base d p D)) (hb : w.cell? ⟨bx, 0, none⟩ = some (.pointer (some ⟨d, off b, none⟩))) :
    Calls Tryz.prog 171 #[.pointer (some ⟨bx, 0, none⟩)] w (StepF w (foot d p D) base d (syncV b D) (.int .i64 0)) := by
  have ST := settle_calls w base d (diskCs p D) 87 (off b) (p.rA b) (p.rc b) (p.mm b) (D.fl b) (hid (h.out.fileB b))
  obtain ⟨o, hoo⟩ : ∃ o, off b = o := ⟨_, rfl⟩
  have HOO := hid hoo
  rw [hoo] at hb ST
  clear hoo
  go_enter Tryz.func171, Tryz.ntmps171
  go_wp2_with (go_at_call 115; refine ST.mono ?_; rintro e w6 ⟨rfl, hh⟩)
  go_ret
  obtain ⟨g1, _, g3⟩ := hh.out
  rw [← HOO.out] at g1
  exact ⟨rfl, hid (h.out.goes g1 (diskCs_sure p D b (settleF (D.fl b)) rfl) (g3.mono (fun k e => e.elim .inl (fun e => .inr (.inl e)))) (.inl rfl) (h.out.okB b).settled)⟩
set_option maxRecDepth 100000 in
set_option maxHeartbeats 2000000 in
theorem sync_calls (w : World) (base d : Nat) (p : DiskP) (D : DiskV) (b : Bool) (h : Hid (DiskAt w base d p D)) (ho : Hid (D.on = true)) (hn : Hid (NumOk D)) (hkl : Hid (D.keep.length < 1000000)) :
    Calls Tryz.prog 137 #[.pointer (some ⟨d, 0, none⟩), .int .i64 (idx b)] w (StepF w (foot d p D) base d (opV D (syncV b (tick D))) (.int .i64 (opR D 0))) := by
  have CF := fileB_calls w base d D b (hid ⟨p, h.out⟩) ho.out
  obtain ⟨o, hoo⟩ : ∃ o, off b = o := ⟨_, rfl⟩
  have HOO := hid hoo
  rw [hoo] at CF
  have UA := upAlD (Up.refl w) (.cells #[.pointer (some ⟨d, o, none⟩)] 156)
  have BB := heap_alloc_new w (.cells #[.pointer (some ⟨d, o, none⟩)] 156)
  have OP := op_calls (w.alloc (.cells #[.pointer (some ⟨d, o, none⟩)] 156)) base d p D (hid (h.out.up UA)) ho hn hkl 171 #[.pointer (some ⟨w.heap.size, 0, none⟩)] sync1_ent 0 (syncV b (tick D)) (hid fun w1 h1 f1 => by
    have hne : w.heap.size ≠ d := fun e => by have := (Array.getElem?_eq_some_iff.1 h.out.own).1; omega
    exact sync1_calls w1 base d p (tick D) b w.heap.size (hid h1) (by rw [cell_of_row _ _ _ _ _ _ ((f1.block w.heap.size (by simp) hne).trans BB), HOO.out]; rfl))
  have UA := hid UA
  clear hoo BB
  generalize idx b = ib at *
  go_enter Tryz.func137, Tryz.ntmps137
  go_wp2_with (first
    | (go_at_call 161; refine CF.mono ?_; rintro e w' ⟨rfl, hw⟩; subst hw)
    | (go_at_call 166; refine OP.mono ?_; rintro e w6 ⟨rfl, hh⟩))
  go_ret
  exact ⟨rfl, hid (hh.out.pre UA.out)⟩
end Go.Proofs.YtbcghggkfnagoaaGreatDoor
