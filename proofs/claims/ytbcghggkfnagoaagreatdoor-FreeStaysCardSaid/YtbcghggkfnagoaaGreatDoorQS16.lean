/- PARTS OF A PROOF, one behind the other: THE WALKS of free's page: get, set. slices.Sorted(maps.Keys(m)) at the map of changed pages, by the kit's contracts; the pager's Changed. CONDITIONS: none of this text's own. -/
import Derived.Test.YtbcghggkfnagoaaGreatDoorQS15
import Derived.Test.YtbcghggkfnagoaaGreatDoorQS12
import Derived.Shelf.SlIterI.Nil
set_option linter.unusedVariables false
set_option linter.unusedSimpArgs false
namespace Go.Proofs.YtbcghggkfnagoaaGreatDoor
open Go Go.RowKit Go.Maps Hach

def pgGet (b : List UInt8) (i s : Nat) : Nat := Oct.val ((b.drop i).take s)
set_option maxRecDepth 100000 in
set_option maxHeartbeats 2000000 in
theorem fget_calls (w : World) (g c : Nat) (b : List UInt8) (n i s : Nat) (hn : Hid (b.length = n)) (hi : Hid (i + s ≤ n ∧ n ≤ 100000 ∧ 0 < s ∧ s ≤ 8 ∧ n ≤ c)) (hb : Hid (Bytes w (some ⟨g, 0, none⟩) b)) :
    Calls Tryz.prog 67 #[.slice (some ⟨g, 0, none⟩) n c, .int .i64 i, .int .i64 s] w fun en w' => en = .returned (.int .i64 (wrap64 (pgGet b i s))) ∧ w' = w := by
  have hX := Bytes.sub hb.out i (n - i)
  have lX : (b.drop i).length = n - i := by rw [List.length_drop, hn.out]
  rw [List.take_of_length_le (by omega), Nat.zero_add] at hX
  have CG := get_callsX w (some ⟨g, i, none⟩) (b.drop i) (c - i) s (pgGet b i s) (s : Int) rfl (hid rfl) hi.out.2.2.1 hi.out.2.2.2.1 (by have := hi.out; omega) (by have := hi.out; omega) (hid hX)
  rw [lX] at CG
  obtain ⟨P, hP⟩ : ∃ x, pgGet b i s = x := ⟨_, rfl⟩
  rw [hP] at CG ⊢
  have h1 : i ≤ n := by have := hi.out; omega
  have h2 : n ≤ c := hi.out.2.2.2.2
  have h3 : (i : Int) ≤ (n : Int) := by omega
  have h4 : (n : Int) ≤ (c : Int) := by omega
  have h5 : ¬ i = c := by have := hi.out; omega
  clear hX lX hP
  go_enter Tryz.func67, Tryz.ntmps67
  go_wp2_with fail
  refine CG.mono ?_
  rintro en w2 ⟨rfl, hw⟩
  obtain rfl := hw
  go_wp2
  go_ret
  exact ⟨rfl, rfl⟩
def mkPut (b : List UInt8) (i : Nat) (x : List UInt8) : List UInt8 := b.take i ++ (x ++ b.drop (i + x.length))
theorem splice_bytes (b : List UInt8) (i : Nat) (x : List UInt8) : splice (b.map byteCell) i (x.map byteCell) = (mkPut b i x).map byteCell := by
  unfold splice mkPut
  rw [List.length_map, ← List.map_take, ← List.map_drop, List.map_append, List.map_append]
  try rw [List.append_assoc]
theorem mkPut_length {b : List UInt8} {i : Nat} {x : List UInt8} (h : i + x.length ≤ b.length) : (mkPut b i x).length = b.length := by
  unfold mkPut; rw [List.length_append, List.length_append, List.length_take, List.length_drop]; omega
-- copy, onto a row of bytes of the call's own.
set_option maxRecDepth 100000 in
set_option maxHeartbeats 1000000 in
theorem wp_copyB {w : World} {base g c : Nat} {b : List UInt8} (h : OwnB w base (some ⟨g, 0, none⟩) c b) {off dLen dCap : Nat} {A2 : Option Addr} {c2 m : Nat} {x : List UInt8} (hx2 : Bytes w A2 x) (hxl : x.length = m) (hm0 : 0 < m) (hmd : m ≤ dLen) (hfit : off + m ≤ b.length)
    {q : Oper} {a : Act} {K : Act → World → Prop} {Q : Exit → Act → World → Prop} (X Y : Operand) {tX tY : TypeId} {e : TypeId} (ht : Tryz.prog.underlying tX = some (.slice e)) (hi1 : (Tryz.prog.info? e).map (·.size) = some 1) (hq : q.op = .call { callee := .builtin .copy, args := #[X, Y], argTypes := #[tX, tY] })
    (hx : a.eval X = .slice (some ⟨g, off, none⟩) dLen dCap) (hy : a.eval Y = .slice A2 m c2)
    (hK : ∀ w', OwnB w' base (some ⟨g, 0, none⟩) c (mkPut b off x) → Fr (fun k => k = g) w w' → K (a.put q.dst (goInt m)) w') : q.wp Tryz.prog a w K Q := by
  have h' : w.ownsRow base 5 1 (.slice (some ⟨g, 0, none⟩) b.length c) b.length (b.map byteCell) := h
  obtain ⟨cur, hg, hsz, hsp⟩ := own_splice h'
  obtain ⟨b2, o2, rfl, _⟩ := hx2 0 (by omega)
  have hmin : Nat.min m dLen = m := Nat.min_eq_left hmd
  have hrun := run_copy_row (P := Tryz.prog) w tX tY q.type e g off dLen dCap ⟨b2, o2, none⟩ m c2 cur 5 (x.map byteCell) ht hi1 hg (by rw [List.length_map, hxl, hmin]) (fun j v hv => by
    rw [add_plain]
    obtain ⟨b9, o9, e9, hc9⟩ := hx2.rd j v hv
    injection e9 with e9
    injection e9 with e1 e2 _
    subst e1; subst e2
    exact hc9) (by rw [List.length_map, hxl]; omega) (byteCells_one x)
  have hr := hsp off (x.map byteCell) (by rw [List.length_map, hxl]; omega)
  rw [splice_bytes] at hr
  have hl : (x.map byteCell).length = m := by rw [List.length_map, hxl]
  rw [hl] at hrun hr
  rw [← List.append_assoc] at hr
  unfold Oper.wp execOp
  simp only [hq, resolve, invoke, builtin, Sem.run_bind, Sem.run_pure, Result.andThen_ok, List.map_toArray, List.map_cons, List.map_nil, hx, hy, hrun]
  refine hK _ ?_ (fr_setRow w g _)
  unfold OwnB
  rw [mkPut_length (by omega)]
  exact hr
set_option maxRecDepth 100000 in
set_option maxHeartbeats 2000000 in
theorem fset_calls (w : World) (base g c : Nat) (b : List UInt8) (n i s : Nat) (N : Int) (U : Nat) (hN : Hid (IntKind.u64.wrap N = (U : Int))) (hU : Hid ((U : Int) < 18446744073709551616)) (hn : Hid (b.length = n)) (hi : Hid (i + s ≤ n ∧ n ≤ 100000 ∧ 0 < s ∧ s ≤ 8 ∧ n ≤ c)) (hb : Hid (OwnB w base (some ⟨g, 0, none⟩) c b)) :
    Calls Tryz.prog 69 #[.slice (some ⟨g, 0, none⟩) n c, .int .i64 i, .int .i64 s, .int .i64 N] w fun en w' => en = .returned (.tuple #[]) ∧ Hid (OwnB w' base (some ⟨g, 0, none⟩) c (mkPut b i (Oct.be U s)) ∧ Fr (fun k => k = g) w w') := by
  have h1 : i ≤ n := by have := hi.out; omega
  have h2 : n ≤ c := hi.out.2.2.2.2
  have h3 : (i : Int) ≤ (n : Int) := by omega
  have h4 : (n : Int) ≤ (c : Int) := by omega
  have h5 : ¬ i = c := by have := hi.out; omega
  have h6 : ¬ c = i := fun e => h5 e.symm
  have hw := hN.out
  have CP : ∀ w', Up w w' → Calls _ _ _ w' _ := fun w' hu => put_calls w' none [] 0 U s hU.out hi.out.2.2.1 hi.out.2.2.2.1 (by decide) (hid (Bytes.nil _ _))
  go_enter Tryz.func69, Tryz.ntmps69
  go_wp2_with fail
  have US : True := trivial
  refine s_start (fun _ => True) (by kernel_rfl) ?_
  refine s_tk 0 8 (v := ?_) US (fun w9 hS => ?_) ?_
  rotate_left
  · go_simp <;> with_reducible rfl
  try simp only [pz]
  refine s_tk 1 9 (v := ?_) US (fun w9 hS => ?_) ?_
  rotate_left
  · go_simp <;> with_reducible rfl
  try simp only [pz]
  refine s_tk 2 10 (v := ?_) US (fun w9 hS => ?_) ?_
  rotate_left
  · go_simp <;> with_reducible rfl
  try simp only [pz]
  refine s_tk 3 11 (v := ?_) US (fun w9 hS => ?_) ?_
  rotate_left
  · go_simp <;> with_reducible rfl
  try simp only [pz]
  refine s_tk 4 12 (v := ?_) US (fun w9 hS => ?_) ?_
  rotate_left
  · go_simp <;> with_reducible rfl
  try simp only [pz]
  refine s_tk 5 13 (v := ?_) US (fun w9 hS => ?_) ?_
  rotate_left
  · go_simp <;> with_reducible rfl
  try simp only [pz]
  refine s_op 6 (by kernel_rfl) rfl (by rfl) (fun K9 hK9 => ?_)
  go_simp
  go_at_call 106
  refine (CP _ (Up.drew w)).mono ?_
  rintro en w2 ⟨A2, c2, rfl, o2, b2⟩
  have O2 : Hid (OwnB w2 base (some ⟨g, 0, none⟩) c b) := hid ((Fr.of_below ((Up.drew w).t b2)).own hb.out (fun _ _ e => e))
  have HX := hid o2.bytes
  have UX : Hid (Up w w2) := hid ((Up.drew w).t b2)
  clear o2 b2
  rw [List.nil_append] at HX ⊢
  rw [Oct.be_length]
  refine hK9.out _ _ trivial ?_
  clear hK9 K9
  try simp only [pz]
  refine s_op 7 (by kernel_rfl) rfl (by rfl) (fun K9 hK9 => ?_)
  refine wp_copyB O2.out (off := i) (dLen := n - i) (dCap := c - i) (m := s) HX.out (Oct.be_length U s) hi.out.2.2.1 (by have := hi.out; omega) (by rw [hn.out]; exact hi.out.1) (.tmp 10) (.tmp 14) (tX := 121) (tY := 64) Tryz.underlying121 (by kernel_rfl) rfl rfl rfl ?_
  intro w3 o3 f3
  have RES : Hid (OwnB w3 base (some ⟨g, 0, none⟩) c (mkPut b i (Oct.be U s)) ∧ Fr (fun k => k = g) w w3) := hid ⟨o3, ((Fr.of_below UX.out).mono (fun _ e => e.elim)).trans' f3⟩
  clear o3 f3
  refine hK9.out _ _ trivial ?_
  clear hK9 K9
  try simp only [pz]
  refine s_done (by kernel_rfl) ?_
  go_end0
  exact ⟨rfl, RES⟩
end Go.Proofs.YtbcghggkfnagoaaGreatDoor

namespace Go.Proofs.YtbcghggkfnagoaaGreatDoor
open Go.Shelf
def keysPy_ren : Go.Shelf.Ren := ⟨fun | 7 => 102 | 10 => 150 | n => n, fun | 23 => 128 | 26 => 3 | 3 => 64 | 28 => 154 | 0 => 0 | 27 => 153 | 33 => 158 | 4 => 4 | n => n, fun | n => n⟩
theorem keysPy : Go.Proofs.SlLaysZI.n7 Tryz.prog keysPy_ren := {
  mixed := by kernel_rfl
  f7 := ⟨Tryz.f102.name, by decide, Tryz.func102.trans (congrArg some (by kernel_rfl))⟩
  f10 := ⟨Tryz.f150.name, by decide, Tryz.func150.trans (congrArg some (by kernel_rfl))⟩
  t0 := Tryz.underlying0
  a0 := Tryz.isAgg0
  z0 := Tryz.sizeOf0
  v0 := Tryz.zeroValue0
  t4 := Tryz.underlying4
  a4 := Tryz.isAgg4
  z4 := Tryz.sizeOf4
  v4 := Tryz.zeroValue4
  t23 := Tryz.underlying128
  a23 := Tryz.isAgg128
  z23 := Tryz.sizeOf128
  v23 := Tryz.zeroValue128
  t26 := Tryz.underlying3
  a26 := Tryz.isAgg3
  z26 := Tryz.sizeOf3
  v26 := Tryz.zeroValue3
  t27 := Tryz.underlying153
  a27 := Tryz.isAgg153
  z27 := Tryz.sizeOf153
  v27 := Tryz.zeroValue153
  t28 := Tryz.underlying154
  a28 := Tryz.isAgg154
  z28 := Tryz.sizeOf154
  v28 := Tryz.zeroValue154
  t33 := Tryz.underlying158
  a33 := Tryz.isAgg158
  z33 := Tryz.sizeOf158
  v33 := Tryz.zeroValue158 }
def sortedPy_ren : Go.Shelf.Ren := ⟨fun | 6 => 101 | 8 => 149 | 9 => 128 | 11 => 183 | 13 => 160 | 12 => 159 | 23 => 194 | 24 => 195 | 14 => 185 | 15 => 186 | 16 => 187 | 17 => 188 | 18 => 189 | 19 => 190 | 20 => 191 | 21 => 192 | 22 => 193 | 25 => 200 | 26 => 201 | 27 => 202 | 28 => 203 | 29 => 204 | 30 => 205 | 31 => 208 | n => n, fun | 26 => 3 | 28 => 154 | 24 => 30 | 0 => 0 | 3 => 3 | 37 => 116 | 48 => 209 | 50 => 142 | 4 => 4 | 40 => 242 | 39 => 241 | 45 => 174 | 5 => 5 | 9 => 9 | 51 => 256 | 55 => 260 | 57 => 265 | 58 => 135 | 33 => 158 | n => n, fun | n => n⟩
theorem sortedPy : Go.Proofs.SlLaysZI.n6 Tryz.prog sortedPy_ren := {
  mixed := by kernel_rfl
  f6 := ⟨Tryz.f101.name, by decide, Tryz.func101.trans (congrArg some (by kernel_rfl))⟩
  f8 := ⟨Tryz.f149.name, by decide, Tryz.func149.trans (congrArg some (by kernel_rfl))⟩
  f11 := ⟨Tryz.f183.name, by decide, Tryz.func183.trans (congrArg some (by kernel_rfl))⟩
  t0 := Tryz.underlying0
  a0 := Tryz.isAgg0
  z0 := Tryz.sizeOf0
  v0 := Tryz.zeroValue0
  t24 := Tryz.underlying30
  a24 := Tryz.isAgg30
  z24 := Tryz.sizeOf30
  v24 := Tryz.zeroValue30
  t26 := Tryz.underlying3
  a26 := Tryz.isAgg3
  z26 := Tryz.sizeOf3
  v26 := Tryz.zeroValue3
  t28 := Tryz.underlying154
  a28 := Tryz.isAgg154
  z28 := Tryz.sizeOf154
  v28 := Tryz.zeroValue154
  i26 := by kernel_rfl }

end Go.Proofs.YtbcghggkfnagoaaGreatDoor
namespace Go.Proofs.YtbcghggkfnagoaaGreatDoor
open Go Go.RowKit Go.Maps Go.Sort Go.Shelf Hach

theorem sortsPin (m : Nat) : AnyZI.SortsIn Tryz.prog sortedPy_ren Fence.wide m :=
  ⟨fun blk off cap ss W hH hblk hsz => callsIn_wide.2 (AnyM.slices_Sort_int sortLy blk off cap ss W hH hblk hsz),
   fun p cap W => callsIn_wide.2 (AnyM.slices_Sort_int_none sortLy p cap W)⟩
def keysPT : TypeId := keysPy_ren.t 23
theorem keysP_calls (w : World) (m : Nat) : Calls Tryz.prog 102 #[.map (some m)] w fun e w' => e = .returned (.func (.func 150) #[] #[.pointer (some ⟨w.heap.size, 0, none⟩)]) ∧ w' = w.alloc (.cells #[.map (some m)] keysPT) :=
  (callsIn_wide (n := 6)).1 (AnyZI.keys_in keysPy Fence.wide 6 trivial rfl (some m) w)
def KeysP (w : World) (L : PgL) (en : Ending) (w' : World) : Prop := ∃ A c, en = .returned (.slice A L.length c) ∧ Hid (w'.ownsRow w.heap.size 3 1 (.slice A L.length c) L.length (L.map fun p => .int .i64 p.1) ∧ Up w w')
theorem sortedP_calls (w : World) (m b : Nat) (L : PgL) (hm : Hid (MapP w m L)) (hl : Hid (L.length < 1000000)) (hr : Hid ((L.map (·.1)).Pairwise (· < ·))) (hb : Hid (w.heap[b]? = some (.cells #[.map (some m)] keysPT (0, 0)))) :
    Calls Tryz.prog 101 #[.func (.func 150) #[] #[.pointer (some ⟨b, 0, none⟩)]] w (KeysP w L) := by
  refine (callsIn_wide (n := 6)).1 ?_
  have hc : w.cell? ⟨b, 0, none⟩ = some (.map (some m)) := by rw [cell_of_row w b _ _ _ _ hb.out]; rfl
  have hf : w.frozen? ⟨b, 0, none⟩ = false := by unfold World.frozen?; rw [show (⟨b, 0, none⟩ : Addr).block = b from rfl, hb.out]; simp
  obtain ⟨O, hO⟩ : ∃ O : Olds, (L.map fun y => (y.1, encX y.2)) = O := ⟨_, rfl⟩
  have hOl : O.length = L.length := by rw [← hO, List.length_map]
  have hOk : O.map (·.1) = L.map (·.1) := by rw [← hO, List.map_map]; rfl
  have hown : w.ownsMap Tryz.prog 3 pgElem m O.length (datL O) := by rw [hOl, ← hO]; exact hm.out
  have hseq := AnyZI.keys_gives (ρ := keysPy_ren) { keysPy with } Fence.wide 3 trivial rfl (by omega) b m O.length (datL O) w (Array.getElem?_eq_some_iff.1 hb.out).1 hc hown
  have cS := AnyZI.sorted_in sortedPy Fence.wide 6 trivial trivial trivial trivial rfl (by omega) (sortsPin _) (enters_of Tryz.func128 (by kernel_rfl) rfl) 150 #[.pointer (some ⟨b, 0, none⟩)] trivial (enters_of Tryz.func150 (by kernel_rfl) rfl) _ _ (by rw [sizeL_dat]; have := hl.out; simp only [maxLen]; omega) (by rw [sizeL_dat]; have := hl.out; omega) w hseq
  refine cS.mono ?_
  rintro e w' ⟨v, ss, rfl, hp, hrow, hnil, hbe⟩
  have hks : ss.mergeSort (fun x y => decide (x ≤ y)) = L.map (·.1) := mergeSort_rising hr.out (by rw [← hOk, ← keysL_dat O]; exact hp)
  have hlen : ss.length = L.length := by have := congrArg List.length hks; rwa [List.length_mergeSort, List.length_map] at this
  rw [hks, hlen] at hrow
  obtain ⟨A, c, rfl, _⟩ := own_form hrow
  refine ⟨A, c, rfl, hid ⟨?_, hbe⟩⟩
  rw [List.map_map] at hrow
  exact hrow
section
variable (w : World) (p t m : Nat) (q : PgN) (mv : Value) (last : Int) (n : Nat) (L : PgL)
set_option maxRecDepth 100000 in
set_option maxHeartbeats 1000000 in
theorem pchanged_calls (h : Hid (TranAt w p q t m mv last n L)) (hl : Hid (L.length < 1000000)) (hr : Hid ((L.map (·.1)).Pairwise (· < ·))) :
    Calls Tryz.prog 27 #[.pointer (some ⟨p, 0, none⟩)] w (KeysP w L) := by
  obtain ⟨_, _, _, e3, _⟩ := h.out.own.cells
  obtain ⟨f0, f1, _⟩ := h.out.cells
  have H := h
  go_enter Tryz.func27, Tryz.ntmps27
  go_wp2_with (first
    | (go_at_call 25; refine (pbusy_calls w p t m q mv last n L H).mono ?_; rintro e w' ⟨rfl, hw⟩; obtain rfl := hw.symm)
    | (go_at_call 102; refine (keysP_calls _ m).mono ?_; rintro e w' ⟨rfl, hw⟩; have hw := hid hw))
  obtain rfl := hw.out
  have u1 : Up w (w.alloc (.cells #[.map (some m)] keysPT)) := upAlD (Up.refl w) _
  refine (sortedP_calls _ m w.heap.size L (hid (h.out.map.up u1)) hl hr (hid (heap_alloc_new w _))).mono ?_
  rintro e w2 ⟨A, c, rfl, hk⟩
  have RES : Hid (w2.ownsRow w.heap.size 3 1 (.slice A L.length c) L.length (L.map fun p => .int .i64 p.1) ∧ Up w w2) := hid ⟨own_base hk.out.1 u1.size, u1.t hk.out.2⟩
  clear hk
  go_wp2
  go_ret
  exact ⟨A, c, rfl, RES⟩
end
end Go.Proofs.YtbcghggkfnagoaaGreatDoor
