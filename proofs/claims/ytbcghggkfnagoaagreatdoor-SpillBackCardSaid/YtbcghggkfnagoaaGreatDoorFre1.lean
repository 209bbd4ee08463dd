/- THE WALKS of free's page: get, set. -/
import Derived.Test.YtbcghggkfnagoaaGreatDoorPgt
import Derived.Test.YtbcghggkfnagoaaGreatDoorDskI
set_option linter.unusedVariables false
set_option linter.unusedSimpArgs false
namespace Go.Proofs.YtbcghggkfnagoaaGreatDoor
open Go Go.RowKit Go.Maps Hach

def pgGet (b : List UInt8) (i s : Nat) : Nat := Oct.val ((b.drop i).take s)
set_option maxRecDepth 100000 in
set_option maxHeartbeats 2000000 in
theorem fget_calls (w : World) (g c : Nat) (b : List UInt8) (n i s : Nat) (hn : Hid (b.length = n)) (hi : Hid (i + s ≤ n ∧ n ≤ 100000 ∧ 0 < s ∧ s ≤ 8 ∧ n ≤ c)) (hb : Hid (Bytes w (some ⟨g, 0, none⟩) b)) :
    Calls Tryz.prog 67 #[.slice (some ⟨g, 0, none⟩) n c, .int .i64 i, .int .i64 s] w fun en w' => en = .returned (.int .i64 (wrap64 (pgGet b i s))) ∧ w' = w := by
  have hX := Bytes.sub hb.out i (n - i)
  have lX : (b.drop i).length = n - i := by rw [List.length_drop, hn.out]
  rw [List.take_of_length_le (by omega), Nat.zero_add] at hX
  have CG := get_callsX w (some ⟨g, i, none⟩) (b.drop i) (c - i) s (pgGet b i s) (s : Int) rfl (hid rfl) hi.out.2.2.1 hi.out.2.2.2.1 (by have := hi.out; omega) (by have := hi.out; omega) (hid hX)
  rw [lX] at CG
  obtain ⟨P, hP⟩ : ∃ x, pgGet b i s = x := ⟨_, rfl⟩
  rw [hP] at CG ⊢
  have h1 : i ≤ n := by have := hi.out; omega
  have h2 : n ≤ c := hi.out.2.2.2.2
  have h3 : (i : Int) ≤ (n : Int) := by omega
  have h4 : (n : Int) ≤ (c : Int) := by omega
  have h5 : ¬ i = c := by have := hi.out; omega
  clear hX lX hP
  go_enter Tryz.func67, Tryz.ntmps67
  go_wp2_with fail
  refine CG.mono ?_
  rintro en w2 ⟨rfl, hw⟩
  obtain rfl := hw
  go_wp2
  go_ret
  exact ⟨rfl, rfl⟩
def mkPut (b : List UInt8) (i : Nat) (x : List UInt8) : List UInt8 := b.take i ++ (x ++ b.drop (i + x.length))
theorem splice_bytes (b : List UInt8) (i : Nat) (x : List UInt8) : splice (b.map byteCell) i (x.map byteCell) = (mkPut b i x).map byteCell := by
  unfold splice mkPut
  rw [List.length_map, ← List.map_take, ← List.map_drop, List.map_append, List.map_append]
  try rw [List.append_assoc]
theorem mkPut_length {b : List UInt8} {i : Nat} {x : List UInt8} (h : i + x.length ≤ b.length) : (mkPut b i x).length = b.length := by
  unfold mkPut; rw [List.length_append, List.length_append, List.length_take, List.length_drop]; omega
-- copy, onto a row of bytes of the call's own.
set_option maxRecDepth 100000 in
set_option maxHeartbeats 1000000 in
theorem wp_copyB {w : World} {base g c : Nat} {b : List UInt8} (h : OwnB w base (some ⟨g, 0, none⟩) c b) {off dLen dCap : Nat} {A2 : Option Addr} {c2 m : Nat} {x : List UInt8} (hx2 : Bytes w A2 x) (hxl : x.length = m) (hm0 : 0 < m) (hmd : m ≤ dLen) (hfit : off + m ≤ b.length)
    {q : Oper} {a : Act} {K : Act → World → Prop} {Q : Exit → Act → World → Prop} (X Y : Operand) {tX tY : TypeId} {e : TypeId} (ht : Tryz.prog.underlying tX = some (.slice e)) (hi1 : (Tryz.prog.info? e).map (·.size) = some 1) (hq : q.op = .call { callee := .builtin .copy, args := #[X, Y], argTypes := #[tX, tY] })
    (hx : a.eval X = .slice (some ⟨g, off, none⟩) dLen dCap) (hy : a.eval Y = .slice A2 m c2)
    (hK : ∀ w', OwnB w' base (some ⟨g, 0, none⟩) c (mkPut b off x) → Fr (fun k => k = g) w w' → K (a.put q.dst (goInt m)) w') : q.wp Tryz.prog a w K Q := by
  have h' : w.ownsRow base 5 1 (.slice (some ⟨g, 0, none⟩) b.length c) b.length (b.map byteCell) := h
  obtain ⟨cur, hg, hsz, hsp⟩ := own_splice h'
  obtain ⟨b2, o2, rfl, _⟩ := hx2 0 (by omega)
  have hmin : Nat.min m dLen = m := Nat.min_eq_left hmd
  have hrun := run_copy_row (P := Tryz.prog) w tX tY q.type e g off dLen dCap ⟨b2, o2, none⟩ m c2 cur 5 (x.map byteCell) ht hi1 hg (by rw [List.length_map, hxl, hmin]) (fun j v hv => by
    rw [add_plain]
    obtain ⟨b9, o9, e9, hc9⟩ := hx2.rd j v hv
    injection e9 with e9
    injection e9 with e1 e2 _
    subst e1; subst e2
    exact hc9) (by rw [List.length_map, hxl]; omega) (byteCells_one x)
  have hr := hsp off (x.map byteCell) (by rw [List.length_map, hxl]; omega)
  rw [splice_bytes] at hr
  have hl : (x.map byteCell).length = m := by rw [List.length_map, hxl]
  rw [hl] at hrun hr
  rw [← List.append_assoc] at hr
  unfold Oper.wp execOp
  simp only [hq, resolve, invoke, builtin, Sem.run_bind, Sem.run_pure, Result.andThen_ok, List.map_toArray, List.map_cons, List.map_nil, hx, hy, hrun]
  refine hK _ ?_ (fr_setRow w g _)
  unfold OwnB
  rw [mkPut_length (by omega)]
  exact hr
set_option maxRecDepth 100000 in
set_option maxHeartbeats 2000000 in
theorem fset_calls (w : World) (base g c : Nat) (b : List UInt8) (n i s : Nat) (N : Int) (U : Nat) (hN : Hid (IntKind.u64.wrap N = (U : Int))) (hU : Hid ((U : Int) < 18446744073709551616)) (hn : Hid (b.length = n)) (hi : Hid (i + s ≤ n ∧ n ≤ 100000 ∧ 0 < s ∧ s ≤ 8 ∧ n ≤ c)) (hb : Hid (OwnB w base (some ⟨g, 0, none⟩) c b)) :
    Calls Tryz.prog 69 #[.slice (some ⟨g, 0, none⟩) n c, .int .i64 i, .int .i64 s, .int .i64 N] w fun en w' => en = .returned (.tuple #[]) ∧ Hid (OwnB w' base (some ⟨g, 0, none⟩) c (mkPut b i (Oct.be U s)) ∧ Fr (fun k => k = g) w w') := by
  have h1 : i ≤ n := by have := hi.out; omega
  have h2 : n ≤ c := hi.out.2.2.2.2
  have h3 : (i : Int) ≤ (n : Int) := by omega
  have h4 : (n : Int) ≤ (c : Int) := by omega
  have h5 : ¬ i = c := by have := hi.out; omega
  have h6 : ¬ c = i := fun e => h5 e.symm
  have hw := hN.out
  have CP : ∀ w', Up w w' → Calls _ _ _ w' _ := fun w' hu => put_calls w' none [] 0 U s hU.out hi.out.2.2.1 hi.out.2.2.2.1 (by decide) (hid (Bytes.nil _ _))
  go_enter Tryz.func69, Tryz.ntmps69
  go_wp2_with fail
  have US : True := trivial
  refine s_start (fun _ => True) (by kernel_rfl) ?_
  refine s_take 0 (some 8) (v := ?_) US rfl rfl (by kernel_rfl) (by kernel_rfl) (by kernel_rfl) (fun _ _ _ h => h) (by rfl) (fun w9 hS => ?_) ?_
  rotate_left
  · go_simp <;> with_reducible rfl
  try simp only [Act.put, List.setIfInBounds_toArray, List.set_cons_zero, List.set_cons_succ]
  refine s_take 1 (some 9) (v := ?_) US rfl rfl (by kernel_rfl) (by kernel_rfl) (by kernel_rfl) (fun _ _ _ h => h) (by rfl) (fun w9 hS => ?_) ?_
  rotate_left
  · go_simp <;> with_reducible rfl
  try simp only [Act.put, List.setIfInBounds_toArray, List.set_cons_zero, List.set_cons_succ]
  refine s_take 2 (some 10) (v := ?_) US rfl rfl (by kernel_rfl) (by kernel_rfl) (by kernel_rfl) (fun _ _ _ h => h) (by rfl) (fun w9 hS => ?_) ?_
  rotate_left
  · go_simp <;> with_reducible rfl
  try simp only [Act.put, List.setIfInBounds_toArray, List.set_cons_zero, List.set_cons_succ]
  refine s_take 3 (some 11) (v := ?_) US rfl rfl (by kernel_rfl) (by kernel_rfl) (by kernel_rfl) (fun _ _ _ h => h) (by rfl) (fun w9 hS => ?_) ?_
  rotate_left
  · go_simp <;> with_reducible rfl
  try simp only [Act.put, List.setIfInBounds_toArray, List.set_cons_zero, List.set_cons_succ]
  refine s_take 4 (some 12) (v := ?_) US rfl rfl (by kernel_rfl) (by kernel_rfl) (by kernel_rfl) (fun _ _ _ h => h) (by rfl) (fun w9 hS => ?_) ?_
  rotate_left
  · go_simp <;> with_reducible rfl
  try simp only [Act.put, List.setIfInBounds_toArray, List.set_cons_zero, List.set_cons_succ]
  refine s_take 5 (some 13) (v := ?_) US rfl rfl (by kernel_rfl) (by kernel_rfl) (by kernel_rfl) (fun _ _ _ h => h) (by rfl) (fun w9 hS => ?_) ?_
  rotate_left
  · go_simp <;> with_reducible rfl
  try simp only [Act.put, List.setIfInBounds_toArray, List.set_cons_zero, List.set_cons_succ]
  refine s_op 6 (by kernel_rfl) rfl (by rfl) (fun K9 hK9 => ?_)
  go_simp
  go_at_call 106
  refine (CP _ (Up.drew w)).mono ?_
  rintro en w2 ⟨A2, c2, rfl, o2, b2⟩
  have O2 : Hid (OwnB w2 base (some ⟨g, 0, none⟩) c b) := hid ((Fr.of_below ((Up.drew w).t b2)).own hb.out (fun _ _ e => e))
  have HX := hid o2.bytes
  have UX : Hid (Up w w2) := hid ((Up.drew w).t b2)
  clear o2 b2
  rw [List.nil_append] at HX ⊢
  rw [Oct.be_length]
  refine hK9.out _ _ trivial ?_
  clear hK9 K9
  try simp only [Act.put, List.setIfInBounds_toArray, List.set_cons_zero, List.set_cons_succ]
  refine s_op 7 (by kernel_rfl) rfl (by rfl) (fun K9 hK9 => ?_)
  refine wp_copyB O2.out (off := i) (dLen := n - i) (dCap := c - i) (m := s) HX.out (Oct.be_length U s) hi.out.2.2.1 (by have := hi.out; omega) (by rw [hn.out]; exact hi.out.1) (.tmp 10) (.tmp 14) (tX := 121) (tY := 64) Tryz.underlying121 (by kernel_rfl) rfl rfl rfl ?_
  intro w3 o3 f3
  have RES : Hid (OwnB w3 base (some ⟨g, 0, none⟩) c (mkPut b i (Oct.be U s)) ∧ Fr (fun k => k = g) w w3) := hid ⟨o3, ((Fr.of_below UX.out).mono (fun _ e => e.elim)).trans' f3⟩
  clear o3 f3
  refine hK9.out _ _ trivial ?_
  clear hK9 K9
  try simp only [Act.put, List.setIfInBounds_toArray, List.set_cons_zero, List.set_cons_succ]
  refine s_done (by kernel_rfl) ?_
  go_end0
  exact ⟨rfl, RES⟩
end Go.Proofs.YtbcghggkfnagoaaGreatDoor
