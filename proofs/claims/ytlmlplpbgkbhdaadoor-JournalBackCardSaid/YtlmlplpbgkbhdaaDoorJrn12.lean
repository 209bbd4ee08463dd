/- THE WALKS of hachurelaw06.plain, hachureref06.Sectors; a conversion in a region that draws. -/
import Derived.Test.YtlmlplpbgkbhdaaDoorRef5
import Derived.Test.YtlmlplpbgkbhdaaDoorJrn8
set_option linter.unusedVariables false
set_option linter.unusedSimpArgs false
namespace Go.Proofs.YtlmlplpbgkbhdaaDoor
open Go.RowKit Hach

theorem elemQ : Elem Tryd.prog 50 49 (.agg #[.int .i64 0, .slice none 0 0]) 2 32 := ⟨Tryd.underlying50, by kernel_rfl, rfl, by decide⟩

theorem refSectors_calls (n : Int) (w : World) :
    Calls Tryd.prog 31 #[.int .i64 n] w fun e w' => e = .returned (.int .i64 (1 + 5 * (min (max n 0) 4000))) ∧ w = w' := by
  go_enter Tryd.func31, Tryd.ntmps31
  go_wp2
  all_goals (go_ret; refine ⟨ret_int ?_, rfl⟩)
  all_goals (first | omega | (split at * <;> omega))

/-- Records' cells, with data that lie somewhere. -/
def PRow (w : World) : List (Int × List UInt8) → List Value → Prop
  | [], [] => True
  | (p, D) :: l, u :: v :: xs => u = .int .i64 p ∧ (∃ A c, v = .slice A D.length c ∧ Bytes w A D) ∧ PRow w l xs
  | _, _ => False

theorem PRow.snoc {w : World} {l : List (Int × List UInt8)} {xs : List Value} (h : PRow w l xs) (p : Int) (D : List UInt8) (A : Option Addr) (c : Nat) (o : Bytes w A D) :
    PRow w (l ++ [(p, D)]) (xs ++ [.int .i64 p, .slice A D.length c]) := by
  induction l generalizing xs with
  | nil => cases xs with
    | nil => exact ⟨rfl, ⟨A, c, rfl, o⟩, trivial⟩
    | cons _ _ => exact h.elim
  | cons r l ih => match xs, h with
    | u :: v :: xs, h => exact ⟨h.1, h.2.1, ih h.2.2⟩

theorem PRow.get {w : World} {l : List (Int × List UInt8)} {xs : List Value} (h : PRow w l xs) (i : Nat) (hi : i < l.length) :
    xs[i * 2]? = some (.int .i64 l[i].1) ∧ ∃ A c, xs[i * 2 + 1]? = some (.slice A l[i].2.length c) ∧ Bytes w A l[i].2 := by
  induction l generalizing xs i with
  | nil => simp at hi
  | cons r l ih => match xs, h with
    | u :: v :: xs, h =>
      cases i with
      | zero => obtain ⟨h1, ⟨A, c, h2, o⟩, _⟩ := h; subst h1; subst h2; exact ⟨rfl, A, c, rfl, o⟩
      | succ i =>
        have := ih h.2.2 i (by simpa using hi)
        rw [Nat.succ_mul]
        simpa using this

theorem PRow.rd {w w' : World} {base : Nat} {e : TypeId} {A : Option Addr} {n c : Nat} {l : List (Int × List UInt8)} {xs : List Value} (ho : w'.ownsRow base e 2 (.slice A n c) n xs) (hr : PRow w l xs) (hb : Below w.heap.size w w') : RecsRd w' A l := by
  intro i hi
  obtain ⟨h1, Ai, ci, h2, o⟩ := hr.get i hi
  have rd := Rd.own ho
  obtain ⟨b, off, e1, q1⟩ := rd _ _ h1
  obtain ⟨b', off', e2, q2⟩ := rd _ _ h2
  rw [e1] at e2
  injection e2 with e2; injection e2 with e2 e3; subst e2; subst e3
  exact ⟨b, off, Ai, ci, e1, q1, q2, o.grown hb⟩

def plainInv (w wr : World) (l : List (Int × List UInt8)) (k : Nat) (A : Option Addr) (c : Nat) : Prop :=
  ∃ xs, wr.ownsRow w.heap.size 49 2 (.slice A k c) k xs ∧ PRow w (l.take k) xs ∧ Below w.heap.size w wr

set_option maxRecDepth 100000 in
set_option maxHeartbeats 1000000 in
theorem plain_calls (w : World) (A : Option Addr) (l : List (Int × List UInt8)) (c m : Nat) (hm : Hid (l.length = m)) (hl : Hid (m ≤ 1000000)) (hr : Hid (RecsRd w A l)) :
    Calls Tryd.prog 23 #[.slice A m c] w fun e w' => ∃ A' c', e = .returned (.slice A' m c') ∧ RecsRd w' A' l ∧ Below w.heap.size w w' := by
  go_enter Tryd.func23, Tryd.ntmps23
  go_wp2
  go_loopw [3, 8] (fun o i wr => ∃ (k : Nat) (A' : Option Addr) (c' : Nat), k ≤ m ∧ o = .slice A' k c' ∧ i = .int .i64 k ∧ Hid (plainInv w wr l k A' c')) (fun _ i _ => m - (intOf i).toNat)
  case atStart => exact ⟨0, none, 0, by omega, rfl, rfl, hid ⟨[], own_nil _ _ _ _, trivial, Below.refl _ _⟩⟩
  case round =>
    obtain ⟨k, A', c', hk, rfl, rfl, hi⟩ := hrel
    by_cases hlt : (k : Int) < m
    · have hkl : k < l.length := by rw [hm.out]; omega
      obtain ⟨b, off, Ai, ci, rfl, q1, q2, hB⟩ := hr.out k hkl
      obtain ⟨xs, h1, h2, h3⟩ := hi.out
      have hbl := World.block_lt_of_cell? _ _ q1
      have r1 : wr.cell? ⟨b, off + k * 2, none⟩ = some (.int .i64 l[k].1) := (h3.cell (p := ⟨b, off + k * 2, none⟩) hbl).trans q1
      have r2 : wr.cell? ⟨b, off + k * 2 + 1, none⟩ = some (.slice Ai l[k].2.length ci) := (h3.cell (p := ⟨b, off + k * 2 + 1, none⟩) hbl).trans q2
      have hts : l.take (k + 1) = l.take k ++ [l[k]] := List.take_succ_eq_append_getElem hkl
      generalize l[k] = r at *
      obtain ⟨pg, D⟩ := r
      simp only at r1 r2 hB q1 q2
      have h2' := h2.snoc pg D Ai ci hB
      rw [← hts] at h2'
      generalize D.length = dl at *
      have H1 := hid h1
      have H2 := hid h2'
      have H3 := hid h3
      have HK := hid (show k < m by omega)
      clear h1 h2 h2' h3 q1 q2 hi hts hkl hB
      go_wp2_with (at_builtin; refine hold ?_)
      have oA := H1.out.alloc (.cells #[.int .i64 pg, .slice Ai dl ci] 36)
      have bA := H3.out.alloc H3.out.size (.cells #[.int .i64 pg, .slice Ai dl ci] 36)
      have hz : (wr.alloc (.cells #[.int .i64 pg, .slice Ai dl ci] 36)).heap.size = wr.heap.size + 1 := by simp
      have zA : w.heap.size ≤ (wr.alloc (.cells #[.int .i64 pg, .slice Ai dl ci] 36)).heap.size := bA.size
      generalize wr.alloc (.cells #[.int .i64 pg, .slice Ai dl ci] 36) = W1 at *
      rw [← hz]
      clear hz
      have oB := oA.alloc (.cells #[.int .i64 pg, .slice Ai dl ci] 49)
      have bB := bA.alloc bA.size (.cells #[.int .i64 pg, .slice Ai dl ci] 49)
      refine hid (wl_append elemQ rfl (.tmp 12) (.tmp 14) rfl rfl oB rfl (Rd.new W1 49 (0, 0) [.int .i64 pg, .slice Ai dl ci]) rfl (by simp [Value.oneCell']) (by have := hl.out; have := HK.out; simp only [maxLen]; omega) (by have := hl.out; have := HK.out; omega) (by simp; omega) ?_)
      intro A3 c3 w3 o3 g3 d3
      have NI : Hid (plainInv w w3 l (k + 1) A3 c3) := hid ⟨_, o3, H2.out, below_append bB (Nat.le_refl _) (by simp; omega) oB g3⟩
      clear o3 g3 d3 oB bB oA bA zA r1 r2 H1 H3
      go_wp2
      go_roundw
      case rel => exact ⟨k + 1, A3, c3, HK.out, rfl, (by have := hl.out; have := HK.out; rw [show wrap64 ((k : Int) + 1) = ((k + 1 : Nat) : Int) by unfold wrap64; omega]), NI⟩
      case measure => have := hl.out; have := HK.out; rw [show wrap64 ((k : Int) + 1) = ((k + 1 : Nat) : Int) by unfold wrap64; omega]; simp only [intOf]; omega
    · obtain rfl : k = m := by omega
      go_wp2
      go_ret
      obtain ⟨xs, h1, h2, h3⟩ := hi.out
      have := hm.out
      rw [← this, List.take_length] at h2
      exact ⟨A', ⟨c', rfl⟩, PRow.rd h1 h2 h3, h3⟩

theorem step_conv {ops : Array Oper} {o : Oper} {a : Act} {w : World} {K : Act → World → Prop} {Q : Exit → Act → World → Prop} {F : Prop} (hw : Region.wanted o (yielded ops a.tmps) = true) (x : Operand)
    (ho : o.op = .convert 22 9 x) {A : Option Addr} {n c : Nat} {xs : List UInt8} (hx : a.eval x = .slice A n c) (hn : Hid (xs.length = n)) (hl : Hid (n ≤ 1099511627776)) (hb : Hid (Bytes w A xs))
    (h : K (a.put o.dst (.string (str xs))) w) : if Region.wanted o (yielded ops a.tmps) = true then Oper.wp Tryd.prog o a w K Q else F := by
  have e := hn.out
  subst e
  rw [if_pos hw]
  have hrun := run_conv w A xs c hl.out hb.out
  unfold Oper.wp execOp
  simp only [ho, hx, Sem.run_bind, hrun, Sem.run_pure, Result.andThen_ok]
  exact h
end Go.Proofs.YtlmlplpbgkbhdaaDoor
