/- ROWS OF SECTORS: one sector read, one written. A FILE OF THE DISK, read and written. -/
import Derived.Test.YtbcghggkfnagoaaGreatDoorDsk2
set_option linter.unusedVariables false
set_option linter.unusedSimpArgs false
namespace Go.Proofs.YtbcghggkfnagoaaGreatDoor
open Go Go.RowKit Go.Maps Hach

def Whole (l : List Sec) : Prop := ∀ s ∈ l, s.length = 128
theorem Whole.tail {s : Sec} {l : List Sec} (h : Whole (s :: l)) : Whole l := fun x hx => h x (List.mem_cons_of_mem _ hx)
theorem flatS_length {l : List Sec} (h : Whole l) : (l.flatMap secC).length = l.length * 128 := by
  induction l with
  | nil => rfl
  | cons s l ih => rw [List.flatMap_cons, List.length_append, ih h.tail, secC_length, h s List.mem_cons_self, List.length_cons]; omega
theorem flatS_split {l : List Sec} (h : Whole l) {i : Nat} (hi : i < l.length) : l.flatMap secC = (l.take i).flatMap secC ++ (secC l[i] ++ (l.drop (i + 1)).flatMap secC) := by
  conv => lhs; rw [← List.take_append_drop i l, List.drop_eq_getElem_cons hi, List.flatMap_append, List.flatMap_cons]
theorem flatS_at {l : List Sec} (h : Whole l) {i j : Nat} (hi : i < l.length) (hj : j < 128) : (l.flatMap secC)[i * 128 + j]? = (secC l[i])[j]? := by
  have hl : ((l.take i).flatMap secC).length = i * 128 := by
    rw [flatS_length (fun s hs => h s (List.mem_of_mem_take hs)), List.length_take, Nat.min_eq_left (by omega)]
  rw [flatS_split h hi, List.getElem?_append_right (by omega), hl, show i * 128 + j - i * 128 = j by omega, List.getElem?_append_left (by rw [secC_length, h _ (List.getElem_mem hi)]; exact hj)]
/-- Cells are replaced from o on. -/
def setL (xs : List Value) (o : Nat) : List Value → List Value
  | [] => xs
  | v :: r => setL (xs.set o v) (o + 1) r
theorem setL_mid (P Q R : List Value) (vs : List Value) (hq : vs.length = Q.length) : setL (P ++ (Q ++ R)) P.length vs = P ++ (vs ++ R) := by
  induction vs generalizing P Q with
  | nil =>
    have : Q = [] := List.eq_nil_of_length_eq_zero hq.symm
    subst this; rfl
  | cons v r ih =>
    cases Q with
    | nil => cases hq
    | cons q Q =>
      unfold setL
      rw [List.set_append_right _ _ (Nat.le_refl _), Nat.sub_self, List.cons_append, List.set_cons_zero]
      have := ih (P ++ [v]) Q (by simpa using hq)
      rw [List.length_append, List.append_assoc, List.append_assoc] at this
      exact this
theorem setL_flat {l : List Sec} (h : Whole l) {i : Nat} (hi : i < l.length) {s : Sec} (hs : s.length = 128) : setL (l.flatMap secC) (i * 128) (secC s) = (l.set i s).flatMap secC := by
  have hl : ((l.take i).flatMap secC).length = i * 128 := by
    rw [flatS_length (fun s hs => h s (List.mem_of_mem_take hs)), List.length_take, Nat.min_eq_left (by omega)]
  rw [flatS_split h hi, ← hl, setL_mid _ _ _ _ (by rw [secC_length, secC_length, hs, h _ (List.getElem_mem hi)])]
  have e : l.set i s = l.take i ++ s :: l.drop (i + 1) := by
    conv => lhs; rw [← List.take_append_drop i l, List.drop_eq_getElem_cons hi]
    rw [List.set_append_right _ _ (by rw [List.length_take]; omega), List.length_take, Nat.min_eq_left (by omega), Nat.sub_self, List.set_cons_zero]
  rw [e, List.flatMap_append, List.flatMap_cons]
theorem Whole.set {l : List Sec} (h : Whole l) (i : Nat) {s : Sec} (hs : s.length = 128) : Whole (l.set i s) := fun x hx => by
  rcases List.mem_or_eq_of_mem_set hx with hx | rfl
  · exact h x hx
  · exact hs
section
variable {w : World} {base g n c : Nat} {e : TypeId} {size : Nat}
theorem own_setCells {xs : List Value} (vs : List Value) (o : Nat) (h : w.ownsRow base e size (.slice (some ⟨g, 0, none⟩) n c) n xs) : (w.setCells g o vs).ownsRow base e size (.slice (some ⟨g, 0, none⟩) n c) n (setL xs o vs) := by
  induction vs generalizing w xs o with
  | nil => exact h
  | cons v r ih =>
    unfold World.setCells setL
    exact ih (o + 1) (h.stored o v).1
theorem fr_setCells {S : Nat → Prop} {w0 : World} (hS : S g) (vs : List Value) (o : Nat) (h : Fr S w0 w) : Fr S w0 (w.setCells g o vs) := by
  induction vs generalizing w o with
  | nil => exact h
  | cons v r ih => unfold World.setCells; exact ih (o + 1) (h.setCell (p := ⟨g, o, none⟩) (fun _ => hS) _)
theorem below_setCells {w0 : World} {B : Nat} (hB : B ≤ g) (vs : List Value) (o : Nat) (h : Below B w0 w) : Below B w0 (w.setCells g o vs) := by
  induction vs generalizing w o with
  | nil => exact h
  | cons v r ih => unfold World.setCells; exact ih (o + 1) (h.setCell (p := ⟨g, o, none⟩) hB _)
end
end Go.Proofs.YtbcghggkfnagoaaGreatDoor

namespace Go.Proofs.YtbcghggkfnagoaaGreatDoor
open Go Go.RowKit Go.Maps Hach

section
variable {w w' : World} {base d o m c : Nat} {cs : Array Value} {t : TypeId} {A : Option Addr} {f : FileV}
theorem loadS {b p : Nat} {s : Sec} (h : w.rangeAt b p (secC s)) (hs : s.length = 128) : (Instr.loadAt 173 (.pointer (some ⟨b, p, none⟩))).run Tryz.prog w = .ok (secV s) w :=
  run_loadAt_mid w b p _ (secC s) _ h secUnder rfl (by rw [secC_length, hs]; kernel_rfl)
theorem storeS {b p : Nat} {s : Sec} (h : w.there b p 128) (hs : s.length = 128) : (Instr.storeAt 173 (.pointer (some ⟨b, p, none⟩)) (secV s)).run Tryz.prog w = .ok () (w.setCells b p (secC s)) := by
  have := run_storeAt_mid (P := Tryz.prog) w b p 173 (secC s).toArray (by rw [List.size_toArray, secC_length, hs]; exact h) (secInfo (by rw [List.size_toArray, secC_length, hs])) (all_oneCell_toArray (secC_one s))
  exact this
theorem FileAt.cell0 (h : FileAt w base d cs t o A c m f) : w.cell? ⟨d, o, none⟩ = some (.slice A f.now.length c) ∧ w.cell? ⟨d, o + 1, none⟩ = some (.map (some m)) ∧ w.cell? ⟨d, o + 2, none⟩ = some (.int .i64 f.sure) := by
  have k : ∀ i v, cs[i]? = some v → w.cell? ⟨d, i, none⟩ = some v := fun i v hv => by
    unfold World.cell?
    rw [show (⟨d, i, none⟩ : Addr).block = d from rfl, h.own]
    exact hv
  exact ⟨k o _ h.c0, k _ _ h.c1, k _ _ h.c2⟩
theorem FileAt.free (h : FileAt w base d cs t o A c m f) (i : Nat) : w.frozen? ⟨d, i, none⟩ = false := by
  unfold World.frozen?; rw [show (⟨d, i, none⟩ : Addr).block = d from rfl, h.own]; simp
theorem FileAt.ne (h : FileAt w base d cs t o A c m f) : d ≠ m ∧ (∀ k, (Value.slice A f.now.length c).ownBlock = some k → k ≠ d ∧ k ≠ m) := by
  obtain ⟨es, clock, hm⟩ := h.map.isMap
  refine ⟨?_, fun k hk => ?_⟩
  · rintro rfl
    have := h.own; rw [hm] at this; cases this
  · rcases h.row.2 with ⟨hv, _⟩ | ⟨g, cap, cur, hv, _, hg, _⟩
    · rw [hv] at hk; cases hk
    · rw [hv] at hk
      obtain rfl : g = k := by simpa [Value.ownBlock] using hk
      refine ⟨?_, ?_⟩
      · rintro rfl
        have := h.own; rw [hg] at this
        injection this with this; injection this with _ h2 _
        exact h.ty.1 h2.symm
      · rintro rfl
        rw [hm] at hg; cases hg
theorem FileAt.keep (h : FileAt w base d cs t o A c m f) {S : Nat → Prop} (hf : Fr S w w') (hd : ¬ S d) (hm : ¬ S m) (hr : ∀ k, (Value.slice A f.now.length c).ownBlock = some k → ¬ S k) : FileAt w' base d cs t o A c m f :=
  ⟨(hf.block d (Array.getElem?_eq_some_iff.1 h.own).1 hd).trans h.own, h.c0, h.c1, h.c2, hf.own h.row hr, h.map.kept hf hm, h.len, h.low, h.ty⟩
theorem FileAt.up (h : FileAt w base d cs t o A c m f) (hu : Up w w') : FileAt w' base d cs t o A c m f := h.keep (Fr.of_below hu) id id (fun _ _ e => e)
/-- The i-th sector, where it lies. -/
theorem FileAt.sec (h : FileAt w base d cs t o A c m f) {i : Nat} (hi : i < f.now.length) :
    ∃ g, A = some ⟨g, 0, none⟩ ∧ w.rangeAt g (i * 128) (secC f.now[i]) ∧ w.there g (i * 128) 128 ∧ base ≤ g ∧ (Value.slice A f.now.length c).ownBlock = some g := by
  rcases h.row.2 with ⟨hv, h0⟩ | ⟨g, cap, cur, hv, hb, hg, _⟩
  · omega
  · injection hv with e1 e2 e3
    subst e1
    have hrow := h.row
    have hl := flatS_length h.len
    refine ⟨g, rfl, fun j v hj => ?_, fun j hj => ?_, hb, rfl⟩
    · have hj8 : j < 128 := by have := (List.getElem?_eq_some_iff.1 hj).1; rwa [secC_length, h.len _ (List.getElem_mem hi)] at this
      rw [hrow.cellAt (i * 128 + j) (by omega), flatS_at h.len hi hj8]; exact hj
    · refine ⟨?_, hrow.frozenAt _⟩
      rw [hrow.cellAt (i * 128 + j) (by omega), List.getElem?_eq_getElem (by rw [hl]; omega)]; rfl
/-- The i-th sector is written. -/
theorem FileAt.write (h : FileAt w base d cs t o A c m f) {i g : Nat} (hi : i < f.now.length) (hA : A = some ⟨g, 0, none⟩) {s : Sec} (hs : s.length = 128) :
    FileAt (w.setCells g (i * 128) (secC s)) base d cs t o A c m { f with now := f.now.set i s } ∧ Below base w (w.setCells g (i * 128) (secC s)) ∧ Fr (fun k => k = g) w (w.setCells g (i * 128) (secC s)) := by
  subst hA
  have hown : (Value.slice (some ⟨g, 0, none⟩) f.now.length c).ownBlock = some g := rfl
  have hne := h.ne.2 g hown
  have hfr : Fr (fun k => k = g) w (w.setCells g (i * 128) (secC s)) := fr_setCells (S := fun k => k = g) rfl _ _ (Fr.refl _ w)
  have hg : base ≤ g := (own_block h.row g hown).1
  refine ⟨⟨(hfr.block d (Array.getElem?_eq_some_iff.1 h.own).1 (fun e => hne.1 e.symm)).trans h.own, by rw [List.length_set]; exact h.c0, h.c1, h.c2, ?_, h.map.kept hfr (fun e => hne.2 e.symm), Whole.set h.len i hs, h.low, h.ty⟩, below_setCells hg _ _ (Below.refl _ w), hfr⟩
  show World.ownsRow _ base _ 128 (.slice _ (f.now.set i s).length c) (f.now.set i s).length ((f.now.set i s).flatMap secC)
  rw [List.length_set, ← setL_flat h.len hi hs]
  exact own_setCells _ _ h.row
/-- The map is another. -/
theorem FileAt.marked (h : FileAt w base d cs t o A c m f) {L : Olds} (hm : MapS w' m L) (hg : w.grownBy w' (some m)) : FileAt w' base d cs t o A c m { f with old := L } ∧ Below base w w' ∧ Fr (fun k => k = m) w w' := by
  have hfr : Fr (fun k => k = m) w w' := (Fr.of_grown hg).mono (fun k hk => Option.some.inj hk)
  have hne := h.ne
  exact ⟨⟨(hfr.block d (Array.getElem?_eq_some_iff.1 h.own).1 hne.1).trans h.own, h.c0, h.c1, h.c2, hfr.own h.row (fun k hk e => (hne.2 k hk).2 e), hm, h.len, h.low, h.ty⟩,
    (Below.refl base w).grown hg (Nat.le_trans h.low.1 (Nat.le_of_lt (Array.getElem?_eq_some_iff.1 h.own).1)) (fun k hk => by rw [← Option.some.inj hk]; exact h.low.2), hfr⟩
end
theorem upAlD {w w' : World} (h : Up w w') (o : Obj) : Up w (w'.alloc o) := Below.alloc h h.size o
theorem arrayAtS (w : World) (b p cB : Nat) : (Instr.arrayAt 173 (.slice (some ⟨b, p, none⟩) 128 cB)).run Tryz.prog w = .ok (.pointer (some ⟨b, p, none⟩)) w := by
  unfold Instr.arrayAt
  simp [run_underlying secUnder, Sem.run_bind, Result.andThen]
/-- The walk stands still ahead of a store of type t. -/
theorem hold_st (t : TypeId) {P : Program} {ops : Array Oper} {Q : Exit → Act → World → Prop} {x y : Operand} {ty : TypeId} {pos : String} {after : Array Edge} {guard : Option (Nat × Bool)} {rest : List Oper} {a : Act} {w : World}
    (h : Hid (wpList P ops Q (⟨none, .store t x y, ty, pos, after, guard⟩ :: rest) a w)) : wpList P ops Q (⟨none, .store t x y, ty, pos, after, guard⟩ :: rest) a w := h
theorem wl_storeNew {ops : Array Oper} {rest : List Oper} {o : Oper} {a : Act} {Q : Exit → Act → World → Prop} {w : World} (hgd : o.guard = none) (x y : Operand) (ho : o.op = .store 173 x y) {s : Sec} (hs : s.length = 128)
    (hx : a.eval x = .pointer (some ⟨w.heap.size, 0, none⟩)) (hy : a.eval y = secV s)
    (h : wpList Tryz.prog ops Q rest (a.put o.dst undef) (w.alloc (.cells (secC s).toArray 173))) : wpList Tryz.prog ops Q (o :: rest) a (w.alloc (.cells Tryz.zeroCells173 173)) := by
  refine wpList_plain hgd fun K hK => ?_
  unfold Oper.wp execOp
  simp only [ho, hx, hy, Sem.run_bind, storeNewZ w s hs, Sem.run_pure, Result.andThen_ok]
  exact hK _ _ h
theorem exec_loadS {ρ : Operand → Value} {o : Oper} {w : World} {x : Operand} {b p : Nat} {s : Sec} (ho : o.op = .load 173 x) (hx : ρ x = .pointer (some ⟨b, p, none⟩)) (h : w.rangeAt b p (secC s)) (hs : s.length = 128) :
    (execOp ρ o).run Tryz.prog w = .ok (.value (secV s)) w := by
  unfold execOp
  simp only [ho, hx, Sem.run_bind, loadS h hs, Sem.run_pure, Result.andThen_ok]
theorem wp_storeS {o : Oper} {a : Act} {w : World} {K : Act → World → Prop} {Q : Exit → Act → World → Prop} (x y : Operand) (ho : o.op = .store 173 x y) {b p : Nat} {s : Sec} (hs : s.length = 128)
    (hx : a.eval x = .pointer (some ⟨b, p, none⟩)) (hy : a.eval y = secV s) (ht : w.there b p 128) (h : K (a.put o.dst undef) (w.setCells b p (secC s))) : o.wp Tryz.prog a w K Q := by
  unfold Oper.wp execOp
  simp only [ho, hx, hy, Sem.run_bind, storeS ht hs, Sem.run_pure, Result.andThen_ok]
  exact h
end Go.Proofs.YtbcghggkfnagoaaGreatDoor
