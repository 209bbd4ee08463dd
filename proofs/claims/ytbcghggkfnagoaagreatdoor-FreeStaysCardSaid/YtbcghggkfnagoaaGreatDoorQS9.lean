/- PARTS OF A PROOF, one behind the other: A FILE OF THE DISK: its form in the world. ROWS OF SECTORS: one sector read, one written. A FILE OF THE DISK, read and written. THE WALK of a file's put. PUT, by its law; files stay well. THE DISK: its form; New; what is asked of it. THE WALKS of the disk's file, look, On, Ops, Room, Sectors, Dirty, Start. THE WALKS of the disk's look, Sectors, Dirty, Start. THE WALKS of the disk's look, Sectors, Dirty. THE DISK behind a put into one of its files. THE WALK of a file's settle. THE DISK's files by their number; the blocks of a disk; what a step leaves. THE WALK of the disk's Read. CONDITIONS: none of this text's own. -/
import Derived.Test.YtbcghggkfnagoaaGreatDoorQS8
import Derived.Test.YtbcghggkfnagoaaGreatDoorQS7
import Derived.Test.YtbcghggkfnagoaaGreatDoorQS6
import Derived.Deep.MidRow
import Derived.Deep.WholeRow
set_option linter.unusedVariables false
set_option linter.unusedSimpArgs false
namespace Go.Proofs.YtbcghggkfnagoaaGreatDoor
open Go Go.RowKit Go.Maps Hach

theorem elemS : Elem Tryz.prog 81 173 (secV zeroS) 128 128 := ⟨Tryz.underlying81, by kernel_rfl, rfl, by decide⟩
structure FileV where
  now : List Sec
  old : Olds
  sure : Nat
structure FileOk (f : FileV) : Prop where
  now : ∀ s ∈ f.now, s.length = 128
  old : ∀ p ∈ f.old, p.2.length = 128
  keys : (f.old.map (·.1)).Pairwise (· < ·)
  rng : ∀ p ∈ f.old, 0 ≤ p.1 ∧ p.1 < (f.now.length : Int)
  sure : f.sure ≤ f.now.length
structure FileAt (w : World) (base d : Nat) (cs : Array Value) (t : TypeId) (o : Nat) (A : Option Addr) (c m : Nat) (f : FileV) : Prop where
  own : w.heap[d]? = some (.cells cs t (0, 0))
  c0 : cs[o]? = some (.slice A f.now.length c)
  c1 : cs[o + 1]? = some (.map (some m))
  c2 : cs[o + 2]? = some (.int .i64 f.sure)
  row : w.ownsRow base 173 128 (.slice A f.now.length c) f.now.length (f.now.flatMap secC)
  map : MapS w m f.old
  len : ∀ s ∈ f.now, s.length = 128
  low : base ≤ d ∧ base ≤ m
  ty : t ≠ 173 ∧ t ≠ 5 ∧ t ≠ 172
theorem FileAt.ty8 {w : World} {base d : Nat} {cs : Array Value} {t : TypeId} {o : Nat} {A : Option Addr} {c m : Nat} {f : FileV} (h : FileAt w base d cs t o A c m f) : t ≠ 5 := h.ty.2.1
theorem FileAt.ty3 {w : World} {base d : Nat} {cs : Array Value} {t : TypeId} {o : Nat} {A : Option Addr} {c m : Nat} {f : FileV} (h : FileAt w base d cs t o A c m f) : t ≠ 172 := h.ty.2.2
def oldAt (f : FileV) (i : Nat) : Sec := if i < f.sure then (f.now[i]?.getD zeroS) else zeroS
def growF (f : FileV) (i : Nat) : FileV := if i = f.now.length then { f with now := f.now ++ [zeroS] } else f
def markF (f : FileV) (i : Nat) : FileV := if (getL f.old i).isSome then f else { f with old := putL f.old i (oldAt f i) }
def putF (f : FileV) (i : Nat) (s : Sec) : FileV := let g := markF (growF f i) i; { g with now := g.now.set i s }

/-! ### a whole sector, made, read, written -/
theorem secC_length (s : Sec) : (secC s).length = s.length := List.length_map _
theorem secC_one (s : Sec) : ∀ u ∈ secC s, u.oneCell' = true := byteCells_one s
theorem bslZ (w : World) : (Instr.buildSlice 81 1 #[(0, secV zeroS)]).run Tryz.prog w = .ok (.slice (some ⟨w.heap.size, 0, none⟩) 1 1) (w.alloc (.cells (secC zeroS).toArray 173)) := by kernel_rfl
theorem secInfo {cs : Array Value} (h : cs.size = 128) : (Tryz.prog.info? 173).map (·.size) = some cs.size := by rw [h]; kernel_rfl
theorem secUnder : Tryz.prog.underlying 173 = some (.array 128 5) := by kernel_rfl
theorem storeNewS (w : World) (c s : Sec) (hc : c.length = 128) (hs : s.length = 128) : (Instr.storeAt 173 (.pointer (some ⟨w.heap.size, 0, none⟩)) (secV s)).run Tryz.prog (w.alloc (.cells (secC c).toArray 173)) = .ok () (w.alloc (.cells (secC s).toArray 173)) :=
  run_storeAt_new w _ _ _ (secInfo (by rw [List.size_toArray, secC_length, hs])) (by rw [List.size_toArray, List.size_toArray, secC_length, secC_length, hs, hc]) (all_oneCell_toArray (secC_one s))
theorem zeroC : Tryz.zeroCells173 = (secC zeroS).toArray := by kernel_rfl
theorem storeNewZ (w : World) (s : Sec) (hs : s.length = 128) : (Instr.storeAt 173 (.pointer (some ⟨w.heap.size, 0, none⟩)) (secV s)).run Tryz.prog (w.alloc (.cells Tryz.zeroCells173 173)) = .ok () (w.alloc (.cells (secC s).toArray 173)) := by
  rw [zeroC]; exact storeNewS w zeroS s List.length_replicate hs
theorem zeroS_len : zeroS.length = 128 := List.length_replicate
end Go.Proofs.YtbcghggkfnagoaaGreatDoor

namespace Go.Proofs.YtbcghggkfnagoaaGreatDoor
open Go Go.RowKit Go.Maps Hach

def Whole (l : List Sec) : Prop := ∀ s ∈ l, s.length = 128
theorem Whole.tail {s : Sec} {l : List Sec} (h : Whole (s :: l)) : Whole l := fun x hx => h x (List.mem_cons_of_mem _ hx)
theorem flatS_length {l : List Sec} (h : Whole l) : (l.flatMap secC).length = l.length * 128 := by
  induction l with
  | nil => rfl
  | cons s l ih => rw [List.flatMap_cons, List.length_append, ih h.tail, secC_length, h s List.mem_cons_self, List.length_cons]; omega
theorem flatS_split {l : List Sec} (h : Whole l) {i : Nat} (hi : i < l.length) : l.flatMap secC = (l.take i).flatMap secC ++ (secC l[i] ++ (l.drop (i + 1)).flatMap secC) := by
  conv => lhs; rw [← List.take_append_drop i l, List.drop_eq_getElem_cons hi, List.flatMap_append, List.flatMap_cons]
theorem flatS_at {l : List Sec} (h : Whole l) {i j : Nat} (hi : i < l.length) (hj : j < 128) : (l.flatMap secC)[i * 128 + j]? = (secC l[i])[j]? := by
  have hl : ((l.take i).flatMap secC).length = i * 128 := by
    rw [flatS_length (fun s hs => h s (List.mem_of_mem_take hs)), List.length_take, Nat.min_eq_left (by omega)]
  rw [flatS_split h hi, List.getElem?_append_right (by omega), hl, show i * 128 + j - i * 128 = j by omega, List.getElem?_append_left (by rw [secC_length, h _ (List.getElem_mem hi)]; exact hj)]
def setL (xs : List Value) (o : Nat) : List Value → List Value
  | [] => xs
  | v :: r => setL (xs.set o v) (o + 1) r
theorem setL_mid (P Q R : List Value) (vs : List Value) (hq : vs.length = Q.length) : setL (P ++ (Q ++ R)) P.length vs = P ++ (vs ++ R) := by
  induction vs generalizing P Q with
  | nil =>
    have : Q = [] := List.eq_nil_of_length_eq_zero hq.symm
    subst this; rfl
  | cons v r ih =>
    cases Q with
    | nil => cases hq
    | cons q Q =>
      unfold setL
      rw [List.set_append_right _ _ (Nat.le_refl _), Nat.sub_self, List.cons_append, List.set_cons_zero]
      have := ih (P ++ [v]) Q (by simpa using hq)
      rw [List.length_append, List.append_assoc, List.append_assoc] at this
      exact this
theorem setL_flat {l : List Sec} (h : Whole l) {i : Nat} (hi : i < l.length) {s : Sec} (hs : s.length = 128) : setL (l.flatMap secC) (i * 128) (secC s) = (l.set i s).flatMap secC := by
  have hl : ((l.take i).flatMap secC).length = i * 128 := by
    rw [flatS_length (fun s hs => h s (List.mem_of_mem_take hs)), List.length_take, Nat.min_eq_left (by omega)]
  rw [flatS_split h hi, ← hl, setL_mid _ _ _ _ (by rw [secC_length, secC_length, hs, h _ (List.getElem_mem hi)])]
  have e : l.set i s = l.take i ++ s :: l.drop (i + 1) := by
    conv => lhs; rw [← List.take_append_drop i l, List.drop_eq_getElem_cons hi]
    rw [List.set_append_right _ _ (by rw [List.length_take]; omega), List.length_take, Nat.min_eq_left (by omega), Nat.sub_self, List.set_cons_zero]
  rw [e, List.flatMap_append, List.flatMap_cons]
theorem Whole.set {l : List Sec} (h : Whole l) (i : Nat) {s : Sec} (hs : s.length = 128) : Whole (l.set i s) := fun x hx => by
  rcases List.mem_or_eq_of_mem_set hx with hx | rfl
  · exact h x hx
  · exact hs
section
variable {w : World} {base g n c : Nat} {e : TypeId} {size : Nat}
theorem own_setCells {xs : List Value} (vs : List Value) (o : Nat) (h : w.ownsRow base e size (.slice (some ⟨g, 0, none⟩) n c) n xs) : (w.setCells g o vs).ownsRow base e size (.slice (some ⟨g, 0, none⟩) n c) n (setL xs o vs) := by
  induction vs generalizing w xs o with
  | nil => exact h
  | cons v r ih =>
    unfold World.setCells setL
    exact ih (o + 1) (h.stored o v).1
theorem fr_setCells {S : Nat → Prop} {w0 : World} (hS : S g) (vs : List Value) (o : Nat) (h : Fr S w0 w) : Fr S w0 (w.setCells g o vs) := by
  induction vs generalizing w o with
  | nil => exact h
  | cons v r ih => unfold World.setCells; exact ih (o + 1) (h.setCell (p := ⟨g, o, none⟩) (fun _ => hS) _)
theorem below_setCells {w0 : World} {B : Nat} (hB : B ≤ g) (vs : List Value) (o : Nat) (h : Below B w0 w) : Below B w0 (w.setCells g o vs) := by
  induction vs generalizing w o with
  | nil => exact h
  | cons v r ih => unfold World.setCells; exact ih (o + 1) (h.setCell (p := ⟨g, o, none⟩) hB _)
end
end Go.Proofs.YtbcghggkfnagoaaGreatDoor

namespace Go.Proofs.YtbcghggkfnagoaaGreatDoor
open Go Go.RowKit Go.Maps Hach

section
variable {w w' : World} {base d o m c : Nat} {cs : Array Value} {t : TypeId} {A : Option Addr} {f : FileV}
theorem loadS {b p : Nat} {s : Sec} (h : w.rangeAt b p (secC s)) (hs : s.length = 128) : (Instr.loadAt 173 (.pointer (some ⟨b, p, none⟩))).run Tryz.prog w = .ok (secV s) w :=
  run_loadAt_mid w b p _ (secC s) _ h secUnder rfl (by rw [secC_length, hs]; kernel_rfl)
theorem storeS {b p : Nat} {s : Sec} (h : w.there b p 128) (hs : s.length = 128) : (Instr.storeAt 173 (.pointer (some ⟨b, p, none⟩)) (secV s)).run Tryz.prog w = .ok () (w.setCells b p (secC s)) := by
  have := run_storeAt_mid (P := Tryz.prog) w b p 173 (secC s).toArray (by rw [List.size_toArray, secC_length, hs]; exact h) (secInfo (by rw [List.size_toArray, secC_length, hs])) (all_oneCell_toArray (secC_one s))
  exact this
theorem FileAt.cell0 (h : FileAt w base d cs t o A c m f) : w.cell? ⟨d, o, none⟩ = some (.slice A f.now.length c) ∧ w.cell? ⟨d, o + 1, none⟩ = some (.map (some m)) ∧ w.cell? ⟨d, o + 2, none⟩ = some (.int .i64 f.sure) := by
  have k : ∀ i v, cs[i]? = some v → w.cell? ⟨d, i, none⟩ = some v := fun i v hv => by
    unfold World.cell?
    rw [show (⟨d, i, none⟩ : Addr).block = d from rfl, h.own]
    exact hv
  exact ⟨k o _ h.c0, k _ _ h.c1, k _ _ h.c2⟩
theorem FileAt.free (h : FileAt w base d cs t o A c m f) (i : Nat) : w.frozen? ⟨d, i, none⟩ = false := by
  unfold World.frozen?; rw [show (⟨d, i, none⟩ : Addr).block = d from rfl, h.own]; simp
theorem FileAt.ne (h : FileAt w base d cs t o A c m f) : d ≠ m ∧ (∀ k, (Value.slice A f.now.length c).ownBlock = some k → k ≠ d ∧ k ≠ m) := by
  obtain ⟨es, clock, hm⟩ := h.map.isMap
  refine ⟨?_, fun k hk => ?_⟩
  · rintro rfl
    have := h.own; rw [hm] at this; cases this
  · rcases h.row.2 with ⟨hv, _⟩ | ⟨g, cap, cur, hv, _, hg, _⟩
    · rw [hv] at hk; cases hk
    · rw [hv] at hk
      obtain rfl : g = k := by simpa [Value.ownBlock] using hk
      refine ⟨?_, ?_⟩
      · rintro rfl
        have := h.own; rw [hg] at this
        injection this with this; injection this with _ h2 _
        exact h.ty.1 h2.symm
      · rintro rfl
        rw [hm] at hg; cases hg
theorem FileAt.keep (h : FileAt w base d cs t o A c m f) {S : Nat → Prop} (hf : Fr S w w') (hd : ¬ S d) (hm : ¬ S m) (hr : ∀ k, (Value.slice A f.now.length c).ownBlock = some k → ¬ S k) : FileAt w' base d cs t o A c m f :=
  ⟨(hf.block d (Array.getElem?_eq_some_iff.1 h.own).1 hd).trans h.own, h.c0, h.c1, h.c2, hf.own h.row hr, h.map.kept hf hm, h.len, h.low, h.ty⟩
theorem FileAt.up (h : FileAt w base d cs t o A c m f) (hu : Up w w') : FileAt w' base d cs t o A c m f := h.keep (Fr.of_below hu) id id (fun _ _ e => e)
theorem FileAt.sec (h : FileAt w base d cs t o A c m f) {i : Nat} (hi : i < f.now.length) :
    ∃ g, A = some ⟨g, 0, none⟩ ∧ w.rangeAt g (i * 128) (secC f.now[i]) ∧ w.there g (i * 128) 128 ∧ base ≤ g ∧ (Value.slice A f.now.length c).ownBlock = some g := by
  rcases h.row.2 with ⟨hv, h0⟩ | ⟨g, cap, cur, hv, hb, hg, _⟩
  · omega
  · injection hv with e1 e2 e3
    subst e1
    have hrow := h.row
    have hl := flatS_length h.len
    refine ⟨g, rfl, fun j v hj => ?_, fun j hj => ?_, hb, rfl⟩
    · have hj8 : j < 128 := by have := (List.getElem?_eq_some_iff.1 hj).1; rwa [secC_length, h.len _ (List.getElem_mem hi)] at this
      rw [hrow.cellAt (i * 128 + j) (by omega), flatS_at h.len hi hj8]; exact hj
    · refine ⟨?_, hrow.frozenAt _⟩
      rw [hrow.cellAt (i * 128 + j) (by omega), List.getElem?_eq_getElem (by rw [hl]; omega)]; rfl
theorem FileAt.write (h : FileAt w base d cs t o A c m f) {i g : Nat} (hi : i < f.now.length) (hA : A = some ⟨g, 0, none⟩) {s : Sec} (hs : s.length = 128) :
    FileAt (w.setCells g (i * 128) (secC s)) base d cs t o A c m { f with now := f.now.set i s } ∧ Below base w (w.setCells g (i * 128) (secC s)) ∧ Fr (fun k => k = g) w (w.setCells g (i * 128) (secC s)) := by
  subst hA
  have hown : (Value.slice (some ⟨g, 0, none⟩) f.now.length c).ownBlock = some g := rfl
  have hne := h.ne.2 g hown
  have hfr : Fr (fun k => k = g) w (w.setCells g (i * 128) (secC s)) := fr_setCells (S := fun k => k = g) rfl _ _ (Fr.refl _ w)
  have hg : base ≤ g := (own_block h.row g hown).1
  refine ⟨⟨(hfr.block d (Array.getElem?_eq_some_iff.1 h.own).1 (fun e => hne.1 e.symm)).trans h.own, by rw [List.length_set]; exact h.c0, h.c1, h.c2, ?_, h.map.kept hfr (fun e => hne.2 e.symm), Whole.set h.len i hs, h.low, h.ty⟩, below_setCells hg _ _ (Below.refl _ w), hfr⟩
  show World.ownsRow _ base _ 128 (.slice _ (f.now.set i s).length c) (f.now.set i s).length ((f.now.set i s).flatMap secC)
  rw [List.length_set, ← setL_flat h.len hi hs]
  exact own_setCells _ _ h.row
theorem FileAt.marked (h : FileAt w base d cs t o A c m f) {L : Olds} (hm : MapS w' m L) (hg : w.grownBy w' (some m)) : FileAt w' base d cs t o A c m { f with old := L } ∧ Below base w w' ∧ Fr (fun k => k = m) w w' := by
  have hfr : Fr (fun k => k = m) w w' := (Fr.of_grown hg).mono (fun k hk => Option.some.inj hk)
  have hne := h.ne
  exact ⟨⟨(hfr.block d (Array.getElem?_eq_some_iff.1 h.own).1 hne.1).trans h.own, h.c0, h.c1, h.c2, hfr.own h.row (fun k hk e => (hne.2 k hk).2 e), hm, h.len, h.low, h.ty⟩,
    (Below.refl base w).grown hg (Nat.le_trans h.low.1 (Nat.le_of_lt (Array.getElem?_eq_some_iff.1 h.own).1)) (fun k hk => by rw [← Option.some.inj hk]; exact h.low.2), hfr⟩
end
theorem upAlD {w w' : World} (h : Up w w') (o : Obj) : Up w (w'.alloc o) := Below.alloc h h.size o
theorem arrayAtS (w : World) (b p cB : Nat) : (Instr.arrayAt 173 (.slice (some ⟨b, p, none⟩) 128 cB)).run Tryz.prog w = .ok (.pointer (some ⟨b, p, none⟩)) w := by
  unfold Instr.arrayAt
  simp [run_underlying secUnder, Sem.run_bind, Result.andThen]
theorem hold_st (t : TypeId) {P : Program} {ops : Array Oper} {Q : Exit → Act → World → Prop} {x y : Operand} {ty : TypeId} {pos : String} {after : Array Edge} {guard : Option (Nat × Bool)} {rest : List Oper} {a : Act} {w : World}
    (h : Hid (wpList P ops Q (⟨none, .store t x y, ty, pos, after, guard⟩ :: rest) a w)) : wpList P ops Q (⟨none, .store t x y, ty, pos, after, guard⟩ :: rest) a w := h
theorem wl_storeNew {ops : Array Oper} {rest : List Oper} {o : Oper} {a : Act} {Q : Exit → Act → World → Prop} {w : World} (hgd : o.guard = none) (x y : Operand) (ho : o.op = .store 173 x y) {s : Sec} (hs : s.length = 128)
    (hx : a.eval x = .pointer (some ⟨w.heap.size, 0, none⟩)) (hy : a.eval y = secV s)
    (h : wpList Tryz.prog ops Q rest (a.put o.dst undef) (w.alloc (.cells (secC s).toArray 173))) : wpList Tryz.prog ops Q (o :: rest) a (w.alloc (.cells Tryz.zeroCells173 173)) := by
  refine wpList_plain hgd fun K hK => ?_
  unfold Oper.wp execOp
  simp only [ho, hx, hy, Sem.run_bind, storeNewZ w s hs, Sem.run_pure, Result.andThen_ok]
  exact hK _ _ h
theorem exec_loadS {ρ : Operand → Value} {o : Oper} {w : World} {x : Operand} {b p : Nat} {s : Sec} (ho : o.op = .load 173 x) (hx : ρ x = .pointer (some ⟨b, p, none⟩)) (h : w.rangeAt b p (secC s)) (hs : s.length = 128) :
    (execOp ρ o).run Tryz.prog w = .ok (.value (secV s)) w := by
  unfold execOp
  simp only [ho, hx, Sem.run_bind, loadS h hs, Sem.run_pure, Result.andThen_ok]
theorem wp_storeS {o : Oper} {a : Act} {w : World} {K : Act → World → Prop} {Q : Exit → Act → World → Prop} (x y : Operand) (ho : o.op = .store 173 x y) {b p : Nat} {s : Sec} (hs : s.length = 128)
    (hx : a.eval x = .pointer (some ⟨b, p, none⟩)) (hy : a.eval y = secV s) (ht : w.there b p 128) (h : K (a.put o.dst undef) (w.setCells b p (secC s))) : o.wp Tryz.prog a w K Q := by
  unfold Oper.wp execOp
  simp only [ho, hx, hy, Sem.run_bind, storeS ht hs, Sem.run_pure, Result.andThen_ok]
  exact h
end Go.Proofs.YtbcghggkfnagoaaGreatDoor

namespace Go.Proofs.YtbcghggkfnagoaaGreatDoor
open Go Go.RowKit Go.Maps Hach

def PutRes (w : World) (base d : Nat) (cs : Array Value) (t : TypeId) (o : Nat) (A : Option Addr) (c m : Nat) (f f' : FileV) (w' : World) : Prop :=
  ∃ A' c', FileAt w' base d (cs.setIfInBounds o (.slice A' f'.now.length c')) t o A' c' m f' ∧ Below base w w' ∧ Fr (fun k => k = d ∨ k = m ∨ (Value.slice A f.now.length c).ownBlock = some k) w w' ∧
    ((Value.slice A' f'.now.length c').ownBlock = (Value.slice A f.now.length c).ownBlock ∨ ∃ k, w.heap.size ≤ k ∧ (Value.slice A' f'.now.length c').ownBlock = some k)
def DPutRet (w : World) (base d : Nat) (cs : Array Value) (t : TypeId) (o : Nat) (A : Option Addr) (c m : Nat) (f f' : FileV) (en : Ending) (w' : World) : Prop :=
  en = .returned (.tuple #[]) ∧ Hid (PutRes w base d cs t o A c m f f' w')
theorem wf_nat {n : Nat} (h : n < 1000000) : (Lit.int .i64 (n : Int)).wf = true := by unfold Lit.wf; rw [Bool.and_eq_true]; exact ⟨decide_eq_true (by show (-9223372036854775808 : Int) ≤ _; omega), decide_eq_true (by show _ ≤ (9223372036854775807 : Int); omega)⟩
def ByteRow (w : World) (b p : Nat) (s : Sec) : Prop := (∃ cs fr, w.heap[b]? = some (.cells cs 5 fr)) ∧ w.rangeAt b p (secC s)
theorem ByteRow.fr {w w' : World} {b p : Nat} {s : Sec} (h : ByteRow w b p s) {S : Nat → Prop} (hf : Fr S w w') (hS : ¬ S b) : ByteRow w' b p s := by
  obtain ⟨⟨cs, fr, hb⟩, hr⟩ := h
  have e := hf.block b (Array.getElem?_eq_some_iff.1 hb).1 hS
  refine ⟨⟨cs, fr, e.trans hb⟩, fun j v hj => ?_⟩
  have := hr j v hj
  unfold World.cell? at this ⊢
  rw [show (⟨b, p + j, none⟩ : Addr).block = b from rfl] at this ⊢
  rw [e]; exact this
theorem ByteRow.up {w w' : World} {b p : Nat} {s : Sec} (h : ByteRow w b p s) (hu : Up w w') : ByteRow w' b p s := h.fr (Fr.of_below hu) id
theorem ByteRow.ne {w : World} {b p : Nat} {s : Sec} (h : ByteRow w b p s) {base d : Nat} {cs : Array Value} {t : TypeId} {o : Nat} {A : Option Addr} {c m : Nat} {f : FileV} (hf : FileAt w base d cs t o A c m f) : b ≠ d ∧ b ≠ m ∧ (Value.slice A f.now.length c).ownBlock ≠ some b := by
  obtain ⟨⟨cs', fr, hb⟩, _⟩ := h
  refine ⟨?_, ?_, ?_⟩
  · rintro rfl
    have := hf.own; rw [hb] at this
    injection this with this; injection this with _ h2 _
    exact hf.ty8 h2.symm
  · rintro rfl
    obtain ⟨es, clock, hm⟩ := hf.map.isMap
    rw [hm] at hb; cases hb
  · intro hk
    rcases hf.row.2 with ⟨hv, _⟩ | ⟨g, cap, cur, hv, _, hg, _⟩
    · rw [hv] at hk; cases hk
    · rw [hv] at hk
      obtain rfl : g = b := by simpa [Value.ownBlock] using hk
      rw [hg] at hb
      injection hb with hb; injection hb with _ h2 _
      revert h2; decide
theorem ByteRow.lt {w : World} {b p : Nat} {s : Sec} (h : ByteRow w b p s) : b < w.heap.size := by
  obtain ⟨⟨cs, fr, hb⟩, _⟩ := h
  exact (Array.getElem?_eq_some_iff.1 hb).1
def ByteAny (w : World) (b p : Nat) (s : Sec) : Prop := (∃ cs t fr, w.heap[b]? = some (.cells cs t fr) ∧ (t = 5 ∨ t = 172)) ∧ w.rangeAt b p (secC s)
theorem ByteRow.any {w : World} {b p : Nat} {s : Sec} (h : ByteRow w b p s) : ByteAny w b p s := by
  obtain ⟨⟨cs, fr, hb⟩, hr⟩ := h
  exact ⟨⟨cs, _, fr, hb, .inl rfl⟩, hr⟩
theorem ByteAny.lt {w : World} {b p : Nat} {s : Sec} (h : ByteAny w b p s) : b < w.heap.size := by
  obtain ⟨⟨cs, t, fr, hb, _⟩, _⟩ := h
  exact (Array.getElem?_eq_some_iff.1 hb).1
theorem ByteAny.fr {w w' : World} {b p : Nat} {s : Sec} (h : ByteAny w b p s) {S : Nat → Prop} (hf : Fr S w w') (hS : ¬ S b) : ByteAny w' b p s := by
  obtain ⟨⟨cs, t, fr, hb, ht⟩, hr⟩ := h
  have e := hf.block b (Array.getElem?_eq_some_iff.1 hb).1 hS
  refine ⟨⟨cs, t, fr, e.trans hb, ht⟩, fun j v hj => ?_⟩
  have := hr j v hj
  unfold World.cell? at this ⊢
  rw [show (⟨b, p + j, none⟩ : Addr).block = b from rfl] at this ⊢
  rw [e]; exact this
theorem ByteAny.up {w w' : World} {b p : Nat} {s : Sec} (h : ByteAny w b p s) (hu : Up w w') : ByteAny w' b p s := h.fr (Fr.of_below hu) id
theorem ByteAny.ne {w : World} {b p : Nat} {s : Sec} (h : ByteAny w b p s) {base d : Nat} {cs : Array Value} {t : TypeId} {o : Nat} {A : Option Addr} {c m : Nat} {f : FileV} (hf : FileAt w base d cs t o A c m f) : b ≠ d ∧ b ≠ m ∧ (Value.slice A f.now.length c).ownBlock ≠ some b := by
  obtain ⟨⟨cs', t', fr, hb, ht⟩, _⟩ := h
  refine ⟨?_, ?_, ?_⟩
  · rintro rfl
    have := hf.own; rw [hb] at this
    injection this with this; injection this with _ h2 _
    rcases ht with ht | ht
    · exact hf.ty8 (h2.symm.trans ht)
    · exact hf.ty3 (h2.symm.trans ht)
  · rintro rfl
    obtain ⟨es, clock, hm⟩ := hf.map.isMap
    rw [hm] at hb; cases hb
  · intro hk
    rcases hf.row.2 with ⟨hv, _⟩ | ⟨g, cap, cur, hv, _, hg, _⟩
    · rw [hv] at hk; cases hk
    · rw [hv] at hk
      obtain rfl : g = b := by simpa [Value.ownBlock] using hk
      rw [hg] at hb
      injection hb with hb; injection hb with _ h2 _
      rcases ht with ht | ht <;> subst ht <;> revert h2 <;> decide
theorem set_same {cs : Array Value} {o : Nat} {v : Value} (h : cs[o]? = some v) : cs.setIfInBounds o v = cs := by
  refine Array.ext_getElem? (fun i => ?_)
  rw [Array.getElem?_setIfInBounds]
  split
  · rename_i e; subst e; rw [h]; simp [(Array.getElem?_eq_some_iff.1 h).1]
  · rfl
theorem getL_len {f : FileV} (h : FileOk f) (i : Int) : ((getL f.old i).getD zeroS).length = 128 := by
  unfold getL
  cases hf : List.find? (fun p : Int × Sec => decide (p.1 = i)) f.old with
  | none => exact zeroS_len
  | some p => exact h.old p (List.mem_of_find?_eq_some hf)
theorem FileAt.bs {w : World} {base d o m c : Nat} {cs : Array Value} {t : TypeId} {A : Option Addr} {f : FileV} (h : FileAt w base d cs t o A c m f) : base ≤ w.heap.size := Nat.le_trans h.low.1 (Nat.le_of_lt (Array.getElem?_eq_some_iff.1 h.own).1)
theorem PutRes.last {w W : World} {base d : Nat} {cs : Array Value} {t : TypeId} {o : Nat} {A : Option Addr} {c m : Nat} {f g : FileV} {A' : Option Addr} {c' g7 i : Nat} {s : Sec}
    (hf : FileAt W base d (cs.setIfInBounds o (.slice A' g.now.length c')) t o A' c' m g) (hi : i < g.now.length) (hA : A' = some ⟨g7, 0, none⟩) (hs : s.length = 128) (hb : Below base w W) (hr : Fr (fun k => k = d ∨ k = m ∨ (Value.slice A f.now.length c).ownBlock = some k) w W)
    (ho : (Value.slice A' g.now.length c').ownBlock = (Value.slice A f.now.length c).ownBlock ∨ ∃ k, w.heap.size ≤ k ∧ (Value.slice A' g.now.length c').ownBlock = some k) :
    PutRes w base d cs t o A c m f { g with now := g.now.set i s } (W.setCells g7 (i * 128) (secC s)) := by
  obtain ⟨h1, h2, h3⟩ := hf.write hi hA hs
  have hown : (Value.slice A' g.now.length c').ownBlock = some g7 := by rw [hA]; rfl
  refine ⟨A', c', by rw [List.length_set]; exact h1, hb.trans h2, ?_, by rw [List.length_set]; exact ho⟩
  refine hr.trans h3 (fun k hk e => ?_)
  rcases ho with ho | ⟨k', hk', ho⟩
  · exact .inr (.inr (by rw [← ho, hown, e]))
  · rw [hown] at ho
    have := Option.some.inj ho
    omega
set_option maxRecDepth 100000 in
set_option maxHeartbeats 2000000 in
theorem putDirty_calls (w : World) (base d : Nat) (cs : Array Value) (t : TypeId) (o : Nat) (A : Option Addr) (c m : Nat) (f : FileV) (i : Nat) (s : Sec) (bb bp cB : Nat) (h : Hid (FileAt w base d cs t o A c m f)) (hok : Hid (FileOk f)) (hi : Hid (i < f.now.length ∧ f.now.length < 1000000)) (hd : Hid ((getL f.old i).isSome = true))
    (hs : Hid (s.length = 128)) (hb : Hid (ByteAny w bb bp s)) :
    Calls Tryz.prog 173 #[.pointer (some ⟨d, o, none⟩), .int .i64 i, .slice (some ⟨bb, bp, none⟩) 128 cB] w (DPutRet w base d cs t o A c m f { f with now := f.now.set i s }) := by
  have BR := hb
  obtain ⟨g7, hA, _, _, _, hown⟩ := h.out.sec hi.out.1
  obtain ⟨k0, k1, k2⟩ := h.out.cell0
  have hlook := h.out.map.look (wf_nat (n := i) (by have := hi.out; omega))
  rw [hd.out] at hlook
  have SO : Hid (((getL f.old i).getD zeroS).length = 128) := hid (getL_len hok.out i)
  generalize (getL f.old i).getD zeroS = so at hlook SO
  obtain ⟨n7, hn⟩ : ∃ z, f.now.length = z := ⟨_, rfl⟩
  rw [hn] at k0
  have N7 := hid hn
  have hne : ¬ (i : Int) = (n7 : Int) := by have := hi.out; omega
  have hlt : (i : Int) < (n7 : Int) := by have := hi.out; omega
  have hltn : i < n7 := by have := hi.out; omega
  subst hA
  clear hn hown
  go_enter Tryz.func173, Tryz.ntmps173
  go_wp2_with (refine hold_st 173 ?_; refine hold ?_)
  refine hid (wl_storeNew rfl _ _ rfl SO.out rfl rfl ?_)
  have uA : Up w (w.alloc (.cells (secC so).toArray 173)) := upAlD (Up.refl _) _
  go_wp2
  generalize hwA : w.alloc (.cells (secC so).toArray 173) = W7 at *
  have UA := hid uA
  clear hwA uA
  have F7 := hid (show FileAt W7 base d (cs.setIfInBounds o (.slice (some ⟨g7, 0, none⟩) f.now.length c)) t o (some ⟨g7, 0, none⟩) c m f from by rw [set_same h.out.c0]; exact h.out.up UA.out)
  have B7 := hid (UA.out.mono h.out.bs)
  have R7 := hid (show Fr (fun k => k = d ∨ k = m ∨ (Value.slice (some ⟨g7, 0, none⟩) f.now.length c).ownBlock = some k) w W7 from (Fr.of_below UA.out).mono (fun _ e => e.elim))
  have O7 := hid (show (Value.slice (some ⟨g7, 0, none⟩) f.now.length c).ownBlock = (Value.slice (some ⟨g7, 0, none⟩) f.now.length c).ownBlock ∨ ∃ k, w.heap.size ≤ k ∧ (Value.slice (some ⟨g7, 0, none⟩) f.now.length c).ownBlock = some k from .inl rfl)
  have I7 := hid hi.out.1
  have BR7 := hid (BR.out.up UA.out)
  have k7 : W7.cell? ⟨d, o, none⟩ = some (.slice (some ⟨g7, 0, none⟩) n7 c) := UA.out.c k0
  clear k0 k1 k2 hlook
  have US : W7.drew.cell? ⟨d, o, none⟩ = some (.slice (some ⟨g7, 0, none⟩) n7 c) ∧ W7.drew.rangeAt bb bp (secC s) := ⟨k7, (BR7.out.up (Up.drew W7)).2⟩
  have F7d := hid (F7.out.up (Up.drew W7))
  have TH : Hid (W7.drew.there g7 (i * 128) 128) := by
    obtain ⟨g8, e8, _, h8, _, _⟩ := F7d.out.sec I7.out
    injection e8 with e8
    injection e8 with e8 _ _
    subst e8
    exact hid h8
  have AT := fun W => arrayAtS W bb bp cB
  refine t_start (fun w9 => w9.cell? ⟨d, o, none⟩ = some (.slice (some ⟨g7, 0, none⟩) n7 c) ∧ w9.rangeAt bb bp (secC s)) 9 (by kernel_rfl) ?_
  refine t_tk 0 60 (v := ?_) US (fun w9 hS => ?_) ?_
  rotate_left
  · go_simp <;> with_reducible rfl
  try simp only [pz]
  refine t_tk 1 61 (v := ?_) US (fun w9 hS => ?_) ?_
  rotate_left
  · go_simp <;> with_reducible rfl
  try simp only [pz]
  refine t_tk 2 62 (v := ?_) US (fun w9 hS => ?_) ?_
  rotate_left
  · go_simp <;> with_reducible rfl
  try simp only [pz]
  refine t_tk 3 63 (v := ?_) US (fun w9 hS => ?_) ?_
  rotate_left
  · obtain ⟨s0, _⟩ := hS; go_simp <;> with_reducible rfl
  try simp only [pz]
  refine t_tk 4 64 (v := ?_) US (fun w9 hS => ?_) ?_
  rotate_left
  · go_simp <;> with_reducible rfl
  try simp only [pz]
  refine t_tk 5 65 (v := ?_) US (fun w9 hS => ?_) ?_
  rotate_left
  · go_simp <;> with_reducible rfl
  try simp only [pz]
  refine t_tk 6 66 (v := ?_) US (fun w9 hS => ?_) ?_
  rotate_left
  · go_simp <;> with_reducible rfl
  try simp only [pz]
  refine t_tk 7 67 (v := ?_) US (fun w9 hS => ?_) ?_
  rotate_left
  · (refine exec_loadS (x := .tmp 66) ?_ ?_ hS.2 hs.out <;> rfl)
  try simp only [pz]
  refine t_tk 8 68 (v := ?_) US (fun w9 hS => ?_) ?_
  rotate_left
  · go_simp <;> with_reducible rfl
  try simp only [pz]
  refine t_last (by kernel_rfl) rfl (by rfl) (fun K9 hK9 => ?_)
  refine wp_storeS (.tmp 68) (.tmp 67) rfl hs.out rfl rfl TH.out ?_
  refine hK9.out _ _ ?_
  clear hK9 K9
  try simp only [pz]
  refine t_done (by kernel_rfl) ?_
  first | (rename_i K1 h1; refine h1 _ _ ?_; clear h1 K1) | skip
  have RES := hid (PutRes.last (i := i) (s := s) F7d.out I7.out rfl hs.out (B7.out.trans (Below.mono (Up.drew W7) (Nat.le_trans F7.out.bs (Nat.le_refl _)))) (R7.out.trans (Fr.of_below (Up.drew W7)) (fun _ _ e => e.elim)) O7.out)
  clear US TH F7 F7d
  go_wp2
  go_end0
  exact ⟨rfl, RES⟩
theorem keep_insL (k : Int) (a : Sec) (L : Olds) : (insL (k, a) L).filter (keep k) = L.filter (keep k) := by
  have hk : keep k (k, a) = false := by simp [keep]
  induction L with
  | nil => simp [insL, hk]
  | cons y r ih =>
    unfold insL
    split
    · rw [List.filter_cons, hk]; rfl
    · rw [List.filter_cons, List.filter_cons, ih]
theorem putL_twice (L : Olds) (k : Int) (a b : Sec) : putL (putL L k a) k b = putL L k b := by
  unfold putL
  rw [keep_insL, List.filter_filter]
  congr 2
  funext p
  rw [Bool.and_self]
theorem insL_length (x : Int × Sec) (L : Olds) : (insL x L).length = L.length + 1 := by
  induction L with
  | nil => rfl
  | cons y r ih =>
    unfold insL
    split
    · rfl
    · rw [List.length_cons, ih]; rfl
theorem putL_length (L : Olds) (k : Int) (a : Sec) : (putL L k a).length ≤ L.length + 1 := by
  unfold putL
  rw [insL_length]
  have := List.length_filter_le (keep k) L
  omega
theorem secV_zero : secV zeroS = .agg Tryz.zeroCells173 := by unfold secV; rw [zeroC]
set_option maxRecDepth 100000 in
set_option maxHeartbeats 2000000 in
theorem putFresh_calls (w : World) (base d : Nat) (cs : Array Value) (t : TypeId) (o : Nat) (A : Option Addr) (c m : Nat) (f : FileV) (i : Nat) (s : Sec) (bb bp cB : Nat) (h : Hid (FileAt w base d cs t o A c m f)) (hok : Hid (FileOk f)) (hi : Hid (i < f.now.length ∧ f.now.length < 1000000 ∧ f.old.length < 999999)) (hd : Hid (getL f.old i = none)) (hsu : Hid (¬ i < f.sure))
    (hs : Hid (s.length = 128)) (hb : Hid (ByteAny w bb bp s)) :
    Calls Tryz.prog 173 #[.pointer (some ⟨d, o, none⟩), .int .i64 i, .slice (some ⟨bb, bp, none⟩) 128 cB] w (DPutRet w base d cs t o A c m f { f with now := f.now.set i s, old := putL f.old i zeroS }) := by
  have BR := hb
  obtain ⟨g7, hA, gr, gt, _, hown⟩ := h.out.sec hi.out.1
  have GR := hid gr
  obtain ⟨k0, k1, k2⟩ := h.out.cell0
  have hlook := h.out.map.look (wf_nat (n := i) (by have := hi.out; omega))
  rw [hd.out] at hlook
  simp only [Option.getD_none, Option.isSome_none] at hlook
  obtain ⟨n7, hn⟩ : ∃ z, f.now.length = z := ⟨_, rfl⟩
  rw [hn] at k0
  have N7 := hid hn
  have hne : ¬ (i : Int) = (n7 : Int) := by have := hi.out; omega
  have hlt : (i : Int) < (n7 : Int) := by have := hi.out; omega
  have hltn : i < n7 := by have := hi.out; omega
  subst hA
  clear hown gr gt
  obtain ⟨su, hsu2⟩ : ∃ z, f.sure = z := ⟨_, rfl⟩
  rw [hsu2] at k2
  have HSU := hid hsu2
  have F1 := h
  have I1 := hid (show i < 1000000 from by have := hi.out; omega)
  have OL := hid (show f.old.length < 1000000 from by have := hi.out; omega)
  have B1 := hid (Below.refl base w)
  have R1 := hid (show Fr (fun k => k = d ∨ k = m ∨ (Value.slice (some ⟨g7, 0, none⟩) f.now.length c).ownBlock = some k) w w from Fr.refl _ w)
  have hsn : ¬ (i : Int) < (su : Int) := by have h1 := hsu.out; have h2 := HSU.out; omega
  go_enter Tryz.func173, Tryz.ntmps173
  go_wp2_with (refine hold_st 173 ?_; refine hold ?_)
  refine hid (wl_storeNew rfl _ _ rfl zeroS_len rfl rfl ?_)
  have uA : Up w (w.alloc (.cells (secC zeroS).toArray 173)) := upAlD (Up.refl _) _
  generalize hwA : w.alloc (.cells (secC zeroS).toArray 173) = Wa at *
  have UA := hid uA
  clear hwA uA hlook
  have Fa := hid (F1.out.up UA.out)
  obtain ⟨W2, hupd, m2, gr2⟩ := Fa.out.map.put zeroS (wf_nat (n := i) (by have := I1.out; omega)) OL.out
  rw [secV_zero] at hupd
  obtain ⟨f2, b2, r2⟩ := Fa.out.marked m2 gr2
  have F2 := hid f2
  have B2 := hid (B1.out.trans ((UA.out.mono F1.out.bs).trans b2))
  have RA := hid r2
  have R2 := hid (R1.out.trans (((Fr.of_below UA.out).mono (T := fun k => k = m) (fun _ e => e.elim)).trans' r2) (fun _ _ e => .inr (.inl e)))
  obtain ⟨k0a, k1a, k2a⟩ := Fa.out.cell0
  obtain ⟨k0b, k1b, k2b⟩ := f2.cell0
  rw [hn] at k0a k0b
  clear m2 gr2 f2 b2 r2
  rw [hsu2] at k2a k2b
  have hbn := (BR.out.up UA.out).ne Fa.out
  have BR2 := hid ((BR.out.up UA.out).fr RA.out hbn.2.1)
  clear hbn hsu2
  clear hn
  go_wp2
  clear hupd k0 k1 k2 k0a k1a k2a k1b k2b
  have FX := F2
  have BX := B2
  have RX := R2
  have BR7 := BR2
  clear Fa UA RA F1 B1 R1
  have k7 := k0b
  have I7 := hid (show i < ({ f with old := putL f.old i zeroS }).now.length from hi.out.1)
  have F7 := hid (show FileAt W2 base d (cs.setIfInBounds o (.slice (some ⟨g7, 0, none⟩) ({ f with old := putL f.old i zeroS }).now.length c)) t o (some ⟨g7, 0, none⟩) c m ({ f with old := putL f.old i zeroS }) from by have := FX.out; rw [← set_same h.out.c0] at this; exact this)
  have B7 := BX
  have R7 := RX
  have O7 := hid (show (Value.slice (some ⟨g7, 0, none⟩) f.now.length c).ownBlock = (Value.slice (some ⟨g7, 0, none⟩) f.now.length c).ownBlock ∨ ∃ k, w.heap.size ≤ k ∧ (Value.slice (some ⟨g7, 0, none⟩) f.now.length c).ownBlock = some k from .inl rfl)
  generalize W2 = W7 at *
  have US : W7.drew.cell? ⟨d, o, none⟩ = some (.slice (some ⟨g7, 0, none⟩) n7 c) ∧ W7.drew.rangeAt bb bp (secC s) := ⟨k7, (BR7.out.up (Up.drew W7)).2⟩
  have F7d := hid (F7.out.up (Up.drew W7))
  have TH : Hid (W7.drew.there g7 (i * 128) 128) := by
    obtain ⟨g8, e8, _, h8, _, _⟩ := F7d.out.sec I7.out
    injection e8 with e8
    injection e8 with e8 _ _
    subst e8
    exact hid h8
  have AT := fun W => arrayAtS W bb bp cB
  refine t_start (fun w9 => w9.cell? ⟨d, o, none⟩ = some (.slice (some ⟨g7, 0, none⟩) n7 c) ∧ w9.rangeAt bb bp (secC s)) 9 (by kernel_rfl) ?_
  refine t_tk 0 60 (v := ?_) US (fun w9 hS => ?_) ?_
  rotate_left
  · go_simp <;> with_reducible rfl
  try simp only [pz]
  refine t_tk 1 61 (v := ?_) US (fun w9 hS => ?_) ?_
  rotate_left
  · go_simp <;> with_reducible rfl
  try simp only [pz]
  refine t_tk 2 62 (v := ?_) US (fun w9 hS => ?_) ?_
  rotate_left
  · go_simp <;> with_reducible rfl
  try simp only [pz]
  refine t_tk 3 63 (v := ?_) US (fun w9 hS => ?_) ?_
  rotate_left
  · obtain ⟨s0, _⟩ := hS; go_simp <;> with_reducible rfl
  try simp only [pz]
  refine t_tk 4 64 (v := ?_) US (fun w9 hS => ?_) ?_
  rotate_left
  · go_simp <;> with_reducible rfl
  try simp only [pz]
  refine t_tk 5 65 (v := ?_) US (fun w9 hS => ?_) ?_
  rotate_left
  · go_simp <;> with_reducible rfl
  try simp only [pz]
  refine t_tk 6 66 (v := ?_) US (fun w9 hS => ?_) ?_
  rotate_left
  · go_simp <;> with_reducible rfl
  try simp only [pz]
  refine t_tk 7 67 (v := ?_) US (fun w9 hS => ?_) ?_
  rotate_left
  · (refine exec_loadS (x := .tmp 66) ?_ ?_ hS.2 hs.out <;> rfl)
  try simp only [pz]
  refine t_tk 8 68 (v := ?_) US (fun w9 hS => ?_) ?_
  rotate_left
  · go_simp <;> with_reducible rfl
  try simp only [pz]
  refine t_last (by kernel_rfl) rfl (by rfl) (fun K9 hK9 => ?_)
  refine wp_storeS (.tmp 68) (.tmp 67) rfl hs.out rfl rfl TH.out ?_
  refine hK9.out _ _ ?_
  clear hK9 K9
  try simp only [pz]
  refine t_done (by kernel_rfl) ?_
  first | (rename_i K1 h1; refine h1 _ _ ?_; clear h1 K1) | skip
  have RES := hid (PutRes.last (i := i) (s := s) F7d.out I7.out rfl hs.out (B7.out.trans (Below.mono (Up.drew W7) (Nat.le_trans F7.out.bs (Nat.le_refl _)))) (R7.out.trans (Fr.of_below (Up.drew W7)) (fun _ _ e => e.elim)) O7.out)
  clear US TH F7 F7d
  go_wp2
  go_end0
  exact ⟨rfl, RES⟩
set_option maxRecDepth 100000 in
set_option maxHeartbeats 2000000 in
theorem dputOld_calls (w : World) (base d : Nat) (cs : Array Value) (t : TypeId) (o : Nat) (A : Option Addr) (c m : Nat) (f : FileV) (i : Nat) (s : Sec) (bb bp cB : Nat) (h : Hid (FileAt w base d cs t o A c m f)) (hok : Hid (FileOk f)) (hi : Hid (i < f.now.length ∧ f.now.length < 1000000 ∧ f.old.length < 999999)) (hd : Hid (getL f.old i = none)) (hsu : Hid (i < f.sure))
    (hs : Hid (s.length = 128)) (hb : Hid (ByteAny w bb bp s)) :
    Calls Tryz.prog 173 #[.pointer (some ⟨d, o, none⟩), .int .i64 i, .slice (some ⟨bb, bp, none⟩) 128 cB] w (DPutRet w base d cs t o A c m f { f with now := f.now.set i s, old := putL f.old i (f.now[i]'hi.out.1) }) := by
  have BR := hb
  obtain ⟨g7, hA, gr, gt, _, hown⟩ := h.out.sec hi.out.1
  have GR := hid gr
  obtain ⟨k0, k1, k2⟩ := h.out.cell0
  have hlook := h.out.map.look (wf_nat (n := i) (by have := hi.out; omega))
  rw [hd.out] at hlook
  simp only [Option.getD_none, Option.isSome_none] at hlook
  obtain ⟨n7, hn⟩ : ∃ z, f.now.length = z := ⟨_, rfl⟩
  rw [hn] at k0
  have N7 := hid hn
  have hne : ¬ (i : Int) = (n7 : Int) := by have := hi.out; omega
  have hlt : (i : Int) < (n7 : Int) := by have := hi.out; omega
  have hltn : i < n7 := by have := hi.out; omega
  subst hA
  clear hown gr gt
  obtain ⟨su, hsu2⟩ : ∃ z, f.sure = z := ⟨_, rfl⟩
  rw [hsu2] at k2
  have HSU := hid hsu2
  have F1 := h
  have I1 := hid (show i < 1000000 from by have := hi.out; omega)
  have OL := hid (show f.old.length < 1000000 from by have := hi.out; omega)
  have B1 := hid (Below.refl base w)
  have R1 := hid (show Fr (fun k => k = d ∨ k = m ∨ (Value.slice (some ⟨g7, 0, none⟩) f.now.length c).ownBlock = some k) w w from Fr.refl _ w)
  have hsn : (i : Int) < (su : Int) := by have h1 := hsu.out; have h2 := HSU.out; omega
  go_enter Tryz.func173, Tryz.ntmps173
  go_wp2_with (refine hold_st 173 ?_; refine hold ?_)
  refine hid (wl_storeNew rfl _ _ rfl zeroS_len rfl rfl ?_)
  have uA : Up w (w.alloc (.cells (secC zeroS).toArray 173)) := upAlD (Up.refl _) _
  generalize hwA : w.alloc (.cells (secC zeroS).toArray 173) = Wa at *
  have UA := hid uA
  clear hwA uA hlook
  have Fa := hid (F1.out.up UA.out)
  obtain ⟨W2, hupd, m2, gr2⟩ := Fa.out.map.put zeroS (wf_nat (n := i) (by have := I1.out; omega)) OL.out
  rw [secV_zero] at hupd
  obtain ⟨f2, b2, r2⟩ := Fa.out.marked m2 gr2
  have F2 := hid f2
  have B2 := hid (B1.out.trans ((UA.out.mono F1.out.bs).trans b2))
  have RA := hid r2
  have R2 := hid (R1.out.trans (((Fr.of_below UA.out).mono (T := fun k => k = m) (fun _ e => e.elim)).trans' r2) (fun _ _ e => .inr (.inl e)))
  obtain ⟨k0a, k1a, k2a⟩ := Fa.out.cell0
  obtain ⟨k0b, k1b, k2b⟩ := f2.cell0
  rw [hn] at k0a k0b
  clear m2 gr2 f2 b2 r2
  rw [hsu2] at k2a k2b
  have hbn := (BR.out.up UA.out).ne Fa.out
  have BR2 := hid ((BR.out.up UA.out).fr RA.out hbn.2.1)
  clear hbn hsu2
  clear hn
  go_wp2
  clear hupd k0 k1 k2 k0a k1a k2a
  have F2d := hid (F2.out.up (Up.drew W2))
  have SNL := hid (h.out.len _ (List.getElem_mem hi.out.1))
  obtain ⟨g8, e8, r8, _, _, _⟩ := F2d.out.sec (i := i) hi.out.1
  injection e8 with e8
  injection e8 with e8 _ _
  subst e8
  generalize hsnn : f.now[i]'hi.out.1 = sn at *
  have SN := hid (show sn.length = 128 from SNL.out)
  have HSN := hid hsnn
  obtain ⟨W3, hupd, m3, gr3⟩ := F2d.out.map.put sn (wf_nat (n := i) (by have := I1.out; omega)) (show (putL f.old i zeroS).length < 1000000 from by have := putL_length f.old i zeroS; have := hi.out; omega)
  obtain ⟨f3, b3, r3⟩ := F2d.out.marked m3 gr3
  rw [putL_twice] at f3
  have hbn := (BR2.out.up (Up.drew W2)).ne F2d.out
  have BR7 := hid ((BR2.out.up (Up.drew W2)).fr r3 hbn.2.1)
  have FX := hid f3
  have BX := hid (B2.out.trans ((Below.mono (Up.drew W2) F2.out.bs).trans b3))
  have RX := hid (R2.out.trans (((Fr.of_below (Up.drew W2)).mono (T := fun k => k = m) (fun _ e => e.elim)).trans' r3) (fun _ _ e => .inr (.inl e)))
  have k0c := f3.cell0.1
  rw [show ({ f with old := putL f.old i sn } : FileV).now.length = n7 from N7.out] at k0c
  clear hbn m3 gr3 f3 b3 r3 hsnn SNL
  have US : W2.drew.cell? ⟨d, o + 1, none⟩ = some (.map (some m)) ∧ W2.drew.cell? ⟨d, o, none⟩ = some (.slice (some ⟨g7, 0, none⟩) n7 c) ∧ W2.drew.rangeAt g7 (i * 128) (secC sn) := ⟨k1b, k0b, r8⟩
  refine t_start (fun w9 => w9.cell? ⟨d, o + 1, none⟩ = some (.map (some m)) ∧ w9.cell? ⟨d, o, none⟩ = some (.slice (some ⟨g7, 0, none⟩) n7 c) ∧ w9.rangeAt g7 (i * 128) (secC sn)) 12 (by kernel_rfl) ?_
  refine t_tk 0 48 (v := ?_) US (fun w9 hS => ?_) ?_
  rotate_left
  · go_simp <;> with_reducible rfl
  try simp only [pz]
  refine t_tk 1 49 (v := ?_) US (fun w9 hS => ?_) ?_
  rotate_left
  · go_simp <;> with_reducible rfl
  try simp only [pz]
  refine t_tk 2 50 (v := ?_) US (fun w9 hS => ?_) ?_
  rotate_left
  · go_simp <;> with_reducible rfl
  try simp only [pz]
  refine t_tk 3 51 (v := ?_) US (fun w9 hS => ?_) ?_
  rotate_left
  · obtain ⟨s1, _⟩ := hS; go_simp <;> with_reducible rfl
  try simp only [pz]
  refine t_tk 4 52 (v := ?_) US (fun w9 hS => ?_) ?_
  rotate_left
  · go_simp <;> with_reducible rfl
  try simp only [pz]
  refine t_tk 5 53 (v := ?_) US (fun w9 hS => ?_) ?_
  rotate_left
  · go_simp <;> with_reducible rfl
  try simp only [pz]
  refine t_tk 6 54 (v := ?_) US (fun w9 hS => ?_) ?_
  rotate_left
  · go_simp <;> with_reducible rfl
  try simp only [pz]
  refine t_tk 7 55 (v := ?_) US (fun w9 hS => ?_) ?_
  rotate_left
  · go_simp <;> with_reducible rfl
  try simp only [pz]
  refine t_tk 8 56 (v := ?_) US (fun w9 hS => ?_) ?_
  rotate_left
  · obtain ⟨_, s1, _⟩ := hS; go_simp <;> with_reducible rfl
  try simp only [pz]
  refine t_tk 9 57 (v := ?_) US (fun w9 hS => ?_) ?_
  rotate_left
  · go_simp <;> with_reducible rfl
  try simp only [pz]
  refine t_tk 10 58 (v := ?_) US (fun w9 hS => ?_) ?_
  rotate_left
  · go_simp <;> with_reducible rfl
  try simp only [pz]
  refine t_tk 11 59 (v := ?_) US (fun w9 hS => ?_) ?_
  rotate_left
  · (refine exec_loadS (x := .tmp 58) ?_ ?_ hS.2.2 SN.out <;> rfl)
  try simp only [pz]
  refine t_last (by kernel_rfl) rfl (by rfl) (fun K9 hK9 => ?_)
  go_simp
  refine hK9.out _ _ ?_
  clear hK9 K9
  try simp only [pz]
  refine t_done (by kernel_rfl) ?_
  rename_i K1 h1
  first | (refine h1 _ _ ?_; clear h1 K1) | skip
  clear US hupd k0b k1b k2b r8
  go_wp2
  clear Fa UA RA F1 B1 R1 F2 F2d R2 B2 BR2
  have k7 := k0c
  have I7 := hid (show i < ({ f with old := putL f.old i sn }).now.length from hi.out.1)
  have F7 := hid (show FileAt W3 base d (cs.setIfInBounds o (.slice (some ⟨g7, 0, none⟩) ({ f with old := putL f.old i sn }).now.length c)) t o (some ⟨g7, 0, none⟩) c m ({ f with old := putL f.old i sn }) from by have := FX.out; rw [← set_same h.out.c0] at this; exact this)
  have B7 := BX
  have R7 := RX
  have O7 := hid (show (Value.slice (some ⟨g7, 0, none⟩) f.now.length c).ownBlock = (Value.slice (some ⟨g7, 0, none⟩) f.now.length c).ownBlock ∨ ∃ k, w.heap.size ≤ k ∧ (Value.slice (some ⟨g7, 0, none⟩) f.now.length c).ownBlock = some k from .inl rfl)
  generalize W3 = W7 at *
  have US : W7.drew.cell? ⟨d, o, none⟩ = some (.slice (some ⟨g7, 0, none⟩) n7 c) ∧ W7.drew.rangeAt bb bp (secC s) := ⟨k7, (BR7.out.up (Up.drew W7)).2⟩
  have F7d := hid (F7.out.up (Up.drew W7))
  have TH : Hid (W7.drew.there g7 (i * 128) 128) := by
    obtain ⟨g8, e8, _, h8, _, _⟩ := F7d.out.sec I7.out
    injection e8 with e8
    injection e8 with e8 _ _
    subst e8
    exact hid h8
  have AT := fun W => arrayAtS W bb bp cB
  refine t_start (fun w9 => w9.cell? ⟨d, o, none⟩ = some (.slice (some ⟨g7, 0, none⟩) n7 c) ∧ w9.rangeAt bb bp (secC s)) 9 (by kernel_rfl) ?_
  refine t_tk 0 60 (v := ?_) US (fun w9 hS => ?_) ?_
  rotate_left
  · go_simp <;> with_reducible rfl
  try simp only [pz]
  refine t_tk 1 61 (v := ?_) US (fun w9 hS => ?_) ?_
  rotate_left
  · go_simp <;> with_reducible rfl
  try simp only [pz]
  refine t_tk 2 62 (v := ?_) US (fun w9 hS => ?_) ?_
  rotate_left
  · go_simp <;> with_reducible rfl
  try simp only [pz]
  refine t_tk 3 63 (v := ?_) US (fun w9 hS => ?_) ?_
  rotate_left
  · obtain ⟨s0, _⟩ := hS; go_simp <;> with_reducible rfl
  try simp only [pz]
  refine t_tk 4 64 (v := ?_) US (fun w9 hS => ?_) ?_
  rotate_left
  · go_simp <;> with_reducible rfl
  try simp only [pz]
  refine t_tk 5 65 (v := ?_) US (fun w9 hS => ?_) ?_
  rotate_left
  · go_simp <;> with_reducible rfl
  try simp only [pz]
  refine t_tk 6 66 (v := ?_) US (fun w9 hS => ?_) ?_
  rotate_left
  · go_simp <;> with_reducible rfl
  try simp only [pz]
  refine t_tk 7 67 (v := ?_) US (fun w9 hS => ?_) ?_
  rotate_left
  · (refine exec_loadS (x := .tmp 66) ?_ ?_ hS.2 hs.out <;> rfl)
  try simp only [pz]
  refine t_tk 8 68 (v := ?_) US (fun w9 hS => ?_) ?_
  rotate_left
  · go_simp <;> with_reducible rfl
  try simp only [pz]
  refine t_last (by kernel_rfl) rfl (by rfl) (fun K9 hK9 => ?_)
  refine wp_storeS (.tmp 68) (.tmp 67) rfl hs.out rfl rfl TH.out ?_
  refine hK9.out _ _ ?_
  clear hK9 K9
  try simp only [pz]
  refine t_done (by kernel_rfl) ?_
  first | (rename_i K1 h1; refine h1 _ _ ?_; clear h1 K1) | skip
  have RES := hid (PutRes.last (i := i) (s := s) F7d.out I7.out rfl hs.out (B7.out.trans (Below.mono (Up.drew W7) (Nat.le_trans F7.out.bs (Nat.le_refl _)))) (R7.out.trans (Fr.of_below (Up.drew W7)) (fun _ _ e => e.elim)) O7.out)
  clear US TH F7 F7d
  go_wp2
  go_end0
  have e : ({ f with now := f.now.set i s, old := putL f.old i (f.now[i]'hi.out.1) } : FileV) = { f with now := f.now.set i s, old := putL f.old i sn } := by rw [HSN.out]
  rw [e]
  exact ⟨rfl, RES⟩
theorem bslC (w : World) : (Instr.buildSlice 81 1 #[(0, .agg Tryz.zeroCells173)]).run Tryz.prog w = .ok (.slice (some ⟨w.heap.size, 0, none⟩) 1 1) (w.alloc (.cells Tryz.zeroCells173 173)) := by
  have := bslZ w
  rw [secV_zero, ← zeroC] at this
  exact this
theorem FileAt.grown {w w1 : World} {base d o m c : Nat} {cs : Array Value} {t : TypeId} {A : Option Addr} {f : FileV} (h : FileAt w base d cs t o A c m f) {A1 : Option Addr} {c1 n : Nat} (hn : f.now.length = n)
    (ho : w1.ownsRow base 173 128 (.slice A1 (n + 1) c1) (n + 1) (f.now.flatMap secC ++ secC zeroS)) (hg : w.grownBy w1 (Value.slice A n c).ownBlock) (hd : (Value.slice A1 (n + 1) c1).ownBlock = (Value.slice A n c).ownBlock ∨ (Value.slice A1 (n + 1) c1).ownBlock = some w.heap.size) :
    FileAt (w1.setCell ⟨d, o, none⟩ (.slice A1 (n + 1) c1)) base d (cs.setIfInBounds o (.slice A1 (n + 1) c1)) t o A1 c1 m { f with now := f.now ++ [zeroS] } ∧ Below base w (w1.setCell ⟨d, o, none⟩ (.slice A1 (n + 1) c1)) ∧
      Fr (fun k => k = d ∨ (Value.slice A n c).ownBlock = some k) w (w1.setCell ⟨d, o, none⟩ (.slice A1 (n + 1) c1)) := by
  subst hn
  have hne := h.ne
  have hdlt := (Array.getElem?_eq_some_iff.1 h.own).1
  have f1 : Fr (fun k => (Value.slice A f.now.length c).ownBlock = some k) w w1 := (Fr.of_grown hg).mono (fun k hk => hk.symm)
  have d1 : w1.heap[d]? = some (.cells cs t (0, 0)) := (f1.block d hdlt (fun e => (hne.2 d e).1 rfl)).trans h.own
  have f2 : Fr (fun k => k = d) w1 (w1.setCell ⟨d, o, none⟩ (.slice A1 (f.now.length + 1) c1)) := (Fr.refl (fun k => k = d) w1).setCell (p := ⟨d, o, none⟩) (fun _ => rfl) _
  have hnd : ∀ k, (Value.slice A1 (f.now.length + 1) c1).ownBlock = some k → k ≠ d := fun k hk e => by
    rcases hd with hd | hd
    · exact (hne.2 k (by rw [← hd]; exact hk)).1 e
    · rw [hd] at hk; have := Option.some.inj hk; omega
  have hlen : (f.now ++ [zeroS]).length = f.now.length + 1 := by rw [List.length_append]; rfl
  refine ⟨⟨heap_setCell_same _ d o cs t _ d1, ?_, ?_, ?_, ?_, (h.map.kept f1 (fun e => (hne.2 m e).2 rfl)).kept f2 (fun e => hne.1 e.symm), ?_, h.low, h.ty⟩, ?_, f1.mono (fun k hk => .inr hk) |>.trans f2 (fun _ _ e => .inl e)⟩
  · rw [hlen]; have := (Array.getElem?_eq_some_iff.1 h.c0).1; simp [this]
  · rw [Array.getElem?_setIfInBounds_ne (by omega)]; exact h.c1
  · rw [Array.getElem?_setIfInBounds_ne (by omega)]; exact h.c2
  · show World.ownsRow _ base _ 128 (.slice A1 (f.now ++ [zeroS]).length c1) (f.now ++ [zeroS]).length ((f.now ++ [zeroS]).flatMap secC)
    rw [hlen, List.flatMap_append, show [zeroS].flatMap secC = secC zeroS from by simp]
    exact f2.own ho (fun k hk e => hnd k hk e)
  · intro s hs
    rcases List.mem_append.1 hs with hs | hs
    · exact h.len s hs
    · rw [List.mem_singleton.1 hs]; exact zeroS_len
  · exact ((Below.refl base w).grown hg h.bs (fun k hk => (own_block h.row k hk).1)).setCell (p := ⟨d, o, none⟩) h.low.1 _
set_option maxRecDepth 100000 in
set_option maxHeartbeats 2000000 in
theorem putGrow_calls (w : World) (base d : Nat) (cs : Array Value) (t : TypeId) (o : Nat) (A : Option Addr) (c m : Nat) (f : FileV) (i : Nat) (s : Sec) (bb bp cB : Nat) (h : Hid (FileAt w base d cs t o A c m f)) (hok : Hid (FileOk f)) (hi : Hid (f.now.length = i ∧ f.now.length < 999999 ∧ f.old.length < 999999)) (hd : Hid (getL f.old i = none))
    (hs : Hid (s.length = 128)) (hb : Hid (ByteAny w bb bp s)) :
    Calls Tryz.prog 173 #[.pointer (some ⟨d, o, none⟩), .int .i64 i, .slice (some ⟨bb, bp, none⟩) 128 cB] w (DPutRet w base d cs t o A c m f { f with now := (f.now ++ [zeroS]).set i s, old := putL f.old i zeroS }) := by
  have BR := hb
  obtain ⟨k0, k1, k2⟩ := h.out.cell0
  have hn := hi.out.1
  rw [hn] at k0
  have NI := hid hn
  clear hn
  obtain ⟨su, hsu2⟩ : ∃ z, f.sure = z := ⟨_, rfl⟩
  have HSU := hid hsu2
  clear hsu2
  have I1 := hid (show i < 1000000 from by have := hi.out; omega)
  have OL := hid (show f.old.length < 1000000 from by have := hi.out; omega)
  have BS := bslC
  have HO := hid h.out.row
  go_enter Tryz.func173, Tryz.ntmps173
  go_wp2_with (refine hold_at 22 ?_; refine hold ?_)
  have uB : Up w (w.alloc (.cells Tryz.zeroCells173 173)) := upAlD (Up.refl _) _
  have UB := hid uB
  have Fb := hid (h.out.up uB)
  have oB := Fb.out.row
  rw [NI.out] at oB
  have RB : Rd (w.alloc (.cells Tryz.zeroCells173 173)) (some ⟨w.heap.size, 0, none⟩) (secC zeroS) := by rw [zeroC]; exact Rd.new w _ (0, 0) (secC zeroS)
  have bB := Fb.out.bs
  clear uB
  refine hid (wl_append elemS rfl (.tmp 19) (.tmp 21) rfl rfl oB rfl RB (by rw [secC_length, zeroS_len]) (secC_one _) (by have := I1.out; simp only [maxLen]; omega) (by have := I1.out; omega) bB ?_)
  intro A1 c1 w1 o1 g1 d1
  obtain ⟨f1, b1, r1⟩ := Fb.out.grown NI.out o1 g1 d1
  have kd : w1.cell? ⟨d, o, none⟩ = some (.slice A i c) ∧ w1.frozen? ⟨d, o, none⟩ = false := by
    have hd1 : w1.heap[d]? = some (.cells cs t (0, 0)) := ((Fr.of_grown g1).block d (Array.getElem?_eq_some_iff.1 Fb.out.own).1 (fun e => (Fb.out.ne.2 d (by rw [NI.out]; exact e.symm)).1 rfl)).trans Fb.out.own
    constructor
    · unfold World.cell?; rw [show (⟨d, o, none⟩ : Addr).block = d from rfl, hd1]; have := h.out.c0; rw [NI.out] at this; exact this
    · unfold World.frozen?; rw [show (⟨d, o, none⟩ : Addr).block = d from rfl, hd1]; simp
  obtain ⟨kd0, kd1⟩ := kd
  have hbn := (BR.out.up UB.out).ne Fb.out
  have FG1 := hid f1
  have BG1 := hid ((UB.out.mono h.out.bs).trans b1)
  have RG1 := hid (show Fr (fun k => k = d ∨ k = m ∨ (Value.slice A f.now.length c).ownBlock = some k) w (w1.setCell ⟨d, o, none⟩ (.slice A1 (i + 1) c1)) from ((Fr.of_below UB.out).mono (fun _ e => e.elim)).trans r1 (fun k hk e => by rcases e with e | e; exact .inl e; exact .inr (.inr (by rw [NI.out]; exact e))))
  have BRG := hid ((BR.out.up UB.out).fr r1 (fun e => by rcases e with e | e; exact hbn.1 e; exact hbn.2.2 (by rw [NI.out]; exact e)))
  have OG := hid (show (Value.slice A1 (i + 1) c1).ownBlock = (Value.slice A f.now.length c).ownBlock ∨ ∃ k, w.heap.size ≤ k ∧ (Value.slice A1 (i + 1) c1).ownBlock = some k from by
    rcases d1 with e | e
    · exact .inl (by rw [NI.out]; exact e)
    · exact .inr ⟨_, UB.out.size, e⟩)
  clear f1 b1 r1 o1 g1 d1 oB RB bB hbn k0 k1 k2 Fb
  go_wp2_with (refine hold_at 29 ?_; refine hold ?_)
  clear kd0 kd1
  generalize w1.setCell ⟨d, o, none⟩ (.slice A1 (i + 1) c1) = W1 at *
  obtain ⟨f1, hf1⟩ : ∃ z : FileV, { f with now := f.now ++ [zeroS] } = z := ⟨_, rfl⟩
  rw [hf1] at FG1
  have HF1 := hid hf1
  have N8 := hid (show f1.now.length = i + 1 from by rw [← hf1]; show (f.now ++ [zeroS]).length = i + 1; rw [List.length_append, NI.out]; rfl)
  have OL1 := hid (show f1.old.length < 1000000 from by rw [← hf1]; exact OL.out)
  have hd1 : getL f1.old i = none := by rw [← hf1]; exact hd.out
  have hsu2 : f1.sure = su := by rw [← hf1]; exact HSU.out
  clear hf1
  have hi1 : i < f1.now.length := by rw [N8.out]; omega
  obtain ⟨g7, hA⟩ : ∃ g, A1 = some ⟨g, 0, none⟩ := by obtain ⟨g, h, _⟩ := FG1.out.sec hi1; exact ⟨g, h⟩
  subst hA
  obtain ⟨k0, k1, k2⟩ := FG1.out.cell0
  have hlook := FG1.out.map.look (wf_nat (n := i) I1.out)
  rw [hd1] at hlook
  simp only [Option.getD_none, Option.isSome_none] at hlook
  obtain ⟨n7, hn⟩ : ∃ z, f1.now.length = z := ⟨_, rfl⟩
  rw [hn] at k0
  have N7 := hid hn
  have hlt : (i : Int) < (n7 : Int) := by have := N8.out; omega
  have hltn : i < n7 := by have := N8.out; omega
  rw [hsu2] at k2
  have hsn : ¬ (i : Int) < (su : Int) := by have h1 := hok.out.sure; have h2 := HSU.out; have := NI.out; omega
  have HI1 := hid hi1
  clear hd1 hi1
  have F1 := FG1
  have B1 := BG1
  have R1 := RG1
  have BRw := BRG
  refine hid (hid ?_)
  go_wp2_with (refine hold_st 173 ?_; refine hold ?_)
  refine hid (wl_storeNew rfl _ _ rfl zeroS_len rfl rfl ?_)
  have uA : Up W1 (W1.alloc (.cells (secC zeroS).toArray 173)) := upAlD (Up.refl _) _
  generalize hwA : W1.alloc (.cells (secC zeroS).toArray 173) = Wa at *
  have UA := hid uA
  clear hwA uA hlook
  have Fa := hid (F1.out.up UA.out)
  obtain ⟨W2, hupd, m2, gr2⟩ := Fa.out.map.put zeroS (wf_nat (n := i) (by have := I1.out; omega)) OL1.out
  rw [secV_zero] at hupd
  obtain ⟨f2, b2, r2⟩ := Fa.out.marked m2 gr2
  have F2 := hid f2
  have B2 := hid (B1.out.trans ((UA.out.mono F1.out.bs).trans b2))
  have RA := hid r2
  have R2 := hid (R1.out.trans (((Fr.of_below UA.out).mono (T := fun k => k = m) (fun _ e => e.elim)).trans' r2) (fun _ _ e => .inr (.inl e)))
  obtain ⟨k0a, k1a, k2a⟩ := Fa.out.cell0
  obtain ⟨k0b, k1b, k2b⟩ := f2.cell0
  rw [hn] at k0a k0b
  clear m2 gr2 f2 b2 r2
  rw [hsu2] at k2a k2b
  have hbn := (BRw.out.up UA.out).ne Fa.out
  have BR7 := hid ((BRw.out.up UA.out).fr RA.out hbn.2.1)
  clear hbn hsu2 hn
  go_wp2
  clear hupd k0 k1 k2 k0a k1a k2a k1b k2b
  have k7 := k0b
  have I7 := hid (show i < ({ f1 with old := putL f1.old i zeroS } : FileV).now.length from HI1.out)
  have F7 := hid (show FileAt W2 base d (cs.setIfInBounds o (.slice (some ⟨g7, 0, none⟩) ({ f1 with old := putL f1.old i zeroS } : FileV).now.length c1)) t o (some ⟨g7, 0, none⟩) c1 m { f1 with old := putL f1.old i zeroS } from by have := F2.out; rw [← N8.out] at this; exact this)
  have B7 := B2
  have R7 := R2
  have O7 := hid (show (Value.slice (some ⟨g7, 0, none⟩) f1.now.length c1).ownBlock = (Value.slice A f.now.length c).ownBlock ∨ ∃ k, w.heap.size ≤ k ∧ (Value.slice (some ⟨g7, 0, none⟩) f1.now.length c1).ownBlock = some k from by have := OG.out; rw [← N8.out] at this; exact this)
  clear Fa UA RA F1 B1 R1 F2 R2 B2 BRw FG1 BG1 RG1 BRG OG UB HO
  generalize W2 = W7 at *
  have US : W7.drew.cell? ⟨d, o, none⟩ = some (.slice (some ⟨g7, 0, none⟩) n7 c1) ∧ W7.drew.rangeAt bb bp (secC s) := ⟨k7, (BR7.out.up (Up.drew W7)).2⟩
  have F7d := hid (F7.out.up (Up.drew W7))
  have TH : Hid (W7.drew.there g7 (i * 128) 128) := by
    obtain ⟨g8, e8, _, h8, _, _⟩ := F7d.out.sec I7.out
    injection e8 with e8
    injection e8 with e8 _ _
    subst e8
    exact hid h8
  have AT := fun W => arrayAtS W bb bp cB
  refine t_start (fun w9 => w9.cell? ⟨d, o, none⟩ = some (.slice (some ⟨g7, 0, none⟩) n7 c1) ∧ w9.rangeAt bb bp (secC s)) 9 (by kernel_rfl) ?_
  refine t_tk 0 60 (v := ?_) US (fun w9 hS => ?_) ?_
  rotate_left
  · go_simp <;> with_reducible rfl
  try simp only [pz]
  refine t_tk 1 61 (v := ?_) US (fun w9 hS => ?_) ?_
  rotate_left
  · go_simp <;> with_reducible rfl
  try simp only [pz]
  refine t_tk 2 62 (v := ?_) US (fun w9 hS => ?_) ?_
  rotate_left
  · go_simp <;> with_reducible rfl
  try simp only [pz]
  refine t_tk 3 63 (v := ?_) US (fun w9 hS => ?_) ?_
  rotate_left
  · obtain ⟨s0, _⟩ := hS; go_simp <;> with_reducible rfl
  try simp only [pz]
  refine t_tk 4 64 (v := ?_) US (fun w9 hS => ?_) ?_
  rotate_left
  · go_simp <;> with_reducible rfl
  try simp only [pz]
  refine t_tk 5 65 (v := ?_) US (fun w9 hS => ?_) ?_
  rotate_left
  · go_simp <;> with_reducible rfl
  try simp only [pz]
  refine t_tk 6 66 (v := ?_) US (fun w9 hS => ?_) ?_
  rotate_left
  · go_simp <;> with_reducible rfl
  try simp only [pz]
  refine t_tk 7 67 (v := ?_) US (fun w9 hS => ?_) ?_
  rotate_left
  · (refine exec_loadS (x := .tmp 66) ?_ ?_ hS.2 hs.out <;> rfl)
  try simp only [pz]
  refine t_tk 8 68 (v := ?_) US (fun w9 hS => ?_) ?_
  rotate_left
  · go_simp <;> with_reducible rfl
  try simp only [pz]
  refine t_last (by kernel_rfl) rfl (by rfl) (fun K9 hK9 => ?_)
  refine wp_storeS (.tmp 68) (.tmp 67) rfl hs.out rfl rfl TH.out ?_
  refine hK9.out _ _ ?_
  clear hK9 K9
  try simp only [pz]
  refine t_done (by kernel_rfl) ?_
  first | (rename_i K1 h1; refine h1 _ _ ?_; clear h1 K1) | skip
  have RES := hid (PutRes.last (i := i) (s := s) F7d.out I7.out rfl hs.out (B7.out.trans (Below.mono (Up.drew W7) (Nat.le_trans F7.out.bs (Nat.le_refl _)))) (R7.out.trans (Fr.of_below (Up.drew W7)) (fun _ _ e => e.elim)) O7.out)
  clear US TH F7 F7d
  go_wp2
  go_end0
  have e : ({ f with now := (f.now ++ [zeroS]).set i s, old := putL f.old i zeroS } : FileV) = { f1 with now := f1.now.set i s, old := putL f1.old i zeroS } := by rw [← HF1.out]
  rw [e]
  exact ⟨rfl, RES⟩
end Go.Proofs.YtbcghggkfnagoaaGreatDoor

namespace Go.Proofs.YtbcghggkfnagoaaGreatDoor
open Go Go.RowKit Go.Maps Hach

theorem getL_none {L : Olds} {k : Int} (h : ∀ p ∈ L, p.1 ≠ k) : getL L k = none := by
  unfold getL
  rw [List.find?_eq_none.2 (fun p hp => by simpa using h p hp)]; rfl
theorem dput_calls (w : World) (base d : Nat) (cs : Array Value) (t : TypeId) (o : Nat) (A : Option Addr) (c m : Nat) (f : FileV) (i : Nat) (s : Sec) (bb bp cB : Nat) (h : Hid (FileAt w base d cs t o A c m f)) (hok : Hid (FileOk f)) (hi : Hid (i ≤ f.now.length ∧ f.now.length < 999999 ∧ f.old.length < 999999))
    (hs : Hid (s.length = 128)) (hb : Hid (ByteAny w bb bp s)) :
    Calls Tryz.prog 173 #[.pointer (some ⟨d, o, none⟩), .int .i64 i, .slice (some ⟨bb, bp, none⟩) 128 cB] w (DPutRet w base d cs t o A c m f (putF f i s)) := by
  by_cases hn : i = f.now.length
  · have hd : getL f.old i = none := getL_none (fun p hp => by have := (hok.out.rng p hp).2; omega)
    have e : putF f i s = { f with now := (f.now ++ [zeroS]).set i s, old := putL f.old i zeroS } := by
      unfold putF growF markF oldAt
      have hsu := hok.out.sure
      rw [if_pos hn]
      simp only [hd, Option.isSome_none]
      rw [if_neg (by simp), if_neg (by omega)]
    rw [e]
    exact putGrow_calls w base d cs t o A c m f i s bb bp cB h hok (hid ⟨hn.symm, hi.out.2⟩) (hid hd) hs hb
  · have hlt : i < f.now.length := by have := hi.out; omega
    have g : growF f i = f := by unfold growF; rw [if_neg hn]
    cases hd : getL f.old i with
    | some v =>
      have e : putF f i s = { f with now := f.now.set i s } := by
        unfold putF markF
        rw [g]
        simp only [hd, Option.isSome_some, if_true]
      rw [e]
      exact putDirty_calls w base d cs t o A c m f i s bb bp cB h hok (hid ⟨hlt, by have := hi.out; omega⟩) (hid (by rw [hd]; rfl)) hs hb
    | none =>
      by_cases hsu : i < f.sure
      · have e : putF f i s = { f with now := f.now.set i s, old := putL f.old i (f.now[i]'hlt) } := by
          unfold putF markF oldAt
          rw [g]
          simp only [hd, Option.isSome_none]
          rw [if_neg (by simp), if_pos hsu, List.getElem?_eq_getElem hlt]
          rfl
        rw [e]
        exact dputOld_calls w base d cs t o A c m f i s bb bp cB h hok (hid ⟨hlt, by have := hi.out; omega, hi.out.2.2⟩) (hid hd) (hid hsu) hs hb
      · have e : putF f i s = { f with now := f.now.set i s, old := putL f.old i zeroS } := by
          unfold putF markF oldAt
          rw [g]
          simp only [hd, Option.isSome_none]
          rw [if_neg (by simp), if_neg hsu]
        rw [e]
        exact putFresh_calls w base d cs t o A c m f i s bb bp cB h hok (hid ⟨hlt, by have := hi.out; omega, hi.out.2.2⟩) (hid hd) (hid hsu) hs hb
/-! ### files stay well -/
theorem mem_insL {x y : Int × Sec} {L : Olds} : y ∈ insL x L ↔ y = x ∨ y ∈ L := by
  induction L with
  | nil => simp [insL]
  | cons z r ih =>
    unfold insL
    split
    · simp
    · rw [List.mem_cons, ih, List.mem_cons]
      constructor
      · rintro (h | h | h)
        · exact .inr (.inl h)
        · exact .inl h
        · exact .inr (.inr h)
      · rintro (h | h | h)
        · exact .inr (.inl h)
        · exact .inl h
        · exact .inr (.inr h)
theorem insL_rising {x : Int × Sec} {L : Olds} (h : (L.map (·.1)).Pairwise (· < ·)) (hx : ∀ y ∈ L, y.1 ≠ x.1) : ((insL x L).map (·.1)).Pairwise (· < ·) := by
  induction L with
  | nil => simp [insL]
  | cons z r ih =>
    rw [List.map_cons, List.pairwise_cons] at h
    unfold insL
    split
    · rename_i hlt
      have hlt := of_decide_eq_true hlt
      rw [List.map_cons, List.map_cons, List.pairwise_cons, List.pairwise_cons]
      refine ⟨fun a ha => ?_, h.1, h.2⟩
      rcases List.mem_cons.1 ha with rfl | ha
      · exact hlt
      · have := h.1 a ha; omega
    · rename_i hlt
      rw [List.map_cons, List.pairwise_cons]
      refine ⟨fun a ha => ?_, ih h.2 (fun y hy => hx y (List.mem_cons_of_mem _ hy))⟩
      obtain ⟨y, hy, rfl⟩ := List.mem_map.1 ha
      rcases mem_insL.1 hy with rfl | hy
      · have h1 := hx z List.mem_cons_self
        have h2 : ¬ y.1 < z.1 := fun e => hlt (decide_eq_true e)
        omega
      · exact h.1 _ (List.mem_map.2 ⟨y, hy, rfl⟩)
theorem mem_putL {L : Olds} {k : Int} {s : Sec} {y : Int × Sec} (h : y ∈ putL L k s) : y = (k, s) ∨ y ∈ L := by
  unfold putL at h
  rcases mem_insL.1 h with h | h
  · exact .inl h
  · exact .inr (List.mem_filter.1 h).1
theorem putL_rising {L : Olds} {k : Int} {s : Sec} (h : (L.map (·.1)).Pairwise (· < ·)) : ((putL L k s).map (·.1)).Pairwise (· < ·) := by
  unfold putL
  refine insL_rising (h.sublist (List.filter_sublist.map _)) (fun y hy e => ?_)
  have := (List.mem_filter.1 hy).2
  unfold keep at this
  rw [decide_eq_true e] at this
  cases this
theorem FileOk.grow {f : FileV} (h : FileOk f) (i : Nat) : FileOk (growF f i) := by
  unfold growF
  split
  · refine ⟨fun s hs => ?_, h.old, h.keys, fun p hp => ⟨(h.rng p hp).1, ?_⟩, ?_⟩
    · rcases List.mem_append.1 hs with hs | hs
      · exact h.now s hs
      · rw [List.mem_singleton.1 hs]; exact zeroS_len
    · have := (h.rng p hp).2; show p.1 < ((f.now ++ [zeroS]).length : Int); rw [List.length_append]; omega
    · show f.sure ≤ (f.now ++ [zeroS]).length; rw [List.length_append]; have := h.sure; omega
  · exact h
theorem FileOk.mark {f : FileV} (h : FileOk f) {i : Nat} (hi : i < f.now.length) : FileOk (markF f i) := by
  unfold markF
  split
  · exact h
  · refine ⟨h.now, fun p hp => ?_, putL_rising h.keys, fun p hp => ?_, h.sure⟩
    · rcases mem_putL hp with rfl | hp
      · show (oldAt f i).length = 128
        unfold oldAt
        split
        · rw [List.getElem?_eq_getElem hi]; exact h.now _ (List.getElem_mem hi)
        · exact zeroS_len
      · exact h.old p hp
    · rcases mem_putL hp with rfl | hp
      · exact ⟨by show (0 : Int) ≤ (i : Int); omega, by show (i : Int) < (f.now.length : Int); omega⟩
      · exact h.rng p hp
theorem growF_length {f : FileV} {i : Nat} (hi : i ≤ f.now.length) : i < (growF f i).now.length ∧ (growF f i).now.length = max (i + 1) f.now.length := by
  unfold growF
  split
  · show i < (f.now ++ [zeroS]).length ∧ (f.now ++ [zeroS]).length = _
    rw [List.length_append]; simp only [List.length_singleton]; omega
  · omega
theorem FileOk.put {f : FileV} (h : FileOk f) {i : Nat} (hi : i ≤ f.now.length) {s : Sec} (hs : s.length = 128) : FileOk (putF f i s) := by
  have k := (h.grow i).mark (growF_length hi).1
  unfold putF
  refine ⟨fun x hx => Whole.set k.now i hs x hx, k.old, k.keys, fun p hp => ?_, ?_⟩
  · show _ ∧ p.1 < ((List.set _ _ _).length : Int); rw [List.length_set]; exact k.rng p hp
  · show _ ≤ (List.set _ _ _).length; rw [List.length_set]; exact k.sure
end Go.Proofs.YtbcghggkfnagoaaGreatDoor

namespace Go.Proofs.YtbcghggkfnagoaaGreatDoor
open Go Go.RowKit Go.Maps Hach

structure DiskV where
  room : Int
  f0 : FileV
  f1 : FileV
  on : Bool
  ops : Int
  armed : Int
  keep : List Bool
  torn : Int
structure DiskP where
  A0 : Option Addr
  c0 : Nat
  m0 : Nat
  A1 : Option Addr
  c1 : Nat
  m1 : Nat
  KA : Option Addr
  kc : Nat
def diskCs (p : DiskP) (D : DiskV) : Array Value :=
  #[.int .i64 D.room, .slice p.A0 D.f0.now.length p.c0, .map (some p.m0), .int .i64 D.f0.sure, .slice p.A1 D.f1.now.length p.c1, .map (some p.m1), .int .i64 D.f1.sure, .bool D.on, .int .i64 D.ops, .int .i64 D.armed, .slice p.KA D.keep.length p.kc, .int .i64 D.torn]
structure DiskAt (w : World) (base d : Nat) (p : DiskP) (D : DiskV) : Prop where
  own : w.heap[d]? = some (.cells (diskCs p D) 87 (0, 0))
  row0 : w.ownsRow base 173 128 (.slice p.A0 D.f0.now.length p.c0) D.f0.now.length (D.f0.now.flatMap secC)
  row1 : w.ownsRow base 173 128 (.slice p.A1 D.f1.now.length p.c1) D.f1.now.length (D.f1.now.flatMap secC)
  map0 : MapS w p.m0 D.f0.old
  map1 : MapS w p.m1 D.f1.old
  maps : p.m0 ≠ p.m1
  rows : ∀ k, (Value.slice p.A0 D.f0.now.length p.c0).ownBlock = some k → (Value.slice p.A1 D.f1.now.length p.c1).ownBlock ≠ some k
  keepR : w.ownsRow 0 4 1 (.slice p.KA D.keep.length p.kc) D.keep.length (D.keep.map .bool)
  ok0 : FileOk D.f0
  ok1 : FileOk D.f1
  low : base ≤ d ∧ base ≤ p.m0 ∧ base ≤ p.m1
  room : 1 ≤ D.room ∧ D.room ≤ 32768
def DiskM (w : World) (base d : Nat) (D : DiskV) : Prop := ∃ p, DiskAt w base d p D
section
variable {w w' : World} {base d : Nat} {p : DiskP} {D : DiskV}
theorem DiskAt.cell (h : DiskAt w base d p D) {i : Nat} {v : Value} (hv : (diskCs p D)[i]? = some v) : w.cell? ⟨d, i, none⟩ = some v := by
  unfold World.cell?
  rw [show (⟨d, i, none⟩ : Addr).block = d from rfl, h.own]
  exact hv
theorem DiskAt.free (h : DiskAt w base d p D) (i : Nat) : w.frozen? ⟨d, i, none⟩ = false := by
  unfold World.frozen?; rw [show (⟨d, i, none⟩ : Addr).block = d from rfl, h.own]; simp
theorem DiskAt.file0 (h : DiskAt w base d p D) : FileAt w base d (diskCs p D) 87 1 p.A0 p.c0 p.m0 D.f0 :=
  ⟨h.own, rfl, rfl, rfl, h.row0, h.map0, h.ok0.now, ⟨h.low.1, h.low.2.1⟩, by decide⟩
theorem DiskAt.file1 (h : DiskAt w base d p D) : FileAt w base d (diskCs p D) 87 4 p.A1 p.c1 p.m1 D.f1 :=
  ⟨h.own, rfl, rfl, rfl, h.row1, h.map1, h.ok1.now, ⟨h.low.1, h.low.2.2⟩, by decide⟩
theorem DiskAt.up (h : DiskAt w base d p D) (hu : Up w w') : DiskAt w' base d p D :=
  ⟨(hu.block d (Array.getElem?_eq_some_iff.1 h.own).1).trans h.own, (Fr.of_below hu).own h.row0 (fun _ _ e => e), (Fr.of_below hu).own h.row1 (fun _ _ e => e), h.map0.up hu, h.map1.up hu, h.maps, h.rows, (Fr.of_below hu).own h.keepR (fun _ _ e => e), h.ok0, h.ok1, h.low, h.room⟩
theorem DiskM.up (h : DiskM w base d D) (hu : Up w w') : DiskM w' base d D := by obtain ⟨p, h⟩ := h; exact ⟨p, h.up hu⟩
end
def fileNo : FileV := ⟨[], [], 0⟩
theorem fileNo_ok : FileOk fileNo := ⟨by simp [fileNo], by simp [fileNo], by simp [fileNo], by simp [fileNo], Nat.le_refl _⟩
def newD (room : Int) : DiskV := ⟨room, fileNo, fileNo, true, 0, 0, [], 0⟩
def DNewRet (w : World) (room : Int) (en : Ending) (w' : World) : Prop := ∃ d, en = .returned (.pointer (some ⟨d, 0, none⟩)) ∧ Hid (DiskM w' w.heap.size d (newD room) ∧ Up w w')
theorem dmade_calls (w : World) (d : Nat) (room : Int) (h : w.cell? ⟨d, 0, none⟩ = some (.int .i64 room)) (h1 : Hid (1 ≤ room)) :
    Calls Tryz.prog 111 #[.pointer (some ⟨d, 0, none⟩)] w fun en w' => en = .returned (.bool true) ∧ w' = w := by
  have h2 : 0 < room := by have := h1.out; omega
  go_enter Tryz.func111, Tryz.ntmps111
  go_wp2
  go_ret
  exact ⟨rfl, rfl⟩
set_option maxRecDepth 100000 in
set_option maxHeartbeats 2000000 in
theorem dnew_calls (w : World) (room : Int) (h1 : 1 ≤ room) (h2 : room ≤ 32768) : Calls Tryz.prog 20 #[.int .i64 room] w (DNewRet w room) := by
  have hmm := @run_makeMap Tryz.prog
  have HR := hid (And.intro h1 h2)
  have d1 : ¬ room < 1 := by omega
  have d2 : ¬ (32768 : Int) < room := by omega
  clear h1 h2
  go_enter Tryz.func20, Tryz.ntmps20
  go_wp2
  refine wp_loop_rounds 3 ?_
  rw [rounds_succ]
  go_wp2
  rw [rounds_succ]
  go_wp2
  rw [rounds_succ]
  go_wp2
  go_ret
  obtain ⟨C, hC⟩ : ∃ C : Array Value, #[Value.int .i64 room, .slice none 0 0, .map (some (w.heap.size + 1)), .int .i64 0, .slice none 0 0, .map (some (w.heap.size + 1 + 1)), .int .i64 0, .bool true, .int .i64 0, .int .i64 0, .slice none 0 0, .int .i64 0] = C := ⟨_, rfl⟩
  rw [hC]
  have s1 : (w.alloc (.cells C 87)).heap.size = w.heap.size + 1 := by simp
  have s2 : ((w.alloc (.cells C 87)).alloc (.map #[] 0)).heap.size = w.heap.size + 1 + 1 := by simp
  have u1 : Up w (w.alloc (.cells C 87)) := upAlD (Up.refl w) _
  have u2 : Up (w.alloc (.cells C 87)) ((w.alloc (.cells C 87)).alloc (.map #[] 0)) := upAlD (Up.refl _) _
  have u3 : Up ((w.alloc (.cells C 87)).alloc (.map #[] 0)) (((w.alloc (.cells C 87)).alloc (.map #[] 0)).alloc (.map #[] 0)) := upAlD (Up.refl _) _
  have k1 := heap_alloc_new w (.cells C 87)
  have k2 := MapS.made (w.alloc (.cells C 87))
  have k3 := MapS.made ((w.alloc (.cells C 87)).alloc (.map #[] 0))
  rw [s1] at k2
  rw [s2] at k3
  refine ⟨w.heap.size, rfl, hid ⟨⟨⟨none, 0, w.heap.size + 1, none, 0, w.heap.size + 1 + 1, none, 0⟩, ?_, own_nil _ _ _ _, own_nil _ _ _ _, k2.up u3, k3, by show w.heap.size + 1 ≠ w.heap.size + 1 + 1; omega, (fun k hk => by cases hk), own_nil _ _ _ _, fileNo_ok, fileNo_ok, ⟨Nat.le_refl _, by show w.heap.size ≤ w.heap.size + 1; omega, by show w.heap.size ≤ w.heap.size + 1 + 1; omega⟩, HR.out⟩, (u1.t u2).t u3⟩⟩
  have hlt : w.heap.size < (w.alloc (.cells C 87)).heap.size := by omega
  rw [show diskCs ⟨none, 0, w.heap.size + 1, none, 0, w.heap.size + 1 + 1, none, 0⟩ (newD room) = C from hC]
  exact ((u2.t u3).block w.heap.size hlt).trans k1
end Go.Proofs.YtbcghggkfnagoaaGreatDoor

namespace Go.Proofs.YtbcghggkfnagoaaGreatDoor
open Go Go.RowKit Go.Maps Hach

section
variable (w : World) (base d : Nat) (D : DiskV)
theorem DiskAt.reads {w : World} {base d : Nat} {p : DiskP} {D : DiskV} (h : DiskAt w base d p D) :
    w.cell? ⟨d, 0, none⟩ = some (.int .i64 D.room) ∧ w.cell? ⟨d, 1, none⟩ = some (.slice p.A0 D.f0.now.length p.c0) ∧ w.cell? ⟨d, 2, none⟩ = some (.map (some p.m0)) ∧ w.cell? ⟨d, 3, none⟩ = some (.int .i64 D.f0.sure) ∧
    w.cell? ⟨d, 4, none⟩ = some (.slice p.A1 D.f1.now.length p.c1) ∧ w.cell? ⟨d, 5, none⟩ = some (.map (some p.m1)) ∧ w.cell? ⟨d, 6, none⟩ = some (.int .i64 D.f1.sure) ∧
    w.cell? ⟨d, 7, none⟩ = some (.bool D.on) ∧ w.cell? ⟨d, 8, none⟩ = some (.int .i64 D.ops) ∧ w.cell? ⟨d, 9, none⟩ = some (.int .i64 D.armed) ∧ w.cell? ⟨d, 10, none⟩ = some (.slice p.KA D.keep.length p.kc) ∧ w.cell? ⟨d, 11, none⟩ = some (.int .i64 D.torn) :=
  ⟨h.cell rfl, h.cell rfl, h.cell rfl, h.cell rfl, h.cell rfl, h.cell rfl, h.cell rfl, h.cell rfl, h.cell rfl, h.cell rfl, h.cell rfl, h.cell rfl⟩
theorem fileOff_calls (h : Hid (DiskM w base d D)) (i : Int) (ho : D.on = false) : Calls Tryz.prog 161 #[.pointer (some ⟨d, 0, none⟩), .int .i64 i] w fun en w' => en = .returned (.tuple #[.pointer none, .int .i64 4]) ∧ w' = w := by
  obtain ⟨p, h⟩ := h.out
  obtain ⟨e0, _, _, _, _, _, _, e7, _, _, _, _⟩ := h.reads
  rw [ho] at e7
  have HR := hid h.room.1
  clear h ho
  go_enter Tryz.func161, Tryz.ntmps161
  go_wp2_with (go_at_call 111; refine (dmade_calls _ d _ e0 HR).mono ?_; rintro e w' ⟨rfl, rfl⟩)
  go_ret2
  exact ⟨rfl, rfl⟩
theorem fileNo_calls (h : Hid (DiskM w base d D)) (i : Int) (ho : D.on = true) (hi : i < 0 ∨ 2 ≤ i) : Calls Tryz.prog 161 #[.pointer (some ⟨d, 0, none⟩), .int .i64 i] w fun en w' => en = .returned (.tuple #[.pointer none, .int .i64 11]) ∧ w' = w := by
  obtain ⟨p, h⟩ := h.out
  obtain ⟨e0, _, _, _, _, _, _, e7, _, _, _, _⟩ := h.reads
  rw [ho] at e7
  have HR := hid h.room.1
  clear h ho
  by_cases h0 : i < 0
  · clear hi
    go_enter Tryz.func161, Tryz.ntmps161
    go_wp2_with (go_at_call 111; refine (dmade_calls _ d _ e0 HR).mono ?_; rintro e w' ⟨rfl, rfl⟩)
    go_ret2
    exact ⟨rfl, rfl⟩
  · have h1 : 2 ≤ i := hi.resolve_left h0
    clear hi
    go_enter Tryz.func161, Tryz.ntmps161
    go_wp2_with (go_at_call 111; refine (dmade_calls _ d _ e0 HR).mono ?_; rintro e w' ⟨rfl, rfl⟩)
    go_ret2
    exact ⟨rfl, rfl⟩
theorem file0_calls (h : Hid (DiskM w base d D)) (ho : D.on = true) : Calls Tryz.prog 161 #[.pointer (some ⟨d, 0, none⟩), .int .i64 0] w fun en w' => en = .returned (.tuple #[.pointer (some ⟨d, 1, none⟩), .int .i64 0]) ∧ w' = w := by
  obtain ⟨p, h⟩ := h.out
  obtain ⟨e0, _, _, _, _, _, _, e7, _, _, _, _⟩ := h.reads
  rw [ho] at e7
  have HR := hid h.room.1
  clear h ho
  go_enter Tryz.func161, Tryz.ntmps161
  go_wp2_with (go_at_call 111; refine (dmade_calls _ d _ e0 HR).mono ?_; rintro e w' ⟨rfl, rfl⟩)
  go_ret2
  exact ⟨rfl, rfl⟩
theorem file1_calls (h : Hid (DiskM w base d D)) (ho : D.on = true) : Calls Tryz.prog 161 #[.pointer (some ⟨d, 0, none⟩), .int .i64 1] w fun en w' => en = .returned (.tuple #[.pointer (some ⟨d, 4, none⟩), .int .i64 0]) ∧ w' = w := by
  obtain ⟨p, h⟩ := h.out
  obtain ⟨e0, _, _, _, _, _, _, e7, _, _, _, _⟩ := h.reads
  rw [ho] at e7
  have HR := hid h.room.1
  clear h ho
  go_enter Tryz.func161, Tryz.ntmps161
  go_wp2_with (go_at_call 111; refine (dmade_calls _ d _ e0 HR).mono ?_; rintro e w' ⟨rfl, rfl⟩)
  go_ret2
  exact ⟨rfl, rfl⟩
theorem dops_calls (h : Hid (DiskM w base d D)) : Calls Tryz.prog 88 #[.pointer (some ⟨d, 0, none⟩)] w fun en w' => en = .returned (.int .i64 D.ops) ∧ w' = w := by
  obtain ⟨p, h⟩ := h.out
  obtain ⟨e0, _, _, _, _, _, _, _, e8, _, _, _⟩ := h.reads
  have HR := hid h.room.1
  clear h
  go_enter Tryz.func88, Tryz.ntmps88
  go_wp2_with (go_at_call 111; refine (dmade_calls _ d _ e0 HR).mono ?_; rintro e w' ⟨rfl, rfl⟩)
  go_ret
  exact ⟨rfl, rfl⟩
theorem droom_calls (h : Hid (DiskM w base d D)) : Calls Tryz.prog 73 #[.pointer (some ⟨d, 0, none⟩)] w fun en w' => en = .returned (.int .i64 D.room) ∧ w' = w := by
  obtain ⟨p, h⟩ := h.out
  obtain ⟨e0, _, _, _, _, _, _, _, _, _, _, _⟩ := h.reads
  have HR := hid h.room.1
  clear h
  go_enter Tryz.func73, Tryz.ntmps73
  go_wp2_with (go_at_call 111; refine (dmade_calls _ d _ e0 HR).mono ?_; rintro e w' ⟨rfl, rfl⟩)
  go_ret
  exact ⟨rfl, rfl⟩
end
end Go.Proofs.YtbcghggkfnagoaaGreatDoor

namespace Go.Proofs.YtbcghggkfnagoaaGreatDoor
open Go Go.RowKit Go.Maps Hach

theorem row_blk {w : World} {base d n c : Nat} {A : Option Addr} {cs : Array Value} {t e : TypeId} {size : Nat} {xs : List Value} (ho : w.ownsRow base e size (.slice A n c) n xs) (hd : w.heap[d]? = some (.cells cs t (0, 0))) (hne : e ≠ t) : ∀ k, (Value.slice A n c).ownBlock = some k → k ≠ d := by
  intro k hk e'
  subst e'
  rcases ho.2 with ⟨hv, _⟩ | ⟨g, cap, cur, hv, _, hg, _⟩
  · rw [hv] at hk; cases hk
  · rw [hv] at hk
    obtain rfl : g = k := by simpa [Value.ownBlock] using hk
    rw [hd] at hg
    injection hg with hg; injection hg with _ h2 _
    exact hne h2.symm
theorem DiskAt.nums {w w' : World} {base d : Nat} {p : DiskP} {D D' : DiskV} (h : DiskAt w base d p D) (hf : Fr (fun k => k = d) w w') (ho : w'.heap[d]? = some (.cells (diskCs p D') 87 (0, 0))) (e0 : D'.f0 = D.f0) (e1 : D'.f1 = D.f1) (ek : D'.keep = D.keep) (er : D'.room = D.room) : DiskAt w' base d p D' := by
  obtain ⟨room, f0, f1, on, ops, armed, keep, torn⟩ := D'
  simp only at e0 e1 ek er
  subst e0; subst e1; subst ek; subst er
  have n0 := h.file0.ne
  have n1 := h.file1.ne
  exact ⟨ho, hf.own h.row0 (fun k hk e => (n0.2 k hk).1 e), hf.own h.row1 (fun k hk e => (n1.2 k hk).1 e), h.map0.kept hf (fun e => n0.1 e.symm), h.map1.kept hf (fun e => n1.1 e.symm), h.maps, h.rows,
    hf.own h.keepR (fun k hk e => row_blk h.keepR h.own (by decide) k hk e), h.ok0, h.ok1, h.low, h.room⟩
def StepD (w : World) (base d : Nat) (D : DiskV) (v : Value) (en : Ending) (w' : World) : Prop := en = .returned v ∧ Hid (DiskM w' base d D ∧ Below base w w')
end Go.Proofs.YtbcghggkfnagoaaGreatDoor

namespace Go.Proofs.YtbcghggkfnagoaaGreatDoor
open Go Go.RowKit Go.Maps Hach

section
variable (w : World) (base d : Nat) (D : DiskV)
theorem look0_calls (h : Hid (DiskM w base d D)) : Calls Tryz.prog 103 #[.pointer (some ⟨d, 0, none⟩), .int .i64 0] w fun en w' => en = .returned (.pointer (some ⟨d, 1, none⟩)) ∧ w' = w := by
  obtain ⟨p, h⟩ := h.out
  have e0 := h.reads.1
  have HR := hid h.room.1
  clear h
  go_enter Tryz.func103, Tryz.ntmps103
  go_wp2_with (go_at_call 111; refine (dmade_calls _ d _ e0 HR).mono ?_; rintro e w' ⟨rfl, rfl⟩)
  go_ret
  exact ⟨rfl, rfl⟩
theorem look1_calls (h : Hid (DiskM w base d D)) : Calls Tryz.prog 103 #[.pointer (some ⟨d, 0, none⟩), .int .i64 1] w fun en w' => en = .returned (.pointer (some ⟨d, 4, none⟩)) ∧ w' = w := by
  obtain ⟨p, h⟩ := h.out
  have e0 := h.reads.1
  have HR := hid h.room.1
  clear h
  go_enter Tryz.func103, Tryz.ntmps103
  go_wp2_with (go_at_call 111; refine (dmade_calls _ d _ e0 HR).mono ?_; rintro e w' ⟨rfl, rfl⟩)
  go_ret
  exact ⟨rfl, rfl⟩
theorem sec0_calls (h : Hid (DiskM w base d D)) : Calls Tryz.prog 29 #[.pointer (some ⟨d, 0, none⟩), .int .i64 0] w fun en w' => en = .returned (.int .i64 (D.f0.now.length : Int)) ∧ w' = w := by
  have H := h
  obtain ⟨p, h⟩ := h.out
  obtain ⟨_, a1, a2, _, a4, a5, _, _, _, _, _, _⟩ := h.reads
  generalize D.f0.now.length = n at *
  clear h
  go_enter Tryz.func29, Tryz.ntmps29
  go_wp2_with (go_at_call 103; refine (look0_calls _ base d D H).mono ?_; rintro e w' ⟨rfl, rfl⟩)
  go_ret
  exact ⟨rfl, rfl⟩
theorem sec1_calls (h : Hid (DiskM w base d D)) : Calls Tryz.prog 29 #[.pointer (some ⟨d, 0, none⟩), .int .i64 1] w fun en w' => en = .returned (.int .i64 (D.f1.now.length : Int)) ∧ w' = w := by
  have H := h
  obtain ⟨p, h⟩ := h.out
  obtain ⟨_, a1, a2, _, a4, a5, _, _, _, _, _, _⟩ := h.reads
  generalize D.f1.now.length = n at *
  clear h
  go_enter Tryz.func29, Tryz.ntmps29
  go_wp2_with (go_at_call 103; refine (look1_calls _ base d D H).mono ?_; rintro e w' ⟨rfl, rfl⟩)
  go_ret
  exact ⟨rfl, rfl⟩
end
end Go.Proofs.YtbcghggkfnagoaaGreatDoor

namespace Go.Proofs.YtbcghggkfnagoaaGreatDoor
open Go Go.RowKit Go.Maps Hach

section
variable {w w' : World} {base d : Nat} {p : DiskP} {D : DiskV} {f : FileV}
theorem DiskAt.lt {k : Nat} (h : DiskAt w base d p D) : (∀ k, (Value.slice p.A0 D.f0.now.length p.c0).ownBlock = some k → k < w.heap.size) ∧ (∀ k, (Value.slice p.A1 D.f1.now.length p.c1).ownBlock = some k → k < w.heap.size) :=
  ⟨fun k hk => (own_block h.row0 k hk).2, fun k hk => (own_block h.row1 k hk).2⟩
end
end Go.Proofs.YtbcghggkfnagoaaGreatDoor

namespace Go.Proofs.YtbcghggkfnagoaaGreatDoor
open Go Go.RowKit Go.Maps Hach

def settleF (f : FileV) : FileV := { f with old := [], sure := f.now.length }
def SettleRet (w : World) (base d : Nat) (cs : Array Value) (t : TypeId) (o : Nat) (A : Option Addr) (c m : Nat) (f : FileV) (en : Ending) (w' : World) : Prop :=
  en = .returned (.tuple #[]) ∧ Hid (FileAt w' base d (cs.setIfInBounds (o + 2) (.int .i64 f.now.length)) t o A c m (settleF f) ∧ Below base w w' ∧ Fr (fun k => k = d ∨ k = m) w w')
theorem FileAt.settled {w w1 : World} {base d o m c : Nat} {cs : Array Value} {t : TypeId} {A : Option Addr} {f : FileV} (h : FileAt w base d cs t o A c m f) (hm : MapS w1 m []) (hg : w.grownBy w1 (some m)) {n : Nat} (hn : f.now.length = n) :
    FileAt (w1.setCell ⟨d, o + 2, none⟩ (.int .i64 n)) base d (cs.setIfInBounds (o + 2) (.int .i64 f.now.length)) t o A c m (settleF f) ∧ Below base w (w1.setCell ⟨d, o + 2, none⟩ (.int .i64 n)) ∧ Fr (fun k => k = d ∨ k = m) w (w1.setCell ⟨d, o + 2, none⟩ (.int .i64 n)) := by
  subst hn
  obtain ⟨h1, b1, r1⟩ := h.marked hm hg
  have f2 : Fr (fun k => k = d) w1 (w1.setCell ⟨d, o + 2, none⟩ (.int .i64 f.now.length)) := (Fr.refl (fun k => k = d) w1).setCell (p := ⟨d, o + 2, none⟩) (fun _ => rfl) _
  have ne := h1.ne
  refine ⟨⟨heap_setCell_same w1 d (o + 2) cs t _ h1.own, ?_, ?_, ?_, f2.own h1.row (fun k hk e => (ne.2 k hk).1 e), h1.map.kept f2 (fun e => ne.1 e.symm), h.len, h.low, h.ty⟩, b1.setCell (p := ⟨d, o + 2, none⟩) h.low.1 _, (r1.mono (fun k hk => .inr hk)).trans f2 (fun _ _ e => .inl e)⟩
  · rw [Array.getElem?_setIfInBounds_ne (by omega)]; exact h.c0
  · rw [Array.getElem?_setIfInBounds_ne (by omega)]; exact h.c1
  · have := (Array.getElem?_eq_some_iff.1 h.c2).1; simp [this, settleF]
theorem settle_calls (w : World) (base d : Nat) (cs : Array Value) (t : TypeId) (o : Nat) (A : Option Addr) (c m : Nat) (f : FileV) (h : Hid (FileAt w base d cs t o A c m f)) :
    Calls Tryz.prog 115 #[.pointer (some ⟨d, o, none⟩)] w (SettleRet w base d cs t o A c m f) := by
  obtain ⟨k0, k1, k2⟩ := h.out.cell0
  obtain ⟨w1, hclr, m1, g1⟩ := h.out.map.clear 0
  have hclr : ∀ ty, (Builtin.clear_ #[82] ty #[.map (some m)]).run Tryz.prog w = .ok (.tuple #[]) w1 := fun ty => hclr
  obtain ⟨h1, _, _⟩ := h.out.marked m1 g1
  obtain ⟨j0, j1, j2⟩ := h1.cell0
  have jf := h1.free (o + 2)
  have RES := hid (h.out.settled m1 g1 rfl)
  have j0 : w1.cell? ⟨d, o, none⟩ = some (.slice A f.now.length c) := j0
  clear h1 m1 g1
  go_enter Tryz.func115, Tryz.ntmps115
  go_wp2
  go_end0
  exact ⟨rfl, RES⟩
end Go.Proofs.YtbcghggkfnagoaaGreatDoor

namespace Go.Proofs.YtbcghggkfnagoaaGreatDoor
open Go Go.RowKit Go.Maps Hach

def off : Bool → Nat | false => 1 | true => 4
def idx : Bool → Int | false => 0 | true => 1
def DiskV.fl (D : DiskV) : Bool → FileV | false => D.f0 | true => D.f1
def DiskV.setF (D : DiskV) (b : Bool) (f : FileV) : DiskV := match b with | false => { D with f0 := f } | true => { D with f1 := f }
def DiskP.rA (p : DiskP) : Bool → Option Addr | false => p.A0 | true => p.A1
def DiskP.rc (p : DiskP) : Bool → Nat | false => p.c0 | true => p.c1
def DiskP.mm (p : DiskP) : Bool → Nat | false => p.m0 | true => p.m1
def DiskP.setR (p : DiskP) (b : Bool) (A : Option Addr) (c : Nat) : DiskP := match b with | false => { p with A0 := A, c0 := c } | true => { p with A1 := A, c1 := c }
section
variable {w w' : World} {base d : Nat} {p : DiskP} {D : DiskV} {f : FileV}
theorem DiskAt.fileB (h : DiskAt w base d p D) (b : Bool) : FileAt w base d (diskCs p D) 87 (off b) (p.rA b) (p.rc b) (p.mm b) (D.fl b) := by
  cases b
  · exact h.file0
  · exact h.file1
theorem DiskAt.okB (h : DiskAt w base d p D) (b : Bool) : FileOk (D.fl b) := by
  cases b
  · exact h.ok0
  · exact h.ok1
theorem fileB_calls (w : World) (base d : Nat) (D : DiskV) (b : Bool) (h : Hid (DiskM w base d D)) (ho : D.on = true) : Calls Tryz.prog 161 #[.pointer (some ⟨d, 0, none⟩), .int .i64 (idx b)] w fun en w' => en = .returned (.tuple #[.pointer (some ⟨d, off b, none⟩), .int .i64 0]) ∧ w' = w := by
  cases b
  · exact file0_calls w base d D h ho
  · exact file1_calls w base d D h ho
def foot (d : Nat) (p : DiskP) (D : DiskV) (k : Nat) : Prop := k = d ∨ k = p.m0 ∨ k = p.m1 ∨ (Value.slice p.A0 D.f0.now.length p.c0).ownBlock = some k ∨ (Value.slice p.A1 D.f1.now.length p.c1).ownBlock = some k
def DiskF (w : World) (F : Nat → Prop) (base d : Nat) (D : DiskV) : Prop := ∃ p, DiskAt w base d p D ∧ ∀ k, foot d p D k → F k
def plus (F : Nat → Prop) (w : World) (k : Nat) : Prop := F k ∨ w.heap.size ≤ k
theorem DiskF.m {F : Nat → Prop} (h : DiskF w F base d D) : DiskM w base d D := by obtain ⟨p, h, _⟩ := h; exact ⟨p, h⟩
theorem DiskM.ff (h : DiskM w base d D) : DiskF w (fun k => base ≤ k) base d D := by
  obtain ⟨p, h⟩ := h
  refine ⟨p, h, ?_⟩
  rintro k (e | e | e | e | e)
  · subst e; exact h.low.1
  · subst e; exact h.low.2.1
  · subst e; exact h.low.2.2
  · exact (own_block h.row0 k e).1
  · exact (own_block h.row1 k e).1
theorem DiskF.mono {F G : Nat → Prop} (h : DiskF w F base d D) (hG : ∀ k, F k → G k) : DiskF w G base d D := by
  obtain ⟨p, h, hf⟩ := h; exact ⟨p, h, fun k hk => hG k (hf k hk)⟩
theorem foot_lt (h : DiskAt w base d p D) {k : Nat} (hk : foot d p D k) : k < w.heap.size := by
  rcases hk with e | e | e | e | e
  · subst e; exact (Array.getElem?_eq_some_iff.1 h.own).1
  · subst e; exact h.map0.lt
  · subst e; exact h.map1.lt
  · exact (own_block h.row0 k e).2
  · exact (own_block h.row1 k e).2
theorem DiskF.cut {F : Nat → Prop} (h : DiskF w F base d D) : DiskF w (fun k => F k ∧ k < w.heap.size) base d D := by
  obtain ⟨p, h, hf⟩ := h; exact ⟨p, h, fun k hk => ⟨hf k hk, foot_lt h hk⟩⟩
theorem row_map {n c m : Nat} {A : Option Addr} {e : TypeId} {b size : Nat} {xs : List Value} {L : Olds} (ho : w.ownsRow b e size (.slice A n c) n xs) (hm : MapS w m L) : (Value.slice A n c).ownBlock ≠ some m := by
  intro hk
  obtain ⟨es, clock, hb⟩ := hm.isMap
  rcases ho.2 with ⟨hv, _⟩ | ⟨g, cap, cur, hv, _, hg, _⟩
  · rw [hv] at hk; cases hk
  · rw [hv] at hk
    obtain rfl : g = m := by simpa [Value.ownBlock] using hk
    rw [hb] at hg; cases hg
theorem row_row {n c n' c' : Nat} {A A' : Option Addr} {e e' : TypeId} {b b' size size' : Nat} {xs xs' : List Value} (ho : w.ownsRow b e size (.slice A n c) n xs) (ho' : w.ownsRow b' e' size' (.slice A' n' c') n' xs') (hne : e ≠ e') {k : Nat}
    (h1 : (Value.slice A n c).ownBlock = some k) (h2 : (Value.slice A' n' c').ownBlock = some k) : False := by
  rcases ho'.2 with ⟨hv, _⟩ | ⟨g, cap, cur, hv, _, hg, _⟩
  · rw [hv] at h2; cases h2
  · rw [hv] at h2
    obtain rfl : g = k := by simpa [Value.ownBlock] using h2
    exact row_blk ho hg hne g h1 rfl
theorem DiskAt.keep {S : Nat → Prop} (h : DiskAt w base d p D) (hf : Fr S w w') (hS : ∀ k, foot d p D k → ¬ S k) (hK : ∀ k, (Value.slice p.KA D.keep.length p.kc).ownBlock = some k → ¬ S k) : DiskAt w' base d p D :=
  ⟨(hf.block d (Array.getElem?_eq_some_iff.1 h.own).1 (hS d (.inl rfl))).trans h.own, hf.own h.row0 (fun k hk => hS k (.inr (.inr (.inr (.inl hk))))), hf.own h.row1 (fun k hk => hS k (.inr (.inr (.inr (.inr hk))))),
    h.map0.kept hf (hS _ (.inr (.inl rfl))), h.map1.kept hf (hS _ (.inr (.inr (.inl rfl)))), h.maps, h.rows, hf.own h.keepR hK, h.ok0, h.ok1, h.low, h.room⟩
theorem keep_apart {b' d' : Nat} {p' : DiskP} {D' : DiskV} (h : DiskAt w base d p D) (h' : DiskAt w b' d' p' D') : ∀ k, (Value.slice p.KA D.keep.length p.kc).ownBlock = some k → ¬ foot d' p' D' k := by
  rintro k hk (e | e | e | e | e)
  · exact row_blk h.keepR h'.own (by decide) k hk e
  · subst e; exact row_map h.keepR h'.map0 hk
  · subst e; exact row_map h.keepR h'.map1 hk
  · exact row_row h.keepR h'.row0 (by decide) hk e
  · exact row_row h.keepR h'.row1 (by decide) hk e
end
def Goes (w : World) (F : Nat → Prop) (base d : Nat) (D : DiskV) (w' : World) : Prop := DiskF w' (plus F w) base d D ∧ Fr F w w'
def StepF (w : World) (F : Nat → Prop) (base d : Nat) (D : DiskV) (v : Value) (en : Ending) (w' : World) : Prop := en = .returned v ∧ Hid (Goes w F base d D w')
section
variable {w w1 w2 w' : World} {base d : Nat} {p : DiskP} {D D1 D2 : DiskV} {f : FileV} {F : Nat → Prop}
theorem plus_mono (hs : w.heap.size ≤ w1.heap.size) : ∀ k, plus F w1 k → plus F w k := by
  rintro k (e | e)
  · exact .inl e
  · exact .inr (by omega)
theorem Goes.trans (h1 : Goes w F base d D1 w1) (h2 : Goes w1 (plus F w) base d D2 w2) : Goes w F base d D2 w2 :=
  ⟨h2.1.mono (fun k hk => by
    rcases hk with hk | hk
    · exact hk
    · exact .inr (Nat.le_trans h1.2.size hk)), h1.2.trans h2.2 (fun i hi hk => by
    rcases hk with hk | hk
    · exact hk
    · omega)⟩
theorem Goes.pre {w0 : World} (hu : Up w0 w) (h : Goes w F base d D w') : Goes w0 F base d D w' := ⟨h.1.mono (plus_mono hu.size), ((Fr.of_below hu).mono (fun _ e => e.elim)).trans' h.2⟩
theorem DiskF.up (h : DiskF w F base d D) (hu : Up w w') : DiskF w' F base d D := by obtain ⟨p, h, hf⟩ := h; exact ⟨p, h.up hu, hf⟩
theorem Goes.up (h : DiskF w F base d D) (hu : Up w w') : Goes w F base d D w' := ⟨(h.up hu).mono (fun _ e => .inl e), (Fr.of_below hu).mono (fun _ e => e.elim)⟩
theorem Goes.below (h : Goes w F base d D w') (hF : ∀ k, F k → base ≤ k) (hb : base ≤ w.heap.size) : Below base w w' := h.2.below hb (fun k hk e => by have := hF k e; omega)
theorem DiskAt.back {b : Bool} {cs : Array Value} {A : Option Addr} {c : Nat} {n : Nat} (h : DiskAt w base d p D) (hk : FileAt w' base d cs 87 (off b) A c (p.mm b) f) (hcs : cs = diskCs (p.setR b A c) (D.setF b f))
    (hf : Fr (fun k => k = d ∨ k = p.mm b ∨ (Value.slice (p.rA b) (D.fl b).now.length (p.rc b)).ownBlock = some k) w w')
    (ho : (Value.slice A f.now.length c).ownBlock = (Value.slice (p.rA b) (D.fl b).now.length (p.rc b)).ownBlock ∨ (Value.slice A f.now.length c).ownBlock = none ∨ ∃ k, w.heap.size ≤ k ∧ (Value.slice A f.now.length c).ownBlock = some k) (hok : FileOk f) :
    DiskAt w' base d (p.setR b A c) (D.setF b f) ∧ ∀ k, foot d (p.setR b A c) (D.setF b f) k → foot d p D k ∨ w.heap.size ≤ k := by
  subst hcs
  have n0 := h.file0.ne
  have n1 := h.file1.ne
  cases b
  · have r1 : ∀ k, (Value.slice p.A1 D.f1.now.length p.c1).ownBlock = some k → ¬ (k = d ∨ k = p.m0 ∨ (Value.slice p.A0 D.f0.now.length p.c0).ownBlock = some k) := by
      rintro k hk (e | e | e)
      · exact (n1.2 k hk).1 e
      · subst e; exact row_map h.row1 h.map0 hk
      · exact h.rows k e hk
    have k1 : ∀ k, (Value.slice p.KA D.keep.length p.kc).ownBlock = some k → ¬ (k = d ∨ k = p.m0 ∨ (Value.slice p.A0 D.f0.now.length p.c0).ownBlock = some k) := by
      rintro k hk (e | e | e)
      · exact row_blk h.keepR h.own (by decide) k hk e
      · subst e; exact row_map h.keepR h.map0 hk
      · exact row_row h.keepR h.row0 (by decide) hk e
    refine ⟨⟨hk.own, hk.row, hf.own h.row1 r1, hk.map, h.map1.kept hf ?_, h.maps, ?_, hf.own h.keepR k1, hok, h.ok1, h.low, h.room⟩, ?_⟩
    · rintro (e | e | e)
      · exact n1.1 e.symm
      · exact h.maps e.symm
      · exact row_map h.row0 h.map1 e
    · intro k hk hk1
      rcases ho with e | e | ⟨k', hk', e⟩
      · exact h.rows k (by rw [← show _ = (Value.slice p.A0 D.f0.now.length p.c0).ownBlock from e]; exact hk) hk1
      · have : (none : Option Nat) = some k := e.symm.trans hk
        cases this
      · have : k = k' := Option.some.inj (hk.symm.trans e)
        have := (own_block h.row1 k hk1).2
        omega
    · rintro k (e | e | e | e | e)
      · exact .inl (.inl e)
      · exact .inl (.inr (.inl e))
      · exact .inl (.inr (.inr (.inl e)))
      · rcases ho with e' | e' | ⟨k', hk', e'⟩
        · exact .inl (.inr (.inr (.inr (.inl (e'.symm.trans e)))))
        · have : (none : Option Nat) = some k := e'.symm.trans e
          cases this
        · have : k' = k := Option.some.inj (e'.symm.trans e)
          exact .inr (by omega)
      · exact .inl (.inr (.inr (.inr (.inr e))))
  · have r1 : ∀ k, (Value.slice p.A0 D.f0.now.length p.c0).ownBlock = some k → ¬ (k = d ∨ k = p.m1 ∨ (Value.slice p.A1 D.f1.now.length p.c1).ownBlock = some k) := by
      rintro k hk (e | e | e)
      · exact (n0.2 k hk).1 e
      · subst e; exact row_map h.row0 h.map1 hk
      · exact h.rows k hk e
    have k1 : ∀ k, (Value.slice p.KA D.keep.length p.kc).ownBlock = some k → ¬ (k = d ∨ k = p.m1 ∨ (Value.slice p.A1 D.f1.now.length p.c1).ownBlock = some k) := by
      rintro k hk (e | e | e)
      · exact row_blk h.keepR h.own (by decide) k hk e
      · subst e; exact row_map h.keepR h.map1 hk
      · exact row_row h.keepR h.row1 (by decide) hk e
    refine ⟨⟨hk.own, hf.own h.row0 r1, hk.row, h.map0.kept hf ?_, hk.map, h.maps, ?_, hf.own h.keepR k1, h.ok0, hok, h.low, h.room⟩, ?_⟩
    · rintro (e | e | e)
      · exact n0.1 e.symm
      · exact h.maps e
      · exact row_map h.row1 h.map0 e
    · intro k hk1 hk
      rcases ho with e | e | ⟨k', hk', e⟩
      · exact h.rows k hk1 (by rw [← show _ = (Value.slice p.A1 D.f1.now.length p.c1).ownBlock from e]; exact hk)
      · have : (none : Option Nat) = some k := e.symm.trans hk
        cases this
      · have : k = k' := Option.some.inj (hk.symm.trans e)
        have := (own_block h.row0 k hk1).2
        omega
    · rintro k (e | e | e | e | e)
      · exact .inl (.inl e)
      · exact .inl (.inr (.inl e))
      · exact .inl (.inr (.inr (.inl e)))
      · exact .inl (.inr (.inr (.inr (.inl e))))
      · rcases ho with e' | e' | ⟨k', hk', e'⟩
        · exact .inl (.inr (.inr (.inr (.inr (e'.symm.trans e)))))
        · have : (none : Option Nat) = some k := e'.symm.trans e
          cases this
        · have : k' = k := Option.some.inj (e'.symm.trans e)
          exact .inr (by omega)
theorem foot_own (b : Bool) {k : Nat} (hk : k = d ∨ k = p.mm b ∨ (Value.slice (p.rA b) (D.fl b).now.length (p.rc b)).ownBlock = some k) : foot d p D k := by
  cases b
  · rcases hk with e | e | e
    · exact .inl e
    · exact .inr (.inl e)
    · exact .inr (.inr (.inr (.inl e)))
  · rcases hk with e | e | e
    · exact .inl e
    · exact .inr (.inr (.inl e))
    · exact .inr (.inr (.inr (.inr e)))
def Two (w : World) (base d b2 e : Nat) (D E : DiskV) : Prop := ∃ p q, DiskAt w base d p D ∧ DiskAt w b2 e q E ∧ ∀ k, foot d p D k → ¬ foot e q E k
theorem Two.swap {b2 e : Nat} {E : DiskV} (h : Two w base d b2 e D E) : Two w b2 e base d E D := by obtain ⟨p, q, h1, h2, h3⟩ := h; exact ⟨q, p, h2, h1, fun k hk e => h3 k e hk⟩
theorem Two.up {b2 e : Nat} {E : DiskV} (h : Two w base d b2 e D E) (hu : Up w w') : Two w' base d b2 e D E := by obtain ⟨p, q, h1, h2, h3⟩ := h; exact ⟨p, q, h1.up hu, h2.up hu, h3⟩
theorem Two.m1 {b2 e : Nat} {E : DiskV} (h : Two w base d b2 e D E) : DiskM w base d D := by obtain ⟨p, q, h1, h2, h3⟩ := h; exact ⟨p, h1⟩
theorem Two.m2 {b2 e : Nat} {E : DiskV} (h : Two w base d b2 e D E) : DiskM w b2 e E := h.swap.m1
end
end Go.Proofs.YtbcghggkfnagoaaGreatDoor

namespace Go.Proofs.YtbcghggkfnagoaaGreatDoor
open Go Go.RowKit Go.Maps Hach

theorem elemD8 : Elem Tryz.prog 64 5 (.int .u8 0) 1 1 := ⟨Tryz.underlying64, by kernel_rfl, rfl, by decide⟩
def part (l : List Sec) (a n : Nat) : List Value := ((l.drop a).take n).flatMap secC
def ReadRet (w : World) (xs : List Value) (en : Ending) (w' : World) : Prop :=
  ∃ A c, en = .returned (.tuple #[.slice A xs.length c, .int .i64 0]) ∧ Hid (Up w w' ∧ w'.ownsRow w.heap.size 5 1 (.slice A xs.length c) xs.length xs)
theorem wl_loadS {ops : Array Oper} {rest : List Oper} {o : Oper} {a : Act} {Q : Exit → Act → World → Prop} {w : World} (hgd : o.guard = none) (x : Operand) (ho : o.op = .load 173 x) {b p : Nat} {s : Sec}
    (hx : a.eval x = .pointer (some ⟨b, p, none⟩)) (h : w.rangeAt b p (secC s)) (hs : s.length = 128) (hK : wpList Tryz.prog ops Q rest (a.put o.dst (secV s)) w) : wpList Tryz.prog ops Q (o :: rest) a w := by
  refine wpList_plain hgd fun K hk => ?_
  unfold Oper.wp
  rw [exec_loadS ho hx h hs]
  exact hk _ _ hK
theorem part_length {l : List Sec} (h : Whole l) {a n : Nat} (hn : a + n ≤ l.length) : (part l a n).length = n * 128 := by
  unfold part
  rw [flatS_length (fun s hs => h s (List.mem_of_mem_drop (List.mem_of_mem_take hs))), List.length_take, List.length_drop, Nat.min_eq_left (by omega)]
theorem part_succ {l : List Sec} {a k : Nat} (hn : a + k < l.length) : part l a (k + 1) = part l a k ++ secC l[a + k] := by
  unfold part
  rw [List.take_add_one, List.getElem?_drop, List.getElem?_eq_getElem hn, Option.toList_some, List.flatMap_append, List.flatMap_cons, List.flatMap_nil, List.append_nil]
def numV : Value → Int | .int _ q => q | _ => 0
def ReadInv (w wr : World) (l : List Sec) (a k : Nat) (A : Option Addr) (c : Nat) : Prop := wr.ownsRow w.heap.size 5 1 (.slice A (k * 128) c) (k * 128) (part l a k) ∧ Up w wr
set_option maxRecDepth 100000 in
set_option maxHeartbeats 2000000 in
theorem readS_calls (w : World) (base d : Nat) (p : DiskP) (D : DiskV) (b : Bool) (h : DiskAt w base d p D) (ho : Hid (D.on = true)) (a n : Nat) (hl : Hid (a + n ≤ (D.fl b).now.length ∧ (D.fl b).now.length < 1000000)) (g : Nat) (hA : p.rA b = some ⟨g, 0, none⟩) :
    Calls Tryz.prog 131 #[.pointer (some ⟨d, 0, none⟩), .int .i64 (idx b), .int .i64 a, .int .i64 n] w (ReadRet w (part (D.fl b).now a n)) := by
  have H : Hid (DiskM w base d D) := hid ⟨p, h⟩
  have F := h.fileB b
  have e1 := F.cell0.1
  obtain ⟨len, hlen⟩ : ∃ z, (D.fl b).now.length = z := ⟨_, rfl⟩
  have hc : len ≤ p.rc b := by
    rcases F.row.2 with ⟨hv, _⟩ | ⟨g', cap, cur, hv, _, _, hnc, _⟩
    · rw [hA] at hv; cases hv
    · injection hv with _ _ hv; rw [hv, ← hlen]; exact hnc
  have HF := hid F
  rw [hlen, hA] at e1
  have h1 : decide ((a : Int) < 0) = false := decide_eq_false (by omega)
  have h2 : decide ((n : Int) < 0) = false := decide_eq_false (by omega)
  have h3 : decide (len < a) = false := decide_eq_false (by have := hl.out; omega)
  obtain ⟨c, hcc⟩ : ∃ c, p.rc b = c := ⟨_, rfl⟩
  rw [hcc] at hc e1
  have HC := hid (show a + n ≤ c by have := hl.out; omega)
  have HL := hid hlen
  have HA := hid hA
  obtain ⟨o, hoo⟩ : ∃ o, off b = o := ⟨_, rfl⟩
  rw [hoo] at e1
  have CF := fileB_calls w base d D b H ho.out
  rw [hoo] at CF
  generalize idx b = ib at *
  obtain ⟨e, hw1, HE⟩ : ∃ e : Nat, wrap64 ((a : Int) + (n : Int)) = (e : Int) ∧ Hid (e = a + n) := ⟨a + n, by have := hl.out; unfold wrap64; omega, hid rfl⟩
  obtain ⟨r, hw2, HR⟩ : ∃ r : Nat, wrap64 ((len : Int) - (a : Int)) = (r : Int) ∧ Hid (r + a = len) := ⟨len - a, by have := hl.out; unfold wrap64; omega, hid (by have := hl.out; omega)⟩
  have h4 : decide (r < n) = false := decide_eq_false (by have := hl.out; have := HR.out; omega)
  have h5 : (a : Int) ≤ (e : Int) := by have := HE.out; omega
  have h6 : (e : Int) ≤ (c : Int) := by have := HE.out; have := HC.out; omega
  clear hlen hc h F hA hcc hoo
  have HO := hid (own_nil w w.heap.size 5 1)
  by_cases hca : c = a
  · subst hca
    have hz : e - c = 0 := by have := HE.out; have := HC.out; omega
    have HN : Hid (n = 0) := hid (by have := HC.out; omega)
    go_enter Tryz.func131, Tryz.ntmps131
    go_wp2_with (go_at_call 161; refine CF.mono ?_; rintro e w' ⟨rfl, hw⟩; subst hw)
    clear CF e1
    go_loopw [12, 62] (fun q i wr => q = .slice none 0 0 ∧ i = .int .i64 0 ∧ wr = w') (fun _ _ _ => 0)
    case atStart => exact ⟨rfl, rfl, rfl⟩
    case round =>
      obtain ⟨rfl, rfl, rfl⟩ := hrel
      go_wp2
      go_ret2
      obtain rfl := HN.out
      have e0 : part (D.fl b).now c 0 = [] := by unfold part; rw [List.take_zero]; rfl
      rw [e0]
      exact ⟨none, 0, rfl, hid ⟨Up.refl _, HO.out⟩⟩
  · go_enter Tryz.func131, Tryz.ntmps131
    go_wp2_with (go_at_call 161; refine CF.mono ?_; rintro e w' ⟨rfl, hw⟩; subst hw)
    clear CF e1
    have hen : e - a = n := by have := HE.out; omega
    try simp only [hw1, hw2]
    rw [hen]
    clear hw1 hw2
    go_loopw [12, 14, 62] (fun q u i wr => ∃ (k : Nat) (A' : Option Addr) (c' : Nat), k ≤ n ∧ q = .slice A' (k * 128) c' ∧ i = .int .i64 k ∧ Hid (ReadInv w' wr (D.fl b).now a k A' c')) (fun _ _ i _ => n - (numV i).toNat)
    case atStart => exact ⟨0, none, 0, Nat.zero_le _, by rw [Nat.zero_mul], rfl, hid ⟨by rw [Nat.zero_mul]; exact HO.out, Up.refl _⟩⟩
    case round =>
      obtain ⟨k, A', c', hk, rfl, rfl, hi⟩ := hrel
      by_cases hlt : (k : Int) < n
      · have hkl : a + k < (D.fl b).now.length := by have := hl.out; omega
        obtain ⟨g', hA', hr, _⟩ := (HF.out.up hi.out.2).sec hkl
        obtain rfl : g' = g := by rw [HA.out] at hA'; injection hA' with hA'; injection hA' with hA' _ _; exact hA'.symm
        have HRG := hid hr
        have HS := hid (HF.out.len _ (List.getElem_mem hkl))
        have HKK := hid (show k < n from by omega)
        obtain ⟨s, hs⟩ : ∃ s, (D.fl b).now[a + k] = s := ⟨_, rfl⟩
        rw [hs] at HRG HS
        have HSE := hid hs
        clear hA' hr hs
        go_wp2_with (with_reducible refine hold_at 65 ?_)
        refine hid (wl_loadS rfl (.tmp 64) rfl rfl (by rw [show a * 128 + k * 128 = (a + k) * 128 by omega]; exact HRG.out) HS.out ?_)
        go_wp2_with (with_reducible refine hold_st 173 ?_)
        refine hid (wl_storeNew rfl (.tmp 14) (.tmp 65) rfl HS.out rfl rfl ?_)
        go_wp2_with (at_builtin; refine hold ?_)
        have HM := hid (show (k * 128 + 128 : Nat) = (k + 1) * 128 from by omega)
        have bb : w'.heap.size ≤ (wr.alloc (.cells (secC s).toArray 173)).heap.size := by have := hi.out.2.size; simp; omega
        have oA := World.ownsRow.alloc hi.out.1 (.cells (secC s).toArray 173)
        have bA := (show Below w'.heap.size w' wr from hi.out.2).alloc hi.out.2.size (.cells (secC s).toArray 173)
        refine hid (wl_append elemD8 rfl (.tmp 66) (.tmp 67) rfl rfl oA rfl (Rd.new wr 173 (0, 0) (secC s)) (by rw [secC_length, HS.out]) (secC_one s) (by have := HKK.out; have := hl.out; simp only [maxLen]; omega) (by have := HKK.out; have := hl.out; omega) bb ?_)
        intro A3 c3 w3 o3 g3 d3
        have NI : Hid (ReadInv w' w3 (D.fl b).now a (k + 1) A3 c3) := by
          refine hid ⟨?_, below_append bA (Nat.le_refl _) bb oA g3⟩
          rw [part_succ hkl, HSE.out, ← HM.out]
          exact o3
        rw [HM.out]
        clear hi oA bA o3 g3 d3 bb HRG HM HSE hkl
        go_wp2
        go_roundw
        case rel =>
          exact ⟨k + 1, A3, c3, HKK.out, rfl, (by have := HKK.out; have := hl.out; rw [show wrap64 ((k : Int) + 1) = ((k + 1 : Nat) : Int) by unfold wrap64; omega]), NI⟩
        case measure => have := HKK.out; have := hl.out; rw [show wrap64 ((k : Int) + 1) = ((k + 1 : Nat) : Int) by unfold wrap64; omega]; simp only [numV]; omega
      · obtain rfl : k = n := by omega
        go_wp2
        go_ret2
        have e0 : (part (D.fl b).now a k).length = k * 128 := part_length HF.out.len (by have := hl.out; omega)
        exact ⟨A', c', by rw [e0]; rfl, hid ⟨hi.out.2, by rw [e0]; exact hi.out.1⟩⟩
set_option maxRecDepth 100000 in
set_option maxHeartbeats 2000000 in
theorem readN_calls (w : World) (base d : Nat) (p : DiskP) (D : DiskV) (b : Bool) (h : DiskAt w base d p D) (ho : Hid (D.on = true)) (hA : p.rA b = none) (hc : p.rc b = 0) (hl : (D.fl b).now.length = 0) :
    Calls Tryz.prog 131 #[.pointer (some ⟨d, 0, none⟩), .int .i64 (idx b), .int .i64 0, .int .i64 0] w (ReadRet w []) := by
  have H : Hid (DiskM w base d D) := hid ⟨p, h⟩
  have e1 := (h.fileB b).cell0.1
  rw [hA, hc, hl] at e1
  have HO := hid (own_nil w w.heap.size 5 1)
  obtain ⟨o, hoo⟩ : ∃ o, off b = o := ⟨_, rfl⟩
  rw [hoo] at e1
  have CF := fileB_calls w base d D b H ho.out
  rw [hoo] at CF
  generalize idx b = ib at *
  clear h hA hc hl hoo
  go_enter Tryz.func131, Tryz.ntmps131
  go_wp2_with (go_at_call 161; refine CF.mono ?_; rintro e w' ⟨rfl, hw⟩; subst hw)
  clear CF e1
  go_loopw [12, 62] (fun q i wr => q = .slice none 0 0 ∧ i = .int .i64 0 ∧ wr = w') (fun _ _ _ => 0)
  case atStart => exact ⟨rfl, rfl, rfl⟩
  case round =>
    obtain ⟨rfl, rfl, rfl⟩ := hrel
    go_wp2
    go_ret2
    exact ⟨none, 0, rfl, hid ⟨Up.refl _, HO.out⟩⟩
theorem read_calls (w : World) (base d : Nat) (D : DiskV) (b : Bool) (h : Hid (DiskM w base d D)) (ho : Hid (D.on = true)) (a n : Nat) (hl : Hid (a + n ≤ (D.fl b).now.length ∧ (D.fl b).now.length < 1000000)) :
    Calls Tryz.prog 131 #[.pointer (some ⟨d, 0, none⟩), .int .i64 (idx b), .int .i64 a, .int .i64 n] w (ReadRet w (part (D.fl b).now a n)) := by
  obtain ⟨p, h⟩ := h.out
  rcases (h.fileB b).row.2 with ⟨hv, h0⟩ | ⟨g, cap, cur, hv, _⟩
  · injection hv with e1 e2 e3
    obtain rfl : a = 0 := by have := hl.out; omega
    obtain rfl : n = 0 := by have := hl.out; omega
    have e0 : part (D.fl b).now 0 0 = [] := rfl
    rw [e0]
    exact readN_calls w base d p D b h ho e1 e3 h0
  · injection hv with e1 e2 e3
    exact readS_calls w base d p D b h ho a n hl g e1
end Go.Proofs.YtbcghggkfnagoaaGreatDoor
