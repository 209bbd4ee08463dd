/- PARTS OF A PROOF, one behind the other: THE PAGER as a whole: its disk, its cache, the transaction; as the world has it, and what a step of one part leaves of the others. THE PAGER's sure: a page as it is on the disk, through the cache. THE PAGER's Get, whatever goes on. CONDITIONS: none of this text's own. -/
import Derived.Test.YtbcghggkfnagoaaGreatDoorQS27
import Derived.Test.YtbcghggkfnagoaaGreatDoorQS21
import Derived.Test.YtbcghggkfnagoaaGreatDoorQS6
set_option linter.unusedVariables false
set_option linter.unusedSimpArgs false
namespace Go.Proofs.YtbcghggkfnagoaaGreatDoor
open Go Go.RowKit Go.Maps Hach

/-! ### plain -/
structure CaV where
  room : Int
  hits : Int
  miss : Int
  V : List Vis
structure MkV where
  id : Int
  n : Nat
  L : List (Int × List UInt8)
structure TrV where
  n : Nat
  L : List (Int × List UInt8)
  marks : List MkV
  last : Int
structure PgV where
  D : DiskV
  C : CaV
  count : Nat
  T : Option TrV
  dead : Bool
  com : Int
  rep : Int
def plainL (L : PgL) : List (Int × List UInt8) := L.map fun y => (y.1, y.2.bs)
structure MkX where
  id : Int
  n : Nat
  m : Nat
  L : PgL
def mkCells (x : MkX) : List Value := [.int .i64 x.id, .int .i64 x.n, .map (some x.m)]
def plainM (x : MkX) : MkV := ⟨x.id, x.n, plainL x.L⟩
/-! ### in the world -/
structure PgsAt (w : World) (m : Nat) (L : PgL) : Prop where
  map : MapP w m L
  rows : ∀ y ∈ L, PgRow w y.2
  keys : L.Pairwise fun a b => a.1 < b.1
structure PgB where
  c : Nat
  pd : DiskP
  mp : Nat
  t : Nat
  m : Nat
  L : PgL
  kA : Option Addr
  kc : Nat
  ms : List MkX
def tvOf (B : PgB) : Option TrV → Value
  | none => .pointer none
  | some _ => .pointer (some ⟨B.t, 0, none⟩)
structure TrAt (w : World) (base : Nat) (B : PgB) (T : TrV) : Prop where
  own : w.heap[B.t]? = some (.cells (tranCs T.n B.m (.slice B.kA B.ms.length B.kc) T.last) 131 (0, 0))
  pgs : PgsAt w B.m B.L
  plain : plainL B.L = T.L
  row : w.ownsRow base 180 3 (.slice B.kA B.ms.length B.kc) B.ms.length (B.ms.flatMap mkCells)
  marks : ∀ x ∈ B.ms, PgsAt w x.m x.L ∧ x.m ≠ B.m ∧ x.m ≠ B.mp ∧ x.m ≠ B.pd.m0 ∧ x.m ≠ B.pd.m1
  plainM : B.ms.map plainM = T.marks
  low : base ≤ B.t ∧ base ≤ B.m
  off : B.m ≠ B.mp ∧ B.m ≠ B.pd.m0 ∧ B.m ≠ B.pd.m1
structure PgAt (w : World) (base p d : Nat) (B : PgB) (S : PgV) : Prop where
  own : PagerAt w p ⟨d, B.c, S.count, S.com, S.rep⟩ (tvOf B S.T) S.dead
  disk : DiskAt w base d B.pd S.D
  cache : CacheM w base B.c B.mp S.C.room S.C.hits S.C.miss S.C.V
  tran : ∀ T, S.T = some T → TrAt w base B T
  off : B.mp ≠ B.pd.m0 ∧ B.mp ≠ B.pd.m1
  low : base ≤ p
def PgW (w : World) (base p d : Nat) (S : PgV) : Prop := ∃ B, PgAt w base p d B S

/-! ### what a set of blocks is made of -/
def Tys (w : World) (S : Nat → Prop) (ok : TypeId → Prop) (M : Nat → Prop) : Prop :=
  ∀ k, S k → k < w.heap.size → (∃ cs ty fr, w.heap[k]? = some (.cells cs ty fr) ∧ ok ty) ∨ (M k ∧ ∃ es cl, w.heap[k]? = some (.map es cl))
theorem ownRow_blk {w : World} {base n : Nat} {e : TypeId} {size k : Nat} {v : Value} {xs : List Value} (h : w.ownsRow base e size v n xs) (hk : v.ownBlock = some k) : ∃ cs fr, w.heap[k]? = some (.cells cs e fr) := by
  rcases h.2 with ⟨rfl, _⟩ | ⟨g, cap, cur, rfl, _, hg, _⟩
  · cases hk
  · obtain rfl : g = k := by simpa [Value.ownBlock] using hk
    exact ⟨_, _, hg⟩
section
variable {w w' w2 : World} {S : Nat → Prop} {ok ok2 : TypeId → Prop} {M M2 : Nat → Prop} {base p d : Nat}
theorem Tys.mono (h : Tys w S ok M) (h1 : ∀ t, ok t → ok2 t) (h2 : ∀ k, M k → M2 k) : Tys w S ok2 M2 := fun k hk hl => by
  rcases h k hk hl with ⟨cs, ty, fr, hb, ho⟩ | ⟨hm, e⟩
  · exact .inl ⟨cs, ty, fr, hb, h1 _ ho⟩
  · exact .inr ⟨h2 _ hm, e⟩
theorem Tys.cell (h : Tys w S ok M) {k : Nat} {cs : Array Value} {ty : TypeId} {fr : Nat × Nat} (hb : w.heap[k]? = some (.cells cs ty fr)) (hn : ¬ ok ty) : ¬ S k := fun hs => by
  rcases h k hs (Array.getElem?_eq_some_iff.1 hb).1 with ⟨cs', ty', fr', hb', ho⟩ | ⟨_, es, cl, hb'⟩
  · rw [hb] at hb'; injection hb' with hb'; injection hb' with _ e _; subst e; exact hn ho
  · rw [hb] at hb'; cases hb'
theorem Tys.map (h : Tys w S ok M) {k : Nat} {es : Array MapEntry} {cl : Nat} (hb : w.heap[k]? = some (.map es cl)) (hn : ¬ M k) : ¬ S k := fun hs => by
  rcases h k hs (Array.getElem?_eq_some_iff.1 hb).1 with ⟨cs', ty', fr', hb', ho⟩ | ⟨hm, _⟩
  · rw [hb] at hb'; cases hb'
  · exact hn hm
theorem Tys.row (h : Tys w S ok M) {b n : Nat} {e : TypeId} {size : Nat} {v : Value} {xs : List Value} (ho : w.ownsRow b e size v n xs) (hn : ¬ ok e) : ∀ k, v.ownBlock = some k → ¬ S k := fun k hk => by
  obtain ⟨cs, fr, hb⟩ := ownRow_blk ho hk
  exact h.cell hb hn
theorem MapS.blk {m : Nat} {L : Olds} (h : MapS w m L) : ∃ es cl, w.heap[m]? = some (.map es cl) := h.isMap
theorem MapIs.blk {m : Nat} {L : List (Int × Nat)} (h : MapIs w m L) : ∃ es cl, w.heap[m]? = some (.map es cl) := by obtain ⟨D, ⟨es, clock, h2, _⟩, _⟩ := h; exact ⟨es, clock, h2⟩
theorem CacheM.blk {g mp : Nat} {room hits miss : Int} {V : List Vis} (h : CacheM w base g mp room hits miss V) : (∃ cs fr, w.heap[g]? = some (.cells cs 195 fr)) ∧ ∃ es cl, w.heap[mp]? = some (.map es cl) := by
  obtain ⟨r, es, h1, _⟩ := h
  exact ⟨⟨_, _, h1.own⟩, h1.map.blk⟩
theorem DiskAt.tys {pd : DiskP} {D : DiskV} (h : DiskAt w base d pd D) (hf : Fr S w w') (ht : Tys w S ok M) (h1 : ¬ ok 87) (h2 : ¬ ok 173) (h3 : ¬ ok 4) (hm : ¬ M pd.m0 ∧ ¬ M pd.m1) : DiskAt w' base d pd D := by
  obtain ⟨_, _, b0⟩ := h.map0.blk
  obtain ⟨_, _, b1⟩ := h.map1.blk
  refine h.keep hf ?_ (ht.row h.keepR h3)
  rintro k (e | e | e | e | e)
  · subst e; exact ht.cell h.own h1
  · subst e; exact ht.map b0 hm.1
  · subst e; exact ht.map b1 hm.2
  · exact ht.row h.row0 h2 k e
  · exact ht.row h.row1 h2 k e
theorem CacheM.tys {g mp : Nat} {room hits miss : Int} {V : List Vis} (h : CacheM w base g mp room hits miss V) (hf : Fr S w w') (ht : Tys w S ok M) (h1 : ¬ ok 195) (h2 : ¬ ok 192) (h3 : ¬ ok 5) (hm : ¬ M mp) : CacheM w' base g mp room hits miss V := by
  obtain ⟨⟨_, _, bg⟩, _, _, bm⟩ := h.blk
  refine h.apart hf fun k hk hl => ⟨?_, ?_, ?_, ?_⟩
  · rintro rfl; exact ht.cell bg h1 hk
  · rintro rfl; exact ht.map bm hm hk
  · rintro ⟨cs, hb, _⟩; exact ht.cell hb h2 hk
  · intro cs fr hb; exact ht.cell hb h3 hk
theorem PgRow.tys {x : PgX} (h : PgRow w x) (hf : Fr S w w') (ht : Tys w S ok M) (h3 : ¬ ok 5) : PgRow w' x := by
  obtain ⟨cs, fr, hb⟩ := h.row.1
  exact h.fr hf (ht.cell hb h3)
theorem PgsAt.tys {m : Nat} {L : PgL} (h : PgsAt w m L) (hf : Fr S w w') (ht : Tys w S ok M) (h3 : ¬ ok 5) (hm : ¬ M m) : PgsAt w' m L := by
  obtain ⟨_, _, b0⟩ := h.map.isMap
  exact ⟨h.map.kept hf (ht.map b0 hm), fun y hy => (h.rows y hy).tys hf ht h3, h.keys⟩
theorem TrAt.tys {B : PgB} {T : TrV} (h : TrAt w base B T) (hf : Fr S w w') (ht : Tys w S ok M) (h1 : ¬ ok 131) (h2 : ¬ ok 180) (h3 : ¬ ok 5) (hm : ¬ M B.m ∧ ∀ x ∈ B.ms, ¬ M x.m) : TrAt w' base B T :=
  ⟨(hf.block B.t (Array.getElem?_eq_some_iff.1 h.own).1 (ht.cell h.own h1)).trans h.own, h.pgs.tys hf ht h3 hm.1, h.plain, hf.own h.row (ht.row h.row h2), fun x hx => ⟨(h.marks x hx).1.tys hf ht h3 (hm.2 x hx), (h.marks x hx).2⟩, h.plainM, h.low, h.off⟩
theorem PagerAt.tys {q : PgN} {t : Value} {dead : Bool} (h : PagerAt w p q t dead) (hf : Fr S w w') (ht : Tys w S ok M) (h1 : ¬ ok 80) : PagerAt w' p q t dead := h.fr hf (ht.cell h h1)
def pgTy (t : TypeId) : Prop := t = 87 ∨ t = 173 ∨ t = 195 ∨ t = 192 ∨ t = 80 ∨ t = 131 ∨ t = 180
structure Qp (base : Nat) (w w' : World) : Prop where
  low : Below base w w'
  keep : ∀ (k : Nat) (cs : Array Value) (ty : TypeId) (fr : Nat × Nat), ¬ pgTy ty → w.heap[k]? = some (.cells cs ty fr) → w'.heap[k]? = some (.cells cs ty fr)
theorem Qp.refl (base : Nat) (w : World) : Qp base w w := ⟨Below.refl _ _, fun _ _ _ _ _ h => h⟩
theorem Qp.trans (h : Qp base w w') (k : Qp base w' w2) : Qp base w w2 := ⟨h.low.trans k.low, fun k0 cs ty fr ht hb => k.keep _ _ _ _ ht (h.keep _ _ _ _ ht hb)⟩
theorem Qp.up (hu : Up w w') (hb : base ≤ w.heap.size) : Qp base w w' := ⟨Below.mono hu hb, fun k cs ty fr _ hk => (hu.block k (Array.getElem?_eq_some_iff.1 hk).1).trans hk⟩
theorem Qp.of (hf : Fr S w w') (ht : Tys w S ok M) (ho : ∀ t, ok t → pgTy t) (hb : base ≤ w.heap.size) (hl : ∀ k, k < w.heap.size → S k → base ≤ k) : Qp base w w' :=
  ⟨hf.below hb (fun k hk hs => by have := hl k (by omega) hs; omega), fun k cs ty fr hn hk => (hf.block k (Array.getElem?_eq_some_iff.1 hk).1 (ht.cell hk (fun e => hn (ho _ e)))).trans hk⟩
theorem Qp.of' (hf : Fr S w w') (ht : Tys w S ok M) (ho : ∀ t, ok t → pgTy t) (hb : Below base w w') : Qp base w w' :=
  ⟨hb, fun k cs ty fr hn hk => (hf.block k (Array.getElem?_eq_some_iff.1 hk).1 (ht.cell hk (fun e => hn (ho _ e)))).trans hk⟩
theorem foot_tys {pd : DiskP} {D : DiskV} (h : DiskAt w base d pd D) : Tys w (foot d pd D) (fun t => t = 87 ∨ t = 173) (fun k => k = pd.m0 ∨ k = pd.m1) := by
  rintro k (e | e | e | e | e) hl
  · subst e; exact .inl ⟨_, _, _, h.own, .inl rfl⟩
  · subst e; exact .inr ⟨.inl rfl, h.map0.blk⟩
  · subst e; exact .inr ⟨.inr rfl, h.map1.blk⟩
  · obtain ⟨cs, fr, hb⟩ := ownRow_blk h.row0 e
    exact .inl ⟨_, _, _, hb, .inr rfl⟩
  · obtain ⟨cs, fr, hb⟩ := ownRow_blk h.row1 e
    exact .inl ⟨_, _, _, hb, .inr rfl⟩
theorem foot_low {pd : DiskP} {D : DiskV} (h : DiskAt w base d pd D) : ∀ k, foot d pd D k → base ≤ k := by
  rintro k (e | e | e | e | e)
  · subst e; exact h.low.1
  · subst e; exact h.low.2.1
  · subst e; exact h.low.2.2
  · exact (own_block h.row0 k e).1
  · exact (own_block h.row1 k e).1
theorem cacheS_tys {g mp : Nat} {room hits miss : Int} {V : List Vis} (h : CacheM w base g mp room hits miss V) : Tys w (CacheS w g mp) (fun t => t = 195 ∨ t = 192) (fun k => k = mp) := by
  obtain ⟨⟨_, _, bg⟩, bm⟩ := h.blk
  rintro k (e | e | ⟨cs, hb, _⟩) hl
  · subst e; exact .inl ⟨_, _, _, bg, .inl rfl⟩
  · subst e; exact .inr ⟨rfl, bm⟩
  · exact .inl ⟨_, _, _, hb, .inr rfl⟩
theorem DiskAt.bs {pd : DiskP} {D : DiskV} (h : DiskAt w base d pd D) : base ≤ w.heap.size := by have := h.low.1; have := (Array.getElem?_eq_some_iff.1 h.own).1; omega
theorem Goes.maps {pd : DiskP} {D D' : DiskV} (h : DiskAt w base d pd D) {pd' : DiskP} (hp : ∀ k, foot d pd' D' k → plus (foot d pd D) w k) {m : Nat} {es : Array MapEntry} {cl : Nat} (hb : w.heap[m]? = some (.map es cl)) (hm : m ≠ pd.m0 ∧ m ≠ pd.m1) : m ≠ pd'.m0 ∧ m ≠ pd'.m1 := by
  have hn : ¬ foot d pd D m := (foot_tys h).map hb (fun e => e.elim hm.1 hm.2)
  have hl := (Array.getElem?_eq_some_iff.1 hb).1
  refine ⟨fun e => ?_, fun e => ?_⟩
  · rcases hp m (.inr (.inl e)) with h1 | h1
    · exact hn h1
    · omega
  · rcases hp m (.inr (.inr (.inl e))) with h1 | h1
    · exact hn h1
    · omega
end
section
variable {w w' : World} {base p d : Nat} {B : PgB} {S : PgV}
theorem PgAt.bs (h : PgAt w base p d B S) : base ≤ w.heap.size := h.disk.bs
theorem PgAt.up (h : PgAt w base p d B S) (hu : Up w w') : PgAt w' base p d B S := by
  have ht : Tys w No (fun _ => False) (fun _ => False) := fun k hk _ => hk.elim
  have hf := Fr.of_below hu
  exact ⟨h.own.fr hf id, h.disk.up hu, h.cache.up hu, fun T hT => (h.tran T hT).tys hf ht id id id ⟨id, fun _ _ => id⟩, h.off, h.low⟩
theorem PgW.up (h : PgW w base p d S) (hu : Up w w') : PgW w' base p d S := by obtain ⟨B, h⟩ := h; exact ⟨B, h.up hu⟩
theorem PgAt.diskStep {D' : DiskV} (h : PgAt w base p d B S) (g : Goes w (foot d B.pd S.D) base d D' w') : ∃ pd', PgAt w' base p d { B with pd := pd' } { S with D := D' } ∧ Qp base w w' := by
  obtain ⟨⟨pd', hd, hp⟩, hf⟩ := g
  have ht := foot_tys h.disk
  obtain ⟨_, _, _, bm⟩ := h.cache.blk
  refine ⟨pd', ⟨h.own.tys hf ht (by decide), hd, h.cache.tys hf ht (by decide) (by decide) (by decide) (fun e => e.elim h.off.1 h.off.2), fun T hT => ?_, Goes.maps h.disk hp bm h.off, h.low⟩, Qp.of hf ht (fun t e => e.elim .inl (fun e => .inr (.inl e))) h.bs (fun k _ hk => foot_low h.disk k hk)⟩
  have hT := h.tran T hT
  obtain ⟨_, _, bt⟩ := hT.pgs.map.isMap
  have k := hT.tys hf ht (by decide) (by decide) (by decide) ⟨fun e => e.elim hT.off.2.1 hT.off.2.2, fun x hx e => e.elim (hT.marks x hx).2.2.2.1 (hT.marks x hx).2.2.2.2⟩
  refine ⟨k.own, k.pgs, k.plain, k.row, fun x hx => ?_, k.plainM, k.low, ⟨hT.off.1, Goes.maps h.disk hp bt hT.off.2⟩⟩
  obtain ⟨_, _, bx⟩ := (hT.marks x hx).1.map.isMap
  exact ⟨(k.marks x hx).1, (hT.marks x hx).2.1, (hT.marks x hx).2.2.1, Goes.maps h.disk hp bx (hT.marks x hx).2.2.2⟩
theorem PgAt.cacheStep {C : CaV} (h : PgAt w base p d B S) (hc : CacheM w' base B.c B.mp C.room C.hits C.miss C.V) (hb : Below base w w') (hf : Fr (CacheS w B.c B.mp) w w') : PgAt w' base p d B { S with C := C } ∧ Qp base w w' := by
  have ht := cacheS_tys h.cache
  refine ⟨⟨h.own.tys hf ht (by decide), h.disk.tys hf ht (by decide) (by decide) (by decide) ⟨fun e => h.off.1 e.symm, fun e => h.off.2 e.symm⟩, hc, fun T hT => ?_, h.off, h.low⟩, Qp.of' hf ht (fun t e => e.elim (fun e => .inr (.inr (.inl e))) (fun e => .inr (.inr (.inr (.inl e))))) hb⟩
  have hT := h.tran T hT
  exact hT.tys hf ht (by decide) (by decide) (by decide) ⟨hT.off.1, fun x hx => (hT.marks x hx).2.2.1⟩
theorem PgAt.ownStep {S' : PgV} (h : PgAt w base p d B S) (hf : Fr (fun k => k = p) w w') (ho : PagerAt w' p ⟨d, B.c, S'.count, S'.com, S'.rep⟩ (tvOf B S'.T) S'.dead) (hD : S'.D = S.D) (hC : S'.C = S.C) (hT : ∀ T, S'.T = some T → S.T = some T) : PgAt w' base p d B S' ∧ Qp base w w' := by
  have ht : Tys w (fun k => k = p) (fun t => t = 80) (fun _ => False) := by
    rintro k rfl hl
    exact .inl ⟨_, _, _, h.own, rfl⟩
  refine ⟨⟨ho, ?_, ?_, fun T hT' => (h.tran T (hT T hT')).tys hf ht (by decide) (by decide) (by decide) ⟨id, fun _ _ => id⟩, h.off, h.low⟩, Qp.of hf ht (fun t e => .inr (.inr (.inr (.inr (.inl e))))) h.bs (fun k _ hk => by have := h.low; omega)⟩
  · rw [hD]; exact h.disk.tys hf ht (by decide) (by decide) (by decide) ⟨id, id⟩
  · rw [hC]; exact h.cache.tys hf ht (by decide) (by decide) (by decide) id
theorem PgAt.tranAt {T : TrV} (h : PgAt w base p d B S) (hT : S.T = some T) (hd : S.dead = false) : TranAt w p ⟨d, B.c, S.count, S.com, S.rep⟩ B.t B.m (.slice B.kA B.ms.length B.kc) T.last T.n B.L := by
  have k := h.tran T hT
  have o := h.own
  rw [hT, hd] at o
  exact ⟨o, k.own, k.pgs.map, k.pgs.rows⟩
end
end Go.Proofs.YtbcghggkfnagoaaGreatDoor

namespace Go.Proofs.YtbcghggkfnagoaaGreatDoor
open Go Go.RowKit Go.Maps Hach

/-! ### a cache that tells what is sure -/
def CacheOk (Sp : List (List UInt8)) (V : List Vis) : Prop := ∀ v ∈ V, v.2.2 = (0, false) ∧ ∃ y : Nat, v.1 = (y : Int) ∧ 1 ≤ y ∧ Sp[y - 1]? = some v.2.1
theorem evictV_sub (room p : Int) : ∀ (rest done : List Vis) (v : Vis), v ∈ evictV room p done rest → v ∈ done ∨ v ∈ rest := by
  intro rest
  induction rest with
  | nil => intro done v h; exact .inl h
  | cons x rest ih =>
    intro done v h
    unfold evictV at h
    split at h
    · split at h
      · exact (ih done v h).imp id (List.mem_cons_of_mem _)
      · exact (List.mem_append.1 h).imp id (List.mem_cons_of_mem _)
    · split at h
      · rcases ih (done ++ [x]) v h with h | h
        · rcases List.mem_append.1 h with h | h
          · exact .inl h
          · rw [List.mem_singleton.1 h]; exact .inr List.mem_cons_self
        · exact .inr (List.mem_cons_of_mem _ h)
      · exact List.mem_append.1 h
theorem nodup_le (m : Nat) : ∀ l : List Nat, l.Nodup → (∀ x ∈ l, x < m) → l.length ≤ m := by
  induction m with
  | zero =>
    intro l _ h
    cases l with
    | nil => exact Nat.le_refl _
    | cons x r => exact absurd (h x List.mem_cons_self) (by omega)
  | succ m ih =>
    intro l hd h
    by_cases hm : m ∈ l
    · have h1 := ih (l.erase m) (hd.erase m) fun x hx => by
        rw [hd.mem_erase_iff] at hx
        have := h x hx.2
        omega
      rw [List.length_erase_of_mem hm] at h1
      omega
    · have h1 := ih l hd fun x hx => by
        have := h x hx
        have : x ≠ m := fun e => hm (e ▸ hx)
        omega
      omega
theorem CacheOk.len {Sp : List (List UInt8)} {V : List Vis} (h : CacheOk Sp V) (nd : (V.map (·.1)).Nodup) : V.length ≤ Sp.length := by
  have h1 := nodup_le Sp.length (V.map fun v => v.1.toNat - 1) (by
    rw [List.Nodup, List.pairwise_map]
    rw [List.Nodup, List.pairwise_map] at nd
    refine List.Pairwise.imp_of_mem ?_ nd
    intro a b ha hb hne e
    obtain ⟨_, y, e1, h1, _⟩ := h a ha
    obtain ⟨_, z, e2, h2, _⟩ := h b hb
    exact hne (by omega)) (fun x hx => by
    obtain ⟨v, hv, rfl⟩ := List.mem_map.1 hx
    obtain ⟨_, y, e1, h1, h2⟩ := h v hv
    have := (List.getElem?_eq_some_iff.1 h2).1
    omega)
  rwa [List.length_map] at h1
theorem find_split {V : List Vis} {p : Int} (h : p ∈ V.map (·.1)) : ∃ V1 v V2, V = V1 ++ v :: V2 ∧ v.1 = p := by
  obtain ⟨v, hv, e⟩ := List.mem_map.1 h
  obtain ⟨V1, V2, e2⟩ := List.append_of_mem hv
  exact ⟨V1, v, V2, e2, e⟩
structure SureD (D : DiskV) (Sp : List (List UInt8)) : Prop where
  data : DataIs D.f0 Sp
  on : D.on = true
  most : Sp.length ≤ 4000
  len : ∀ b ∈ Sp, b.length = 512
theorem secs4_flat {b : List UInt8} (h : b.length = 512) : (secs4 b).flatten = b := by
  have e : secs4 b = [(b.drop 0).take 128, (b.drop 128).take 128, (b.drop 256).take 128, (b.drop 384).take 128] := rfl
  rw [e]
  simp only [List.flatten_cons, List.flatten_nil, List.append_nil, List.drop_zero]
  have k : ∀ n, n + 128 ≤ 512 → (b.drop n).take 128 ++ b.drop (n + 128) = b.drop n := fun n _ => by
    rw [← List.drop_drop]
    exact List.take_append_drop 128 (b.drop n)
  have e4 : (b.drop 384).take 128 = b.drop 384 := List.take_of_length_le (by rw [List.length_drop]; omega)
  rw [e4, k 256 (by omega), k 128 (by omega)]
  exact List.take_append_drop 128 b
theorem SureD.part {D : DiskV} {Sp : List (List UInt8)} (h : SureD D Sp) {y : Nat} {b : List UInt8} (h1 : 1 ≤ y) (hb : Sp[y - 1]? = some b) : part D.f0.now ((y - 1) * 4) 4 = b.map byteCell := by
  have hy := (List.getElem?_eq_some_iff.1 hb).1
  have hpg := h.data.page h1 (by omega)
  rw [hb] at hpg
  have hl : (D.f0.now.drop ((y - 1) * 4)).take 4 = secs4 b := by
    refine List.ext_getElem? fun j => ?_
    rw [List.getElem?_take]
    by_cases hj : j < 4
    · rw [if_pos hj, List.getElem?_drop, show (y - 1) * 4 + j = 4 * (y - 1) + j by omega, hpg.inn j hj, secs4_get b j hj]; rfl
    · rw [if_neg hj, List.getElem?_eq_none (by rw [secs4_len]; omega)]
  unfold Proofs.YtbcghggkfnagoaaGreatDoor.part
  rw [hl]
  have hbl := h.len b (List.mem_of_getElem? hb)
  conv => rhs; rw [← secs4_flat hbl]
  rw [List.map_flatten]
  rfl
def PageR (w : World) (A : Option Addr) (c : Nat) (b : List UInt8) : Prop := w.ownsRow 0 5 1 (.slice A 512 c) 512 (b.map byteCell)
theorem PageR.of {w w' : World} {S : Nat → Prop} {ok : TypeId → Prop} {M : Nat → Prop} {A : Option Addr} {c : Nat} {b : List UInt8} (h : PageR w A c b) (hf : Fr S w w') (ht : Tys w S ok M) (h3 : ¬ ok 5) : PageR w' A c b := hf.own h (ht.row h h3)
section
variable (w : World) (base p d : Nat) (B : PgB) (S : PgV) (Sp : List (List UInt8)) (i : Nat) (b : List UInt8)
set_option maxRecDepth 100000 in
set_option maxHeartbeats 2000000 in
theorem sureHit_calls (h : Hid (PgAt w base p d B S)) (V1 V2 : List Vis) (v : Vis) (hv : Hid (S.C.V = V1 ++ v :: V2)) (hi : Hid (v.1 = (i : Int))) :
    Calls Tryz.prog 118 #[.pointer (some ⟨p, 0, none⟩), .int .i64 i] w fun en w' => ∃ A c hits, en = .returned (.tuple #[.slice A 512 c, .int .i64 0]) ∧ Hid (PgAt w' base p d B { S with C := ⟨S.C.room, hits, S.C.miss, (V1 ++ V2) ++ [v]⟩ } ∧ Qp base w w' ∧ PageR w' A c v.2.1) := by
  have HC := h.out.cache
  rw [hv.out] at HC
  have CG := getHitMW_calls w base B.c B.mp S.C.room S.C.hits S.C.miss V1 V2 v (hid HC) _ rfl
  rw [hi.out] at CG
  have SU := hid (fun w' hits A c (k : _ ∧ _ ∧ _ ∧ _) => And.intro (h.out.cacheStep (w' := w') (C := ⟨S.C.room, hits, S.C.miss, (V1 ++ V2) ++ [v]⟩) k.2.1 k.2.2.1 k.2.2.2) (show PageR w' A c v.2.1 from k.1))
  obtain ⟨_, e1, _⟩ := h.out.own.cells
  clear HC
  unfold ptr at CG
  simp only at e1
  go_enter Tryz.func118, Tryz.ntmps118
  go_wp2_with (go_at_call 156; refine CG.mono ?_; rintro e w2 ⟨A, c, rfl, hh⟩)
  have RES := SU.out w2 _ A c hh.out
  have RES := hid (And.intro RES.1.1 (And.intro RES.1.2 RES.2))
  clear hh SU
  go_ret2
  exact ⟨A, c, _, rfl, RES⟩
theorem pplace_calls (w : World) (k : Nat) (hk : Hid (1 ≤ k ∧ k ≤ 4000)) : Calls Tryz.prog 145 #[.int .i64 k] w fun en w' => en = .returned (.int .i64 ((k - 1) * 4 : Nat)) ∧ w' = w := by
  have := place_calls w k hk
  rwa [show placeV (k : Int) = (((k - 1) * 4 : Nat) : Int) by unfold placeV; have := hk.out; omega] at this
set_option maxRecDepth 100000 in
set_option maxHeartbeats 2000000 in
theorem sureMiss_calls (h : Hid (PgAt w base p d B S)) (hs : Hid (SureD S.D Sp)) (hc : Hid (CacheOk Sp S.C.V)) (hi : Hid (1 ≤ i)) (hb : Hid (Sp[i - 1]? = some b)) (hno : Hid ((i : Int) ∉ S.C.V.map (·.1))) :
    Calls Tryz.prog 118 #[.pointer (some ⟨p, 0, none⟩), .int .i64 i] w fun en w' => ∃ A c miss, en = .returned (.tuple #[.slice A 512 c, .int .i64 0]) ∧ Hid (PgAt w' base p d B { S with C := ⟨S.C.room, S.C.hits, miss, evictV S.C.room i [] (S.C.V ++ [((i : Int), b, 0, false)])⟩ } ∧ Qp base w w' ∧ PageR w' A c b) := by
  have hil := (List.getElem?_eq_some_iff.1 hb.out).1
  have hbl := hs.out.len b (List.mem_of_getElem? hb.out)
  have IB : Hid (1 ≤ i ∧ i ≤ 4000) := hid ⟨hi.out, by have := hs.out.most; omega⟩
  have WF : Hid ((Lit.int .i64 (i : Int)).wf = true) := hid (wf_nat (by have := IB.out; omega))
  have CG := getMissW_calls w base B.c B.mp S.C.room S.C.hits S.C.miss S.C.V i (hid h.out.cache) WF hno _ rfl
  have SU := hid (fun w' (k : _ ∧ _ ∧ _) => h.out.cacheStep (w' := w') (C := ⟨S.C.room, S.C.hits, IntKind.i64.wrap (S.C.miss + 1), S.C.V⟩) k.1 k.2.1 k.2.2)
  obtain ⟨_, e1, _⟩ := h.out.own.cells
  unfold ptr at CG
  simp only at e1
  go_enter Tryz.func118, Tryz.ntmps118
  go_wp2_with (go_at_call 156; refine CG.mono ?_; rintro e w2 ⟨rfl, hh⟩)
  obtain ⟨P2, Q2⟩ := SU.out w2 hh.out
  have P2 := hid P2
  have Q2 := hid Q2
  clear hh SU CG
  have c0 := P2.out.own.cells.1
  have c1 := P2.out.own.cells.2.1
  have DM : Hid (DiskM w2 base d S.D) := hid ⟨_, P2.out.disk⟩
  have CP := pplace_calls w2.drew i IB
  have LN : Hid (((i - 1) * 4) + 4 ≤ S.D.f0.now.length ∧ S.D.f0.now.length < 1000000) := hid (by rw [hs.out.data.1, flat4_len]; have := IB.out; have := hs.out.most; omega)
  have RC := read_calls w2.drew base d S.D false (hid (DM.out.up (Up.drew w2))) (hid hs.out.on) ((i - 1) * 4) 4 LN
  have PT : Hid (part S.D.f0.now ((i - 1) * 4) 4 = b.map byteCell) := hid (hs.out.part hi.out hb.out)
  rw [show part (S.D.fl false).now ((i - 1) * 4) 4 = b.map byteCell from PT.out] at RC
  unfold ReadRet at RC
  rw [List.length_map, hbl, show idx false = (0 : Int) from rfl] at RC
  have US : w2.drew.cell? ⟨p, 0, none⟩ = some (.pointer (some ⟨d, 0, none⟩)) := c0
  obtain ⟨K, hK⟩ : ∃ K, (i - 1) * 4 = K := ⟨_, rfl⟩
  rw [hK] at CP RC
  clear hK LN
  go_wp2_with fail
  refine s_start (fun w9 => w9.cell? ⟨p, 0, none⟩ = some (.pointer (some ⟨d, 0, none⟩))) (by kernel_rfl) ?_
  refine s_tk 0 22 (v := ?_) US (fun w9 hS => ?_) ?_; rotate_left
  · go_simp <;> with_reducible rfl
  try simp only [pz]
  refine s_tk 1 23 (v := ?_) US (fun w9 hS => ?_) ?_; rotate_left
  · go_simp <;> with_reducible rfl
  try simp only [pz]
  refine s_tk 2 24 (v := ?_) US (fun w9 hS => ?_) ?_; rotate_left
  · go_simp <;> with_reducible rfl
  try simp only [pz]
  refine s_tk 3 25 (v := ?_) US (fun w9 hS => ?_) ?_; rotate_left
  · have s0 := hS; go_simp <;> with_reducible rfl
  try simp only [pz]
  refine s_tk 4 26 (v := ?_) US (fun w9 hS => ?_) ?_; rotate_left
  · go_simp <;> with_reducible rfl
  try simp only [pz]
  refine s_ca 5 (fun K9 hK9 => ?_)
  go_simp
  go_at_call 145
  refine CP.mono ?_
  rintro en w8 ⟨rfl, hw8⟩
  obtain rfl := hw8.symm
  clear hw8
  refine hK9.out _ _ US ?_
  clear hK9 K9
  try simp only [pz]
  refine s_ca 6 (fun K9 hK9 => ?_)
  go_simp
  go_at_call 131
  refine RC.mono ?_
  rintro en w3 ⟨A3, c3, rfl, hh⟩
  have U3 : Hid (Up w2 w3) := hid ((Up.drew w2).t hh.out.1)
  have O3 := hid hh.out.2
  clear hh
  replace US : w3.cell? ⟨p, 0, none⟩ = some (.pointer (some ⟨d, 0, none⟩)) := U3.out.c c0
  refine hK9.out _ _ US ?_
  clear hK9 K9
  try simp only [pz]
  refine s_tk 7 21 (v := ?_) US (fun w9 hS => ?_) ?_; rotate_left
  · go_simp <;> with_reducible rfl
  try simp only [pz]
  refine s_tk 8 29 (v := ?_) US (fun w9 hS => ?_) ?_; rotate_left
  · go_simp <;> with_reducible rfl
  try simp only [pz]
  refine s_tk 9 30 (v := ?_) US (fun w9 hS => ?_) ?_; rotate_left
  · go_simp <;> with_reducible rfl
  try simp only [pz]
  refine s_tk 10 8 (v := ?_) US (fun w9 hS => ?_) ?_; rotate_left
  · go_simp <;> with_reducible rfl
  try simp only [pz]
  refine s_tk 11 9 (v := ?_) US (fun w9 hS => ?_) ?_; rotate_left
  · go_simp <;> with_reducible rfl
  try simp only [pz]
  refine s_done (by kernel_rfl) ?_
  clear US
  first | (rename_i K1 h1; refine h1 _ _ ?_; clear h1 K1) | skip
  have P3 := hid (P2.out.up U3.out)
  have PB : Hid (Bytes w3 A3 b) := hid (Rd.bytes (Rd.own O3.out))
  have ND := P3.out.cache.nodup
  have VL : Hid (S.C.V.length < 1000000) := hid (by have := hc.out.len ND; have := hs.out.most; omega)
  have CQ := putNewM_calls w3 base B.c B.mp S.C.room S.C.hits _ S.C.V i A3 c3 b (hid P3.out.cache) (by have := IB.out; omega) WF hno (hid hbl) PB VL
  have SV := hid (fun w' (k : _ ∧ _ ∧ _) => And.intro (P3.out.cacheStep (w' := w') (C := ⟨S.C.room, S.C.hits, IntKind.i64.wrap (S.C.miss + 1), evictV S.C.room i [] (S.C.V ++ [((i : Int), b, 0, false)])⟩) k.1 k.2.1 k.2.2) (PageR.of (own_base O3.out (Nat.zero_le _)) k.2.2 (cacheS_tys P3.out.cache) (by decide)))
  unfold ptr at CQ
  clear CP RC ND
  replace c1 := U3.out.c c1
  have Q3 := hid (Q2.out.trans (Qp.up U3.out P2.out.bs))
  go_wp2_with (go_at_call 148; refine CQ.mono ?_; rintro e w4 ⟨rfl, hh⟩)
  obtain ⟨⟨P4, Q4⟩, R4⟩ := SV.out w4 hh.out
  have RES := hid (And.intro P4 (And.intro (Q3.out.trans Q4) R4))
  clear hh SV P4 Q4 R4
  go_ret2
  exact ⟨A3, c3, _, rfl, RES⟩
end
end Go.Proofs.YtbcghggkfnagoaaGreatDoor

namespace Go.Proofs.YtbcghggkfnagoaaGreatDoor
open Go Go.RowKit Go.Maps Hach

section
variable (w : World) (base p d : Nat) (B : PgB) (S : PgV) (Sp : List (List UInt8)) (i : Nat) (b : List UInt8)
def SureRet (w : World) (base p d : Nat) (B : PgB) (S : PgV) (Sp : List (List UInt8)) (b : List UInt8) (en : Ending) (w' : World) : Prop :=
  ∃ A c C, en = .returned (.tuple #[.slice A 512 c, .int .i64 0]) ∧ Hid ((PgAt w' base p d B { S with C := C } ∧ CacheOk Sp C.V ∧ C.room = S.C.room) ∧ Qp base w w' ∧ PageR w' A c b)
theorem sure_calls (h : Hid (PgAt w base p d B S)) (hs : Hid (SureD S.D Sp)) (hc : Hid (CacheOk Sp S.C.V)) (hi : Hid (1 ≤ i)) (hb : Hid (Sp[i - 1]? = some b)) :
    Calls Tryz.prog 118 #[.pointer (some ⟨p, 0, none⟩), .int .i64 i] w (SureRet w base p d B S Sp b) := by
  by_cases hin : (i : Int) ∈ S.C.V.map (·.1)
  · obtain ⟨V1, v, V2, e, ev⟩ := find_split hin
    refine (sureHit_calls w base p d B S i h V1 V2 v (hid e) (hid ev)).mono ?_
    rintro en w' ⟨A, c, hits, rfl, hh⟩
    obtain ⟨k1, k2, k3⟩ := hh.out
    have hvb : v.2.1 = b := by
      obtain ⟨_, y, e1, e2, e3⟩ := hc.out v (by rw [e]; simp)
      obtain rfl : y = i := by omega
      have := hb.out
      rw [e3] at this
      exact Option.some.inj this
    rw [hvb] at k3
    refine ⟨A, c, _, rfl, hid ⟨⟨k1, fun x hx => hc.out x ?_, rfl⟩, k2, k3⟩⟩
    rw [e]
    simp only [List.mem_append, List.mem_cons, List.mem_singleton, List.not_mem_nil, or_false] at hx ⊢
    rcases hx with (hx | hx) | hx
    · exact .inl hx
    · exact .inr (.inr hx)
    · exact .inr (.inl hx)
  · refine (sureMiss_calls w base p d B S Sp i b h hs hc hi hb (hid hin)).mono ?_
    rintro en w' ⟨A, c, miss, rfl, hh⟩
    obtain ⟨k1, k2, k3⟩ := hh.out
    refine ⟨A, c, _, rfl, hid ⟨⟨k1, fun x hx => ?_, rfl⟩, k2, k3⟩⟩
    rcases evictV_sub _ _ _ _ x hx with hx | hx
    · cases hx
    · rcases List.mem_append.1 hx with hx | hx
      · exact hc.out x hx
      · rw [List.mem_singleton.1 hx]
        exact ⟨rfl, i, rfl, hi.out, hb.out⟩
theorem ppages0_calls (q : PgN) (h : Hid (PagerAt w p q (.pointer none) false)) : Calls Tryz.prog 18 #[.pointer (some ⟨p, 0, none⟩)] w fun en w' => en = .returned (.int .i64 q.count) ∧ w' = w := by
  obtain ⟨_, _, e2, e3, _⟩ := h.out.cells
  go_enter Tryz.func18, Tryz.ntmps18
  go_wp2_with (go_at_call 71; refine (palive_calls w p q _ false h).mono ?_; rintro e w' ⟨rfl, hw⟩; obtain rfl := hw.symm)
  go_ret
  exact ⟨rfl, rfl⟩
def pagesN (S : PgV) : Nat := match S.T with | none => S.count | some T => T.n
theorem ppagesW_calls' (h : Hid (PgAt w base p d B S)) (hd : S.dead = false) : Calls Tryz.prog 18 #[.pointer (some ⟨p, 0, none⟩)] w fun en w' => en = .returned (.int .i64 (pagesN S)) ∧ w' = w := by
  unfold pagesN
  cases hT : S.T with
  | none =>
    have o := h.out.own
    rw [hT, hd] at o
    exact ppages0_calls w p _ (hid o)
  | some T => exact ppages_calls w p _ _ _ _ _ _ _ (hid (h.out.tranAt hT hd))
set_option maxRecDepth 100000 in
set_option maxHeartbeats 2000000 in
theorem pgetS_calls (h : Hid (PgAt w base p d B S)) (hd : Hid (S.dead = false)) (hT : Hid (∀ T, S.T = some T → gget B.L (i : Int) = none)) (hn : Hid (i ≤ pagesN S ∧ pagesN S ≤ 4000)) (hs : Hid (SureD S.D Sp)) (hc : Hid (CacheOk Sp S.C.V)) (hi : Hid (1 ≤ i)) (hb : Hid (Sp[i - 1]? = some b)) :
    Calls Tryz.prog 44 #[.pointer (some ⟨p, 0, none⟩), .int .i64 i] w (SureRet w base p d B S Sp b) := by
  have PG := ppagesW_calls' w base p d B S h hd.out
  have SC := sure_calls w base p d B S Sp i b h hs hc hi hb
  have o := h.out.own
  rw [hd.out] at o
  have H := hid o
  obtain ⟨_, _, _, e3, _⟩ := o.cells
  have h1 : ¬ (i : Int) < 1 := by have := hi.out; omega
  have h2 : ¬ (pagesN S : Int) < i := by have := hn.out; omega
  have WF : Hid ((Lit.int .i64 (i : Int)).wf = true) := hid (wf_nat (by have := hn.out; omega))
  generalize pagesN S = n at *
  clear o
  unfold tvOf at e3 H
  unfold SureRet at SC ⊢
  obtain ⟨T0, hST⟩ : ∃ x, S.T = x := ⟨_, rfl⟩
  cases T0 with
  | none =>
    rw [hST] at e3 H
    simp only at e3 H
    clear hST
    go_enter Tryz.func44, Tryz.ntmps44
    go_wp2_with (first | (go_at_call 116; refine (pready_calls w p _ _ false H).mono ?_; rintro e w' ⟨rfl, hw⟩; obtain rfl := hw.symm) | (go_at_call 18; refine PG.mono ?_; rintro e w' ⟨rfl, hw⟩; obtain rfl := hw.symm) | fail)
    refine SC.mono ?_
    rintro en w2 ⟨A, c, C, rfl, hh⟩
    clear SC PG
    go_wp2
    go_ret2
    exact ⟨A, c, C, rfl, hh⟩
  | some T =>
    have TA := h.out.tran T hST
    have f1 : w.cell? ⟨B.t, 1, none⟩ = some (.map (some B.m)) := by rw [cell_of_row _ _ _ _ _ _ TA.own]; rfl
    have lk := TA.pgs.map.look (p := (i : Int)) WF.out
    have hpv : pgAt B.L i = .slice none 0 0 := by unfold pgAt; rw [hT.out T hST]
    rw [hpv, hT.out T hST] at lk
    simp only [Option.isSome_none] at lk
    rw [hST] at e3 H
    simp only at e3 H
    clear hST TA hpv
    go_enter Tryz.func44, Tryz.ntmps44
    go_wp2_with (first | (go_at_call 116; refine (pready_calls w p _ _ false H).mono ?_; rintro e w' ⟨rfl, hw⟩; obtain rfl := hw.symm) | (go_at_call 18; refine PG.mono ?_; rintro e w' ⟨rfl, hw⟩; obtain rfl := hw.symm) | fail)
    refine SC.mono ?_
    rintro en w2 ⟨A, c, C, rfl, hh⟩
    clear SC PG
    go_wp2
    go_ret2
    exact ⟨A, c, C, rfl, hh⟩
end
end Go.Proofs.YtbcghggkfnagoaaGreatDoor
