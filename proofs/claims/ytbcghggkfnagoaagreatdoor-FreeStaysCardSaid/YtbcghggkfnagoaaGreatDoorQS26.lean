/- PARTS OF A PROOF, one behind the other: THE WALK of Put, where the page is not there. THE WALKS of cache's New, Peek, and of the law's page. THE WALK of Get, where the page is there. THE CACHE AS WHAT IS TOLD OF IT: pages, bytes, pins, marks. CONDITIONS: none of this text's own. -/
import Derived.Test.YtbcghggkfnagoaaGreatDoorQS25
import Derived.Test.YtbcghggkfnagoaaGreatDoorQS10
set_option linter.unusedVariables false
set_option linter.unusedSimpArgs false
namespace Go.Proofs.YtbcghggkfnagoaaGreatDoor
open Go Go.RowKit Hach

section
variable {w w' : World} {base g : Nat} {room : Int} {mp r : Nat} {hits miss : Int} {es : List Ent} {x : Ent}
theorem CacheAt.more (h : CacheAt w base g room mp r hits miss es) {S : Nat → Prop} (hf : Fr S w w') (hSg : ¬ S g) (hSrow : ∀ n v xs, w.ownsRow base 5 1 v n xs → ∀ k, v.ownBlock = some k → ¬ S k)
    (hent : ∀ b, EntB w b → EntB w' b) (hcell : ∀ y ∈ es, ∀ i v, w.cell? ⟨y.blk, i, none⟩ = some v → i < 4 → w'.cell? ⟨y.blk, i, none⟩ = some v)
    (hrow : Chain w' r ((es ++ [x]).map Ent.blk ++ [r])) (hm : MapIs w' mp ((es ++ [x]).map key)) (hx : EntB w' x.blk ∧ EntIs w' base x) (hnew : x.blk ∉ r :: es.map Ent.blk) (hp : x.page ∉ es.map Ent.page)
    (hwf : (Lit.int .i64 x.page).wf = true) (hlow : base ≤ x.blk) : CacheAt w' base g room mp r hits miss (es ++ [x]) := by
  refine ⟨?_, hent _ h.ring, hrow, ?_, ?_, hm, ?_, ?_, ⟨h.lows.1, h.lows.2.1, h.lows.2.2.1, ?_⟩⟩
  · have := h.own
    unfold CacheB at *
    rw [← this]
    exact hf.block g (Array.getElem?_eq_some_iff.1 this).1 hSg
  · rw [List.map_append, ← List.cons_append, List.nodup_append]
    refine ⟨h.nodup, by simp, fun a ha b hb e => hnew ?_⟩
    rw [show b = x.blk by simpa using hb] at e
    rw [← e]; exact ha
  · intro y hy
    rcases List.mem_append.1 hy with hy | hy
    · exact ⟨hent _ (h.ents y hy).1, (h.ents y hy).2.keep hf (fun i v hv hi => hcell y hy _ _ hv hi) hSrow⟩
    · rw [List.mem_singleton.1 hy]; exact hx
  · rw [List.map_append, List.nodup_append]
    refine ⟨h.pages, by simp, fun a ha b hb e => hp ?_⟩
    rw [show b = x.page by simpa using hb] at e
    rw [← e]; exact ha
  · intro y hy
    rcases List.mem_append.1 hy with hy | hy
    · exact h.wf y hy
    · rw [List.mem_singleton.1 hy]; exact hwf
  · intro y hy
    rcases List.mem_append.1 hy with hy | hy
    · exact h.lows.2.2.2 y hy
    · rw [List.mem_singleton.1 hy]; exact hlow
theorem CacheAt.mem (h : CacheAt w base g room mp r hits miss es) {b : Nat} (hb : b ∈ r :: es.map Ent.blk) : EntB w b ∧ base ≤ b := by
  rcases List.mem_cons.1 hb with rfl | hb
  · exact ⟨h.ring, h.lows.2.1⟩
  · obtain ⟨y, hy, rfl⟩ := List.mem_map.1 hb; exact ⟨(h.ents y hy).1, h.lows.2.2.2 y hy⟩
theorem CacheAt.back (h : CacheAt w base g room mp r hits miss es) : w.cell? ⟨r, 5, none⟩ = some (ptr (lastOf r (es.map Ent.blk))) := (Chain.append.1 h.row).2.1.2
theorem CacheAt.end4 (h : CacheAt w base g room mp r hits miss es) : w.cell? ⟨lastOf r (es.map Ent.blk), 4, none⟩ = some (ptr r) := (Chain.append.1 h.row).2.1.1
end

theorem clone_callsX (w : World) (A : Option Addr) (xs : List UInt8) (c n : Nat) (hn : Hid (xs.length = n)) (hl : Hid (n ≤ 1099511627776)) (hc : Hid (Bytes w A xs)) :
    Calls Tryz.prog 117 #[.slice A n c] w fun e w' => ∃ A c, e = .returned (.slice A n c) ∧ Hid (w'.ownsRow w.heap.size 5 1 (.slice A n c) n (xs.map byteCell)) ∧ Up w w' := by
  have := clone_calls w A xs c (by rw [hn.out]; exact hl.out) hc
  rw [hn.out] at this
  refine this.mono ?_
  rintro e w' ⟨A, c, rfl, o, b⟩
  unfold OwnB at o
  rw [hn.out] at o
  exact ⟨A, c, by rw [hn.out], hid o, b⟩

theorem frE_trans {w w1 w2 : World} {mp : Nat} (h : Fr (fun k => k = mp ∨ EntB w k) w w1) (k : Fr (fun k => k = mp ∨ EntB w1 k) w1 w2) : Fr (fun k => k = mp ∨ EntB w k) w w2 :=
  h.trans k (fun i hi hh => by
    rcases hh with h9 | h9
    · exact .inl h9
    · by_cases h8 : i = mp
      · exact .inl h8
      · by_cases h7 : EntB w i
        · exact .inr h7
        · exact .inr (h9.back h (by rintro (q | q); exact h8 q; exact h7 q) hi))
theorem frE_up {w w1 : World} {mp : Nat} (u : Up w w1) : Fr (fun k => k = mp ∨ EntB w k) w w1 := (Fr.of_below u).mono (fun _ f => f.elim)
def PutRet (w : World) (base g : Nat) (room : Int) (mp r : Nat) (hits miss : Int) (es : List Ent) (p : Int) (D : List UInt8) (en : Ending) (w' : World) : Prop :=
  en = .returned (.int .i64 0) ∧ Hid (∃ e, w.heap.size ≤ e ∧ CacheAt w' base g room mp r hits miss (evict room e [] (es ++ [⟨p, e, D, 0, false⟩])) ∧ Below base w w' ∧ Fr (fun k => k = mp ∨ EntB w k) w w')

set_option maxRecDepth 100000 in
set_option maxHeartbeats 1000000 in
theorem putNew_calls (w : World) (base g : Nat) (room : Int) (mp r : Nat) (hits miss : Int) (es : List Ent) (p : Int) (A : Option Addr) (c : Nat) (D : List UInt8) (h : Hid (CacheAt w base g room mp r hits miss es))
    (hp : 1 ≤ p) (hwf : Hid ((Lit.int .i64 p).wf = true)) (hno : Hid (p ∉ es.map Ent.page)) (hD : Hid (D.length = 512)) (hb : Hid (Bytes w A D)) (hl : Hid (es.length < 1000000)) :
    Calls Tryz.prog 148 #[ptr g, .int .i64 p, .slice A 512 c] w (PutRet w base g room mp r hits miss es p D) := by
  have c2 := h.out.own.c2
  have p1 : ¬ p < 1 := by omega
  have u0 : Up w (w.alloc (.cells #[.pointer (some ⟨g, 0, none⟩)] 77)) := (Below.refl _ _).alloc (Nat.le_refl _) _
  have hlook : ∀ w', Up w w' → (Instr.lookup 193 (.map (some mp)) (.int .i64 p) false).run Tryz.prog w' = .ok (.pointer none) w' := fun w' u => by
    have := (h.out.map.kept (Fr.of_below u) id).look hwf.out
    rw [lookup_none (by rw [keys_pages]; exact hno.out)] at this
    exact this
  have L0 := hlook _ u0
  have M0 := u0.c h.out.own.c1
  unfold ptr at c2 L0 M0 ⊢
  clear hp
  go_enter Tryz.func148, Tryz.ntmps148
  go_wp2_with (go_at_call 158; refine (made_calls _ g r (u0.c c2)).mono ?_; rintro e w' ⟨rfl, rfl⟩)
  have U3 : Up w (((w.alloc (.cells #[.pointer (some ⟨g, 0, none⟩)] 77)).alloc (.cells #[.pointer (some ⟨w.heap.size + 1 + 1, 0, none⟩)] 190)).alloc (.cells #[.int .i64 p, .slice none 0 0, .int .i64 0, .bool false, .pointer none, .pointer none] 192)) := ((u0.t (show Up _ _ from (Below.refl _ _).alloc (Nat.le_refl _) _)).t (show Up _ _ from (Below.refl _ _).alloc (Nat.le_refl _) _))
  have k3 : (((w.alloc (.cells #[.pointer (some ⟨g, 0, none⟩)] 77)).alloc (.cells #[.pointer (some ⟨w.heap.size + 1 + 1, 0, none⟩)] 190)).alloc (.cells #[.int .i64 p, .slice none 0 0, .int .i64 0, .bool false, .pointer none, .pointer none] 192)).cell? ⟨w.heap.size, 0, none⟩ = some (.pointer (some ⟨g, 0, none⟩)) := by go_simp
  have k7 : (((w.alloc (.cells #[.pointer (some ⟨g, 0, none⟩)] 77)).alloc (.cells #[.pointer (some ⟨w.heap.size + 1 + 1, 0, none⟩)] 190)).alloc (.cells #[.int .i64 p, .slice none 0 0, .int .i64 0, .bool false, .pointer none, .pointer none] 192)).cell? ⟨w.heap.size + 1, 0, none⟩ = some (.pointer (some ⟨w.heap.size + 1 + 1, 0, none⟩)) := by go_simp
  have ke : (((w.alloc (.cells #[.pointer (some ⟨g, 0, none⟩)] 77)).alloc (.cells #[.pointer (some ⟨w.heap.size + 1 + 1, 0, none⟩)] 190)).alloc (.cells #[.int .i64 p, .slice none 0 0, .int .i64 0, .bool false, .pointer none, .pointer none] 192)).heap[w.heap.size + 1 + 1]? = some (.cells #[.int .i64 p, .slice none 0 0, .int .i64 0, .bool false, .pointer none, .pointer none] 192 (0, 0)) := by
    have := heap_alloc_new ((w.alloc (.cells #[.pointer (some ⟨g, 0, none⟩)] 77)).alloc (.cells #[.pointer (some ⟨w.heap.size + 1 + 1, 0, none⟩)] 190)) (.cells #[.int .i64 p, .slice none 0 0, .int .i64 0, .bool false, .pointer none, .pointer none] 192)
    simpa using this
  have kb3 : (((w.alloc (.cells #[.pointer (some ⟨g, 0, none⟩)] 77)).alloc (.cells #[.pointer (some ⟨w.heap.size + 1 + 1, 0, none⟩)] 190)).alloc (.cells #[.int .i64 p, .slice none 0 0, .int .i64 0, .bool false, .pointer none, .pointer none] 192)).heap[w.heap.size]? = some (.cells #[.pointer (some ⟨g, 0, none⟩)] 77 (0, 0)) := by
    rw [Below.heap_alloc _ _ _ (by simp; omega), Below.heap_alloc _ _ _ (by simp)]; exact heap_alloc_new w _
  have kb7 : (((w.alloc (.cells #[.pointer (some ⟨g, 0, none⟩)] 77)).alloc (.cells #[.pointer (some ⟨w.heap.size + 1 + 1, 0, none⟩)] 190)).alloc (.cells #[.int .i64 p, .slice none 0 0, .int .i64 0, .bool false, .pointer none, .pointer none] 192)).heap[w.heap.size + 1]? = some (.cells #[.pointer (some ⟨w.heap.size + 1 + 1, 0, none⟩)] 190 (0, 0)) := by
    rw [Below.heap_alloc _ _ _ (by simp)]
    have := heap_alloc_new (w.alloc (.cells #[.pointer (some ⟨g, 0, none⟩)] 77)) (.cells #[.pointer (some ⟨w.heap.size + 1 + 1, 0, none⟩)] 190)
    simpa using this
  have KE := hid ke
  have KB3 := hid kb3
  have KB7 := hid kb7
  have HU3 := hid U3
  have bs := hid (show base ≤ w.heap.size from Nat.le_of_lt (Nat.lt_of_le_of_lt h.out.lows.2.1 h.out.ring.lt))
  clear u0 hlook L0 M0 c2 ke kb3 kb7 U3
  generalize (((w.alloc (.cells #[.pointer (some ⟨g, 0, none⟩)] 77)).alloc (.cells #[.pointer (some ⟨w.heap.size + 1 + 1, 0, none⟩)] 190)).alloc (.cells #[.int .i64 p, .slice none 0 0, .int .i64 0, .bool false, .pointer none, .pointer none] 192)) = W3 at *
  have mlt := h.out.map.lt
  have glt : g < w.heap.size := (Array.getElem?_eq_some_iff.1 h.out.own).1
  have rlt := h.out.ring.lt
  have olds := hid (show ∀ b ∈ r :: es.map Ent.blk, b < w.heap.size from fun b hb => (h.out.mem hb).1.lt)
  have ZW := hid (show w.heap.size ≤ w.heap.size + 1 + 1 by omega)
  have ZB := hid (show w.heap.size < W3.heap.size ∧ w.heap.size + 1 < W3.heap.size from by have := (Array.getElem?_eq_some_iff.1 KE.out).1; omega)
  generalize hb3 : w.heap.size = b3 at *
  generalize hb7 : b3 + 1 = b7 at *
  generalize he : b7 + 1 = e at *
  have CA3 := hid (h.out.up HU3.out)
  have HNO := hno
  have hne3 : b3 ≠ mp := by omega
  have hne7 : b7 ≠ mp := by omega
  have hnee : e ≠ mp := by omega
  have hngm : g ≠ mp := h.out.map.neB h.out.own
  have hneg : e ≠ g := by omega
  have HNUM := hid (And.intro hb3 (And.intro hb7 he))
  have hn37 : b3 ≠ e ∧ b7 ≠ e ∧ r ≠ e := by omega
  clear hb3 hb7 he
  have c1 : W3.drew.cell? ⟨g, 1, none⟩ = some (.map (some mp)) := CA3.out.own.c1
  have k3d : W3.drew.cell? ⟨b3, 0, none⟩ = some (.pointer (some ⟨g, 0, none⟩)) := k3
  have k7d : W3.drew.cell? ⟨b7, 0, none⟩ = some (.pointer (some ⟨e, 0, none⟩)) := k7
  obtain ⟨W4, hupd, m4, g4⟩ := MapIs.add (w := W3.drew) (p := p) (b := e) CA3.out.map hwf.out (lookup_none (by rw [keys_pages]; exact hno.out)) (by rw [List.length_map]; exact hl.out)
  have nk : ∀ b : Nat, b ≠ mp → ¬ some b = some mp := fun b hb e9 => hb (Option.some.inj e9)
  have c14 : W4.cell? ⟨g, 1, none⟩ = some (.map (some mp)) := g4.cell c1 (nk g hngm)
  have k34 : W4.cell? ⟨b3, 0, none⟩ = some (.pointer (some ⟨g, 0, none⟩)) := g4.cell k3d (nk b3 hne3)
  have k74 : W4.cell? ⟨b7, 0, none⟩ = some (.pointer (some ⟨e, 0, none⟩)) := g4.cell k7d (nk b7 hne7)
  unfold ptr at hupd
  go_region_held3 (fun w' => w'.cell? ⟨b3, 0, none⟩ = some (.pointer (some ⟨g, 0, none⟩)) ∧ w'.cell? ⟨g, 1, none⟩ = some (.map (some mp)) ∧ w'.cell? ⟨b7, 0, none⟩ = some (.pointer (some ⟨e, 0, none⟩)))
    (first | exact ⟨k3d, c1, k7d⟩ | exact ⟨k34, c14, k74⟩)
    (fail)
  have G4 := hid g4
  have M4 := hid m4
  clear hupd g4 m4 c1 k3d k7d c14
  go_wp2
  have EE3 : EntB W3 e := ⟨_, KE.out, rfl⟩
  have EE4 : EntB W4 e := EntB.fr (w := W3.drew) EE3.drew (Fr.of_grown G4.out) (nk e hnee)
  obtain ⟨v1, hv1⟩ := EE4.cell (i := 1) (by decide)
  have fe : W4.frozen? ⟨e, 1, none⟩ = false := EE4.free
  obtain ⟨ba, offa, rfl, hcell⟩ := hb.out 0 (by rw [hD.out]; decide)
  have hba : ba ≠ mp := by
    rintro rfl
    obtain ⟨D9, ⟨es9, clock9, h9, _⟩, _⟩ := h.out.map
    unfold World.cell? at hcell
    rw [show (⟨ba, offa + 0, none⟩ : Addr).block = ba from rfl, h9] at hcell
    cases hcell
  have Y4 : Hid (Bytes W4.drew (some ⟨ba, offa, none⟩) D) := hid (show Bytes W4 (some ⟨ba, offa, none⟩) D from
    Rd.bytes (Rd.fr (w := W3.drew) (show Rd W3 _ _ from (hb.out.grown HU3.out).rd) (Fr.of_grown G4.out) (fun b off e9 e8 => hba (by injection e9 with e9; injection e9 with e9 _; rw [e9]; exact Option.some.inj e8))))
  have k74d : W4.drew.cell? ⟨b7, 0, none⟩ = some (.pointer (some ⟨e, 0, none⟩)) := k74
  go_region_held3 (fun w' => w'.cell? ⟨b7, 0, none⟩ = some (.pointer (some ⟨e, 0, none⟩)))
    (first | exact k74d | exact q7 | exact q7b)
    (first
      | (go_at_call 117; refine (clone_callsX W4.drew _ D c 512 hD (hid (by decide)) Y4).mono ?_; rintro en w5 ⟨A5, c5, rfl, o5, u5⟩; have q7 := u5.c k74d; have hv15 : w5.cell? ⟨e, 1, none⟩ = some v1 := u5.c hv1; have EE5 : EntB w5 e := EntB.fr EE4.drew (Fr.of_below u5) id; have fe5 : w5.frozen? ⟨e, 1, none⟩ = false := EE5.free; have q7b : (w5.setCell ⟨e, 1, none⟩ (.slice A5 512 c5)).cell? ⟨b7, 0, none⟩ = some (.pointer (some ⟨e, 0, none⟩)) := set_far q7 (fun e9 => hn37.2.1 e9.1.symm)))
  obtain ⟨pl, hpl⟩ : ∃ q, lastOf r (es.map Ent.blk) = q := ⟨_, rfl⟩
  have plm := CA3.out.mem (b := pl) (by rw [← hpl]; exact lastOf_mem _ _)
  have pll := olds.out pl (by rw [← hpl]; exact lastOf_mem _ _)
  have rll := olds.out r List.mem_cons_self
  have hnum := HNUM.out
  have nep : e ≠ pl := by omega
  have ner : e ≠ r := by omega
  have T4 : ∀ b i v, b ≠ mp → W3.cell? ⟨b, i, none⟩ = some v → W4.cell? ⟨b, i, none⟩ = some v := fun b i v h1 h2 => G4.out.cell (h2 : W3.drew.cell? _ = _) (nk b h1)
  have T6 : ∀ b i v, b ≠ mp → ¬ (b = e ∧ i = 1) → W3.cell? ⟨b, i, none⟩ = some v → (w5.setCell ⟨e, 1, none⟩ (.slice A5 512 c5)).cell? ⟨b, i, none⟩ = some v := fun b i v h1 h2 h3 => set_far (u5.c (T4 b i v h1 h3 : W4.drew.cell? _ = _)) (fun e9 => h2 ⟨e9.1.symm, e9.2.symm⟩)
  have E6 : ∀ b, EntB W3 b → EntB (w5.setCell ⟨e, 1, none⟩ (.slice A5 512 c5)) b := fun b h9 => (EntB.fr (EntB.fr (w := W3.drew) h9.drew (Fr.of_grown G4.out) (nk b (CA3.out.map.ne h9))).drew (Fr.of_below u5) id).set _ _ _
  have ke : ∀ i v, (#[Value.int IntKind.i64 p, Value.slice none 0 0, Value.int IntKind.i64 0, Value.bool false, Value.pointer none, Value.pointer none] : Array Value)[i]? = some v → W3.cell? ⟨e, i, none⟩ = some v := fun i v h9 => by
    unfold World.cell?
    rw [show (⟨e, i, none⟩ : Addr).block = e from rfl, KE.out]
    exact h9
  have g26 := T6 g 2 _ hngm (fun e9 => hneg e9.1.symm) CA3.out.own.c2
  have r56 := T6 r 5 _ (CA3.out.map.ne CA3.out.ring) (fun e9 => ner e9.1.symm) CA3.out.back
  have e46 := T6 e 4 _ hnee (fun e9 => by cases e9.2) (ke 4 _ rfl)
  have e56 := T6 e 5 _ hnee (fun e9 => by cases e9.2) (ke 5 _ rfl)
  have p46 := T6 pl 4 _ (CA3.out.map.ne plm.1) (fun e9 => nep e9.1.symm) (by rw [← hpl]; exact CA3.out.end4)
  have npg : pl ≠ g := CA3.out.own.ne plm.1
  have nrg : r ≠ g := CA3.out.own.ne CA3.out.ring
  rw [hpl] at r56
  have q36 := T6 b3 0 _ hne3 (fun e9 => hn37.1 e9.1) k3
  have k1 := hid (And.intro q36 q7b)
  have sz3 : b3 ≤ W3.heap.size := by have := HU3.out.size; rw [HNUM.out.1] at this; exact this
  have sz4 : base ≤ W4.heap.size := Nat.le_trans bs.out (Nat.le_trans sz3 G4.out.size)
  have WF6 := hid (And.intro (show Fr (fun k => k = mp ∨ EntB W3 k) W3 (w5.setCell ⟨e, 1, none⟩ (.slice A5 512 c5)) from
      ((((Fr.refl _ W3).drew).trans' ((Fr.of_grown G4.out).mono (fun k hk => .inl (Option.some.inj hk)))).drew.trans (Fr.of_below u5) (fun _ _ f => f.elim)).setCell (p := ⟨e, 1, none⟩) (fun _ => .inr EE3) _)
    (show Below base w (w5.setCell ⟨e, 1, none⟩ (.slice A5 512 c5)) from by
      have b1 : Below base w W3 := Below.mono HU3.out (by rw [HNUM.out.1]; exact bs.out)
      have b2 : Below base w W4 := (b1.drew).grown G4.out (Nat.le_trans bs.out sz3) (fun k hk => by rw [← Option.some.inj hk]; exact h.out.lows.2.2.1)
      have b3' : Below base w w5 := b2.drew.trans (Below.mono u5 sz4)
      exact b3'.setCell (p := ⟨e, 1, none⟩) (by show base ≤ e; have := bs.out; omega) _))
  have O6 := hid (show (w5.setCell ⟨e, 1, none⟩ (.slice A5 512 c5)).ownsRow base 5 1 (.slice A5 512 c5) 512 (D.map byteCell) from by
    have hle : base ≤ W4.drew.heap.size := sz4
    refine Fr.own ((Fr.refl (fun k => k = e) w5).setCell (fun _ => rfl) _) (own_base o5.out hle) (fun k hk e9 => ?_)
    subst e9
    exact row_ne o5.out EE5 hk)
  have XE : Hid (EntB (w5.setCell ⟨e, 1, none⟩ (.slice A5 512 c5)) e ∧ (w5.setCell ⟨e, 1, none⟩ (.slice A5 512 c5)).cell? ⟨e, 0, none⟩ = some (.int .i64 p) ∧ (w5.setCell ⟨e, 1, none⟩ (.slice A5 512 c5)).cell? ⟨e, 2, none⟩ = some (.int .i64 0) ∧ (w5.setCell ⟨e, 1, none⟩ (.slice A5 512 c5)).cell? ⟨e, 3, none⟩ = some (.bool false) ∧ (w5.setCell ⟨e, 1, none⟩ (.slice A5 512 c5)).cell? ⟨e, 1, none⟩ = some (.slice A5 512 c5)) :=
    hid ⟨E6 e EE3, T6 e 0 _ hnee (fun e9 => by cases e9.2) (ke 0 (.int .i64 p) rfl), T6 e 2 _ hnee (fun e9 => by cases e9.2) (ke 2 (.int .i64 0) rfl), T6 e 3 _ hnee (fun e9 => by cases e9.2) (ke 3 (.bool false) rfl), set_near hv15⟩
  have T6' := hid T6
  have E6' := hid E6
  have EP6 := E6 pl plm.1
  have ER6 := E6 r CA3.out.ring
  have EX6 := E6 e EE3
  have M6 : Hid (MapIs (w5.setCell ⟨e, 1, none⟩ (.slice A5 512 c5)) mp (es.map key ++ [(p, e)])) := hid ((((M4.out.kept (Fr.refl No W4).drew id).kept (Fr.of_below u5) id)).kept ((Fr.refl (fun k => k = e) w5).setCell (fun _ => rfl) _) (fun e9 => hnee e9.symm))
  clear T4 T6 E6 ke k74 k74d hv1 fe hcell hba Y4 q7 hv15 EE5 fe5 q7b q36 EE4 o5 u5 G4 M4 sz3 sz4 k3 k7 hno
  rename_i K1 h1 hHeld
  clear hHeld
  refine h1 _ _ ?_
  clear h1 K1
  generalize w5.setCell ⟨e, 1, none⟩ (.slice A5 512 c5) = W6 at *
  have kk := k1.out
  obtain ⟨kk3, kk7⟩ := kk
  go_wp2_with fail
  refine (last_calls W6 g e pl r _ _ _ g26 r56 ER6.free e46 EX6.free e56 EX6.free p46 EP6.free hneg ner nep npg nrg).mono ?_
  rintro en W7 ⟨rfl, hW7⟩
  have cell7 : ∀ b i v, W6.cell? ⟨b, i, none⟩ = some v → ¬ (b = e ∧ i = 4) → ¬ (b = e ∧ i = 5) → ¬ (b = pl ∧ i = 4) → ¬ (b = r ∧ i = 5) → W7.cell? ⟨b, i, none⟩ = some v := by
    intro b i v hv n1 n2 n3 n4
    rw [hW7]
    exact set_far (set_far (set_far (set_far hv (fun e9 => n1 ⟨e9.1.symm, e9.2.symm⟩)) (fun e9 => n2 ⟨e9.1.symm, e9.2.symm⟩)) (fun e9 => n3 ⟨e9.1.symm, e9.2.symm⟩)) (fun e9 => n4 ⟨e9.1.symm, e9.2.symm⟩)
  have w74 : W7.cell? ⟨pl, 4, none⟩ = some (ptr e) := by
    rw [hW7]
    exact set_far (set_near (set_far (set_far p46 (fun e9 => nep e9.1)) (fun e9 => nep e9.1))) (fun e9 => by cases e9.2)
  have w75 : W7.cell? ⟨r, 5, none⟩ = some (ptr e) := by
    rw [hW7]
    exact set_near (set_far (set_far (set_far r56 (fun e9 => ner e9.1)) (fun e9 => ner e9.1)) (fun e9 => by cases e9.2))
  have w7e4 : W7.cell? ⟨e, 4, none⟩ = some (ptr r) := by
    rw [hW7]
    exact set_far (set_far (set_far (set_near e46) (fun e9 => by cases e9.2)) (fun e9 => nep e9.1.symm)) (fun e9 => by cases e9.2)
  have w7e5 : W7.cell? ⟨e, 5, none⟩ = some (ptr pl) := by
    rw [hW7]
    exact set_far (set_far (set_near (set_far e56 (fun e9 => by cases e9.2))) (fun e9 => by cases e9.2)) (fun e9 => ner e9.1.symm)
  have ent7 : ∀ b, EntB W6 b → EntB W7 b := fun b hb9 => by rw [hW7]; exact ((((hb9.set _ _ _).set _ _ _).set _ _ _).set _ _ _).drew.drew
  have F67 : Fr (fun k => k = e ∨ k = pl ∨ k = r) W6 W7 := by
    rw [hW7]
    exact ((((((Fr.refl _ W6).setCell (p := ⟨e, 4, none⟩) (fun _ => .inl rfl) _).setCell (p := ⟨e, 5, none⟩) (fun _ => .inl rfl) _).setCell (p := ⟨pl, 4, none⟩) (fun _ => .inr (.inl rfl)) _).setCell (p := ⟨r, 5, none⟩) (fun _ => .inr (.inr rfl)) _).drew).drew
  have B67 : Below base W6 W7 := by
    rw [hW7]
    exact ((((((Below.refl base W6).setCell (p := ⟨e, 4, none⟩) (by show base ≤ e; have := bs.out; omega) _).setCell (p := ⟨e, 5, none⟩) (by show base ≤ e; have := bs.out; omega) _).setCell (p := ⟨pl, 4, none⟩) plm.2 _).setCell (p := ⟨r, 5, none⟩) h.out.lows.2.1 _).drew).drew
  clear hW7
  have F37 : Fr (fun k => k = mp ∨ EntB W3 k) W3 W7 := WF6.out.1.trans F67 (fun i _ hh => by
    rcases hh with rfl | rfl | rfl
    · exact .inr EE3
    · exact .inr plm.1
    · exact .inr CA3.out.ring)
  have hyne : ∀ y ∈ es, y.blk ≠ e := fun y hy e9 => by have := olds.out y.blk (List.mem_cons_of_mem _ (List.mem_map.2 ⟨y, hy, rfl⟩)); omega
  have hrne : r ≠ e := hn37.2.2
  have row7 : ∀ n v xs, W3.ownsRow base 5 1 v n xs → ∀ k, v.ownBlock = some k → ¬ (k = mp ∨ EntB W3 k) := fun n v xs ho k hk e9 => by
    rcases e9 with rfl | e9
    · exact row_neM ho CA3.out.map hk
    · exact row_ne ho e9 hk
  have hnotin : e ∉ r :: es.map Ent.blk := fun hm => by
    rcases List.mem_cons.1 hm with hm | hm
    · exact hrne hm.symm
    · obtain ⟨y, hy, e9⟩ := List.mem_map.1 hm; exact hyne y hy e9
  have CA7 := hid (CacheAt.more (x := ⟨p, e, D, 0, false⟩) CA3.out F37
    (fun e9 => by rcases e9 with e9 | e9; exact hngm e9; exact CA3.out.own.ne e9 rfl) row7
    (fun b hb9 => ent7 b (E6'.out b hb9))
    (fun y hy i v hv hi => cell7 _ _ _ (T6'.out _ _ _ (CA3.out.map.ne (CA3.out.ents y hy).1) (fun e9 => hyne y hy e9.1) hv) (fun e9 => hyne y hy e9.1) (fun e9 => hyne y hy e9.1) (fun e9 => by omega) (fun e9 => by omega))
    (by
      rw [List.map_append]
      refine Chain.last (e := e) CA3.out.row CA3.out.nodup hnotin ?_ (by rw [hpl]; exact w74) (by rw [hpl]; exact w7e5) w7e4 w75
      intro b i v hv n1 n2 n3
      have hbm : b ≠ mp := by
        rintro rfl
        obtain ⟨D9, ⟨es9, clock9, h9, _⟩, _⟩ := CA3.out.map
        unfold World.cell? at hv
        rw [show (⟨b, i, none⟩ : Addr).block = b from rfl, h9] at hv
        cases hv
      exact cell7 _ _ _ (T6'.out _ _ _ hbm (fun e9 => n1 e9.1) hv) (fun e9 => n1 e9.1) (fun e9 => n1 e9.1) (by rw [hpl] at n2; exact n2) n3)
    (by rw [List.map_append]; exact M6.out.kept F67 (fun e9 => by rcases e9 with e9 | e9 | e9; exact hnee e9.symm; exact CA3.out.map.ne plm.1 e9.symm; exact CA3.out.map.ne CA3.out.ring e9.symm))
    ⟨ent7 e XE.out.1, cell7 _ _ _ XE.out.2.1 (fun e9 => by cases e9.2) (fun e9 => by cases e9.2) (fun e9 => nep e9.1) (fun e9 => ner e9.1),
      ⟨A5, c5, cell7 _ _ _ XE.out.2.2.2.2 (fun e9 => by cases e9.2) (fun e9 => by cases e9.2) (fun e9 => nep e9.1) (fun e9 => ner e9.1), Fr.own F67 O6.out (fun k hk e9 => by
        rcases e9 with rfl | rfl | rfl
        · exact row_ne O6.out EX6 hk
        · exact row_ne O6.out EP6 hk
        · exact row_ne O6.out ER6 hk)⟩,
      cell7 _ _ _ XE.out.2.2.1 (fun e9 => by cases e9.2) (fun e9 => by cases e9.2) (fun e9 => nep e9.1) (fun e9 => ner e9.1), cell7 _ _ _ XE.out.2.2.2.1 (fun e9 => by cases e9.2) (fun e9 => by cases e9.2) (fun e9 => nep e9.1) (fun e9 => ner e9.1)⟩
    hnotin HNO.out hwf.out (by show base ≤ e; have := bs.out; omega))
  have l3 : W7.cell? ⟨b3, 0, none⟩ = some (.pointer (some ⟨g, 0, none⟩)) := cell7 _ _ _ kk3 (fun e9 => by cases e9.2) (fun e9 => by cases e9.2) (fun e9 => by cases e9.2) (fun e9 => by cases e9.2)
  have l7 : W7.cell? ⟨b7, 0, none⟩ = some (.pointer (some ⟨e, 0, none⟩)) := cell7 _ _ _ kk7 (fun e9 => by cases e9.2) (fun e9 => by cases e9.2) (fun e9 => by cases e9.2) (fun e9 => by cases e9.2)
  have nb3 : ¬ EntB W3 b3 := by
    rintro ⟨cs, h1, _⟩
    rw [KB3.out] at h1
    injection h1 with h1; injection h1 with _ h2 _
    revert h2; decide
  have nb7 : ¬ EntB W3 b7 := by
    rintro ⟨cs, h1, _⟩
    rw [KB7.out] at h1
    injection h1 with h1; injection h1 with _ h2 _
    revert h2; decide
  have NB3 := hid (show ¬ EntB W7 b3 from fun e9 => nb3 (e9.back F37 (by rintro (e8 | e8); exact hne3 e8; exact nb3 e8) ZB.out.1))
  have NB7 := hid (show ¬ EntB W7 b7 from fun e9 => nb7 (e9.back F37 (by rintro (e8 | e8); exact hne7 e8; exact nb7 e8) ZB.out.2))
  have BW7 := hid (WF6.out.2.trans B67)
  have FE7 := hid (frE_trans (frE_up HU3.out) F37)
  have L3 := hid l3
  have L7 := hid l7
  clear cell7 w74 w75 w7e4 w7e5 ent7 F67 B67 F37 hyne hrne row7 hnotin nb3 nb7 EP6 ER6 EX6 g26 r56 e46 e56 p46
  unfold ptr at *
  go_wp2_with fail
  refine (rowPut_calls W7 base g room mp r hits miss (es ++ [⟨p, e, D, 0, false⟩]) b3 b7 e CA7 L3 L7 (hid ⟨⟨p, e, D, 0, false⟩, by simp, rfl⟩) NB3 (hid hne3) NB7 (hid hne7)).mono ?_
  rintro en W8 ⟨rfl, hh⟩
  go_wp2
  go_ret
  exact ⟨rfl, hid ⟨e, by rw [HNUM.out.1]; have := HNUM.out; omega, hh.out.1, BW7.out.trans hh.out.2.2, frE_trans FE7.out hh.out.2.1⟩⟩
end Go.Proofs.YtbcghggkfnagoaaGreatDoor

namespace Go.Proofs.YtbcghggkfnagoaaGreatDoor
open Go Go.RowKit Hach

def pageD (s : UInt8) : List UInt8 := ((List.replicate 512 (0 : UInt8)).set 0 s).set 511 s
def NewRet (w : World) (room : Int) (en : Ending) (w' : World) : Prop :=
  ∃ g mp r, en = .returned (ptr g) ∧ Hid (CacheAt w' w.heap.size g room mp r 0 0 [] ∧ Below w.heap.size w w')

set_option maxHeartbeats 1000000 in
theorem new_calls (w : World) (room : Int) (h1 : 1 ≤ room) (h2 : room ≤ 4096) :
    Calls Tryz.prog 72 #[.int .i64 room] w (NewRet w room) := by
  have hmm := @run_makeMap Tryz.prog
  have d1 : ¬ room < 1 := by omega
  have d2 : ¬ (4096 : Int) < room := by omega
  clear h1 h2
  go_enter Tryz.func72, Tryz.ntmps72
  go_wp2
  go_ret
  have s1 : (w.alloc (.cells #[.int .i64 0, .slice none 0 0, .int .i64 0, .bool false, .pointer (some ⟨w.heap.size, 0, none⟩), .pointer (some ⟨w.heap.size, 0, none⟩)] 192)).heap.size = w.heap.size + 1 := by simp
  have s2 : ((w.alloc (.cells #[.int .i64 0, .slice none 0 0, .int .i64 0, .bool false, .pointer (some ⟨w.heap.size, 0, none⟩), .pointer (some ⟨w.heap.size, 0, none⟩)] 192)).alloc (.map #[] 0)).heap.size = w.heap.size + 1 + 1 := by simp
  have hE : (((w.alloc (.cells #[.int .i64 0, .slice none 0 0, .int .i64 0, .bool false, .pointer (some ⟨w.heap.size, 0, none⟩), .pointer (some ⟨w.heap.size, 0, none⟩)] 192)).alloc (.map #[] 0)).alloc (.cells #[.int .i64 room, .map (some (w.heap.size + 1)), .pointer (some ⟨w.heap.size, 0, none⟩), .int .i64 0, .int .i64 0] 195)).heap[w.heap.size]? = some (.cells #[.int .i64 0, .slice none 0 0, .int .i64 0, .bool false, .pointer (some ⟨w.heap.size, 0, none⟩), .pointer (some ⟨w.heap.size, 0, none⟩)] 192) := by
    rw [Below.heap_alloc _ _ _ (by rw [s2]; omega), Below.heap_alloc _ _ _ (by rw [s1]; omega)]; exact heap_alloc_new w _
  have hC : (((w.alloc (.cells #[.int .i64 0, .slice none 0 0, .int .i64 0, .bool false, .pointer (some ⟨w.heap.size, 0, none⟩), .pointer (some ⟨w.heap.size, 0, none⟩)] 192)).alloc (.map #[] 0)).alloc (.cells #[.int .i64 room, .map (some (w.heap.size + 1)), .pointer (some ⟨w.heap.size, 0, none⟩), .int .i64 0, .int .i64 0] 195)).heap[w.heap.size + 1 + 1]? = some (.cells #[.int .i64 room, .map (some (w.heap.size + 1)), .pointer (some ⟨w.heap.size, 0, none⟩), .int .i64 0, .int .i64 0] 195) := by
    rw [← s2]; exact heap_alloc_new _ _
  have hM : MapIs (((w.alloc (.cells #[.int .i64 0, .slice none 0 0, .int .i64 0, .bool false, .pointer (some ⟨w.heap.size, 0, none⟩), .pointer (some ⟨w.heap.size, 0, none⟩)] 192)).alloc (.map #[] 0)).alloc (.cells #[.int .i64 room, .map (some (w.heap.size + 1)), .pointer (some ⟨w.heap.size, 0, none⟩), .int .i64 0, .int .i64 0] 195)) (w.heap.size + 1) [] := by
    have := MapIs.made (w.alloc (.cells #[.int .i64 0, .slice none 0 0, .int .i64 0, .bool false, .pointer (some ⟨w.heap.size, 0, none⟩), .pointer (some ⟨w.heap.size, 0, none⟩)] 192))
    rw [s1] at this
    exact this.kept ((Fr.refl No _).alloc _) id
  have hB : Below w.heap.size w (((w.alloc (.cells #[.int .i64 0, .slice none 0 0, .int .i64 0, .bool false, .pointer (some ⟨w.heap.size, 0, none⟩), .pointer (some ⟨w.heap.size, 0, none⟩)] 192)).alloc (.map #[] 0)).alloc (.cells #[.int .i64 room, .map (some (w.heap.size + 1)), .pointer (some ⟨w.heap.size, 0, none⟩), .int .i64 0, .int .i64 0] 195)) := (((Below.refl _ _).alloc (Nat.le_refl _) _).alloc (by rw [s1]; omega) _).alloc (by rw [s2]; omega) _
  have cellE : ∀ i v, (#[Value.int .i64 0, .slice none 0 0, .int .i64 0, .bool false, .pointer (some ⟨w.heap.size, 0, none⟩), .pointer (some ⟨w.heap.size, 0, none⟩)] : Array Value)[i]? = some v → (((w.alloc (.cells #[.int .i64 0, .slice none 0 0, .int .i64 0, .bool false, .pointer (some ⟨w.heap.size, 0, none⟩), .pointer (some ⟨w.heap.size, 0, none⟩)] 192)).alloc (.map #[] 0)).alloc (.cells #[.int .i64 room, .map (some (w.heap.size + 1)), .pointer (some ⟨w.heap.size, 0, none⟩), .int .i64 0, .int .i64 0] 195)).cell? ⟨w.heap.size, i, none⟩ = some v := fun i v hv => by
    unfold World.cell?
    rw [show (⟨w.heap.size, i, none⟩ : Addr).block = w.heap.size from rfl, hE]
    exact hv
  refine ⟨w.heap.size + 1 + 1, w.heap.size + 1, w.heap.size, rfl, hid ⟨⟨hC, ⟨_, hE, rfl⟩, ⟨⟨cellE 4 _ rfl, cellE 5 _ rfl⟩, trivial⟩, by simp, by simp, hM, by simp, by simp, ⟨by omega, Nat.le_refl _, by omega, by simp⟩⟩, hB⟩⟩

def PeekRet (w : World) (es : List Ent) (p : Int) (en : Ending) (w' : World) : Prop :=
  (es.find? (fun x => x.page == p) = none ∧ en = .returned (.tuple #[.slice none 0 0, .bool false]) ∧ w = w') ∨
  ∃ x A c, es.find? (fun x => x.page == p) = some x ∧ en = .returned (.tuple #[.slice A 512 c, .bool true]) ∧ Hid (x.data.length = 512 ∧ Bytes w' A x.data) ∧ Up w w'
end Go.Proofs.YtbcghggkfnagoaaGreatDoor

namespace Go.Proofs.YtbcghggkfnagoaaGreatDoor
open Go Go.RowKit Hach

section
variable {w w' : World} {base g : Nat} {room : Int} {mp r : Nat} {hits miss : Int} {l1 l2 : List Ent} {x : Ent}
theorem MapIs.moved {L1 L2 : List (Int × Nat)} {p : Int} {b : Nat} (h : MapIs w mp (L1 ++ (p, b) :: L2)) (hn : (L1 ++ L2).lookup p = none) : MapIs w mp ((L1 ++ L2) ++ [(p, b)]) := by
  obtain ⟨D, h1, h2, h3, h4⟩ := h
  have hl : ∀ q, (L1 ++ (p, b) :: L2).lookup q = ((L1 ++ L2) ++ [(p, b)]).lookup q := fun q => by
    rw [lookup_mid hn, lookup_mid (L1 := L1 ++ L2) (L2 := []) (by rw [List.append_nil]; exact hn), List.append_nil]
  have len : (L1 ++ (p, b) :: L2).length = ((L1 ++ L2) ++ [(p, b)]).length := by simp only [List.length_append, List.length_cons, List.length_nil]; omega
  refine ⟨D, by rw [← len]; exact h1, fun q => ?_, fun q => ?_, by rw [← len]; exact h4⟩
  · rw [h2]; unfold seen; rw [hl]
  · rw [h3, hl]
theorem CacheAt.count {es : List Ent} (h : CacheAt w base g room mp r hits miss es) (i : Nat) (v : Int) (hits' miss' : Int)
    (hi : (#[Value.int .i64 room, .map (some mp), ptr r, .int .i64 hits, .int .i64 miss].setIfInBounds i (.int .i64 v)) = #[Value.int .i64 room, .map (some mp), ptr r, .int .i64 hits', .int .i64 miss']) :
    CacheAt (w.setCell ⟨g, i, none⟩ (.int .i64 v)) base g room mp r hits' miss' es := by
  have hf : Fr (fun k => k = g) w (w.setCell ⟨g, i, none⟩ (.int .i64 v)) := (Fr.refl (fun k => k = g) w).setCell (p := ⟨g, i, none⟩) (fun _ => rfl) _
  have ne : ∀ b, EntB w b → ¬ b = g := fun b hb => h.own.ne hb
  refine ⟨?_, h.ring.set _ _ _, h.row.up hf ?_, h.nodup, fun y hy => ⟨(h.ents y hy).1.set _ _ _, ?_⟩, h.map.kept hf (fun e => h.map.neB h.own e.symm), h.pages, h.wf, h.lows⟩
  · unfold CacheB
    rw [heap_setCell_same w g i _ _ _ h.own, hi]
  · intro b hb e
    rcases List.mem_cons.1 hb with hb | hb
    · rw [hb] at e; exact ne r h.ring e
    · rcases List.mem_append.1 hb with hb | hb
      · obtain ⟨y, hy, rfl⟩ := List.mem_map.1 hb; exact ne _ (h.ents y hy).1 e
      · rw [List.mem_singleton.1 hb] at e; exact ne r h.ring e
  · refine (h.ents y hy).2.keep hf (fun i v hv _ => hf.cell hv (ne _ (h.ents y hy).1)) (fun n v xs ho k hk e => ?_)
    subst e
    rcases ho.2 with ⟨rfl, _⟩ | ⟨c, cap, cur, rfl, _, hg, _⟩
    · cases hk
    · obtain rfl : c = k := by simpa [Value.ownBlock] using hk
      have := h.own
      unfold CacheB at this
      rw [this] at hg
      injection hg with hg; injection hg with _ h2 _
      revert h2; decide
structure CacheOff (w : World) (base g : Nat) (room : Int) (mp r : Nat) (hits miss : Int) (es : List Ent) (x : Ent) : Prop where
  own : CacheB w g room mp r hits miss
  ring : EntB w r
  row : Chain w r (es.map Ent.blk ++ [r])
  nodup : (r :: (es ++ [x]).map Ent.blk).Nodup
  ents : ∀ y ∈ es ++ [x], EntB w y.blk ∧ EntIs w base y
  map : MapIs w mp ((es ++ [x]).map key)
  pages : ((es ++ [x]).map Ent.page).Nodup
  wf : ∀ y ∈ es ++ [x], (Lit.int .i64 y.page).wf = true
  lows : base ≤ g ∧ base ≤ r ∧ base ≤ mp ∧ ∀ y ∈ es ++ [x], base ≤ y.blk
theorem CacheAt.fix {es : List Ent} (h : CacheAt w base g room mp r hits miss es) {S : Nat → Prop} (hf : Fr S w w') (hSg : ¬ S g) (hSm : ¬ S mp) : CacheB w' g room mp r hits miss ∧ MapIs w' mp (es.map key) := by
  refine ⟨?_, h.map.kept hf hSm⟩
  have := h.own
  unfold CacheB at *
  rw [← this]
  exact hf.block g (Array.getElem?_eq_some_iff.1 this).1 hSg
theorem CacheAt.off (h : CacheAt w base g room mp r hits miss (l1 ++ x :: l2)) :
    ∃ p q, (EntB w p ∧ EntB w q ∧ p ≠ x.blk ∧ q ≠ x.blk ∧ w.cell? ⟨x.blk, 4, none⟩ = some (ptr q) ∧ w.cell? ⟨x.blk, 5, none⟩ = some (ptr p) ∧ w.cell? ⟨p, 4, none⟩ = some (ptr x.blk) ∧ w.cell? ⟨q, 5, none⟩ = some (ptr x.blk)) ∧
      ∀ W1, W1 = ((w.setCell ⟨p, 4, none⟩ (ptr q)).setCell ⟨q, 5, none⟩ (ptr p)).drew → CacheOff W1 base g room mp r hits miss (l1 ++ l2) x ∧ Below base w W1 ∧ Fr (fun k => EntB w k) w W1 := by
  have hrow := h.row
  have hnd := h.nodup
  rw [map_mid, List.append_assoc, List.cons_append] at hrow
  rw [map_mid] at hnd
  obtain ⟨p, q, hp, ⟨t, hq⟩, e4, e5, p4, q5, pe, qe, hback⟩ := Chain.out hrow hnd
  have mem : ∀ b, b ∈ r :: (l1.map Ent.blk ++ l2.map Ent.blk) → EntB w b ∧ base ≤ b := by
    intro b hb
    refine h.mem ?_
    rw [map_mid]
    rcases List.mem_cons.1 hb with rfl | hb
    · exact List.mem_cons_self
    · refine List.mem_cons_of_mem _ ?_
      rcases List.mem_append.1 hb with hb | hb
      · exact List.mem_append_left _ hb
      · exact List.mem_append_right _ (List.mem_cons_of_mem _ hb)
  obtain ⟨ep, lp⟩ := mem p (by
    have := lastOf_mem r (l1.map Ent.blk)
    rw [← hp] at this
    rcases List.mem_cons.1 this with h | h
    · rw [h]; exact List.mem_cons_self
    · exact List.mem_cons_of_mem _ (List.mem_append_left _ h))
  obtain ⟨eq, lq⟩ := mem q (by
    have : q ∈ l2.map Ent.blk ++ [r] := by rw [hq]; exact List.mem_cons_self
    rcases List.mem_append.1 this with h | h
    · exact List.mem_cons_of_mem _ (List.mem_append_right _ h)
    · rw [List.mem_singleton.1 h]; exact List.mem_cons_self)
  refine ⟨p, q, ⟨ep, eq, pe, qe, e4, e5, p4, q5⟩, ?_⟩
  rintro w1 rfl
  have f1 : Fr (fun k => EntB w k) w ((w.setCell ⟨p, 4, none⟩ (ptr q)).setCell ⟨q, 5, none⟩ (ptr p)).drew := (((Fr.refl _ w).setCell (p := ⟨p, 4, none⟩) (fun _ => ep) _).setCell (p := ⟨q, 5, none⟩) (fun _ => eq) _).drew
  have ent1 : ∀ b, EntB w b → EntB ((w.setCell ⟨p, 4, none⟩ (ptr q)).setCell ⟨q, 5, none⟩ (ptr p)).drew b := fun b hb => ((hb.set _ _ _).set _ _ _).drew
  have cell1 : ∀ b i v, w.cell? ⟨b, i, none⟩ = some v → ¬ (b = p ∧ i = 4) → ¬ (b = q ∧ i = 5) → ((w.setCell ⟨p, 4, none⟩ (ptr q)).setCell ⟨q, 5, none⟩ (ptr p)).drew.cell? ⟨b, i, none⟩ = some v := fun b i v hv h1 h2 => set_far (set_far hv (fun e => h1 ⟨e.1.symm, e.2.symm⟩)) (fun e => h2 ⟨e.1.symm, e.2.symm⟩)
  have perm : (l1 ++ x :: l2).Perm ((l1 ++ l2) ++ [x]) := by
    refine (List.perm_middle).trans ?_
    exact (List.perm_append_comm (l₁ := [x]) (l₂ := l1 ++ l2))
  have hpn : (l1.map key ++ l2.map key).lookup x.page = none := by
    have := h.pages
    rw [map_mid] at this
    refine lookup_none ?_
    rw [List.map_append, keys_pages, keys_pages]
    intro hm
    obtain ⟨n1, n2, n3⟩ := List.nodup_append.1 this
    rcases List.mem_append.1 hm with hm | hm
    · exact n3 _ hm _ List.mem_cons_self rfl
    · exact (List.nodup_cons.1 n2).1 hm
  obtain ⟨k1, k2⟩ := h.fix f1 (fun e => h.own.ne e rfl) (fun e => h.map.ne e rfl)
  refine ⟨⟨k1, ent1 _ h.ring, ?_, ((perm.map Ent.blk).cons r).nodup_iff.1 h.nodup, fun y hy => ?_, ?_, (perm.map Ent.page).nodup_iff.1 h.pages, fun y hy => h.wf y (perm.mem_iff.2 hy), ⟨h.lows.1, h.lows.2.1, h.lows.2.2.1, fun y hy => h.lows.2.2.2 y (perm.mem_iff.2 hy)⟩⟩,
    (((Below.refl base w).setCell lp _).setCell lq _).drew, f1⟩
  · rw [List.map_append, List.append_assoc]
    exact hback _ (fun b i v hv h1 h2 => cell1 b i v hv h1 h2) (set_far (set_near p4) (fun e => by cases e.2)) (set_near (set_far q5 (fun e => by cases e.2)))
  · have hy' := perm.mem_iff.2 hy
    exact ⟨ent1 _ (h.ents y hy').1, (h.ents y hy').2.keep f1 (fun i v hv hi => cell1 _ _ _ hv (fun e => by omega) (fun e => by omega)) (fun n v xs ho k hk e => row_ne ho e hk)⟩
  · rw [map_mid] at k2
    rw [List.map_append, List.map_append]
    exact MapIs.moved k2 hpn
set_option maxHeartbeats 2000000 in
theorem CacheOff.on {es : List Ent} (h : CacheOff w base g room mp r hits miss es x) :
    ∃ p, (EntB w p ∧ EntB w x.blk ∧ x.blk ≠ g ∧ x.blk ≠ r ∧ x.blk ≠ p ∧ p ≠ g ∧ r ≠ g ∧ w.cell? ⟨r, 5, none⟩ = some (ptr p) ∧ w.cell? ⟨g, 2, none⟩ = some (ptr r) ∧ w.cell? ⟨p, 4, none⟩ = some (ptr r)) ∧
      ∀ W2, W2 = ((((w.setCell ⟨x.blk, 4, none⟩ (ptr r)).setCell ⟨x.blk, 5, none⟩ (ptr p)).setCell ⟨p, 4, none⟩ (ptr x.blk)).setCell ⟨r, 5, none⟩ (ptr x.blk)).drew.drew → CacheAt W2 base g room mp r hits miss (es ++ [x]) ∧ Below base w W2 ∧ Fr (fun k => EntB w k) w W2 := by
  have hnd := h.nodup
  have hx : x ∈ es ++ [x] := List.mem_append_right _ List.mem_cons_self
  have nd : (r :: es.map Ent.blk).Nodup := hnd.sublist (by rw [List.map_append]; exact List.Sublist.cons_cons _ (List.sublist_append_left _ _))
  have nx : x.blk ∉ r :: es.map Ent.blk := by
    rw [List.map_append, ← List.cons_append, List.nodup_append] at hnd
    exact fun hm => hnd.2.2 _ hm x.blk (by simp) rfl
  obtain ⟨p, hpl⟩ : ∃ q, lastOf r (es.map Ent.blk) = q := ⟨_, rfl⟩
  have hpm := lastOf_mem r (es.map Ent.blk)
  rw [hpl] at hpm
  have mem : ∀ b, b ∈ r :: es.map Ent.blk → EntB w b ∧ base ≤ b := by
    intro b hb
    rcases List.mem_cons.1 hb with rfl | hb
    · exact ⟨h.ring, h.lows.2.1⟩
    · obtain ⟨y, hy, rfl⟩ := List.mem_map.1 hb; exact ⟨(h.ents y (List.mem_append_left _ hy)).1, h.lows.2.2.2 y (List.mem_append_left _ hy)⟩
  obtain ⟨ep, lp⟩ := mem p hpm
  have ex := (h.ents x hx).1
  have nep : x.blk ≠ p := fun e => nx (by rw [e]; exact hpm)
  have ner : x.blk ≠ r := fun e => nx (by rw [e]; exact List.mem_cons_self)
  have r5 := (Chain.append.1 h.row).2.1.2
  have p4 := (Chain.append.1 h.row).2.1.1
  rw [hpl] at r5 p4
  refine ⟨p, ⟨ep, ex, h.own.ne ex, ner, nep, h.own.ne ep, h.own.ne h.ring, r5, h.own.c2, p4⟩, ?_⟩
  obtain ⟨u4, e4⟩ := ex.cell (i := 4) (by decide)
  obtain ⟨u5, e5⟩ := ex.cell (i := 5) (by decide)
  intro W2 hW
  have cell7 : ∀ b i v, w.cell? ⟨b, i, none⟩ = some v → ¬ (b = x.blk ∧ i = 4) → ¬ (b = x.blk ∧ i = 5) → ¬ (b = p ∧ i = 4) → ¬ (b = r ∧ i = 5) → W2.cell? ⟨b, i, none⟩ = some v := by
    intro b i v hv n1 n2 n3 n4
    rw [hW]
    exact set_far (set_far (set_far (set_far hv (fun e9 => n1 ⟨e9.1.symm, e9.2.symm⟩)) (fun e9 => n2 ⟨e9.1.symm, e9.2.symm⟩)) (fun e9 => n3 ⟨e9.1.symm, e9.2.symm⟩)) (fun e9 => n4 ⟨e9.1.symm, e9.2.symm⟩)
  have w74 : W2.cell? ⟨p, 4, none⟩ = some (ptr x.blk) := by
    rw [hW]
    exact set_far (set_near (set_far (set_far p4 (fun e9 => nep e9.1)) (fun e9 => nep e9.1))) (fun e9 => by cases e9.2)
  have w75 : W2.cell? ⟨r, 5, none⟩ = some (ptr x.blk) := by
    rw [hW]
    exact set_near (set_far (set_far (set_far r5 (fun e9 => ner e9.1)) (fun e9 => ner e9.1)) (fun e9 => by cases e9.2))
  have w7e4 : W2.cell? ⟨x.blk, 4, none⟩ = some (ptr r) := by
    rw [hW]
    exact set_far (set_far (set_far (set_near e4) (fun e9 => by cases e9.2)) (fun e9 => nep e9.1.symm)) (fun e9 => by cases e9.2)
  have w7e5 : W2.cell? ⟨x.blk, 5, none⟩ = some (ptr p) := by
    rw [hW]
    exact set_far (set_far (set_near (set_far e5 (fun e9 => by cases e9.2))) (fun e9 => by cases e9.2)) (fun e9 => ner e9.1.symm)
  have ent7 : ∀ b, EntB w b → EntB W2 b := fun b hb9 => by rw [hW]; exact ((((hb9.set _ _ _).set _ _ _).set _ _ _).set _ _ _).drew.drew
  have F7 : Fr (fun k => EntB w k) w W2 := by
    rw [hW]
    exact ((((((Fr.refl _ w).setCell (p := ⟨x.blk, 4, none⟩) (fun _ => ex) _).setCell (p := ⟨x.blk, 5, none⟩) (fun _ => ex) _).setCell (p := ⟨p, 4, none⟩) (fun _ => ep) _).setCell (p := ⟨r, 5, none⟩) (fun _ => h.ring) _).drew).drew
  have B7 : Below base w W2 := by
    rw [hW]
    exact ((((((Below.refl base w).setCell (p := ⟨x.blk, 4, none⟩) (h.lows.2.2.2 x hx) _).setCell (p := ⟨x.blk, 5, none⟩) (h.lows.2.2.2 x hx) _).setCell (p := ⟨p, 4, none⟩) lp _).setCell (p := ⟨r, 5, none⟩) h.lows.2.1 _).drew).drew
  refine ⟨⟨?_, ent7 _ h.ring, ?_, h.nodup, fun y hy => ⟨ent7 _ (h.ents y hy).1, (h.ents y hy).2.keep F7 (fun i v hv hi => cell7 _ _ _ hv (fun e => by omega) (fun e => by omega) (fun e => by omega) (fun e => by omega)) (fun n v xs ho k hk e => row_ne ho e hk)⟩,
    h.map.kept F7 (fun e => h.map.ne e rfl), h.pages, h.wf, h.lows⟩, B7, F7⟩
  · have := h.own
    unfold CacheB at *
    rw [← this]
    exact F7.block g (Array.getElem?_eq_some_iff.1 this).1 (fun e => h.own.ne e rfl)
  · rw [List.map_append]
    exact Chain.last (e := x.blk) h.row nd nx (fun b i v hv n1 n2 n3 => cell7 _ _ _ hv (fun e9 => n1 e9.1) (fun e9 => n1 e9.1) (by rw [hpl] at n2; exact n2) n3) (by rw [hpl]; exact w74) (by rw [hpl]; exact w7e5) w7e4 w75
end

theorem frG_trans {w w1 w2 : World} {g : Nat} (h : Fr (fun k => k = g ∨ EntB w k) w w1) (k : Fr (fun k => EntB w1 k) w1 w2) : Fr (fun k => k = g ∨ EntB w k) w w2 :=
  h.trans k (fun i hi h9 => by
    by_cases h8 : i = g
    · exact .inl h8
    · by_cases h7 : EntB w i
      · exact .inr h7
      · exact .inr (h9.back h (by rintro (q | q); exact h8 q; exact h7 q) hi))
def GetRet (w : World) (base g : Nat) (room : Int) (mp r : Nat) (hits miss : Int) (es : List Ent) (D : List UInt8) (en : Ending) (w' : World) : Prop :=
  ∃ A c, en = .returned (.tuple #[.slice A 512 c, .bool true]) ∧ Hid (Bytes w' A D ∧ CacheAt w' base g room mp r hits miss es ∧ Below base w w' ∧ Fr (fun k => k = g ∨ EntB w k) w w' ∧ w'.ownsRow 0 5 1 (.slice A 512 c) 512 (D.map byteCell))

set_option maxRecDepth 100000 in
set_option maxHeartbeats 1000000 in
theorem getHitW_calls (w : World) (base g : Nat) (room : Int) (mp r : Nat) (hits miss : Int) (l1 l2 : List Ent) (x : Ent) (h : Hid (CacheAt w base g room mp r hits miss (l1 ++ x :: l2))) (hits1 : Int) (hh : IntKind.i64.wrap (hits + 1) = hits1) :
    Calls Tryz.prog 156 #[ptr g, .int .i64 x.page] w (GetRet w base g room mp r hits1 miss ((l1 ++ l2) ++ [x]) x.data) := by
  have hx := h.out.ents x (by simp)
  have hlook := h.out.map.look (h.out.wf x (by simp))
  have hk : ((l1 ++ x :: l2).map key).lookup x.page = some x.blk := by
    rw [map_mid]
    have := h.out.pages
    rw [map_mid] at this
    rw [show key x = (x.page, x.blk) from rfl, lookup_mid (lookup_none ?_), if_pos rfl]
    rw [List.map_append, keys_pages, keys_pages]
    intro hm
    obtain ⟨n1, n2, n3⟩ := List.nodup_append.1 this
    rcases List.mem_append.1 hm with hm | hm
    · exact n3 _ hm _ List.mem_cons_self rfl
    · exact (List.nodup_cons.1 n2).1 hm
  rw [hk] at hlook
  replace hlook : _ = Result.ok (ptr x.blk) w := hlook
  have FG0 := hid (show Fr (fun k => k = g ∨ EntB w k) w (w.setCell ⟨g, 3, none⟩ (.int .i64 hits1)) from (Fr.refl _ w).setCell (p := ⟨g, 3, none⟩) (fun _ => .inl rfl) _)
  have c1 := h.out.own.c1
  have c2 := h.out.own.c2
  have c3 : w.cell? ⟨g, 3, none⟩ = some (.int .i64 hits) := by
    have := h.out.own; unfold CacheB at this; unfold World.cell?; rw [show (⟨g, 3, none⟩ : Addr).block = g from rfl, this]; rfl
  have fg : w.frozen? ⟨g, 3, none⟩ = false := by
    have := h.out.own; unfold CacheB at this; unfold World.frozen?; rw [show (⟨g, 3, none⟩ : Addr).block = g from rfl, this]; simp
  have CA1 := hid (CacheAt.count h.out 3 hits1 hits1 miss rfl)
  have B1 := hid (show Below base w (w.setCell ⟨g, 3, none⟩ (.int .i64 hits1)) from (Below.refl base w).setCell h.out.lows.1 _)
  clear hk hx
  unfold ptr at c2 hlook ⊢
  go_enter Tryz.func156, Tryz.ntmps156
  go_wp2_with (go_at_call 158; refine (made_calls _ g r c2).mono ?_; rintro e w' ⟨rfl, rfl⟩)
  have B1' := B1.out
  obtain ⟨p, q, ⟨ep, eq, pe, qe, e4, e5, p4, q5⟩, hoff⟩ := CA1.out.off
  have HOFF := hid hoff
  refine (out_calls _ x.blk p q _ _ e4 e5 p4 ep.free q5 eq.free pe qe).mono ?_
  rintro e w1 ⟨rfl, hw1⟩
  obtain ⟨co1, bb1, ff1⟩ := HOFF.out w1 hw1
  have FG1 := hid (frG_trans FG0.out ff1)
  have CO := hid co1
  have BB := hid (B1'.trans bb1)
  clear hw1 HOFF hoff CA1 B1 B1' bb1 co1 ff1 FG0 e4 e5 p4 q5 ep eq pe qe c1 c2 c3 fg hlook
  obtain ⟨pl, ⟨epl, ex, xg, xr, xp, pg, rg, r5, g2, p4⟩, hon⟩ := CO.out.on
  have er := CO.out.ring
  obtain ⟨u4, e4⟩ := ex.cell (i := 4) (by decide)
  obtain ⟨u5, e5⟩ := ex.cell (i := 5) (by decide)
  have HON := hid hon
  clear hon
  go_wp2_with fail
  refine (last_calls w1 g x.blk pl r _ _ _ g2 r5 er.free e4 ex.free e5 ex.free p4 epl.free xg xr xp pg rg).mono ?_
  rintro en w2 ⟨rfl, hw2⟩
  obtain ⟨ca2, b2, ff2⟩ := HON.out w2 hw2
  have FG2 := hid (frG_trans FG1.out ff2)
  clear ff2 FG1
  have CA2 := hid ca2
  have BB2 := hid (BB.out.trans b2)
  obtain ⟨_, ⟨A, c, x1, xo⟩, _, _⟩ := (ca2.ents x (by simp)).2
  have XL := hid (show x.data.length = 512 by have := xo.1; rw [List.length_map] at this; exact this)
  have XB := hid (show Bytes w2 A x.data from Rd.bytes (Rd.own xo))
  clear hw2 HON ca2 b2 xo e4 e5 epl ex xg xr xp pg rg r5 g2 p4 er BB CO
  go_wp2_with (go_at_call 117; refine (clone_callsX _ A x.data c 512 XL (hid (by decide)) XB).mono ?_; rintro en w5 ⟨A5, c5, rfl, o5, u5⟩)
  go_ret2
  exact ⟨A5, c5, rfl, hid ⟨Rd.bytes (Rd.own o5.out), CA2.out.up u5, BB2.out.trans (u5.mono (Nat.le_trans (Nat.le_of_lt (Nat.lt_of_le_of_lt CA2.out.lows.1 (Array.getElem?_eq_some_iff.1 CA2.out.own).1)) (Nat.le_refl _))), FG2.out.trans (Fr.of_below u5) (fun _ _ f => f.elim), own_base o5.out (Nat.zero_le _)⟩⟩
theorem cell_one {w : World} {b : Nat} {v : Value} {t : TypeId} (h : w.heap[b]? = some (.cells #[v] t (0, 0))) : w.cell? ⟨b, 0, none⟩ = some v ∧ w.frozen? ⟨b, 0, none⟩ = false := by
  constructor
  · unfold World.cell?; rw [show (⟨b, 0, none⟩ : Addr).block = b from rfl, h]; rfl
  · unfold World.frozen?; rw [show (⟨b, 0, none⟩ : Addr).block = b from rfl, h]; simp

end Go.Proofs.YtbcghggkfnagoaaGreatDoor

namespace Go.Proofs.YtbcghggkfnagoaaGreatDoor
open Go Go.RowKit Hach

abbrev Vis := Int × List UInt8 × Int × Bool
def vis (x : Ent) : Vis := (x.page, x.data, x.pins, x.dirty)
def goesV (room p : Int) (n : Nat) (v : Vis) : Bool := decide (room < (n : Int)) && (decide (v.1 ≠ p) && ((v.2.2.1 == 0) && !v.2.2.2))
def evictV (room p : Int) : List Vis → List Vis → List Vis
  | done, [] => done
  | done, x :: rest =>
    if goesV room p (done ++ x :: rest).length x = true then (if room < ((done ++ rest).length : Int) then evictV room p done rest else done ++ rest)
    else (if room < ((done ++ x :: rest).length : Int) then evictV room p (done ++ [x]) rest else done ++ x :: rest)
theorem evict_vis (room p : Int) (e : Nat) (done rest : List Ent) (h : ∀ y ∈ rest, y.blk = e ↔ y.page = p) : (evict room e done rest).map vis = evictV room p (done.map vis) (rest.map vis) := by
  induction rest generalizing done with
  | nil => rfl
  | cons x rest ih =>
    have hg : ∀ n, goes room e n x = goesV room p n (vis x) := fun n => by
      unfold goes goesV
      have := h x List.mem_cons_self
      rw [show decide (x.blk ≠ e) = decide ((vis x).1 ≠ p) from decide_eq_decide.2 (not_congr this)]
      rfl
    have l1 : (List.map vis done ++ vis x :: List.map vis rest).length = (done ++ x :: rest).length := by simp
    have l2 : (List.map vis done ++ List.map vis rest).length = (done ++ rest).length := by simp
    have ih1 := ih done (fun y hy => h y (List.mem_cons_of_mem _ hy))
    have ih2 := ih (done ++ [x]) (fun y hy => h y (List.mem_cons_of_mem _ hy))
    rw [List.map_append] at ih2
    rw [List.map_cons]
    unfold evict evictV
    rw [l1, l2, hg]
    split
    · split
      · exact ih1
      · rw [List.map_append]
    · split
      · exact ih2
      · rw [List.map_append]; rfl

def CacheV (w : World) (base g : Nat) (room hits miss : Int) (V : List Vis) : Prop := ∃ mp r es, CacheAt w base g room mp r hits miss es ∧ es.map vis = V
theorem CacheV.up {w w' : World} {base g : Nat} {room hits miss : Int} {V : List Vis} (h : CacheV w base g room hits miss V) (hu : Up w w') : CacheV w' base g room hits miss V := by
  obtain ⟨mp, r, es, h1, h2⟩ := h
  exact ⟨mp, r, es, h1.up hu, h2⟩
theorem vis_page (es : List Ent) : (es.map vis).map (·.1) = es.map Ent.page := by rw [List.map_map]; rfl

def StepV (w : World) (base g : Nat) (room hits miss : Int) (V : List Vis) (v : Value) (en : Ending) (w' : World) : Prop :=
  en = .returned v ∧ Hid (CacheV w' base g room hits miss V ∧ Below base w w')

def GetV (w : World) (base g : Nat) (room hits miss : Int) (V : List Vis) (D : List UInt8) (en : Ending) (w' : World) : Prop :=
  ∃ A c, en = .returned (.tuple #[.slice A 512 c, .bool true]) ∧ Hid (D.length = 512 ∧ Bytes w' A D ∧ CacheV w' base g room hits miss V ∧ Below base w w')
theorem map_split {α β : Type} {f : α → β} {l : List α} {V1 V2 : List β} {v : β} (h : l.map f = V1 ++ v :: V2) : ∃ l1 x l2, l = l1 ++ x :: l2 ∧ l1.map f = V1 ∧ f x = v ∧ l2.map f = V2 := by
  obtain ⟨l1, l2, rfl, h1, h2⟩ := List.map_eq_append_iff.1 h
  obtain ⟨x, l3, rfl, h3, h4⟩ := List.map_eq_cons_iff.1 h2
  exact ⟨l1, x, l3, rfl, h1, h3, h4⟩
theorem ent_len {w : World} {base : Nat} {x : Ent} (h : EntIs w base x) : x.data.length = 512 := by
  obtain ⟨_, ⟨A, c, _, xo⟩, _⟩ := h
  have := xo.1
  rw [List.length_map] at this
  exact this
end Go.Proofs.YtbcghggkfnagoaaGreatDoor
