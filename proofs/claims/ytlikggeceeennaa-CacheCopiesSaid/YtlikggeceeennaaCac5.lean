/- THE WALK of Put, where the page is not there. -/
import Derived.Test.YtlikggeceeennaaCac4
import Derived.Test.YtlikggeceeennaaClo
set_option linter.unusedVariables false
set_option linter.unusedSimpArgs false
namespace Go.Proofs.Ytlikggeceeennaa
open Go Go.RowKit Hach

section
variable {w w' : World} {base g : Nat} {room : Int} {mp r : Nat} {hits miss : Int} {es : List Ent} {x : Ent}
/-- What is set at the end leaves the rest. -/
theorem CacheAt.more (h : CacheAt w base g room mp r hits miss es) {S : Nat → Prop} (hf : Fr S w w') (hSg : ¬ S g) (hSrow : ∀ n v xs, w.ownsRow base 5 1 v n xs → ∀ k, v.ownBlock = some k → ¬ S k)
    (hent : ∀ b, EntB w b → EntB w' b) (hcell : ∀ y ∈ es, ∀ i v, w.cell? ⟨y.blk, i, none⟩ = some v → i < 4 → w'.cell? ⟨y.blk, i, none⟩ = some v)
    (hrow : Chain w' r ((es ++ [x]).map Ent.blk ++ [r])) (hm : MapIs w' mp ((es ++ [x]).map key)) (hx : EntB w' x.blk ∧ EntIs w' base x) (hnew : x.blk ∉ r :: es.map Ent.blk) (hp : x.page ∉ es.map Ent.page)
    (hwf : (Lit.int .i64 x.page).wf = true) (hlow : base ≤ x.blk) : CacheAt w' base g room mp r hits miss (es ++ [x]) := by
  refine ⟨?_, hent _ h.ring, hrow, ?_, ?_, hm, ?_, ?_, ⟨h.lows.1, h.lows.2.1, h.lows.2.2.1, ?_⟩⟩
  · have := h.own
    unfold CacheB at *
    rw [← this]
    exact hf.block g (Array.getElem?_eq_some_iff.1 this).1 hSg
  · rw [List.map_append, ← List.cons_append, List.nodup_append]
    refine ⟨h.nodup, by simp, fun a ha b hb e => hnew ?_⟩
    rw [show b = x.blk by simpa using hb] at e
    rw [← e]; exact ha
  · intro y hy
    rcases List.mem_append.1 hy with hy | hy
    · exact ⟨hent _ (h.ents y hy).1, (h.ents y hy).2.keep hf (fun i v hv hi => hcell y hy _ _ hv hi) hSrow⟩
    · rw [List.mem_singleton.1 hy]; exact hx
  · rw [List.map_append, List.nodup_append]
    refine ⟨h.pages, by simp, fun a ha b hb e => hp ?_⟩
    rw [show b = x.page by simpa using hb] at e
    rw [← e]; exact ha
  · intro y hy
    rcases List.mem_append.1 hy with hy | hy
    · exact h.wf y hy
    · rw [List.mem_singleton.1 hy]; exact hwf
  · intro y hy
    rcases List.mem_append.1 hy with hy | hy
    · exact h.lows.2.2.2 y hy
    · rw [List.mem_singleton.1 hy]; exact hlow
theorem CacheAt.mem (h : CacheAt w base g room mp r hits miss es) {b : Nat} (hb : b ∈ r :: es.map Ent.blk) : EntB w b ∧ base ≤ b := by
  rcases List.mem_cons.1 hb with rfl | hb
  · exact ⟨h.ring, h.lows.2.1⟩
  · obtain ⟨y, hy, rfl⟩ := List.mem_map.1 hb; exact ⟨(h.ents y hy).1, h.lows.2.2.2 y hy⟩
theorem CacheAt.back (h : CacheAt w base g room mp r hits miss es) : w.cell? ⟨r, 5, none⟩ = some (ptr (lastOf r (es.map Ent.blk))) := (Chain.append.1 h.row).2.1.2
theorem CacheAt.end4 (h : CacheAt w base g room mp r hits miss es) : w.cell? ⟨lastOf r (es.map Ent.blk), 4, none⟩ = some (ptr r) := (Chain.append.1 h.row).2.1.1
end

theorem clone_callsX (w : World) (A : Option Addr) (xs : List UInt8) (c n : Nat) (hn : Hid (xs.length = n)) (hl : Hid (n ≤ 1099511627776)) (hc : Hid (Bytes w A xs)) :
    Calls Try.prog 62 #[.slice A n c] w fun e w' => ∃ A c, e = .returned (.slice A n c) ∧ Hid (w'.ownsRow w.heap.size 5 1 (.slice A n c) n (xs.map byteCell)) ∧ Up w w' := by
  have := clone_calls w A xs c (by rw [hn.out]; exact hl.out) hc
  rw [hn.out] at this
  refine this.mono ?_
  rintro e w' ⟨A, c, rfl, o, b⟩
  unfold OwnB at o
  rw [hn.out] at o
  exact ⟨A, c, by rw [hn.out], hid o, b⟩

theorem frE_trans {w w1 w2 : World} {mp : Nat} (h : Fr (fun k => k = mp ∨ EntB w k) w w1) (k : Fr (fun k => k = mp ∨ EntB w1 k) w1 w2) : Fr (fun k => k = mp ∨ EntB w k) w w2 :=
  h.trans k (fun i hi hh => by
    rcases hh with h9 | h9
    · exact .inl h9
    · by_cases h8 : i = mp
      · exact .inl h8
      · by_cases h7 : EntB w i
        · exact .inr h7
        · exact .inr (h9.back h (by rintro (q | q); exact h8 q; exact h7 q) hi))
theorem frE_up {w w1 : World} {mp : Nat} (u : Up w w1) : Fr (fun k => k = mp ∨ EntB w k) w w1 := (Fr.of_below u).mono (fun _ f => f.elim)
def PutRet (w : World) (base g : Nat) (room : Int) (mp r : Nat) (hits miss : Int) (es : List Ent) (p : Int) (D : List UInt8) (en : Ending) (w' : World) : Prop :=
  en = .returned (.int .i64 0) ∧ Hid (∃ e, w.heap.size ≤ e ∧ CacheAt w' base g room mp r hits miss (evict room e [] (es ++ [⟨p, e, D, 0, false⟩])) ∧ Below base w w' ∧ Fr (fun k => k = mp ∨ EntB w k) w w')

set_option maxRecDepth 100000 in
set_option maxHeartbeats 1000000 in
theorem putNew_calls (w : World) (base g : Nat) (room : Int) (mp r : Nat) (hits miss : Int) (es : List Ent) (p : Int) (A : Option Addr) (c : Nat) (D : List UInt8) (h : Hid (CacheAt w base g room mp r hits miss es))
    (hp : 1 ≤ p) (hwf : Hid ((Lit.int .i64 p).wf = true)) (hno : Hid (p ∉ es.map Ent.page)) (hD : Hid (D.length = 512)) (hb : Hid (Bytes w A D)) (hl : Hid (es.length < 1000000)) :
    Calls Try.prog 17 #[ptr g, .int .i64 p, .slice A 512 c] w (PutRet w base g room mp r hits miss es p D) := by
  have c2 := h.out.own.c2
  have p1 : ¬ p < 1 := by omega
  have u0 : Up w (w.alloc (.cells #[.pointer (some ⟨g, 0, none⟩)] 26)) := (Below.refl _ _).alloc (Nat.le_refl _) _
  have hlook : ∀ w', Up w w' → (Instr.lookup 64 (.map (some mp)) (.int .i64 p) false).run Try.prog w' = .ok (.pointer none) w' := fun w' u => by
    have := (h.out.map.kept (Fr.of_below u) id).look hwf.out
    rw [lookup_none (by rw [keys_pages]; exact hno.out)] at this
    exact this
  have L0 := hlook _ u0
  have M0 := u0.c h.out.own.c1
  unfold ptr at c2 L0 M0 ⊢
  clear hp
  go_enter Try.func17, Try.ntmps17
  go_wp2_with (go_at_call 60; refine (made_calls _ g r (u0.c c2)).mono ?_; rintro e w' ⟨rfl, rfl⟩)
  have U3 : Up w (((w.alloc (.cells #[.pointer (some ⟨g, 0, none⟩)] 26)).alloc (.cells #[.pointer (some ⟨w.heap.size + 1 + 1, 0, none⟩)] 65)).alloc (.cells #[.int .i64 p, .slice none 0 0, .int .i64 0, .bool false, .pointer none, .pointer none] 103)) := ((u0.t (show Up _ _ from (Below.refl _ _).alloc (Nat.le_refl _) _)).t (show Up _ _ from (Below.refl _ _).alloc (Nat.le_refl _) _))
  have k3 : (((w.alloc (.cells #[.pointer (some ⟨g, 0, none⟩)] 26)).alloc (.cells #[.pointer (some ⟨w.heap.size + 1 + 1, 0, none⟩)] 65)).alloc (.cells #[.int .i64 p, .slice none 0 0, .int .i64 0, .bool false, .pointer none, .pointer none] 103)).cell? ⟨w.heap.size, 0, none⟩ = some (.pointer (some ⟨g, 0, none⟩)) := by go_simp
  have k7 : (((w.alloc (.cells #[.pointer (some ⟨g, 0, none⟩)] 26)).alloc (.cells #[.pointer (some ⟨w.heap.size + 1 + 1, 0, none⟩)] 65)).alloc (.cells #[.int .i64 p, .slice none 0 0, .int .i64 0, .bool false, .pointer none, .pointer none] 103)).cell? ⟨w.heap.size + 1, 0, none⟩ = some (.pointer (some ⟨w.heap.size + 1 + 1, 0, none⟩)) := by go_simp
  have ke : (((w.alloc (.cells #[.pointer (some ⟨g, 0, none⟩)] 26)).alloc (.cells #[.pointer (some ⟨w.heap.size + 1 + 1, 0, none⟩)] 65)).alloc (.cells #[.int .i64 p, .slice none 0 0, .int .i64 0, .bool false, .pointer none, .pointer none] 103)).heap[w.heap.size + 1 + 1]? = some (.cells #[.int .i64 p, .slice none 0 0, .int .i64 0, .bool false, .pointer none, .pointer none] 103 (0, 0)) := by
    have := heap_alloc_new ((w.alloc (.cells #[.pointer (some ⟨g, 0, none⟩)] 26)).alloc (.cells #[.pointer (some ⟨w.heap.size + 1 + 1, 0, none⟩)] 65)) (.cells #[.int .i64 p, .slice none 0 0, .int .i64 0, .bool false, .pointer none, .pointer none] 103)
    simpa using this
  have kb3 : (((w.alloc (.cells #[.pointer (some ⟨g, 0, none⟩)] 26)).alloc (.cells #[.pointer (some ⟨w.heap.size + 1 + 1, 0, none⟩)] 65)).alloc (.cells #[.int .i64 p, .slice none 0 0, .int .i64 0, .bool false, .pointer none, .pointer none] 103)).heap[w.heap.size]? = some (.cells #[.pointer (some ⟨g, 0, none⟩)] 26 (0, 0)) := by
    rw [Below.heap_alloc _ _ _ (by simp; omega), Below.heap_alloc _ _ _ (by simp)]; exact heap_alloc_new w _
  have kb7 : (((w.alloc (.cells #[.pointer (some ⟨g, 0, none⟩)] 26)).alloc (.cells #[.pointer (some ⟨w.heap.size + 1 + 1, 0, none⟩)] 65)).alloc (.cells #[.int .i64 p, .slice none 0 0, .int .i64 0, .bool false, .pointer none, .pointer none] 103)).heap[w.heap.size + 1]? = some (.cells #[.pointer (some ⟨w.heap.size + 1 + 1, 0, none⟩)] 65 (0, 0)) := by
    rw [Below.heap_alloc _ _ _ (by simp)]
    have := heap_alloc_new (w.alloc (.cells #[.pointer (some ⟨g, 0, none⟩)] 26)) (.cells #[.pointer (some ⟨w.heap.size + 1 + 1, 0, none⟩)] 65)
    simpa using this
  have KE := hid ke
  have KB3 := hid kb3
  have KB7 := hid kb7
  have HU3 := hid U3
  have bs := hid (show base ≤ w.heap.size from Nat.le_of_lt (Nat.lt_of_le_of_lt h.out.lows.2.1 h.out.ring.lt))
  clear u0 hlook L0 M0 c2 ke kb3 kb7 U3
  generalize (((w.alloc (.cells #[.pointer (some ⟨g, 0, none⟩)] 26)).alloc (.cells #[.pointer (some ⟨w.heap.size + 1 + 1, 0, none⟩)] 65)).alloc (.cells #[.int .i64 p, .slice none 0 0, .int .i64 0, .bool false, .pointer none, .pointer none] 103)) = W3 at *
  have mlt := h.out.map.lt
  have glt : g < w.heap.size := (Array.getElem?_eq_some_iff.1 h.out.own).1
  have rlt := h.out.ring.lt
  have olds := hid (show ∀ b ∈ r :: es.map Ent.blk, b < w.heap.size from fun b hb => (h.out.mem hb).1.lt)
  have ZW := hid (show w.heap.size ≤ w.heap.size + 1 + 1 by omega)
  have ZB := hid (show w.heap.size < W3.heap.size ∧ w.heap.size + 1 < W3.heap.size from by have := (Array.getElem?_eq_some_iff.1 KE.out).1; omega)
  generalize hb3 : w.heap.size = b3 at *
  generalize hb7 : b3 + 1 = b7 at *
  generalize he : b7 + 1 = e at *
  have CA3 := hid (h.out.up HU3.out)
  have HNO := hno
  have hne3 : b3 ≠ mp := by omega
  have hne7 : b7 ≠ mp := by omega
  have hnee : e ≠ mp := by omega
  have hngm : g ≠ mp := h.out.map.neB h.out.own
  have hneg : e ≠ g := by omega
  have HNUM := hid (And.intro hb3 (And.intro hb7 he))
  have hn37 : b3 ≠ e ∧ b7 ≠ e ∧ r ≠ e := by omega
  clear hb3 hb7 he
  have c1 : W3.drew.cell? ⟨g, 1, none⟩ = some (.map (some mp)) := CA3.out.own.c1
  have k3d : W3.drew.cell? ⟨b3, 0, none⟩ = some (.pointer (some ⟨g, 0, none⟩)) := k3
  have k7d : W3.drew.cell? ⟨b7, 0, none⟩ = some (.pointer (some ⟨e, 0, none⟩)) := k7
  obtain ⟨W4, hupd, m4, g4⟩ := MapIs.add (w := W3.drew) (p := p) (b := e) CA3.out.map hwf.out (lookup_none (by rw [keys_pages]; exact hno.out)) (by rw [List.length_map]; exact hl.out)
  have nk : ∀ b : Nat, b ≠ mp → ¬ some b = some mp := fun b hb e9 => hb (Option.some.inj e9)
  have c14 : W4.cell? ⟨g, 1, none⟩ = some (.map (some mp)) := g4.cell c1 (nk g hngm)
  have k34 : W4.cell? ⟨b3, 0, none⟩ = some (.pointer (some ⟨g, 0, none⟩)) := g4.cell k3d (nk b3 hne3)
  have k74 : W4.cell? ⟨b7, 0, none⟩ = some (.pointer (some ⟨e, 0, none⟩)) := g4.cell k7d (nk b7 hne7)
  unfold ptr at hupd
  go_region_held3 (fun w' => w'.cell? ⟨b3, 0, none⟩ = some (.pointer (some ⟨g, 0, none⟩)) ∧ w'.cell? ⟨g, 1, none⟩ = some (.map (some mp)) ∧ w'.cell? ⟨b7, 0, none⟩ = some (.pointer (some ⟨e, 0, none⟩)))
    (first | exact ⟨k3d, c1, k7d⟩ | exact ⟨k34, c14, k74⟩)
    (fail)
  have G4 := hid g4
  have M4 := hid m4
  clear hupd g4 m4 c1 k3d k7d c14
  go_wp2
  have EE3 : EntB W3 e := ⟨_, KE.out, rfl⟩
  have EE4 : EntB W4 e := EntB.fr (w := W3.drew) EE3.drew (Fr.of_grown G4.out) (nk e hnee)
  obtain ⟨v1, hv1⟩ := EE4.cell (i := 1) (by decide)
  have fe : W4.frozen? ⟨e, 1, none⟩ = false := EE4.free
  obtain ⟨ba, offa, rfl, hcell⟩ := hb.out 0 (by rw [hD.out]; decide)
  have hba : ba ≠ mp := by
    rintro rfl
    obtain ⟨D9, ⟨es9, clock9, h9, _⟩, _⟩ := h.out.map
    unfold World.cell? at hcell
    rw [show (⟨ba, offa + 0, none⟩ : Addr).block = ba from rfl, h9] at hcell
    cases hcell
  have Y4 : Hid (Bytes W4.drew (some ⟨ba, offa, none⟩) D) := hid (show Bytes W4 (some ⟨ba, offa, none⟩) D from
    Rd.bytes (Rd.fr (w := W3.drew) (show Rd W3 _ _ from (hb.out.grown HU3.out).rd) (Fr.of_grown G4.out) (fun b off e9 e8 => hba (by injection e9 with e9; injection e9 with e9 _; rw [e9]; exact Option.some.inj e8))))
  have k74d : W4.drew.cell? ⟨b7, 0, none⟩ = some (.pointer (some ⟨e, 0, none⟩)) := k74
  go_region_held3 (fun w' => w'.cell? ⟨b7, 0, none⟩ = some (.pointer (some ⟨e, 0, none⟩)))
    (first | exact k74d | exact q7 | exact q7b)
    (first
      | (go_at_call 62; refine (clone_callsX W4.drew _ D c 512 hD (hid (by decide)) Y4).mono ?_; rintro en w5 ⟨A5, c5, rfl, o5, u5⟩; have q7 := u5.c k74d; have hv15 : w5.cell? ⟨e, 1, none⟩ = some v1 := u5.c hv1; have EE5 : EntB w5 e := EntB.fr EE4.drew (Fr.of_below u5) id; have fe5 : w5.frozen? ⟨e, 1, none⟩ = false := EE5.free; have q7b : (w5.setCell ⟨e, 1, none⟩ (.slice A5 512 c5)).cell? ⟨b7, 0, none⟩ = some (.pointer (some ⟨e, 0, none⟩)) := set_far q7 (fun e9 => hn37.2.1 e9.1.symm)))
  obtain ⟨pl, hpl⟩ : ∃ q, lastOf r (es.map Ent.blk) = q := ⟨_, rfl⟩
  have plm := CA3.out.mem (b := pl) (by rw [← hpl]; exact lastOf_mem _ _)
  have pll := olds.out pl (by rw [← hpl]; exact lastOf_mem _ _)
  have rll := olds.out r List.mem_cons_self
  have hnum := HNUM.out
  have nep : e ≠ pl := by omega
  have ner : e ≠ r := by omega
  have T4 : ∀ b i v, b ≠ mp → W3.cell? ⟨b, i, none⟩ = some v → W4.cell? ⟨b, i, none⟩ = some v := fun b i v h1 h2 => G4.out.cell (h2 : W3.drew.cell? _ = _) (nk b h1)
  have T6 : ∀ b i v, b ≠ mp → ¬ (b = e ∧ i = 1) → W3.cell? ⟨b, i, none⟩ = some v → (w5.setCell ⟨e, 1, none⟩ (.slice A5 512 c5)).cell? ⟨b, i, none⟩ = some v := fun b i v h1 h2 h3 => set_far (u5.c (T4 b i v h1 h3 : W4.drew.cell? _ = _)) (fun e9 => h2 ⟨e9.1.symm, e9.2.symm⟩)
  have E6 : ∀ b, EntB W3 b → EntB (w5.setCell ⟨e, 1, none⟩ (.slice A5 512 c5)) b := fun b h9 => (EntB.fr (EntB.fr (w := W3.drew) h9.drew (Fr.of_grown G4.out) (nk b (CA3.out.map.ne h9))).drew (Fr.of_below u5) id).set _ _ _
  have ke : ∀ i v, (#[Value.int IntKind.i64 p, Value.slice none 0 0, Value.int IntKind.i64 0, Value.bool false, Value.pointer none, Value.pointer none] : Array Value)[i]? = some v → W3.cell? ⟨e, i, none⟩ = some v := fun i v h9 => by
    unfold World.cell?
    rw [show (⟨e, i, none⟩ : Addr).block = e from rfl, KE.out]
    exact h9
  have g26 := T6 g 2 _ hngm (fun e9 => hneg e9.1.symm) CA3.out.own.c2
  have r56 := T6 r 5 _ (CA3.out.map.ne CA3.out.ring) (fun e9 => ner e9.1.symm) CA3.out.back
  have e46 := T6 e 4 _ hnee (fun e9 => by cases e9.2) (ke 4 _ rfl)
  have e56 := T6 e 5 _ hnee (fun e9 => by cases e9.2) (ke 5 _ rfl)
  have p46 := T6 pl 4 _ (CA3.out.map.ne plm.1) (fun e9 => nep e9.1.symm) (by rw [← hpl]; exact CA3.out.end4)
  have npg : pl ≠ g := CA3.out.own.ne plm.1
  have nrg : r ≠ g := CA3.out.own.ne CA3.out.ring
  rw [hpl] at r56
  have q36 := T6 b3 0 _ hne3 (fun e9 => hn37.1 e9.1) k3
  have k1 := hid (And.intro q36 q7b)
  have sz3 : b3 ≤ W3.heap.size := by have := HU3.out.size; rw [HNUM.out.1] at this; exact this
  have sz4 : base ≤ W4.heap.size := Nat.le_trans bs.out (Nat.le_trans sz3 G4.out.size)
  have WF6 := hid (And.intro (show Fr (fun k => k = mp ∨ EntB W3 k) W3 (w5.setCell ⟨e, 1, none⟩ (.slice A5 512 c5)) from
      ((((Fr.refl _ W3).drew).trans' ((Fr.of_grown G4.out).mono (fun k hk => .inl (Option.some.inj hk)))).drew.trans (Fr.of_below u5) (fun _ _ f => f.elim)).setCell (p := ⟨e, 1, none⟩) (fun _ => .inr EE3) _)
    (show Below base w (w5.setCell ⟨e, 1, none⟩ (.slice A5 512 c5)) from by
      have b1 : Below base w W3 := Below.mono HU3.out (by rw [HNUM.out.1]; exact bs.out)
      have b2 : Below base w W4 := (b1.drew).grown G4.out (Nat.le_trans bs.out sz3) (fun k hk => by rw [← Option.some.inj hk]; exact h.out.lows.2.2.1)
      have b3' : Below base w w5 := b2.drew.trans (Below.mono u5 sz4)
      exact b3'.setCell (p := ⟨e, 1, none⟩) (by show base ≤ e; have := bs.out; omega) _))
  have O6 := hid (show (w5.setCell ⟨e, 1, none⟩ (.slice A5 512 c5)).ownsRow base 5 1 (.slice A5 512 c5) 512 (D.map byteCell) from by
    have hle : base ≤ W4.drew.heap.size := sz4
    refine Fr.own ((Fr.refl (fun k => k = e) w5).setCell (fun _ => rfl) _) (own_base o5.out hle) (fun k hk e9 => ?_)
    subst e9
    exact row_ne o5.out EE5 hk)
  have XE : Hid (EntB (w5.setCell ⟨e, 1, none⟩ (.slice A5 512 c5)) e ∧ (w5.setCell ⟨e, 1, none⟩ (.slice A5 512 c5)).cell? ⟨e, 0, none⟩ = some (.int .i64 p) ∧ (w5.setCell ⟨e, 1, none⟩ (.slice A5 512 c5)).cell? ⟨e, 2, none⟩ = some (.int .i64 0) ∧ (w5.setCell ⟨e, 1, none⟩ (.slice A5 512 c5)).cell? ⟨e, 3, none⟩ = some (.bool false) ∧ (w5.setCell ⟨e, 1, none⟩ (.slice A5 512 c5)).cell? ⟨e, 1, none⟩ = some (.slice A5 512 c5)) :=
    hid ⟨E6 e EE3, T6 e 0 _ hnee (fun e9 => by cases e9.2) (ke 0 (.int .i64 p) rfl), T6 e 2 _ hnee (fun e9 => by cases e9.2) (ke 2 (.int .i64 0) rfl), T6 e 3 _ hnee (fun e9 => by cases e9.2) (ke 3 (.bool false) rfl), set_near hv15⟩
  have T6' := hid T6
  have E6' := hid E6
  have EP6 := E6 pl plm.1
  have ER6 := E6 r CA3.out.ring
  have EX6 := E6 e EE3
  have M6 : Hid (MapIs (w5.setCell ⟨e, 1, none⟩ (.slice A5 512 c5)) mp (es.map key ++ [(p, e)])) := hid ((((M4.out.kept (Fr.refl No W4).drew id).kept (Fr.of_below u5) id)).kept ((Fr.refl (fun k => k = e) w5).setCell (fun _ => rfl) _) (fun e9 => hnee e9.symm))
  clear T4 T6 E6 ke k74 k74d hv1 fe hcell hba Y4 q7 hv15 EE5 fe5 q7b q36 EE4 o5 u5 G4 M4 sz3 sz4 k3 k7 hno
  rename_i K1 h1 hHeld
  clear hHeld
  refine h1 _ _ ?_
  clear h1 K1
  generalize w5.setCell ⟨e, 1, none⟩ (.slice A5 512 c5) = W6 at *
  have kk := k1.out
  obtain ⟨kk3, kk7⟩ := kk
  go_wp2_with fail
  refine (last_calls W6 g e pl r _ _ _ g26 r56 ER6.free e46 EX6.free e56 EX6.free p46 EP6.free hneg ner nep npg nrg).mono ?_
  rintro en W7 ⟨rfl, hW7⟩
  have cell7 : ∀ b i v, W6.cell? ⟨b, i, none⟩ = some v → ¬ (b = e ∧ i = 4) → ¬ (b = e ∧ i = 5) → ¬ (b = pl ∧ i = 4) → ¬ (b = r ∧ i = 5) → W7.cell? ⟨b, i, none⟩ = some v := by
    intro b i v hv n1 n2 n3 n4
    rw [hW7]
    exact set_far (set_far (set_far (set_far hv (fun e9 => n1 ⟨e9.1.symm, e9.2.symm⟩)) (fun e9 => n2 ⟨e9.1.symm, e9.2.symm⟩)) (fun e9 => n3 ⟨e9.1.symm, e9.2.symm⟩)) (fun e9 => n4 ⟨e9.1.symm, e9.2.symm⟩)
  have w74 : W7.cell? ⟨pl, 4, none⟩ = some (ptr e) := by
    rw [hW7]
    exact set_far (set_near (set_far (set_far p46 (fun e9 => nep e9.1)) (fun e9 => nep e9.1))) (fun e9 => by cases e9.2)
  have w75 : W7.cell? ⟨r, 5, none⟩ = some (ptr e) := by
    rw [hW7]
    exact set_near (set_far (set_far (set_far r56 (fun e9 => ner e9.1)) (fun e9 => ner e9.1)) (fun e9 => by cases e9.2))
  have w7e4 : W7.cell? ⟨e, 4, none⟩ = some (ptr r) := by
    rw [hW7]
    exact set_far (set_far (set_far (set_near e46) (fun e9 => by cases e9.2)) (fun e9 => nep e9.1.symm)) (fun e9 => by cases e9.2)
  have w7e5 : W7.cell? ⟨e, 5, none⟩ = some (ptr pl) := by
    rw [hW7]
    exact set_far (set_far (set_near (set_far e56 (fun e9 => by cases e9.2))) (fun e9 => by cases e9.2)) (fun e9 => ner e9.1.symm)
  have ent7 : ∀ b, EntB W6 b → EntB W7 b := fun b hb9 => by rw [hW7]; exact ((((hb9.set _ _ _).set _ _ _).set _ _ _).set _ _ _).drew.drew
  have F67 : Fr (fun k => k = e ∨ k = pl ∨ k = r) W6 W7 := by
    rw [hW7]
    exact ((((((Fr.refl _ W6).setCell (p := ⟨e, 4, none⟩) (fun _ => .inl rfl) _).setCell (p := ⟨e, 5, none⟩) (fun _ => .inl rfl) _).setCell (p := ⟨pl, 4, none⟩) (fun _ => .inr (.inl rfl)) _).setCell (p := ⟨r, 5, none⟩) (fun _ => .inr (.inr rfl)) _).drew).drew
  have B67 : Below base W6 W7 := by
    rw [hW7]
    exact ((((((Below.refl base W6).setCell (p := ⟨e, 4, none⟩) (by show base ≤ e; have := bs.out; omega) _).setCell (p := ⟨e, 5, none⟩) (by show base ≤ e; have := bs.out; omega) _).setCell (p := ⟨pl, 4, none⟩) plm.2 _).setCell (p := ⟨r, 5, none⟩) h.out.lows.2.1 _).drew).drew
  clear hW7
  have F37 : Fr (fun k => k = mp ∨ EntB W3 k) W3 W7 := WF6.out.1.trans F67 (fun i _ hh => by
    rcases hh with rfl | rfl | rfl
    · exact .inr EE3
    · exact .inr plm.1
    · exact .inr CA3.out.ring)
  have hyne : ∀ y ∈ es, y.blk ≠ e := fun y hy e9 => by have := olds.out y.blk (List.mem_cons_of_mem _ (List.mem_map.2 ⟨y, hy, rfl⟩)); omega
  have hrne : r ≠ e := hn37.2.2
  have row7 : ∀ n v xs, W3.ownsRow base 5 1 v n xs → ∀ k, v.ownBlock = some k → ¬ (k = mp ∨ EntB W3 k) := fun n v xs ho k hk e9 => by
    rcases e9 with rfl | e9
    · exact row_neM ho CA3.out.map hk
    · exact row_ne ho e9 hk
  have hnotin : e ∉ r :: es.map Ent.blk := fun hm => by
    rcases List.mem_cons.1 hm with hm | hm
    · exact hrne hm.symm
    · obtain ⟨y, hy, e9⟩ := List.mem_map.1 hm; exact hyne y hy e9
  have CA7 := hid (CacheAt.more (x := ⟨p, e, D, 0, false⟩) CA3.out F37
    (fun e9 => by rcases e9 with e9 | e9; exact hngm e9; exact CA3.out.own.ne e9 rfl) row7
    (fun b hb9 => ent7 b (E6'.out b hb9))
    (fun y hy i v hv hi => cell7 _ _ _ (T6'.out _ _ _ (CA3.out.map.ne (CA3.out.ents y hy).1) (fun e9 => hyne y hy e9.1) hv) (fun e9 => hyne y hy e9.1) (fun e9 => hyne y hy e9.1) (fun e9 => by omega) (fun e9 => by omega))
    (by
      rw [List.map_append]
      refine Chain.last (e := e) CA3.out.row CA3.out.nodup hnotin ?_ (by rw [hpl]; exact w74) (by rw [hpl]; exact w7e5) w7e4 w75
      intro b i v hv n1 n2 n3
      have hbm : b ≠ mp := by
        rintro rfl
        obtain ⟨D9, ⟨es9, clock9, h9, _⟩, _⟩ := CA3.out.map
        unfold World.cell? at hv
        rw [show (⟨b, i, none⟩ : Addr).block = b from rfl, h9] at hv
        cases hv
      exact cell7 _ _ _ (T6'.out _ _ _ hbm (fun e9 => n1 e9.1) hv) (fun e9 => n1 e9.1) (fun e9 => n1 e9.1) (by rw [hpl] at n2; exact n2) n3)
    (by rw [List.map_append]; exact M6.out.kept F67 (fun e9 => by rcases e9 with e9 | e9 | e9; exact hnee e9.symm; exact CA3.out.map.ne plm.1 e9.symm; exact CA3.out.map.ne CA3.out.ring e9.symm))
    ⟨ent7 e XE.out.1, cell7 _ _ _ XE.out.2.1 (fun e9 => by cases e9.2) (fun e9 => by cases e9.2) (fun e9 => nep e9.1) (fun e9 => ner e9.1),
      ⟨A5, c5, cell7 _ _ _ XE.out.2.2.2.2 (fun e9 => by cases e9.2) (fun e9 => by cases e9.2) (fun e9 => nep e9.1) (fun e9 => ner e9.1), Fr.own F67 O6.out (fun k hk e9 => by
        rcases e9 with rfl | rfl | rfl
        · exact row_ne O6.out EX6 hk
        · exact row_ne O6.out EP6 hk
        · exact row_ne O6.out ER6 hk)⟩,
      cell7 _ _ _ XE.out.2.2.1 (fun e9 => by cases e9.2) (fun e9 => by cases e9.2) (fun e9 => nep e9.1) (fun e9 => ner e9.1), cell7 _ _ _ XE.out.2.2.2.1 (fun e9 => by cases e9.2) (fun e9 => by cases e9.2) (fun e9 => nep e9.1) (fun e9 => ner e9.1)⟩
    hnotin HNO.out hwf.out (by show base ≤ e; have := bs.out; omega))
  have l3 : W7.cell? ⟨b3, 0, none⟩ = some (.pointer (some ⟨g, 0, none⟩)) := cell7 _ _ _ kk3 (fun e9 => by cases e9.2) (fun e9 => by cases e9.2) (fun e9 => by cases e9.2) (fun e9 => by cases e9.2)
  have l7 : W7.cell? ⟨b7, 0, none⟩ = some (.pointer (some ⟨e, 0, none⟩)) := cell7 _ _ _ kk7 (fun e9 => by cases e9.2) (fun e9 => by cases e9.2) (fun e9 => by cases e9.2) (fun e9 => by cases e9.2)
  have nb3 : ¬ EntB W3 b3 := by
    rintro ⟨cs, h1, _⟩
    rw [KB3.out] at h1
    injection h1 with h1; injection h1 with _ h2 _
    revert h2; decide
  have nb7 : ¬ EntB W3 b7 := by
    rintro ⟨cs, h1, _⟩
    rw [KB7.out] at h1
    injection h1 with h1; injection h1 with _ h2 _
    revert h2; decide
  have NB3 := hid (show ¬ EntB W7 b3 from fun e9 => nb3 (e9.back F37 (by rintro (e8 | e8); exact hne3 e8; exact nb3 e8) ZB.out.1))
  have NB7 := hid (show ¬ EntB W7 b7 from fun e9 => nb7 (e9.back F37 (by rintro (e8 | e8); exact hne7 e8; exact nb7 e8) ZB.out.2))
  have BW7 := hid (WF6.out.2.trans B67)
  have FE7 := hid (frE_trans (frE_up HU3.out) F37)
  have L3 := hid l3
  have L7 := hid l7
  clear cell7 w74 w75 w7e4 w7e5 ent7 F67 B67 F37 hyne hrne row7 hnotin nb3 nb7 EP6 ER6 EX6 g26 r56 e46 e56 p46
  unfold ptr at *
  go_wp2_with fail
  refine (rowPut_calls W7 base g room mp r hits miss (es ++ [⟨p, e, D, 0, false⟩]) b3 b7 e CA7 L3 L7 (hid ⟨⟨p, e, D, 0, false⟩, by simp, rfl⟩) NB3 (hid hne3) NB7 (hid hne7)).mono ?_
  rintro en W8 ⟨rfl, hh⟩
  go_wp2
  go_ret
  exact ⟨rfl, hid ⟨e, by rw [HNUM.out.1]; have := HNUM.out; omega, hh.out.1, BW7.out.trans hh.out.2.2, frE_trans FE7.out hh.out.2.1⟩⟩
end Go.Proofs.Ytlikggeceeennaa
