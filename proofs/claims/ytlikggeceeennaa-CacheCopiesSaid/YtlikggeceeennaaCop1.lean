/- THE WALK of the cache's Copy: its closure. -/
import Derived.Test.YtlikggeceeennaaKee0
import Derived.Test.YtlikggeceeennaaCac8
set_option linter.unusedVariables false
set_option linter.unusedSimpArgs false
namespace Go.Proofs.Ytlikggeceeennaa
open Go Go.RowKit Hach

def Copy1Ret (W0 wr : World) (g : Nat) (room : Int) (mp r : Nat) (hits miss : Int) (es : List Ent) (x : Ent) (bx : Nat) (en : Ending) (w' : World) : Prop :=
  en = .returned (.bool true) ∧ Hid (∃ y, vis y = vis x ∧ CacheAt w' W0.heap.size g room mp r hits miss (es ++ [y]) ∧ Below W0.heap.size wr w' ∧ w'.heap[bx]? = some (.cells #[ptr g] 26 (0, 0)))
set_option maxRecDepth 100000 in
set_option maxHeartbeats 2000000 in
theorem copy1_calls (W0 w : World) (base g : Nat) (room : Int) (mp r : Nat) (hits miss : Int) (es : List Ent) (x : Ent) (bx : Nat) (hx : Hid (EntB W0 x.blk ∧ EntIs W0 base x)) (hu : Hid (Up W0 w)) (h : Hid (CacheAt w W0.heap.size g room mp r hits miss es))
    (hb : Hid (w.heap[bx]? = some (.cells #[ptr g] 26 (0, 0)) ∧ W0.heap.size ≤ bx)) (hwf : Hid ((Lit.int .i64 x.page).wf = true)) (hno : Hid (x.page ∉ es.map Ent.page)) (hl : Hid (es.length < 1000000)) :
    Calls Try.prog 94 #[ptr x.blk, ptr bx] w (Copy1Ret W0 w g room mp r hits miss es x bx) := by
  obtain ⟨hxb, x0, ⟨A, c, x1, x1o⟩, x2, x3⟩ := hx.out
  have XL : Hid (x.data.length = 512) := hid (ent_len hx.out.2)
  have e0 := hu.out.c x0
  have e1 := hu.out.c x1
  have e2 := hu.out.c x2
  have e3 := hu.out.c x3
  have XB : Hid (Bytes w A x.data) := hid ((Rd.bytes (Rd.own x1o)).grown hu.out)
  clear x0 x1 x2 x3 x1o hxb
  unfold ptr at *
  go_enter Try.func94, Try.ntmps94
  go_wp2
  refine any_start (by kernel_rfl) ?_
  refine any_take 0 (some 5) (v := ?_) rfl rfl (by kernel_rfl) (by kernel_rfl) (by kernel_rfl) (fun _ _ _ h => h) (by rfl) (fun w9 hS => ?_) ?_
  rotate_left
  · go_simp <;> with_reducible rfl
  try simp only [Act.put, List.setIfInBounds_toArray, List.set_cons_zero, List.set_cons_succ]
  refine any_take 1 (some 6) (v := ?_) rfl rfl (by kernel_rfl) (by kernel_rfl) (by kernel_rfl) (fun _ _ _ h => h) (by rfl) (fun w9 hS => ?_) ?_
  rotate_left
  · go_simp <;> with_reducible rfl
  try simp only [Act.put, List.setIfInBounds_toArray, List.set_cons_zero, List.set_cons_succ]
  refine any_take 2 (some 7) (v := ?_) rfl rfl (by kernel_rfl) (by kernel_rfl) (by kernel_rfl) (fun _ _ _ h => h) (by rfl) (fun w9 hS => ?_) ?_
  rotate_left
  · go_simp <;> with_reducible rfl
  try simp only [Act.put, List.setIfInBounds_toArray, List.set_cons_zero, List.set_cons_succ]
  refine any_take 3 (some 8) (v := ?_) rfl rfl (by kernel_rfl) (by kernel_rfl) (by kernel_rfl) (fun _ _ _ h => h) (by rfl) (fun w9 hS => ?_) ?_
  rotate_left
  · have f0 := hS.c e0; go_simp <;> with_reducible rfl
  try simp only [Act.put, List.setIfInBounds_toArray, List.set_cons_zero, List.set_cons_succ]
  refine any_take 4 (some 9) (v := ?_) rfl rfl (by kernel_rfl) (by kernel_rfl) (by kernel_rfl) (fun _ _ _ h => h) (by rfl) (fun w9 hS => ?_) ?_
  rotate_left
  · go_simp <;> with_reducible rfl
  try simp only [Act.put, List.setIfInBounds_toArray, List.set_cons_zero, List.set_cons_succ]
  refine any_take 5 (some 10) (v := ?_) rfl rfl (by kernel_rfl) (by kernel_rfl) (by kernel_rfl) (fun _ _ _ h => h) (by rfl) (fun w9 hS => ?_) ?_
  rotate_left
  · go_simp <;> with_reducible rfl
  try simp only [Act.put, List.setIfInBounds_toArray, List.set_cons_zero, List.set_cons_succ]
  refine any_take 6 (some 11) (v := ?_) rfl rfl (by kernel_rfl) (by kernel_rfl) (by kernel_rfl) (fun _ _ _ h => h) (by rfl) (fun w9 hS => ?_) ?_
  rotate_left
  · go_simp <;> with_reducible rfl
  try simp only [Act.put, List.setIfInBounds_toArray, List.set_cons_zero, List.set_cons_succ]
  refine any_take 7 (some 12) (v := ?_) rfl rfl (by kernel_rfl) (by kernel_rfl) (by kernel_rfl) (fun _ _ _ h => h) (by rfl) (fun w9 hS => ?_) ?_
  rotate_left
  · have f1 := hS.c e1; go_simp <;> with_reducible rfl
  try simp only [Act.put, List.setIfInBounds_toArray, List.set_cons_zero, List.set_cons_succ]
  refine any_take 9 (some 14) (v := ?_) rfl rfl (by kernel_rfl) (by kernel_rfl) (by kernel_rfl) (fun _ _ _ h => h) (by rfl) (fun w9 hS => ?_) ?_
  rotate_left
  · go_simp <;> with_reducible rfl
  try simp only [Act.put, List.setIfInBounds_toArray, List.set_cons_zero, List.set_cons_succ]
  refine any_take 10 (some 15) (v := ?_) rfl rfl (by kernel_rfl) (by kernel_rfl) (by kernel_rfl) (fun _ _ _ h => h) (by rfl) (fun w9 hS => ?_) ?_
  rotate_left
  · go_simp <;> with_reducible rfl
  try simp only [Act.put, List.setIfInBounds_toArray, List.set_cons_zero, List.set_cons_succ]
  refine any_take 11 (some 16) (v := ?_) rfl rfl (by kernel_rfl) (by kernel_rfl) (by kernel_rfl) (fun _ _ _ h => h) (by rfl) (fun w9 hS => ?_) ?_
  rotate_left
  · go_simp <;> with_reducible rfl
  try simp only [Act.put, List.setIfInBounds_toArray, List.set_cons_zero, List.set_cons_succ]
  refine any_take 12 (some 17) (v := ?_) rfl rfl (by kernel_rfl) (by kernel_rfl) (by kernel_rfl) (fun _ _ _ h => h) (by rfl) (fun w9 hS => ?_) ?_
  rotate_left
  · have f2 := hS.c e2; go_simp <;> with_reducible rfl
  try simp only [Act.put, List.setIfInBounds_toArray, List.set_cons_zero, List.set_cons_succ]
  refine any_take 13 (some 18) (v := ?_) rfl rfl (by kernel_rfl) (by kernel_rfl) (by kernel_rfl) (fun _ _ _ h => h) (by rfl) (fun w9 hS => ?_) ?_
  rotate_left
  · go_simp <;> with_reducible rfl
  try simp only [Act.put, List.setIfInBounds_toArray, List.set_cons_zero, List.set_cons_succ]
  refine any_take 14 (some 19) (v := ?_) rfl rfl (by kernel_rfl) (by kernel_rfl) (by kernel_rfl) (fun _ _ _ h => h) (by rfl) (fun w9 hS => ?_) ?_
  rotate_left
  · go_simp <;> with_reducible rfl
  try simp only [Act.put, List.setIfInBounds_toArray, List.set_cons_zero, List.set_cons_succ]
  refine any_take 15 (some 20) (v := ?_) rfl rfl (by kernel_rfl) (by kernel_rfl) (by kernel_rfl) (fun _ _ _ h => h) (by rfl) (fun w9 hS => ?_) ?_
  rotate_left
  · go_simp <;> with_reducible rfl
  try simp only [Act.put, List.setIfInBounds_toArray, List.set_cons_zero, List.set_cons_succ]
  refine any_take 16 (some 21) (v := ?_) rfl rfl (by kernel_rfl) (by kernel_rfl) (by kernel_rfl) (fun _ _ _ h => h) (by rfl) (fun w9 hS => ?_) ?_
  rotate_left
  · have f3 := hS.c e3; go_simp <;> with_reducible rfl
  try simp only [Act.put, List.setIfInBounds_toArray, List.set_cons_zero, List.set_cons_succ]
  refine any_call 8 (by kernel_rfl) rfl (by rfl) (fun K9 hK9 => ?_)
  go_simp
  refine (clone_callsX _ A x.data c 512 XL (hid (by decide)) (hid (XB.out.grown (Up.drew w)))).mono ?_
  rintro en w5 ⟨A5, c5, rfl, o5, u5⟩
  have UU := hid ((Up.drew w).t u5)
  have O5 := o5
  clear o5
  replace e0 := UU.out.c e0
  replace e1 := UU.out.c e1
  replace e2 := UU.out.c e2
  replace e3 := UU.out.c e3
  refine hK9.out _ _ u5 ?_
  clear u5
  clear hK9 K9
  try simp only [Act.put, List.setIfInBounds_toArray, List.set_cons_zero, List.set_cons_succ]
  refine any_take 17 (some 22) (v := ?_) rfl rfl (by kernel_rfl) (by kernel_rfl) (by kernel_rfl) (fun _ _ _ h => h) (by rfl) (fun w9 hS => ?_) ?_
  rotate_left
  · go_simp <;> with_reducible rfl
  try simp only [Act.put, List.setIfInBounds_toArray, List.set_cons_zero, List.set_cons_succ]
  refine any_op 18 (by kernel_rfl) rfl (by rfl) (fun K9 hK9 => ?_)
  go_simp
  have U0 : Up w5 (w5.alloc (.cells #[.int .i64 x.page, .slice A5 512 c5, .int .i64 x.pins, .bool x.dirty, .pointer none, .pointer none] 103)) := upAl (Up.refl _) _
  refine hK9.out _ _ U0 ?_
  clear hK9 K9
  try simp only [Act.put, List.setIfInBounds_toArray, List.set_cons_zero, List.set_cons_succ]
  refine anyb_take 19 (some 4) (v := ?_) U0 rfl rfl (by kernel_rfl) (by kernel_rfl) (by kernel_rfl) (fun _ _ _ h => h) (by rfl) (fun w9 hS => ?_) ?_
  rotate_left
  · go_simp <;> with_reducible rfl
  try simp only [Act.put, List.setIfInBounds_toArray, List.set_cons_zero, List.set_cons_succ]
  refine any_done (by kernel_rfl) ?_
  rename_i K1 h1
  refine h1 _ _ ?_
  clear h1 K1
  have k3e : (w5.alloc (.cells #[.int .i64 x.page, .slice A5 512 c5, .int .i64 x.pins, .bool x.dirty, .pointer none, .pointer none] 103)).heap[w5.heap.size]? = some (.cells #[.int .i64 x.page, .slice A5 512 c5, .int .i64 x.pins, .bool x.dirty, .pointer none, .pointer none] 103 (0, 0)) := heap_alloc_new w5 _
  have O3 := hid (World.ownsRow.alloc O5 (.cells #[.int .i64 x.page, .slice A5 512 c5, .int .i64 x.pins, .bool x.dirty, .pointer none, .pointer none] 103))
  have U3 := hid (UU.out.t U0)
  have x3 := U0.c e0
  have ELW := hid (show w.heap.size ≤ w5.heap.size from UU.out.size)
  clear e0 e1 e2 e3 XB XL O5 UU U0
  generalize hW3 : w5.alloc (.cells #[.int .i64 x.page, .slice A5 512 c5, .int .i64 x.pins, .bool x.dirty, .pointer none, .pointer none] 103) = W3 at *
  generalize he : w5.heap.size = e at *
  have bs := hid (show W0.heap.size ≤ w.heap.size from hu.out.size)
  clear hW3 he
  have KE := hid k3e
  have CA3 := hid (h.out.up U3.out)
  have KB := hid ((U3.out.block bx (Array.getElem?_eq_some_iff.1 hb.out.1).1).trans hb.out.1)
  have glt : g < w.heap.size := (Array.getElem?_eq_some_iff.1 h.out.own).1
  have mlt := h.out.map.lt
  have blt := (Array.getElem?_eq_some_iff.1 hb.out.1).1
  have olds := hid (show ∀ b ∈ r :: es.map Ent.blk, b < w.heap.size from fun b hb => (h.out.mem hb).1.lt)
  have EE3 : EntB W3 e := ⟨_, KE.out, rfl⟩
  have XB3 : EntB W3 x.blk := (hx.out.1.fr (Fr.of_below (hu.out.t U3.out)) id)
  have xlt : x.blk < W0.heap.size := hx.out.1.lt
  have hnee : e ≠ mp := by have := ELW.out; omega
  have hneb : e ≠ bx := by have := ELW.out; omega
  have hnem : bx ≠ mp := by
    rintro rfl
    obtain ⟨D9, ⟨es9, clock9, h9, _⟩, _⟩ := CA3.out.map
    rw [KB.out] at h9; cases h9
  have hnxm : x.blk ≠ mp := CA3.out.map.ne XB3
  have hngm : g ≠ mp := CA3.out.map.neB CA3.out.own
  have hneg : e ≠ g := by have := ELW.out; omega
  have hnbr : ¬ EntB W3 bx := by
    rintro ⟨cs, h1, _⟩
    rw [KB.out] at h1
    injection h1 with h1; injection h1 with _ h2 _
    revert h2; decide
  have HNE := hid (And.intro hnee (And.intro hneb (And.intro hnem (And.intro hngm (And.intro hneg hnbr)))))
  have nk : ∀ b : Nat, b ≠ mp → ¬ some b = some mp := fun b hb e9 => hb (Option.some.inj e9)
  have c1 : W3.drew.cell? ⟨g, 1, none⟩ = some (.map (some mp)) := CA3.out.own.c1
  have k3d : W3.drew.cell? ⟨bx, 0, none⟩ = some (.pointer (some ⟨g, 0, none⟩)) := (cell_one KB.out).1
  have k7d : W3.drew.cell? ⟨x.blk, 0, none⟩ = some (.int .i64 x.page) := x3
  obtain ⟨W4, hupd, m4, g4⟩ := MapIs.add (w := W3.drew) (p := x.page) (b := e) CA3.out.map hwf.out (lookup_none (by rw [keys_pages]; exact hno.out)) (by rw [List.length_map]; exact hl.out)
  have c14 : W4.cell? ⟨g, 1, none⟩ = some (.map (some mp)) := g4.cell c1 (nk g hngm)
  have k34 : W4.cell? ⟨bx, 0, none⟩ = some (.pointer (some ⟨g, 0, none⟩)) := g4.cell k3d (nk bx hnem)
  have k74 : W4.cell? ⟨x.blk, 0, none⟩ = some (.int .i64 x.page) := g4.cell k7d (nk _ hnxm)
  unfold ptr at hupd
  clear hnee hneb hngm hneg hnbr XB3 xlt x3 mlt glt blt k3e
  go_wp2
  go_region_held3 (fun w' => w'.cell? ⟨bx, 0, none⟩ = some (.pointer (some ⟨g, 0, none⟩)) ∧ w'.cell? ⟨g, 1, none⟩ = some (.map (some mp)) ∧ w'.cell? ⟨x.blk, 0, none⟩ = some (.int .i64 x.page))
    (first | exact ⟨k3d, c1, k7d⟩ | exact ⟨k34, c14, k74⟩)
    (fail)
  have G4 := hid g4
  have M4 := hid m4
  clear hupd g4 m4 c1 k3d k7d c14
  rename_i K1 h1 hHeld
  clear hHeld
  first | (refine h1 _ _ ?_; clear h1 K1) | skip
  have ne := HNE.out
  obtain ⟨hnee, hneb, hnem, hngm, hneg, hnbr⟩ := ne
  obtain ⟨pl, hpl⟩ : ∃ q, lastOf r (es.map Ent.blk) = q := ⟨_, rfl⟩
  have plm := CA3.out.mem (b := pl) (by rw [← hpl]; exact lastOf_mem _ _)
  have pll := olds.out pl (by rw [← hpl]; exact lastOf_mem _ _)
  have rll := olds.out r List.mem_cons_self
  have nep : e ≠ pl := by have := ELW.out; omega
  have ner : e ≠ r := by have := ELW.out; omega
  have T4 : ∀ b i v, b ≠ mp → W3.cell? ⟨b, i, none⟩ = some v → W4.cell? ⟨b, i, none⟩ = some v := fun b i v h1 h2 => G4.out.cell (h2 : W3.drew.cell? _ = _) (nk b h1)
  have F34 : Fr (fun k => k = mp ∨ EntB W3 k) W3 W4 := ((Fr.refl _ W3).drew).trans' ((Fr.of_grown G4.out).mono (fun k hk => .inl (Option.some.inj hk)))
  have E4 : ∀ b, EntB W3 b → EntB W4 b := fun b h9 => EntB.fr (w := W3.drew) h9.drew (Fr.of_grown G4.out) (nk b (CA3.out.map.ne h9))
  have ke : ∀ i v, (#[Value.int .i64 x.page, .slice A5 512 c5, .int .i64 x.pins, .bool x.dirty, .pointer none, .pointer none] : Array Value)[i]? = some v → W3.cell? ⟨e, i, none⟩ = some v := fun i v h9 => by
    unfold World.cell?
    rw [show (⟨e, i, none⟩ : Addr).block = e from rfl, KE.out]
    exact h9
  have g26 := T4 g 2 _ hngm CA3.out.own.c2
  have r56 := T4 r 5 _ (CA3.out.map.ne CA3.out.ring) CA3.out.back
  have e46 := T4 e 4 _ hnee (ke 4 _ rfl)
  have e56 := T4 e 5 _ hnee (ke 5 _ rfl)
  have p46 := T4 pl 4 _ (CA3.out.map.ne plm.1) (by rw [← hpl]; exact CA3.out.end4)
  have npg : pl ≠ g := CA3.out.own.ne plm.1
  have nrg : r ≠ g := CA3.out.own.ne CA3.out.ring
  rw [hpl] at r56
  have EP4 := E4 pl plm.1
  have ER4 := E4 r CA3.out.ring
  have EX4 := E4 e EE3
  have sz3 : W0.heap.size ≤ W3.heap.size := Nat.le_trans bs.out U3.out.size
  have B4 : Below W0.heap.size w W4 := by
    have b1 : Below W0.heap.size w W3 := Below.mono U3.out bs.out
    exact (b1.drew).grown G4.out sz3 (fun k hk => by rw [← Option.some.inj hk]; exact CA3.out.lows.2.2.1)
  have O4 : W4.ownsRow W0.heap.size 5 1 (.slice A5 512 c5) 512 (x.data.map byteCell) :=
    Fr.own (Fr.of_grown G4.out) (own_base O3.out (show W0.heap.size ≤ w.drew.heap.size from bs.out)) (fun k hk e9 => by
      have : k = mp := Option.some.inj e9
      subst this
      exact row_neM (own_base (base' := 0) O3.out (Nat.zero_le _)) CA3.out.map hk)
  have kb4 : W4.heap[bx]? = some (.cells #[ptr g] 26 (0, 0)) := ((Fr.of_grown G4.out).block bx (Array.getElem?_eq_some_iff.1 KB.out).1 (nk bx hnem)).trans KB.out
  have T4' := hid T4
  have E4' := hid E4
  have KE4 := hid ke
  clear T4 E4 ke
  go_wp2_with fail
  refine (last_calls W4 g e pl r _ _ _ g26 r56 ER4.free e46 EX4.free e56 EX4.free p46 EP4.free hneg ner nep npg nrg).mono ?_
  rintro en W7 ⟨rfl, hW7⟩
  have cell7 : ∀ b i v, W4.cell? ⟨b, i, none⟩ = some v → ¬ (b = e ∧ i = 4) → ¬ (b = e ∧ i = 5) → ¬ (b = pl ∧ i = 4) → ¬ (b = r ∧ i = 5) → W7.cell? ⟨b, i, none⟩ = some v := by
    intro b i v hv n1 n2 n3 n4
    rw [hW7]
    exact set_far (set_far (set_far (set_far hv (fun e9 => n1 ⟨e9.1.symm, e9.2.symm⟩)) (fun e9 => n2 ⟨e9.1.symm, e9.2.symm⟩)) (fun e9 => n3 ⟨e9.1.symm, e9.2.symm⟩)) (fun e9 => n4 ⟨e9.1.symm, e9.2.symm⟩)
  have w74 : W7.cell? ⟨pl, 4, none⟩ = some (ptr e) := by
    rw [hW7]
    exact set_far (set_near (set_far (set_far p46 (fun e9 => nep e9.1)) (fun e9 => nep e9.1))) (fun e9 => by cases e9.2)
  have w75 : W7.cell? ⟨r, 5, none⟩ = some (ptr e) := by
    rw [hW7]
    exact set_near (set_far (set_far (set_far r56 (fun e9 => ner e9.1)) (fun e9 => ner e9.1)) (fun e9 => by cases e9.2))
  have w7e4 : W7.cell? ⟨e, 4, none⟩ = some (ptr r) := by
    rw [hW7]
    exact set_far (set_far (set_far (set_near e46) (fun e9 => by cases e9.2)) (fun e9 => nep e9.1.symm)) (fun e9 => by cases e9.2)
  have w7e5 : W7.cell? ⟨e, 5, none⟩ = some (ptr pl) := by
    rw [hW7]
    exact set_far (set_far (set_near (set_far e56 (fun e9 => by cases e9.2))) (fun e9 => by cases e9.2)) (fun e9 => ner e9.1.symm)
  have ent7 : ∀ b, EntB W4 b → EntB W7 b := fun b hb9 => by rw [hW7]; exact ((((hb9.set _ _ _).set _ _ _).set _ _ _).set _ _ _).drew.drew
  have F47 : Fr (fun k => k = e ∨ k = pl ∨ k = r) W4 W7 := by
    rw [hW7]
    exact ((((((Fr.refl _ W4).setCell (p := ⟨e, 4, none⟩) (fun _ => .inl rfl) _).setCell (p := ⟨e, 5, none⟩) (fun _ => .inl rfl) _).setCell (p := ⟨pl, 4, none⟩) (fun _ => .inr (.inl rfl)) _).setCell (p := ⟨r, 5, none⟩) (fun _ => .inr (.inr rfl)) _).drew).drew
  have B47 : Below W0.heap.size W4 W7 := by
    rw [hW7]
    exact ((((((Below.refl W0.heap.size W4).setCell (p := ⟨e, 4, none⟩) (by show W0.heap.size ≤ e; have := bs.out; have := ELW.out; omega) _).setCell (p := ⟨e, 5, none⟩) (by show W0.heap.size ≤ e; have := bs.out; have := ELW.out; omega) _).setCell (p := ⟨pl, 4, none⟩) plm.2 _).setCell (p := ⟨r, 5, none⟩) h.out.lows.2.1 _).drew).drew
  clear hW7
  have F37 : Fr (fun k => k = mp ∨ EntB W3 k) W3 W7 := F34.trans F47 (fun i _ hh => by
    rcases hh with rfl | rfl | rfl
    · exact .inr EE3
    · exact .inr plm.1
    · exact .inr CA3.out.ring)
  have hyne : ∀ y ∈ es, y.blk ≠ e := fun y hy e9 => by have := olds.out y.blk (List.mem_cons_of_mem _ (List.mem_map.2 ⟨y, hy, rfl⟩)); have := ELW.out; omega
  have row7 : ∀ n v xs, W3.ownsRow W0.heap.size 5 1 v n xs → ∀ k, v.ownBlock = some k → ¬ (k = mp ∨ EntB W3 k) := fun n v xs ho k hk e9 => by
    rcases e9 with rfl | e9
    · exact row_neM ho CA3.out.map hk
    · exact row_ne ho e9 hk
  have hnotin : e ∉ r :: es.map Ent.blk := fun hm => by
    rcases List.mem_cons.1 hm with hm | hm
    · exact ner hm
    · obtain ⟨y, hy, e9⟩ := List.mem_map.1 hm; exact hyne y hy e9
  have CA7 := hid (CacheAt.more (x := ⟨x.page, e, x.data, x.pins, x.dirty⟩) CA3.out F37
    (fun e9 => by rcases e9 with e9 | e9; exact hngm e9; exact CA3.out.own.ne e9 rfl) row7
    (fun b hb9 => ent7 b (E4'.out b hb9))
    (fun y hy i v hv hi => cell7 _ _ _ (T4'.out _ _ _ (CA3.out.map.ne (CA3.out.ents y hy).1) hv) (fun e9 => hyne y hy e9.1) (fun e9 => hyne y hy e9.1) (fun e9 => by omega) (fun e9 => by omega))
    (by
      rw [List.map_append]
      refine Chain.last (e := e) CA3.out.row CA3.out.nodup hnotin ?_ (by rw [hpl]; exact w74) (by rw [hpl]; exact w7e5) w7e4 w75
      intro b i v hv n1 n2 n3
      have hbm : b ≠ mp := not_map CA3.out.map hv
      exact cell7 _ _ _ (T4'.out _ _ _ hbm hv) (fun e9 => n1 e9.1) (fun e9 => n1 e9.1) (by rw [hpl] at n2; exact n2) n3)
    (by rw [List.map_append]; exact M4.out.kept F47 (fun e9 => by rcases e9 with e9 | e9 | e9; exact hnee e9.symm; exact CA3.out.map.ne plm.1 e9.symm; exact CA3.out.map.ne CA3.out.ring e9.symm))
    ⟨ent7 e (E4'.out e EE3), cell7 _ _ _ (T4'.out e 0 _ hnee (KE4.out 0 _ rfl)) (fun e9 => by cases e9.2) (fun e9 => by cases e9.2) (fun e9 => by cases e9.2) (fun e9 => by cases e9.2),
      ⟨A5, c5, cell7 _ _ _ (T4'.out e 1 _ hnee (KE4.out 1 _ rfl)) (fun e9 => by cases e9.2) (fun e9 => by cases e9.2) (fun e9 => by cases e9.2) (fun e9 => by cases e9.2), Fr.own F47 O4 (fun k hk e9 => by
        rcases e9 with rfl | rfl | rfl
        · exact row_ne O4 EX4 hk
        · exact row_ne O4 EP4 hk
        · exact row_ne O4 ER4 hk)⟩,
      cell7 _ _ _ (T4'.out e 2 _ hnee (KE4.out 2 _ rfl)) (fun e9 => by cases e9.2) (fun e9 => by cases e9.2) (fun e9 => by cases e9.2) (fun e9 => by cases e9.2), cell7 _ _ _ (T4'.out e 3 _ hnee (KE4.out 3 _ rfl)) (fun e9 => by cases e9.2) (fun e9 => by cases e9.2) (fun e9 => by cases e9.2) (fun e9 => by cases e9.2)⟩
    hnotin hno.out hwf.out (by show W0.heap.size ≤ e; have := bs.out; have := ELW.out; omega))
  have kb7 : W7.heap[bx]? = some (.cells #[ptr g] 26 (0, 0)) := (F37.block bx (Array.getElem?_eq_some_iff.1 KB.out).1 (by rintro (e8 | e8); exact hnem e8; exact hnbr e8)).trans KB.out
  have RES := hid (show ∃ y, vis y = vis x ∧ CacheAt W7 W0.heap.size g room mp r hits miss (es ++ [y]) ∧ Below W0.heap.size w W7 ∧ W7.heap[bx]? = some (.cells #[ptr g] 26 (0, 0)) from ⟨⟨x.page, e, x.data, x.pins, x.dirty⟩, rfl, CA7.out, B4.trans B47, kb7⟩)
  clear cell7 w74 w75 w7e4 w7e5 ent7 F47 B47 F37 hyne row7 hnotin EP4 ER4 EX4 g26 r56 e46 e56 p46 kb7 kb4 B4 O4 F34 k34 k74
  go_wp2
  go_ret
  exact ⟨rfl, RES⟩
end Go.Proofs.Ytlikggeceeennaa
