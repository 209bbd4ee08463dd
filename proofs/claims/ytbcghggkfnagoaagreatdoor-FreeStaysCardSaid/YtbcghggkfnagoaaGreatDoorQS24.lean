/- PARTS OF A PROOF, one behind the other: THE WALK of what Put does with each entry of the row. CONDITIONS: none of this text's own. -/
import Derived.Test.YtbcghggkfnagoaaGreatDoorQS23
import Derived.LaidEqlPtr
import Derived.Deep.QuietTactic
import Derived.BigQuiet
set_option linter.unusedVariables false
set_option linter.unusedSimpArgs false
namespace Go.Proofs.YtbcghggkfnagoaaGreatDoor
open Go Go.RowKit Hach

theorem infoE : ∃ j, Tryz.prog.info? 192 = some j ∧ j.size ≠ 0 := by
  have h : (Tryz.prog.info? 192).map (·.size) = some 6 := by kernel_rfl
  obtain ⟨j, h1, h2⟩ := Option.map_eq_some_iff.1 h
  exact ⟨j, h1, by rw [h2]; decide⟩
theorem neq_same (w : World) (b : Nat) : (binOp .neq 190 (.pointer (some ⟨b, 0, none⟩)) (.pointer (some ⟨b, 0, none⟩))).run Tryz.prog w = .ok (.bool false) w := by
  obtain ⟨j, hj, _⟩ := infoE
  have h : ∀ d : Nat, (Op.equalIn (d + 1) 190 (.pointer (some ⟨b, 0, none⟩)) (.pointer (some ⟨b, 0, none⟩))).run Tryz.prog w = .ok true w := fun d => by
    simp [Op.equalIn, run_underlying Tryz.underlying190, sizeOf, typeInfo, hj, run_sameAddr_same]
  simp only [binOp]
  simp [Op.equal, Op.maxDepth, h 9999]
theorem neq_other (w : World) (a b : Nat) (ha : EntB w a) (hb : EntB w b) (hne : a ≠ b) : (binOp .neq 190 (.pointer (some ⟨a, 0, none⟩)) (.pointer (some ⟨b, 0, none⟩))).run Tryz.prog w = .ok (.bool true) w := by
  obtain ⟨j, hj, hsz⟩ := infoE
  obtain ⟨ca, h1, _⟩ := ha
  obtain ⟨cb, h2, _⟩ := hb
  have hab : (⟨a, 0, none⟩ : Addr) ≠ ⟨b, 0, none⟩ := fun e => hne (by injection e)
  have h : ∀ d : Nat, (Op.equalIn (d + 1) 190 (.pointer (some ⟨a, 0, none⟩)) (.pointer (some ⟨b, 0, none⟩))).run Tryz.prog w = .ok false w := fun d => by
    simp [Op.equalIn, run_underlying Tryz.underlying190, sizeOf, typeInfo, hj, hsz, run_sameAddr_other w hab h1 h2]
  simp only [binOp]
  simp [Op.equal, Op.maxDepth, h 9999]

def StepRet (w : World) (base g : Nat) (room : Int) (mp r : Nat) (hits miss : Int) (es : List Ent) (b : Bool) (en : Ending) (w' : World) : Prop :=
  en = .returned (.bool b) ∧ Hid (CacheAt w' base g room mp r hits miss es ∧ Fr (fun k => k = mp ∨ EntB w k) w w' ∧ Below base w w')

set_option maxRecDepth 100000 in
set_option maxHeartbeats 1000000 in
theorem put1_A (w : World) (base g : Nat) (room : Int) (mp r : Nat) (hits miss : Int) (l1 l2 : List Ent) (x : Ent) (b3 b7 e n : Nat) (h : Hid (CacheAt w base g room mp r hits miss (l1 ++ x :: l2)))
    (h3 : w.cell? ⟨b3, 0, none⟩ = some (ptr g)) (h7 : w.cell? ⟨b7, 0, none⟩ = some (ptr e)) (he : EntB w e) (hn : Hid ((l1 ++ x :: l2).length = n)) (hb3 : ¬ EntB w b3) (hm3 : b3 ≠ mp)
    (hc : decide (room < (n : Int)) = false) :
    Calls Tryz.prog 182 #[ptr x.blk, ptr b3, ptr b7] w (StepRet w base g room mp r hits miss (l1 ++ x :: l2) (decide (room < (n : Int)))) := by
  have C0 : ∀ w', Up w w' → w'.cell? ⟨g, 0, none⟩ = some (.int .i64 room) := fun _ u => u.c h.out.own.c0
  have C1 : ∀ w', Up w w' → w'.cell? ⟨g, 1, none⟩ = some (.map (some mp)) := fun _ u => u.c h.out.own.c1
  obtain ⟨_, _, x2, x3⟩ := (h.out.ents x (by simp)).2
  have X2 : ∀ w', Up w w' → w'.cell? ⟨x.blk, 2, none⟩ = some (.int .i64 x.pins) := fun _ u => u.c x2
  have X3 : ∀ w', Up w w' → w'.cell? ⟨x.blk, 3, none⟩ = some (.bool x.dirty) := fun _ u => u.c x3
  have H3 : ∀ w', Up w w' → w'.cell? ⟨b3, 0, none⟩ = some (.pointer (some ⟨g, 0, none⟩)) := fun _ u => u.c h3
  have H7 : ∀ w', Up w w' → w'.cell? ⟨b7, 0, none⟩ = some (.pointer (some ⟨e, 0, none⟩)) := fun _ u => u.c h7
  have EX : ∀ w', Up w w' → EntB w' x.blk := fun _ u => (h.out.ents x (by simp)).1.fr (Fr.of_below u) id
  have EE : ∀ w', Up w w' → EntB w' e := fun _ u => he.fr (Fr.of_below u) id
  have HLEN : ∀ w', Up w w' → ∀ ty, (Builtin.len_ #[193] ty #[.map (some mp)]).run Tryz.prog w' = .ok (.int .i64 (n : Int)) w' := fun w' u ty => by
    have := (h.out.map.kept (Fr.of_below u) id).len ty
    rwa [List.length_map, hn.out] at this
  rw [hc]
  unfold ptr
  clear x2 x3
  go_enter Tryz.func182, Tryz.ntmps182
  go_wp2
  refine any_start (by kernel_rfl) ?_
  refine a_tk 0 5 (v := ?_) (fun w9 hS => ?_) ?_
  rotate_left
  · have hu : Up w w9 := (Up.drew w).t hS; have ex := H3 w9 hu; go_simp <;> with_reducible rfl
  try simp only [pz]
  refine a_tk 1 6 (v := ?_) (fun w9 hS => ?_) ?_
  rotate_left
  · go_simp <;> with_reducible rfl
  try simp only [pz]
  refine a_tk 2 7 (v := ?_) (fun w9 hS => ?_) ?_
  rotate_left
  · go_simp <;> with_reducible rfl
  try simp only [pz]
  refine a_tk 3 8 (v := ?_) (fun w9 hS => ?_) ?_
  rotate_left
  · have hu : Up w w9 := (Up.drew w).t hS; have ex := C1 w9 hu; go_simp <;> with_reducible rfl
  try simp only [pz]
  refine a_tk 4 9 (v := ?_) (fun w9 hS => ?_) ?_
  rotate_left
  · have hu : Up w w9 := (Up.drew w).t hS; have ex := HLEN w9 hu; go_simp <;> with_reducible rfl
  try simp only [pz]
  refine a_tk 5 10 (v := ?_) (fun w9 hS => ?_) ?_
  rotate_left
  · have hu : Up w w9 := (Up.drew w).t hS; have ex := H3 w9 hu; go_simp <;> with_reducible rfl
  try simp only [pz]
  refine a_tk 6 11 (v := ?_) (fun w9 hS => ?_) ?_
  rotate_left
  · go_simp <;> with_reducible rfl
  try simp only [pz]
  refine a_tk 7 12 (v := ?_) (fun w9 hS => ?_) ?_
  rotate_left
  · go_simp <;> with_reducible rfl
  try simp only [pz]
  refine a_tk 8 13 (v := ?_) (fun w9 hS => ?_) ?_
  rotate_left
  · have hu : Up w w9 := (Up.drew w).t hS; have ex := C0 w9 hu; go_simp <;> with_reducible rfl
  try simp only [pz]
  refine a_tk 9 14 (v := ?_) (fun w9 hS => ?_) ?_
  rotate_left
  · go_simp <;> with_reducible rfl
  try simp only [pz]
  refine a_tk 10 15 (v := ?_) (fun w9 hS => ?_) ?_
  rotate_left
  · go_simp <;> with_reducible rfl
  try simp only [pz]
  refine any_skip 11 (some 16) rfl rfl (by kernel_rfl) (by kernel_rfl) (by kernel_rfl) (fun _ _ _ h => h) (by rfl) ?_
  try simp only [pz]
  refine any_skip 12 (some 17) rfl rfl (by kernel_rfl) (by kernel_rfl) (by kernel_rfl) (fun _ _ _ h => h) (by rfl) ?_
  try simp only [pz]
  refine any_skip 13 (some 18) rfl rfl (by kernel_rfl) (by kernel_rfl) (by kernel_rfl) (fun _ _ _ h => h) (by rfl) ?_
  try simp only [pz]
  refine a_tk 14 19 (v := ?_) (fun w9 hS => ?_) ?_
  rotate_left
  · go_simp <;> with_reducible rfl
  try simp only [pz]
  refine a_tk 15 20 (v := ?_) (fun w9 hS => ?_) ?_
  rotate_left
  · go_simp <;> with_reducible rfl
  try simp only [pz]
  refine any_skip 16 (some 21) rfl rfl (by kernel_rfl) (by kernel_rfl) (by kernel_rfl) (fun _ _ _ h => h) (by rfl) ?_
  try simp only [pz]
  refine any_skip 17 (some 22) rfl rfl (by kernel_rfl) (by kernel_rfl) (by kernel_rfl) (fun _ _ _ h => h) (by rfl) ?_
  try simp only [pz]
  refine any_skip 18 (some 23) rfl rfl (by kernel_rfl) (by kernel_rfl) (by kernel_rfl) (fun _ _ _ h => h) (by rfl) ?_
  try simp only [pz]
  refine any_skip 19 (some 24) rfl rfl (by kernel_rfl) (by kernel_rfl) (by kernel_rfl) (fun _ _ _ h => h) (by rfl) ?_
  try simp only [pz]
  refine any_skip 20 (some 25) rfl rfl (by kernel_rfl) (by kernel_rfl) (by kernel_rfl) (fun _ _ _ h => h) (by rfl) ?_
  try simp only [pz]
  refine a_tk 21 26 (v := ?_) (fun w9 hS => ?_) ?_
  rotate_left
  · go_simp <;> with_reducible rfl
  try simp only [pz]
  refine a_tk 22 27 (v := ?_) (fun w9 hS => ?_) ?_
  rotate_left
  · go_simp <;> with_reducible rfl
  try simp only [pz]
  refine any_skip 23 (some 28) rfl rfl (by kernel_rfl) (by kernel_rfl) (by kernel_rfl) (fun _ _ _ h => h) (by rfl) ?_
  try simp only [pz]
  refine any_skip 24 (some 29) rfl rfl (by kernel_rfl) (by kernel_rfl) (by kernel_rfl) (fun _ _ _ h => h) (by rfl) ?_
  try simp only [pz]
  refine any_skip 25 (some 30) rfl rfl (by kernel_rfl) (by kernel_rfl) (by kernel_rfl) (fun _ _ _ h => h) (by rfl) ?_
  try simp only [pz]
  refine any_skip 26 (some 31) rfl rfl (by kernel_rfl) (by kernel_rfl) (by kernel_rfl) (fun _ _ _ h => h) (by rfl) ?_
  try simp only [pz]
  refine any_skip 27 (some 32) rfl rfl (by kernel_rfl) (by kernel_rfl) (by kernel_rfl) (fun _ _ _ h => h) (by rfl) ?_
  try simp only [pz]
  refine a_tk 28 33 (v := ?_) (fun w9 hS => ?_) ?_
  rotate_left
  · go_simp <;> with_reducible rfl
  try simp only [pz]
  refine any_done (by kernel_rfl) ?_
  rename_i K1 h1
  refine h1 _ _ ?_
  clear h1 K1
  go_wp2
  refine any_start (by kernel_rfl) ?_
  refine a_tk 0 37 (v := ?_) (fun w9 hS => ?_) ?_
  rotate_left
  · have hu : Up w w9 := ((Up.drew w).t (Up.drew _)).t hS; have ex := H3 w9 hu; go_simp <;> with_reducible rfl
  try simp only [pz]
  refine a_tk 1 38 (v := ?_) (fun w9 hS => ?_) ?_
  rotate_left
  · go_simp <;> with_reducible rfl
  try simp only [pz]
  refine a_tk 2 39 (v := ?_) (fun w9 hS => ?_) ?_
  rotate_left
  · go_simp <;> with_reducible rfl
  try simp only [pz]
  refine a_tk 3 40 (v := ?_) (fun w9 hS => ?_) ?_
  rotate_left
  · have hu : Up w w9 := ((Up.drew w).t (Up.drew _)).t hS; have ex := C1 w9 hu; go_simp <;> with_reducible rfl
  try simp only [pz]
  refine a_tk 4 41 (v := ?_) (fun w9 hS => ?_) ?_
  rotate_left
  · have hu : Up w w9 := ((Up.drew w).t (Up.drew _)).t hS; have ex := HLEN w9 hu; go_simp <;> with_reducible rfl
  try simp only [pz]
  refine a_tk 5 42 (v := ?_) (fun w9 hS => ?_) ?_
  rotate_left
  · have hu : Up w w9 := ((Up.drew w).t (Up.drew _)).t hS; have ex := H3 w9 hu; go_simp <;> with_reducible rfl
  try simp only [pz]
  refine a_tk 6 43 (v := ?_) (fun w9 hS => ?_) ?_
  rotate_left
  · go_simp <;> with_reducible rfl
  try simp only [pz]
  refine a_tk 7 44 (v := ?_) (fun w9 hS => ?_) ?_
  rotate_left
  · go_simp <;> with_reducible rfl
  try simp only [pz]
  refine a_tk 8 45 (v := ?_) (fun w9 hS => ?_) ?_
  rotate_left
  · have hu : Up w w9 := ((Up.drew w).t (Up.drew _)).t hS; have ex := C0 w9 hu; go_simp <;> with_reducible rfl
  try simp only [pz]
  refine a_tk 9 46 (v := ?_) (fun w9 hS => ?_) ?_
  rotate_left
  · go_simp <;> with_reducible rfl
  try simp only [pz]
  refine a_tk 10 4 (v := ?_) (fun w9 hS => ?_) ?_
  rotate_left
  · go_simp <;> with_reducible rfl
  try simp only [pz]
  refine any_done (by kernel_rfl) ?_
  go_wp2
  go_ret
  exact ⟨rfl, hid ⟨h.out.up ((Up.drew w).t (Up.drew _)), (Fr.refl _ w).drew.drew, (Below.refl base w).drew.drew⟩⟩

set_option maxRecDepth 100000 in
set_option maxHeartbeats 1000000 in
theorem put1_B (w : World) (base g : Nat) (room : Int) (mp r : Nat) (hits miss : Int) (l1 l2 : List Ent) (x : Ent) (b3 b7 e n : Nat) (h : Hid (CacheAt w base g room mp r hits miss (l1 ++ x :: l2)))
    (h3 : w.cell? ⟨b3, 0, none⟩ = some (ptr g)) (h7 : w.cell? ⟨b7, 0, none⟩ = some (ptr e)) (he : EntB w e) (hn : Hid ((l1 ++ x :: l2).length = n)) (hb3 : ¬ EntB w b3) (hm3 : b3 ≠ mp)
    (hc : decide (room < (n : Int)) = true) (hx : x.blk = e) :
    Calls Tryz.prog 182 #[ptr x.blk, ptr b3, ptr b7] w (StepRet w base g room mp r hits miss (l1 ++ x :: l2) (decide (room < (n : Int)))) := by
  have C0 : ∀ w', Up w w' → w'.cell? ⟨g, 0, none⟩ = some (.int .i64 room) := fun _ u => u.c h.out.own.c0
  have C1 : ∀ w', Up w w' → w'.cell? ⟨g, 1, none⟩ = some (.map (some mp)) := fun _ u => u.c h.out.own.c1
  obtain ⟨_, _, x2, x3⟩ := (h.out.ents x (by simp)).2
  have X2 : ∀ w', Up w w' → w'.cell? ⟨x.blk, 2, none⟩ = some (.int .i64 x.pins) := fun _ u => u.c x2
  have X3 : ∀ w', Up w w' → w'.cell? ⟨x.blk, 3, none⟩ = some (.bool x.dirty) := fun _ u => u.c x3
  have H3 : ∀ w', Up w w' → w'.cell? ⟨b3, 0, none⟩ = some (.pointer (some ⟨g, 0, none⟩)) := fun _ u => u.c h3
  have H7 : ∀ w', Up w w' → w'.cell? ⟨b7, 0, none⟩ = some (.pointer (some ⟨e, 0, none⟩)) := fun _ u => u.c h7
  have EX : ∀ w', Up w w' → EntB w' x.blk := fun _ u => (h.out.ents x (by simp)).1.fr (Fr.of_below u) id
  have EE : ∀ w', Up w w' → EntB w' e := fun _ u => he.fr (Fr.of_below u) id
  have HLEN : ∀ w', Up w w' → ∀ ty, (Builtin.len_ #[193] ty #[.map (some mp)]).run Tryz.prog w' = .ok (.int .i64 (n : Int)) w' := fun w' u ty => by
    have := (h.out.map.kept (Fr.of_below u) id).len ty
    rwa [List.length_map, hn.out] at this
  rw [hx]
  rw [hc]
  unfold ptr
  clear x2 x3
  go_enter Tryz.func182, Tryz.ntmps182
  go_wp2
  refine any_start (by kernel_rfl) ?_
  refine a_tk 0 5 (v := ?_) (fun w9 hS => ?_) ?_
  rotate_left
  · have hu : Up w w9 := (Up.drew w).t hS; have ex := H3 w9 hu; go_simp <;> with_reducible rfl
  try simp only [pz]
  refine a_tk 1 6 (v := ?_) (fun w9 hS => ?_) ?_
  rotate_left
  · go_simp <;> with_reducible rfl
  try simp only [pz]
  refine a_tk 2 7 (v := ?_) (fun w9 hS => ?_) ?_
  rotate_left
  · go_simp <;> with_reducible rfl
  try simp only [pz]
  refine a_tk 3 8 (v := ?_) (fun w9 hS => ?_) ?_
  rotate_left
  · have hu : Up w w9 := (Up.drew w).t hS; have ex := C1 w9 hu; go_simp <;> with_reducible rfl
  try simp only [pz]
  refine a_tk 4 9 (v := ?_) (fun w9 hS => ?_) ?_
  rotate_left
  · have hu : Up w w9 := (Up.drew w).t hS; have ex := HLEN w9 hu; go_simp <;> with_reducible rfl
  try simp only [pz]
  refine a_tk 5 10 (v := ?_) (fun w9 hS => ?_) ?_
  rotate_left
  · have hu : Up w w9 := (Up.drew w).t hS; have ex := H3 w9 hu; go_simp <;> with_reducible rfl
  try simp only [pz]
  refine a_tk 6 11 (v := ?_) (fun w9 hS => ?_) ?_
  rotate_left
  · go_simp <;> with_reducible rfl
  try simp only [pz]
  refine a_tk 7 12 (v := ?_) (fun w9 hS => ?_) ?_
  rotate_left
  · go_simp <;> with_reducible rfl
  try simp only [pz]
  refine a_tk 8 13 (v := ?_) (fun w9 hS => ?_) ?_
  rotate_left
  · have hu : Up w w9 := (Up.drew w).t hS; have ex := C0 w9 hu; go_simp <;> with_reducible rfl
  try simp only [pz]
  refine a_tk 9 14 (v := ?_) (fun w9 hS => ?_) ?_
  rotate_left
  · go_simp <;> with_reducible rfl
  try simp only [pz]
  refine a_tk 10 15 (v := ?_) (fun w9 hS => ?_) ?_
  rotate_left
  · go_simp <;> with_reducible rfl
  try simp only [pz]
  refine a_tk 11 16 (v := ?_) (fun w9 hS => ?_) ?_
  rotate_left
  · go_simp <;> with_reducible rfl
  try simp only [pz]
  refine a_tk 12 17 (v := ?_) (fun w9 hS => ?_) ?_
  rotate_left
  · have hu : Up w w9 := (Up.drew w).t hS; have ex := H7 w9 hu; go_simp <;> with_reducible rfl
  try simp only [pz]
  refine a_tk 13 18 (v := ?_) (fun w9 hS => ?_) ?_
  rotate_left
  · have hu : Up w w9 := (Up.drew w).t hS; have ex := neq_same w9 e; go_simp <;> with_reducible rfl
  try simp only [pz]
  refine a_tk 14 19 (v := ?_) (fun w9 hS => ?_) ?_
  rotate_left
  · go_simp <;> with_reducible rfl
  try simp only [pz]
  refine a_tk 15 20 (v := ?_) (fun w9 hS => ?_) ?_
  rotate_left
  · go_simp <;> with_reducible rfl
  try simp only [pz]
  refine any_skip 16 (some 21) rfl rfl (by kernel_rfl) (by kernel_rfl) (by kernel_rfl) (fun _ _ _ h => h) (by rfl) ?_
  try simp only [pz]
  refine any_skip 17 (some 22) rfl rfl (by kernel_rfl) (by kernel_rfl) (by kernel_rfl) (fun _ _ _ h => h) (by rfl) ?_
  try simp only [pz]
  refine any_skip 18 (some 23) rfl rfl (by kernel_rfl) (by kernel_rfl) (by kernel_rfl) (fun _ _ _ h => h) (by rfl) ?_
  try simp only [pz]
  refine any_skip 19 (some 24) rfl rfl (by kernel_rfl) (by kernel_rfl) (by kernel_rfl) (fun _ _ _ h => h) (by rfl) ?_
  try simp only [pz]
  refine any_skip 20 (some 25) rfl rfl (by kernel_rfl) (by kernel_rfl) (by kernel_rfl) (fun _ _ _ h => h) (by rfl) ?_
  try simp only [pz]
  refine a_tk 21 26 (v := ?_) (fun w9 hS => ?_) ?_
  rotate_left
  · go_simp <;> with_reducible rfl
  try simp only [pz]
  refine a_tk 22 27 (v := ?_) (fun w9 hS => ?_) ?_
  rotate_left
  · go_simp <;> with_reducible rfl
  try simp only [pz]
  refine any_skip 23 (some 28) rfl rfl (by kernel_rfl) (by kernel_rfl) (by kernel_rfl) (fun _ _ _ h => h) (by rfl) ?_
  try simp only [pz]
  refine any_skip 24 (some 29) rfl rfl (by kernel_rfl) (by kernel_rfl) (by kernel_rfl) (fun _ _ _ h => h) (by rfl) ?_
  try simp only [pz]
  refine any_skip 25 (some 30) rfl rfl (by kernel_rfl) (by kernel_rfl) (by kernel_rfl) (fun _ _ _ h => h) (by rfl) ?_
  try simp only [pz]
  refine any_skip 26 (some 31) rfl rfl (by kernel_rfl) (by kernel_rfl) (by kernel_rfl) (fun _ _ _ h => h) (by rfl) ?_
  try simp only [pz]
  refine any_skip 27 (some 32) rfl rfl (by kernel_rfl) (by kernel_rfl) (by kernel_rfl) (fun _ _ _ h => h) (by rfl) ?_
  try simp only [pz]
  refine a_tk 28 33 (v := ?_) (fun w9 hS => ?_) ?_
  rotate_left
  · go_simp <;> with_reducible rfl
  try simp only [pz]
  refine any_done (by kernel_rfl) ?_
  rename_i K1 h1
  refine h1 _ _ ?_
  clear h1 K1
  go_wp2
  refine any_start (by kernel_rfl) ?_
  refine a_tk 0 37 (v := ?_) (fun w9 hS => ?_) ?_
  rotate_left
  · have hu : Up w w9 := ((Up.drew w).t (Up.drew _)).t hS; have ex := H3 w9 hu; go_simp <;> with_reducible rfl
  try simp only [pz]
  refine a_tk 1 38 (v := ?_) (fun w9 hS => ?_) ?_
  rotate_left
  · go_simp <;> with_reducible rfl
  try simp only [pz]
  refine a_tk 2 39 (v := ?_) (fun w9 hS => ?_) ?_
  rotate_left
  · go_simp <;> with_reducible rfl
  try simp only [pz]
  refine a_tk 3 40 (v := ?_) (fun w9 hS => ?_) ?_
  rotate_left
  · have hu : Up w w9 := ((Up.drew w).t (Up.drew _)).t hS; have ex := C1 w9 hu; go_simp <;> with_reducible rfl
  try simp only [pz]
  refine a_tk 4 41 (v := ?_) (fun w9 hS => ?_) ?_
  rotate_left
  · have hu : Up w w9 := ((Up.drew w).t (Up.drew _)).t hS; have ex := HLEN w9 hu; go_simp <;> with_reducible rfl
  try simp only [pz]
  refine a_tk 5 42 (v := ?_) (fun w9 hS => ?_) ?_
  rotate_left
  · have hu : Up w w9 := ((Up.drew w).t (Up.drew _)).t hS; have ex := H3 w9 hu; go_simp <;> with_reducible rfl
  try simp only [pz]
  refine a_tk 6 43 (v := ?_) (fun w9 hS => ?_) ?_
  rotate_left
  · go_simp <;> with_reducible rfl
  try simp only [pz]
  refine a_tk 7 44 (v := ?_) (fun w9 hS => ?_) ?_
  rotate_left
  · go_simp <;> with_reducible rfl
  try simp only [pz]
  refine a_tk 8 45 (v := ?_) (fun w9 hS => ?_) ?_
  rotate_left
  · have hu : Up w w9 := ((Up.drew w).t (Up.drew _)).t hS; have ex := C0 w9 hu; go_simp <;> with_reducible rfl
  try simp only [pz]
  refine a_tk 9 46 (v := ?_) (fun w9 hS => ?_) ?_
  rotate_left
  · go_simp <;> with_reducible rfl
  try simp only [pz]
  refine a_tk 10 4 (v := ?_) (fun w9 hS => ?_) ?_
  rotate_left
  · go_simp <;> with_reducible rfl
  try simp only [pz]
  refine any_done (by kernel_rfl) ?_
  go_wp2
  go_ret
  exact ⟨rfl, hid ⟨h.out.up ((Up.drew w).t (Up.drew _)), (Fr.refl _ w).drew.drew, (Below.refl base w).drew.drew⟩⟩

set_option maxRecDepth 100000 in
set_option maxHeartbeats 1000000 in
theorem put1_C (w : World) (base g : Nat) (room : Int) (mp r : Nat) (hits miss : Int) (l1 l2 : List Ent) (x : Ent) (b3 b7 e n : Nat) (h : Hid (CacheAt w base g room mp r hits miss (l1 ++ x :: l2)))
    (h3 : w.cell? ⟨b3, 0, none⟩ = some (ptr g)) (h7 : w.cell? ⟨b7, 0, none⟩ = some (ptr e)) (he : EntB w e) (hn : Hid ((l1 ++ x :: l2).length = n)) (hb3 : ¬ EntB w b3) (hm3 : b3 ≠ mp)
    (hc : decide (room < (n : Int)) = true) (hx : x.blk ≠ e) (hp : (x.pins == 0) = false) :
    Calls Tryz.prog 182 #[ptr x.blk, ptr b3, ptr b7] w (StepRet w base g room mp r hits miss (l1 ++ x :: l2) (decide (room < (n : Int)))) := by
  have C0 : ∀ w', Up w w' → w'.cell? ⟨g, 0, none⟩ = some (.int .i64 room) := fun _ u => u.c h.out.own.c0
  have C1 : ∀ w', Up w w' → w'.cell? ⟨g, 1, none⟩ = some (.map (some mp)) := fun _ u => u.c h.out.own.c1
  obtain ⟨_, _, x2, x3⟩ := (h.out.ents x (by simp)).2
  have X2 : ∀ w', Up w w' → w'.cell? ⟨x.blk, 2, none⟩ = some (.int .i64 x.pins) := fun _ u => u.c x2
  have X3 : ∀ w', Up w w' → w'.cell? ⟨x.blk, 3, none⟩ = some (.bool x.dirty) := fun _ u => u.c x3
  have H3 : ∀ w', Up w w' → w'.cell? ⟨b3, 0, none⟩ = some (.pointer (some ⟨g, 0, none⟩)) := fun _ u => u.c h3
  have H7 : ∀ w', Up w w' → w'.cell? ⟨b7, 0, none⟩ = some (.pointer (some ⟨e, 0, none⟩)) := fun _ u => u.c h7
  have EX : ∀ w', Up w w' → EntB w' x.blk := fun _ u => (h.out.ents x (by simp)).1.fr (Fr.of_below u) id
  have EE : ∀ w', Up w w' → EntB w' e := fun _ u => he.fr (Fr.of_below u) id
  have HLEN : ∀ w', Up w w' → ∀ ty, (Builtin.len_ #[193] ty #[.map (some mp)]).run Tryz.prog w' = .ok (.int .i64 (n : Int)) w' := fun w' u ty => by
    have := (h.out.map.kept (Fr.of_below u) id).len ty
    rwa [List.length_map, hn.out] at this
  rw [hc]
  unfold ptr
  clear x2 x3
  go_enter Tryz.func182, Tryz.ntmps182
  go_wp2
  refine any_start (by kernel_rfl) ?_
  refine a_tk 0 5 (v := ?_) (fun w9 hS => ?_) ?_
  rotate_left
  · have hu : Up w w9 := (Up.drew w).t hS; have ex := H3 w9 hu; go_simp <;> with_reducible rfl
  try simp only [pz]
  refine a_tk 1 6 (v := ?_) (fun w9 hS => ?_) ?_
  rotate_left
  · go_simp <;> with_reducible rfl
  try simp only [pz]
  refine a_tk 2 7 (v := ?_) (fun w9 hS => ?_) ?_
  rotate_left
  · go_simp <;> with_reducible rfl
  try simp only [pz]
  refine a_tk 3 8 (v := ?_) (fun w9 hS => ?_) ?_
  rotate_left
  · have hu : Up w w9 := (Up.drew w).t hS; have ex := C1 w9 hu; go_simp <;> with_reducible rfl
  try simp only [pz]
  refine a_tk 4 9 (v := ?_) (fun w9 hS => ?_) ?_
  rotate_left
  · have hu : Up w w9 := (Up.drew w).t hS; have ex := HLEN w9 hu; go_simp <;> with_reducible rfl
  try simp only [pz]
  refine a_tk 5 10 (v := ?_) (fun w9 hS => ?_) ?_
  rotate_left
  · have hu : Up w w9 := (Up.drew w).t hS; have ex := H3 w9 hu; go_simp <;> with_reducible rfl
  try simp only [pz]
  refine a_tk 6 11 (v := ?_) (fun w9 hS => ?_) ?_
  rotate_left
  · go_simp <;> with_reducible rfl
  try simp only [pz]
  refine a_tk 7 12 (v := ?_) (fun w9 hS => ?_) ?_
  rotate_left
  · go_simp <;> with_reducible rfl
  try simp only [pz]
  refine a_tk 8 13 (v := ?_) (fun w9 hS => ?_) ?_
  rotate_left
  · have hu : Up w w9 := (Up.drew w).t hS; have ex := C0 w9 hu; go_simp <;> with_reducible rfl
  try simp only [pz]
  refine a_tk 9 14 (v := ?_) (fun w9 hS => ?_) ?_
  rotate_left
  · go_simp <;> with_reducible rfl
  try simp only [pz]
  refine a_tk 10 15 (v := ?_) (fun w9 hS => ?_) ?_
  rotate_left
  · go_simp <;> with_reducible rfl
  try simp only [pz]
  refine a_tk 11 16 (v := ?_) (fun w9 hS => ?_) ?_
  rotate_left
  · go_simp <;> with_reducible rfl
  try simp only [pz]
  refine a_tk 12 17 (v := ?_) (fun w9 hS => ?_) ?_
  rotate_left
  · have hu : Up w w9 := (Up.drew w).t hS; have ex := H7 w9 hu; go_simp <;> with_reducible rfl
  try simp only [pz]
  refine a_tk 13 18 (v := ?_) (fun w9 hS => ?_) ?_
  rotate_left
  · have hu : Up w w9 := (Up.drew w).t hS; have ex := neq_other w9 x.blk e (EX w9 hu) (EE w9 hu) hx; go_simp <;> with_reducible rfl
  try simp only [pz]
  refine a_tk 14 19 (v := ?_) (fun w9 hS => ?_) ?_
  rotate_left
  · go_simp <;> with_reducible rfl
  try simp only [pz]
  refine a_tk 15 20 (v := ?_) (fun w9 hS => ?_) ?_
  rotate_left
  · go_simp <;> with_reducible rfl
  try simp only [pz]
  refine a_tk 16 21 (v := ?_) (fun w9 hS => ?_) ?_
  rotate_left
  · go_simp <;> with_reducible rfl
  try simp only [pz]
  refine a_tk 17 22 (v := ?_) (fun w9 hS => ?_) ?_
  rotate_left
  · go_simp <;> with_reducible rfl
  try simp only [pz]
  refine a_tk 18 23 (v := ?_) (fun w9 hS => ?_) ?_
  rotate_left
  · go_simp <;> with_reducible rfl
  try simp only [pz]
  refine a_tk 19 24 (v := ?_) (fun w9 hS => ?_) ?_
  rotate_left
  · have hu : Up w w9 := (Up.drew w).t hS; have ex := X2 w9 hu; go_simp <;> with_reducible rfl
  try simp only [pz]
  refine a_tk 20 25 (v := ?_) (fun w9 hS => ?_) ?_
  rotate_left
  · go_simp <;> with_reducible rfl
  try simp only [pz]
  refine a_tk 21 26 (v := ?_) (fun w9 hS => ?_) ?_
  rotate_left
  · go_simp <;> with_reducible rfl
  try simp only [pz]
  refine a_tk 22 27 (v := ?_) (fun w9 hS => ?_) ?_
  rotate_left
  · go_simp <;> with_reducible rfl
  try simp only [pz]
  refine any_skip 23 (some 28) rfl rfl (by kernel_rfl) (by kernel_rfl) (by kernel_rfl) (fun _ _ _ h => h) (by rfl) ?_
  try simp only [pz]
  refine any_skip 24 (some 29) rfl rfl (by kernel_rfl) (by kernel_rfl) (by kernel_rfl) (fun _ _ _ h => h) (by rfl) ?_
  try simp only [pz]
  refine any_skip 25 (some 30) rfl rfl (by kernel_rfl) (by kernel_rfl) (by kernel_rfl) (fun _ _ _ h => h) (by rfl) ?_
  try simp only [pz]
  refine any_skip 26 (some 31) rfl rfl (by kernel_rfl) (by kernel_rfl) (by kernel_rfl) (fun _ _ _ h => h) (by rfl) ?_
  try simp only [pz]
  refine any_skip 27 (some 32) rfl rfl (by kernel_rfl) (by kernel_rfl) (by kernel_rfl) (fun _ _ _ h => h) (by rfl) ?_
  try simp only [pz]
  refine a_tk 28 33 (v := ?_) (fun w9 hS => ?_) ?_
  rotate_left
  · go_simp <;> with_reducible rfl
  try simp only [pz]
  refine any_done (by kernel_rfl) ?_
  rename_i K1 h1
  refine h1 _ _ ?_
  clear h1 K1
  try simp only [hp, Bool.not_true, Bool.not_false]
  go_wp2
  refine any_start (by kernel_rfl) ?_
  refine a_tk 0 37 (v := ?_) (fun w9 hS => ?_) ?_
  rotate_left
  · have hu : Up w w9 := ((Up.drew w).t (Up.drew _)).t hS; have ex := H3 w9 hu; go_simp <;> with_reducible rfl
  try simp only [pz]
  refine a_tk 1 38 (v := ?_) (fun w9 hS => ?_) ?_
  rotate_left
  · go_simp <;> with_reducible rfl
  try simp only [pz]
  refine a_tk 2 39 (v := ?_) (fun w9 hS => ?_) ?_
  rotate_left
  · go_simp <;> with_reducible rfl
  try simp only [pz]
  refine a_tk 3 40 (v := ?_) (fun w9 hS => ?_) ?_
  rotate_left
  · have hu : Up w w9 := ((Up.drew w).t (Up.drew _)).t hS; have ex := C1 w9 hu; go_simp <;> with_reducible rfl
  try simp only [pz]
  refine a_tk 4 41 (v := ?_) (fun w9 hS => ?_) ?_
  rotate_left
  · have hu : Up w w9 := ((Up.drew w).t (Up.drew _)).t hS; have ex := HLEN w9 hu; go_simp <;> with_reducible rfl
  try simp only [pz]
  refine a_tk 5 42 (v := ?_) (fun w9 hS => ?_) ?_
  rotate_left
  · have hu : Up w w9 := ((Up.drew w).t (Up.drew _)).t hS; have ex := H3 w9 hu; go_simp <;> with_reducible rfl
  try simp only [pz]
  refine a_tk 6 43 (v := ?_) (fun w9 hS => ?_) ?_
  rotate_left
  · go_simp <;> with_reducible rfl
  try simp only [pz]
  refine a_tk 7 44 (v := ?_) (fun w9 hS => ?_) ?_
  rotate_left
  · go_simp <;> with_reducible rfl
  try simp only [pz]
  refine a_tk 8 45 (v := ?_) (fun w9 hS => ?_) ?_
  rotate_left
  · have hu : Up w w9 := ((Up.drew w).t (Up.drew _)).t hS; have ex := C0 w9 hu; go_simp <;> with_reducible rfl
  try simp only [pz]
  refine a_tk 9 46 (v := ?_) (fun w9 hS => ?_) ?_
  rotate_left
  · go_simp <;> with_reducible rfl
  try simp only [pz]
  refine a_tk 10 4 (v := ?_) (fun w9 hS => ?_) ?_
  rotate_left
  · go_simp <;> with_reducible rfl
  try simp only [pz]
  refine any_done (by kernel_rfl) ?_
  go_wp2
  go_ret
  exact ⟨rfl, hid ⟨h.out.up ((Up.drew w).t (Up.drew _)), (Fr.refl _ w).drew.drew, (Below.refl base w).drew.drew⟩⟩

set_option maxRecDepth 100000 in
set_option maxHeartbeats 1000000 in
theorem put1_D (w : World) (base g : Nat) (room : Int) (mp r : Nat) (hits miss : Int) (l1 l2 : List Ent) (x : Ent) (b3 b7 e n : Nat) (h : Hid (CacheAt w base g room mp r hits miss (l1 ++ x :: l2)))
    (h3 : w.cell? ⟨b3, 0, none⟩ = some (ptr g)) (h7 : w.cell? ⟨b7, 0, none⟩ = some (ptr e)) (he : EntB w e) (hn : Hid ((l1 ++ x :: l2).length = n)) (hb3 : ¬ EntB w b3) (hm3 : b3 ≠ mp)
    (hc : decide (room < (n : Int)) = true) (hx : x.blk ≠ e) (hp : (x.pins == 0) = true) (hd : x.dirty = true) :
    Calls Tryz.prog 182 #[ptr x.blk, ptr b3, ptr b7] w (StepRet w base g room mp r hits miss (l1 ++ x :: l2) (decide (room < (n : Int)))) := by
  have C0 : ∀ w', Up w w' → w'.cell? ⟨g, 0, none⟩ = some (.int .i64 room) := fun _ u => u.c h.out.own.c0
  have C1 : ∀ w', Up w w' → w'.cell? ⟨g, 1, none⟩ = some (.map (some mp)) := fun _ u => u.c h.out.own.c1
  obtain ⟨_, _, x2, x3⟩ := (h.out.ents x (by simp)).2
  have X2 : ∀ w', Up w w' → w'.cell? ⟨x.blk, 2, none⟩ = some (.int .i64 x.pins) := fun _ u => u.c x2
  have X3 : ∀ w', Up w w' → w'.cell? ⟨x.blk, 3, none⟩ = some (.bool x.dirty) := fun _ u => u.c x3
  have H3 : ∀ w', Up w w' → w'.cell? ⟨b3, 0, none⟩ = some (.pointer (some ⟨g, 0, none⟩)) := fun _ u => u.c h3
  have H7 : ∀ w', Up w w' → w'.cell? ⟨b7, 0, none⟩ = some (.pointer (some ⟨e, 0, none⟩)) := fun _ u => u.c h7
  have EX : ∀ w', Up w w' → EntB w' x.blk := fun _ u => (h.out.ents x (by simp)).1.fr (Fr.of_below u) id
  have EE : ∀ w', Up w w' → EntB w' e := fun _ u => he.fr (Fr.of_below u) id
  have HLEN : ∀ w', Up w w' → ∀ ty, (Builtin.len_ #[193] ty #[.map (some mp)]).run Tryz.prog w' = .ok (.int .i64 (n : Int)) w' := fun w' u ty => by
    have := (h.out.map.kept (Fr.of_below u) id).len ty
    rwa [List.length_map, hn.out] at this
  rw [hc]
  unfold ptr
  clear x2 x3
  go_enter Tryz.func182, Tryz.ntmps182
  go_wp2
  refine any_start (by kernel_rfl) ?_
  refine a_tk 0 5 (v := ?_) (fun w9 hS => ?_) ?_
  rotate_left
  · have hu : Up w w9 := (Up.drew w).t hS; have ex := H3 w9 hu; go_simp <;> with_reducible rfl
  try simp only [pz]
  refine a_tk 1 6 (v := ?_) (fun w9 hS => ?_) ?_
  rotate_left
  · go_simp <;> with_reducible rfl
  try simp only [pz]
  refine a_tk 2 7 (v := ?_) (fun w9 hS => ?_) ?_
  rotate_left
  · go_simp <;> with_reducible rfl
  try simp only [pz]
  refine a_tk 3 8 (v := ?_) (fun w9 hS => ?_) ?_
  rotate_left
  · have hu : Up w w9 := (Up.drew w).t hS; have ex := C1 w9 hu; go_simp <;> with_reducible rfl
  try simp only [pz]
  refine a_tk 4 9 (v := ?_) (fun w9 hS => ?_) ?_
  rotate_left
  · have hu : Up w w9 := (Up.drew w).t hS; have ex := HLEN w9 hu; go_simp <;> with_reducible rfl
  try simp only [pz]
  refine a_tk 5 10 (v := ?_) (fun w9 hS => ?_) ?_
  rotate_left
  · have hu : Up w w9 := (Up.drew w).t hS; have ex := H3 w9 hu; go_simp <;> with_reducible rfl
  try simp only [pz]
  refine a_tk 6 11 (v := ?_) (fun w9 hS => ?_) ?_
  rotate_left
  · go_simp <;> with_reducible rfl
  try simp only [pz]
  refine a_tk 7 12 (v := ?_) (fun w9 hS => ?_) ?_
  rotate_left
  · go_simp <;> with_reducible rfl
  try simp only [pz]
  refine a_tk 8 13 (v := ?_) (fun w9 hS => ?_) ?_
  rotate_left
  · have hu : Up w w9 := (Up.drew w).t hS; have ex := C0 w9 hu; go_simp <;> with_reducible rfl
  try simp only [pz]
  refine a_tk 9 14 (v := ?_) (fun w9 hS => ?_) ?_
  rotate_left
  · go_simp <;> with_reducible rfl
  try simp only [pz]
  refine a_tk 10 15 (v := ?_) (fun w9 hS => ?_) ?_
  rotate_left
  · go_simp <;> with_reducible rfl
  try simp only [pz]
  refine a_tk 11 16 (v := ?_) (fun w9 hS => ?_) ?_
  rotate_left
  · go_simp <;> with_reducible rfl
  try simp only [pz]
  refine a_tk 12 17 (v := ?_) (fun w9 hS => ?_) ?_
  rotate_left
  · have hu : Up w w9 := (Up.drew w).t hS; have ex := H7 w9 hu; go_simp <;> with_reducible rfl
  try simp only [pz]
  refine a_tk 13 18 (v := ?_) (fun w9 hS => ?_) ?_
  rotate_left
  · have hu : Up w w9 := (Up.drew w).t hS; have ex := neq_other w9 x.blk e (EX w9 hu) (EE w9 hu) hx; go_simp <;> with_reducible rfl
  try simp only [pz]
  refine a_tk 14 19 (v := ?_) (fun w9 hS => ?_) ?_
  rotate_left
  · go_simp <;> with_reducible rfl
  try simp only [pz]
  refine a_tk 15 20 (v := ?_) (fun w9 hS => ?_) ?_
  rotate_left
  · go_simp <;> with_reducible rfl
  try simp only [pz]
  refine a_tk 16 21 (v := ?_) (fun w9 hS => ?_) ?_
  rotate_left
  · go_simp <;> with_reducible rfl
  try simp only [pz]
  refine a_tk 17 22 (v := ?_) (fun w9 hS => ?_) ?_
  rotate_left
  · go_simp <;> with_reducible rfl
  try simp only [pz]
  refine a_tk 18 23 (v := ?_) (fun w9 hS => ?_) ?_
  rotate_left
  · go_simp <;> with_reducible rfl
  try simp only [pz]
  refine a_tk 19 24 (v := ?_) (fun w9 hS => ?_) ?_
  rotate_left
  · have hu : Up w w9 := (Up.drew w).t hS; have ex := X2 w9 hu; go_simp <;> with_reducible rfl
  try simp only [pz]
  refine a_tk 20 25 (v := ?_) (fun w9 hS => ?_) ?_
  rotate_left
  · go_simp <;> with_reducible rfl
  try simp only [pz]
  refine a_tk 21 26 (v := ?_) (fun w9 hS => ?_) ?_
  rotate_left
  · go_simp <;> with_reducible rfl
  try simp only [pz]
  refine a_tk 22 27 (v := ?_) (fun w9 hS => ?_) ?_
  rotate_left
  · go_simp <;> with_reducible rfl
  try simp only [pz]
  refine a_tk 23 28 (v := ?_) (fun w9 hS => ?_) ?_
  rotate_left
  · go_simp <;> with_reducible rfl
  try simp only [pz]
  refine a_tk 24 29 (v := ?_) (fun w9 hS => ?_) ?_
  rotate_left
  · go_simp <;> with_reducible rfl
  try simp only [pz]
  refine a_tk 25 30 (v := ?_) (fun w9 hS => ?_) ?_
  rotate_left
  · go_simp <;> with_reducible rfl
  try simp only [pz]
  refine a_tk 26 31 (v := ?_) (fun w9 hS => ?_) ?_
  rotate_left
  · have hu : Up w w9 := (Up.drew w).t hS; have ex := X3 w9 hu; go_simp <;> with_reducible rfl
  try simp only [pz]
  refine a_tk 27 32 (v := ?_) (fun w9 hS => ?_) ?_
  rotate_left
  · go_simp <;> with_reducible rfl
  try simp only [pz]
  refine a_tk 28 33 (v := ?_) (fun w9 hS => ?_) ?_
  rotate_left
  · go_simp <;> with_reducible rfl
  try simp only [pz]
  refine any_done (by kernel_rfl) ?_
  rename_i K1 h1
  refine h1 _ _ ?_
  clear h1 K1
  try simp only [hd, Bool.not_true, Bool.not_false]
  go_wp2
  refine any_start (by kernel_rfl) ?_
  refine a_tk 0 37 (v := ?_) (fun w9 hS => ?_) ?_
  rotate_left
  · have hu : Up w w9 := ((Up.drew w).t (Up.drew _)).t hS; have ex := H3 w9 hu; go_simp <;> with_reducible rfl
  try simp only [pz]
  refine a_tk 1 38 (v := ?_) (fun w9 hS => ?_) ?_
  rotate_left
  · go_simp <;> with_reducible rfl
  try simp only [pz]
  refine a_tk 2 39 (v := ?_) (fun w9 hS => ?_) ?_
  rotate_left
  · go_simp <;> with_reducible rfl
  try simp only [pz]
  refine a_tk 3 40 (v := ?_) (fun w9 hS => ?_) ?_
  rotate_left
  · have hu : Up w w9 := ((Up.drew w).t (Up.drew _)).t hS; have ex := C1 w9 hu; go_simp <;> with_reducible rfl
  try simp only [pz]
  refine a_tk 4 41 (v := ?_) (fun w9 hS => ?_) ?_
  rotate_left
  · have hu : Up w w9 := ((Up.drew w).t (Up.drew _)).t hS; have ex := HLEN w9 hu; go_simp <;> with_reducible rfl
  try simp only [pz]
  refine a_tk 5 42 (v := ?_) (fun w9 hS => ?_) ?_
  rotate_left
  · have hu : Up w w9 := ((Up.drew w).t (Up.drew _)).t hS; have ex := H3 w9 hu; go_simp <;> with_reducible rfl
  try simp only [pz]
  refine a_tk 6 43 (v := ?_) (fun w9 hS => ?_) ?_
  rotate_left
  · go_simp <;> with_reducible rfl
  try simp only [pz]
  refine a_tk 7 44 (v := ?_) (fun w9 hS => ?_) ?_
  rotate_left
  · go_simp <;> with_reducible rfl
  try simp only [pz]
  refine a_tk 8 45 (v := ?_) (fun w9 hS => ?_) ?_
  rotate_left
  · have hu : Up w w9 := ((Up.drew w).t (Up.drew _)).t hS; have ex := C0 w9 hu; go_simp <;> with_reducible rfl
  try simp only [pz]
  refine a_tk 9 46 (v := ?_) (fun w9 hS => ?_) ?_
  rotate_left
  · go_simp <;> with_reducible rfl
  try simp only [pz]
  refine a_tk 10 4 (v := ?_) (fun w9 hS => ?_) ?_
  rotate_left
  · go_simp <;> with_reducible rfl
  try simp only [pz]
  refine any_done (by kernel_rfl) ?_
  go_wp2
  go_ret
  exact ⟨rfl, hid ⟨h.out.up ((Up.drew w).t (Up.drew _)), (Fr.refl _ w).drew.drew, (Below.refl base w).drew.drew⟩⟩

set_option maxRecDepth 100000 in
set_option maxHeartbeats 1000000 in
theorem put1_E (w : World) (base g : Nat) (room : Int) (mp r : Nat) (hits miss : Int) (l1 l2 : List Ent) (x : Ent) (b3 b7 e n : Nat) (h : Hid (CacheAt w base g room mp r hits miss (l1 ++ x :: l2)))
    (h3 : w.cell? ⟨b3, 0, none⟩ = some (ptr g)) (h7 : w.cell? ⟨b7, 0, none⟩ = some (ptr e)) (he : EntB w e) (hn : Hid ((l1 ++ x :: l2).length = n)) (hb3 : ¬ EntB w b3) (hm3 : b3 ≠ mp)
    (hc : decide (room < (n : Int)) = true) (hx : x.blk ≠ e) (hp : (x.pins == 0) = true) (hd : x.dirty = false) :
    Calls Tryz.prog 182 #[ptr x.blk, ptr b3, ptr b7] w (StepRet w base g room mp r hits miss (l1 ++ l2) (decide (room < ((n : Int) - 1)))) := by
  have C0 : ∀ w', Up w w' → w'.cell? ⟨g, 0, none⟩ = some (.int .i64 room) := fun _ u => u.c h.out.own.c0
  have C1 : ∀ w', Up w w' → w'.cell? ⟨g, 1, none⟩ = some (.map (some mp)) := fun _ u => u.c h.out.own.c1
  obtain ⟨_, _, x2, x3⟩ := (h.out.ents x (by simp)).2
  have X2 : ∀ w', Up w w' → w'.cell? ⟨x.blk, 2, none⟩ = some (.int .i64 x.pins) := fun _ u => u.c x2
  have X3 : ∀ w', Up w w' → w'.cell? ⟨x.blk, 3, none⟩ = some (.bool x.dirty) := fun _ u => u.c x3
  have H3 : ∀ w', Up w w' → w'.cell? ⟨b3, 0, none⟩ = some (.pointer (some ⟨g, 0, none⟩)) := fun _ u => u.c h3
  have H7 : ∀ w', Up w w' → w'.cell? ⟨b7, 0, none⟩ = some (.pointer (some ⟨e, 0, none⟩)) := fun _ u => u.c h7
  have EX : ∀ w', Up w w' → EntB w' x.blk := fun _ u => (h.out.ents x (by simp)).1.fr (Fr.of_below u) id
  have EE : ∀ w', Up w w' → EntB w' e := fun _ u => he.fr (Fr.of_below u) id
  have HLEN : ∀ w', Up w w' → ∀ ty, (Builtin.len_ #[193] ty #[.map (some mp)]).run Tryz.prog w' = .ok (.int .i64 (n : Int)) w' := fun w' u ty => by
    have := (h.out.map.kept (Fr.of_below u) id).len ty
    rwa [List.length_map, hn.out] at this
  unfold ptr
  clear x2 x3
  go_enter Tryz.func182, Tryz.ntmps182
  go_wp2
  refine any_start (by kernel_rfl) ?_
  refine a_tk 0 5 (v := ?_) (fun w9 hS => ?_) ?_
  rotate_left
  · have hu : Up w w9 := (Up.drew w).t hS; have ex := H3 w9 hu; go_simp <;> with_reducible rfl
  try simp only [pz]
  refine a_tk 1 6 (v := ?_) (fun w9 hS => ?_) ?_
  rotate_left
  · go_simp <;> with_reducible rfl
  try simp only [pz]
  refine a_tk 2 7 (v := ?_) (fun w9 hS => ?_) ?_
  rotate_left
  · go_simp <;> with_reducible rfl
  try simp only [pz]
  refine a_tk 3 8 (v := ?_) (fun w9 hS => ?_) ?_
  rotate_left
  · have hu : Up w w9 := (Up.drew w).t hS; have ex := C1 w9 hu; go_simp <;> with_reducible rfl
  try simp only [pz]
  refine a_tk 4 9 (v := ?_) (fun w9 hS => ?_) ?_
  rotate_left
  · have hu : Up w w9 := (Up.drew w).t hS; have ex := HLEN w9 hu; go_simp <;> with_reducible rfl
  try simp only [pz]
  refine a_tk 5 10 (v := ?_) (fun w9 hS => ?_) ?_
  rotate_left
  · have hu : Up w w9 := (Up.drew w).t hS; have ex := H3 w9 hu; go_simp <;> with_reducible rfl
  try simp only [pz]
  refine a_tk 6 11 (v := ?_) (fun w9 hS => ?_) ?_
  rotate_left
  · go_simp <;> with_reducible rfl
  try simp only [pz]
  refine a_tk 7 12 (v := ?_) (fun w9 hS => ?_) ?_
  rotate_left
  · go_simp <;> with_reducible rfl
  try simp only [pz]
  refine a_tk 8 13 (v := ?_) (fun w9 hS => ?_) ?_
  rotate_left
  · have hu : Up w w9 := (Up.drew w).t hS; have ex := C0 w9 hu; go_simp <;> with_reducible rfl
  try simp only [pz]
  refine a_tk 9 14 (v := ?_) (fun w9 hS => ?_) ?_
  rotate_left
  · go_simp <;> with_reducible rfl
  try simp only [pz]
  refine a_tk 10 15 (v := ?_) (fun w9 hS => ?_) ?_
  rotate_left
  · go_simp <;> with_reducible rfl
  try simp only [pz]
  refine a_tk 11 16 (v := ?_) (fun w9 hS => ?_) ?_
  rotate_left
  · go_simp <;> with_reducible rfl
  try simp only [pz]
  refine a_tk 12 17 (v := ?_) (fun w9 hS => ?_) ?_
  rotate_left
  · have hu : Up w w9 := (Up.drew w).t hS; have ex := H7 w9 hu; go_simp <;> with_reducible rfl
  try simp only [pz]
  refine a_tk 13 18 (v := ?_) (fun w9 hS => ?_) ?_
  rotate_left
  · have hu : Up w w9 := (Up.drew w).t hS; have ex := neq_other w9 x.blk e (EX w9 hu) (EE w9 hu) hx; go_simp <;> with_reducible rfl
  try simp only [pz]
  refine a_tk 14 19 (v := ?_) (fun w9 hS => ?_) ?_
  rotate_left
  · go_simp <;> with_reducible rfl
  try simp only [pz]
  refine a_tk 15 20 (v := ?_) (fun w9 hS => ?_) ?_
  rotate_left
  · go_simp <;> with_reducible rfl
  try simp only [pz]
  refine a_tk 16 21 (v := ?_) (fun w9 hS => ?_) ?_
  rotate_left
  · go_simp <;> with_reducible rfl
  try simp only [pz]
  refine a_tk 17 22 (v := ?_) (fun w9 hS => ?_) ?_
  rotate_left
  · go_simp <;> with_reducible rfl
  try simp only [pz]
  refine a_tk 18 23 (v := ?_) (fun w9 hS => ?_) ?_
  rotate_left
  · go_simp <;> with_reducible rfl
  try simp only [pz]
  refine a_tk 19 24 (v := ?_) (fun w9 hS => ?_) ?_
  rotate_left
  · have hu : Up w w9 := (Up.drew w).t hS; have ex := X2 w9 hu; go_simp <;> with_reducible rfl
  try simp only [pz]
  refine a_tk 20 25 (v := ?_) (fun w9 hS => ?_) ?_
  rotate_left
  · go_simp <;> with_reducible rfl
  try simp only [pz]
  refine a_tk 21 26 (v := ?_) (fun w9 hS => ?_) ?_
  rotate_left
  · go_simp <;> with_reducible rfl
  try simp only [pz]
  refine a_tk 22 27 (v := ?_) (fun w9 hS => ?_) ?_
  rotate_left
  · go_simp <;> with_reducible rfl
  try simp only [pz]
  refine a_tk 23 28 (v := ?_) (fun w9 hS => ?_) ?_
  rotate_left
  · go_simp <;> with_reducible rfl
  try simp only [pz]
  refine a_tk 24 29 (v := ?_) (fun w9 hS => ?_) ?_
  rotate_left
  · go_simp <;> with_reducible rfl
  try simp only [pz]
  refine a_tk 25 30 (v := ?_) (fun w9 hS => ?_) ?_
  rotate_left
  · go_simp <;> with_reducible rfl
  try simp only [pz]
  refine a_tk 26 31 (v := ?_) (fun w9 hS => ?_) ?_
  rotate_left
  · have hu : Up w w9 := (Up.drew w).t hS; have ex := X3 w9 hu; go_simp <;> with_reducible rfl
  try simp only [pz]
  refine a_tk 27 32 (v := ?_) (fun w9 hS => ?_) ?_
  rotate_left
  · go_simp <;> with_reducible rfl
  try simp only [pz]
  refine a_tk 28 33 (v := ?_) (fun w9 hS => ?_) ?_
  rotate_left
  · go_simp <;> with_reducible rfl
  try simp only [pz]
  refine any_done (by kernel_rfl) ?_
  rename_i K1 h1
  refine h1 _ _ ?_
  clear h1 K1
  try simp only [hd, hp, Bool.not_true, Bool.not_false]
  go_wp2_with fail
  refine (gone_calls w.drew base g room mp r hits miss l1 l2 x (hid (h.out.up (Up.drew w)))).mono ?_
  rintro en w2 ⟨rfl, hh⟩
  have n3 := hn.out
  have C02 : ∀ w', Up w2 w' → w'.cell? ⟨g, 0, none⟩ = some (.int .i64 room) := fun _ u => u.c hh.out.1.own.c0
  have C12 : ∀ w', Up w2 w' → w'.cell? ⟨g, 1, none⟩ = some (.map (some mp)) := fun _ u => u.c hh.out.1.own.c1
  have h32 : w2.cell? ⟨b3, 0, none⟩ = some (.pointer (some ⟨g, 0, none⟩)) := hh.out.2.1.cell (h3 : w.drew.cell? _ = _) (by rintro (e | e); exact hm3 e; exact hb3 e)
  have H32 : ∀ w', Up w2 w' → w'.cell? ⟨b3, 0, none⟩ = some (.pointer (some ⟨g, 0, none⟩)) := fun _ u => u.c h32
  have HLEN2 : ∀ w', Up w2 w' → ∀ ty, (Builtin.len_ #[193] ty #[.map (some mp)]).run Tryz.prog w' = .ok (.int .i64 ((n : Int) - 1)) w' := fun w' u ty => by
    have := (hh.out.1.map.kept (Fr.of_below u) id).len ty
    rwa [List.length_map, show (((l1 ++ l2).length : Nat) : Int) = (n : Int) - 1 by rw [← n3]; simp only [List.length_append, List.length_cons]; omega] at this
  clear C0 C1 X2 X3 H3 H7 EX EE HLEN h32 n3
  go_wp2
  refine any_start (by kernel_rfl) ?_
  refine a_tk 0 37 (v := ?_) (fun w9 hS => ?_) ?_
  rotate_left
  · have hu : Up w2 w9 := (Up.drew w2).t hS; have ex := H32 w9 hu; go_simp <;> with_reducible rfl
  try simp only [pz]
  refine a_tk 1 38 (v := ?_) (fun w9 hS => ?_) ?_
  rotate_left
  · go_simp <;> with_reducible rfl
  try simp only [pz]
  refine a_tk 2 39 (v := ?_) (fun w9 hS => ?_) ?_
  rotate_left
  · go_simp <;> with_reducible rfl
  try simp only [pz]
  refine a_tk 3 40 (v := ?_) (fun w9 hS => ?_) ?_
  rotate_left
  · have hu : Up w2 w9 := (Up.drew w2).t hS; have ex := C12 w9 hu; go_simp <;> with_reducible rfl
  try simp only [pz]
  refine a_tk 4 41 (v := ?_) (fun w9 hS => ?_) ?_
  rotate_left
  · have hu : Up w2 w9 := (Up.drew w2).t hS; have ex := HLEN2 w9 hu; go_simp <;> with_reducible rfl
  try simp only [pz]
  refine a_tk 5 42 (v := ?_) (fun w9 hS => ?_) ?_
  rotate_left
  · have hu : Up w2 w9 := (Up.drew w2).t hS; have ex := H32 w9 hu; go_simp <;> with_reducible rfl
  try simp only [pz]
  refine a_tk 6 43 (v := ?_) (fun w9 hS => ?_) ?_
  rotate_left
  · go_simp <;> with_reducible rfl
  try simp only [pz]
  refine a_tk 7 44 (v := ?_) (fun w9 hS => ?_) ?_
  rotate_left
  · go_simp <;> with_reducible rfl
  try simp only [pz]
  refine a_tk 8 45 (v := ?_) (fun w9 hS => ?_) ?_
  rotate_left
  · have hu : Up w2 w9 := (Up.drew w2).t hS; have ex := C02 w9 hu; go_simp <;> with_reducible rfl
  try simp only [pz]
  refine a_tk 9 46 (v := ?_) (fun w9 hS => ?_) ?_
  rotate_left
  · go_simp <;> with_reducible rfl
  try simp only [pz]
  refine a_tk 10 4 (v := ?_) (fun w9 hS => ?_) ?_
  rotate_left
  · go_simp <;> with_reducible rfl
  try simp only [pz]
  refine any_done (by kernel_rfl) ?_
  go_wp2
  go_ret
  exact ⟨rfl, hid ⟨hh.out.1.up (Up.drew w2), ((Fr.refl _ w).drew.trans' hh.out.2.1).drew, (((Below.refl base w).drew).trans hh.out.2.2).drew⟩⟩

end Go.Proofs.YtbcghggkfnagoaaGreatDoor
