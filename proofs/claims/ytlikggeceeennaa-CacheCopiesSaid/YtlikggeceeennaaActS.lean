/- ACTS, whatever the kind. -/
import Derived.Test.YtlikggeceeennaaActK
set_option linter.unusedVariables false
set_option linter.unusedSimpArgs false
namespace Go.Proofs.Ytlikggeceeennaa
open Go Go.RowKit Hach

def Nums (h m : Int) (N : Nat) : Prop := 0 ≤ h ∧ h ≤ (N : Int) ∧ 0 ≤ m ∧ m ≤ (N : Int)
theorem Nums.big {h m : Int} {N : Nat} (hn : Nums h m N) (hN : N < 900000) : h < 1000000 ∧ 0 ≤ h ∧ m < 1000000 ∧ 0 ≤ m := by
  obtain ⟨a, b, c, d⟩ := hn
  omega
/-- What an act leaves, both caches seen apart. -/
def ActG (w : World) (bc g mp : Nat) (room hits miss : Int) (V : List Vis) (br b : Nat) (room' hit' miss' : Int) (U : List Vis) (N : Nat) (en : Ending) (w' : World) : Prop :=
  ∃ r V2 h2 m2 U2 i2 j2, en = .returned (.bool r) ∧ Hid (CacheM w' bc g mp room h2 m2 V2 ∧ RefM w' br b room' i2 j2 U2 ∧ (Ok5 V2 (N + 1) ∧ Nums h2 m2 (N + 1)) ∧ (Ok5 U2 (N + 1) ∧ Nums i2 j2 (N + 1)) ∧ Rest bc br w w' ∧
    (V = U → room = room' → hits = hit' → miss = miss' → r = true ∧ V2 = U2 ∧ h2 = i2 ∧ m2 = j2))
theorem ActG.of {w : World} {bc g mp : Nat} {room hits miss : Int} {V : List Vis} {br b : Nat} {room' hit' miss' : Int} {U : List Vis} {N : Nat} (f : Int → List Vis → List Vis) (hf : Nat) (fh fm : Int → List Vis → Int) {en : Ending} {w' : World}
    (h : ActRet w bc g mp room (fh hits V) (fm miss V) (f room V) br b room' (fh hit' U) (fm miss' U) (f room' U) (V = U ∧ room = room') en w')
    (hV : Ok5 V N) (hU : Ok5 U N) (nV : Nums hits miss N) (nU : Nums hit' miss' N) (ok : ∀ r V, Ok5 V N → Ok5 (f r V) (N + 1)) (nm : ∀ h m V, Nums h m N → Nums (fh h V) (fm m V) (N + 1)) : ActG w bc g mp room hits miss V br b room' hit' miss' U N en w' := by
  obtain ⟨r, e, hh⟩ := h
  obtain ⟨h1, h2, h3, h4⟩ := hh.out
  exact ⟨r, _, _, _, _, _, _, e, hid ⟨h1, h2, ⟨ok _ _ hV, nm _ _ _ nV⟩, ⟨ok _ _ hU, nm _ _ _ nU⟩, h3, fun e1 e2 e3 e4 => ⟨h4 ⟨e1, e2⟩, by rw [e1, e2], by rw [e1, e3], by rw [e1, e4]⟩⟩⟩
theorem Nums.up {h m : Int} {N : Nat} (hn : Nums h m N) : Nums h m (N + 1) := by obtain ⟨a, b, c, d⟩ := hn; exact ⟨a, by omega, c, by omega⟩

theorem actG_calls (w : World) (bc g mp : Nat) (room hits miss : Int) (V : List Vis) (br b : Nat) (room' hit' miss' : Int) (U : List Vis) (a : ActV) (N : Nat) (hC : Hid (CacheM w bc g mp room hits miss V)) (hR : Hid (RefM w br b room' hit' miss' U))
    (hV : Hid (Ok5 V N ∧ Nums hits miss N)) (hU : Hid (Ok5 U N ∧ Nums hit' miss' N)) (hN : N < 900000) (hwf : Hid ((Lit.int .i64 a.page).wf = true)) :
    Calls Try.prog 28 #[ptr g, ptr b, .agg #[.int .i64 a.kind, .int .i64 a.page, .int .u8 (n8 a.seed), .bool a.short]] w (ActG w bc g mp room hits miss V br b room' hit' miss' U N) := by
  have V1 := hid (And.intro hV.out.1 hN)
  have U1 := hid (And.intro hU.out.1 hN)
  have hn := hid (And.intro (hV.out.2.big hN) (hU.out.2.big hN))
  have fin : ∀ (f : Int → List Vis → List Vis) (fh fm : Int → List Vis → Int), (∀ r V, Ok5 V N → Ok5 (f r V) (N + 1)) → (∀ h m V, Nums h m N → Nums (fh h V) (fm m V) (N + 1)) → ∀ en w', ActRet w bc g mp room (fh hits V) (fm miss V) (f room V) br b room' (fh hit' U) (fm miss' U) (f room' U) (V = U ∧ room = room') en w' → ActG w bc g mp room hits miss V br b room' hit' miss' U N en w' :=
    fun f fh fm ok nm en w' h => ActG.of f 0 fh fm h hV.out.1 hU.out.1 hV.out.2 hU.out.2 ok nm
  by_cases k0 : a.kind = 0
  · exact (act0_calls w bc g mp room hits miss V br b room' hit' miss' U a hC hR V1 U1 hwf hn k0).mono (fin (fun r V => if a.page < 1 ∨ actN a ≠ 512 then V else putV r a.page (actD a) V) (fun h _ => h) (fun m _ => m) (fun r V ok => by
      show Ok5 (if a.page < 1 ∨ actN a ≠ 512 then V else putV r a.page (actD a) V) (N + 1)
      split
      · exact ok.mono (Nat.le_succ N)
      · exact ok.put) (fun _ _ _ h => h.up))
  by_cases k1 : a.kind = 1
  · exact (act1_calls w bc g mp room hits miss V br b room' hit' miss' U a hC hR V1 U1 hwf hn k1).mono (fin (fun r V => getV a.page V) (fun h V => h + if foundV a.page V = true then 1 else 0) (fun m V => m + if foundV a.page V = true then 0 else 1) (fun r V ok => ok.get.mono (Nat.le_succ N)) (fun h m V hn => by
      obtain ⟨a1, b1, c1, d1⟩ := hn
      simp only [Nums]
      split <;> omega))
  by_cases k2 : a.kind = 2
  · exact (act2_calls w bc g mp room hits miss V br b room' hit' miss' U a hC hR V1 U1 hwf hn k2).mono (fin (fun r V => V) (fun h _ => h) (fun m _ => m) (fun r V ok => ok.mono (Nat.le_succ N)) (fun _ _ _ h => h.up))
  by_cases k3 : a.kind = 3
  · exact (act3_calls w bc g mp room hits miss V br b room' hit' miss' U a hC hR V1 U1 hwf hn k3).mono (fin (fun r V => pinV a.page V) (fun h _ => h) (fun m _ => m) (fun r V ok => ok.on (fun v hv => ⟨rfl, by have := (ok.pins v hv).1; simp only; omega, by have := (ok.pins v hv).2; simp only; omega⟩)) (fun _ _ _ h => h.up))
  by_cases k4 : a.kind = 4
  · exact (act4_calls w bc g mp room hits miss V br b room' hit' miss' U a hC hR V1 U1 hwf hn k4).mono (fin (fun r V => freeV a.page V) (fun h _ => h) (fun m _ => m) (fun r V ok => ok.on (fun v hv => by
      have := ok.pins v hv
      split
      · exact ⟨rfl, this.1, by omega⟩
      · exact ⟨rfl, by simp only; omega, by simp only; omega⟩)) (fun _ _ _ h => h.up))
  by_cases k5 : a.kind = 5
  · exact (act5_calls w bc g mp room hits miss V br b room' hit' miss' U a hC hR V1 U1 hwf hn k5).mono (fin (fun r V => markV a.page (n8 a.seed % 2 == 0) V) (fun h _ => h) (fun m _ => m) (fun r V ok => ok.on (fun v hv => ⟨rfl, (ok.pins v hv).1, by have := (ok.pins v hv).2; simp only; omega⟩)) (fun _ _ _ h => h.up))
  by_cases k6 : a.kind = 6
  · exact (act6_calls w bc g mp room hits miss V br b room' hit' miss' U a hC hR V1 U1 hwf hn k6).mono (fin (fun r V => dropV a.page V) (fun h _ => h) (fun m _ => m) (fun r V ok => ok.drop.mono (Nat.le_succ N)) (fun _ _ _ h => h.up))
  by_cases k7 : a.kind = 7
  · exact (act7_calls w bc g mp room hits miss V br b room' hit' miss' U a hC hR V1 U1 hwf hn k7).mono (fin (fun r V => clearV V) (fun h _ => h) (fun m _ => m) (fun r V ok => (ok.sub List.filter_sublist).mono (Nat.le_succ N)) (fun _ _ _ h => h.up))
  exact (actX_calls w bc g mp room hits miss V br b room' hit' miss' U a hC hR V1 U1 hwf hn ⟨k0, k1, k2, k3, k4, k5, k6, k7⟩).mono (fin (fun r V => V) (fun h _ => h) (fun m _ => m) (fun r V ok => ok.mono (Nat.le_succ N)) (fun _ _ _ h => h.up))
theorem Ok5.nil : Ok5 [] 0 := ⟨by simp, by simp, Nat.le_refl 0⟩
theorem act_cells {w : World} {A : Option Addr} {l : List ActV} (h : Rd w A (l.flatMap actCells)) {k : Nat} (hk : k < l.length) :
    ∃ g off, A = some ⟨g, off, none⟩ ∧ g < w.heap.size ∧ w.cell? ⟨g, off + k * 4, none⟩ = some (.int .i64 l[k].kind) ∧ w.cell? ⟨g, off + k * 4 + 1, none⟩ = some (.int .i64 l[k].page) ∧
      w.cell? ⟨g, off + k * 4 + 2, none⟩ = some (.int .u8 (n8 l[k].seed)) ∧ w.cell? ⟨g, off + k * 4 + 3, none⟩ = some (.bool l[k].short) := by
  obtain ⟨g, off, e, q⟩ := Rd.row actCells_length h (List.getElem?_eq_getElem hk) (by decide)
  have q0 := q 0 _ rfl
  exact ⟨g, off, e, World.block_lt_of_cell? _ _ q0, q0, by rw [Nat.add_assoc]; exact q 1 _ rfl, by rw [Nat.add_assoc]; exact q 2 _ rfl, by rw [Nat.add_assoc]; exact q 3 _ rfl⟩

end Go.Proofs.Ytlikggeceeennaa
