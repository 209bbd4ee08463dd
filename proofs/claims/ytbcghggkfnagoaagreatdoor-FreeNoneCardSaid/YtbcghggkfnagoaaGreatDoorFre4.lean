/- THE WALK of free's Take. -/
import Derived.Test.YtbcghggkfnagoaaGreatDoorFre3
set_option linter.unusedVariables false
set_option linter.unusedSimpArgs false
namespace Go.Proofs.YtbcghggkfnagoaaGreatDoor
open Go Go.RowKit Go.Maps Hach

theorem pgGet_lt (b : List UInt8) (i : Nat) : pgGet b i 4 < 4294967296 := by
  unfold pgGet
  have h := Oct.val_lt ((b.drop i).take 4)
  have h2 : ((b.drop i).take 4).length ≤ 4 := by rw [List.length_take]; omega
  have h3 : 256 ^ ((b.drop i).take 4).length ≤ 256 ^ 4 := Nat.pow_le_pow_right (by decide) h2
  have h4 : (256 : Nat) ^ 4 = 4294967296 := by decide
  omega
theorem pg4 (b : List UInt8) (i : Nat) : wrap64 (pgGet b i 4 : Int) = (pgGet b i 4 : Int) := by have := pgGet_lt b i; unfold wrap64; omega
theorem u64w {k : Nat} (h : k < 9223372036854775807) : IntKind.u64.wrap (k : Int) = (k : Int) := IntWalk.u64_in _ (by omega)
section
variable (w : World) (h p t m : Nat) (q : PgN) (mv : Value) (last : Int) (n : Nat) (L : PgL)
/-- What Take hands back, and does. -/
def TakeRet (w : World) (h p t m : Nat) (q : PgN) (mv : Value) (last : Int) (k n' : Nat) (S : PgL → Prop) (en : Ending) (w' : World) : Prop :=
  en = .returned (.tuple #[.int .i64 k, .int .i64 0]) ∧ ∃ L', Hid (HeapP w' h p q t m mv last n' L' ∧ Fr (fun k => k = t ∨ k = m) w w' ∧ S L')
set_option maxRecDepth 100000 in
set_option maxHeartbeats 2000000 in
theorem take0_calls (hh : Hid (HeapP w h p q t m mv last n L)) (hn : Hid (1 ≤ n ∧ n < 4000)) (hL : Hid (L.length < 900000)) (x : PgX) (hx : Hid (gget L 1 = some x)) (hc : Hid (pgGet x.bs 12 4 = 0)) :
    Calls Tryz.prog 15 #[.pointer (some ⟨h, 0, none⟩)] w (TakeRet w h p t m q mv last (n + 1) (n + 1) fun L' => ∃ g c, L' = gput L (n + 1 : Nat) ⟨g, c, noPage⟩) := by
  obtain ⟨n1, hn1⟩ : ∃ k, n + 1 = k := ⟨_, rfl⟩
  have CG : ∀ w', Up w w' → Calls _ _ _ w' _ := fun w' hu => pgrow_calls w' p t m q mv last n L (hid ((hh.out.up hu).tran)) (hid (by have := hn.out; omega)) (hid (by have := hL.out; omega))
  rw [hn1] at CG ⊢
  have p12 := pg4 x.bs 12
  have p8 := pg4 x.bs 8
  rw [hc.out] at p12
  obtain ⟨F, hF⟩ : ∃ k, pgGet x.bs 8 4 = k := ⟨_, rfl⟩
  rw [hF] at p8
  go_enter Tryz.func15, Tryz.ntmps15
  go_wp2_with (go_at_call 66; refine (hroot_calls w h p t m q mv last n L hh (hid (by have := hn.out; omega)) x hx).mono ?_; rintro en w2 ⟨g, c, rfl, hr⟩)
  have C12 := fget_calls w2 g c x.bs 512 12 4 (hid hr.out.2.2.1) (hid ⟨by decide, by decide, by decide, by decide, hr.out.2.2.2.1⟩) (hid hr.out.1.bytes)
  have C8 := fget_calls w2 g c x.bs 512 8 4 (hid hr.out.2.2.1) (hid ⟨by decide, by decide, by decide, by decide, hr.out.2.2.2.1⟩) (hid hr.out.1.bytes)
  rw [hc.out, p12] at C12
  rw [hF, p8] at C8
  refine C12.mono ?_
  rintro en w3 ⟨rfl, hw⟩
  obtain rfl := hw.symm
  clear hw
  go_wp2_with fail
  refine C8.mono ?_
  rintro en w3 ⟨rfl, hw⟩
  obtain rfl := hw.symm
  clear hw
  have e0 := (hh.out.up hr.out.2.1).cell
  have UR := hid hr.out.2.1
  have HH2 := hid (hh.out.up hr.out.2.1)
  clear hr C12 C8
  go_wp2_with fail
  refine (CG _ UR.out).mono ?_
  rintro en w4 ⟨rfl, g4, c4, hr⟩
  have RES : Hid (HeapP w4 h p q t m mv last n1 (gput L n1 ⟨g4, c4, noPage⟩) ∧ Fr (fun k => k = t ∨ k = m) w w4) := hid ⟨HH2.out.step hr.out.1 hr.out.2, ((Fr.of_below UR.out).mono (fun _ e => e.elim)).trans' hr.out.2⟩
  clear hr
  go_wp2
  go_ret2
  exact ⟨rfl, _, hid ⟨RES.out.1, RES.out.2, g4, c4, rfl⟩⟩
end
end Go.Proofs.YtbcghggkfnagoaaGreatDoor
