/- THE PAGER's steps: functions one behind the other, until one errs. -/
import Derived.Test.YtbcghggkfnagoaaGreatDoorK8
import Derived.Test.YtbcghggkfnagoaaGreatDoorOct1
set_option linter.unusedVariables false
set_option linter.unusedSimpArgs false
namespace Go.Proofs.YtbcghggkfnagoaaGreatDoor
open Go Go.RowKit Hach

/-- A function as a value: its number, what it is bound to, what it holds. -/
structure FnV where
  f : Nat
  b : Array Value
  c : Array Value
def fnv (x : FnV) : Value := .func (.func x.f) x.b x.c
def StepsRet (n : Nat) (P : Nat → World → Prop) (E : Int → World → Prop) (en : Ending) (w' : World) : Prop :=
  (en = .returned (.int .i64 0) ∧ P n w') ∨ ∃ e, e ≠ 0 ∧ en = .returned (.int .i64 e) ∧ E e w'
set_option maxRecDepth 100000 in
set_option maxHeartbeats 2000000 in
theorem steps_calls (w : World) (A : Option Addr) (c : Nat) (fs : List FnV) (P : Nat → World → Prop) (E : Int → World → Prop) (hl : Hid (fs.length < 1000))
    (hP : Hid (∀ k w', P k w' → Rd w' A (fs.map fnv))) (hent : ∀ x ∈ fs, ∀ (args : Array Value) (w : World), (callFunc x.f args).run Tryz.prog w = .ok (.enter x.f args) w)
    (hs : Hid (∀ k x, fs[k]? = some x → ∀ w', P k w' → Calls Tryz.prog x.f (x.b ++ x.c) w' (StepsRet (k + 1) P E))) (h0 : P 0 w) :
    Calls Tryz.prog 74 #[.slice A fs.length c] w (StepsRet fs.length P E) := by
  obtain ⟨n, hn⟩ : ∃ n, fs.length = n := ⟨_, rfl⟩
  have HN := hid hn
  rw [hn]
  have H0 := hid h0
  clear hn h0
  go_enter Tryz.func74, Tryz.ntmps74
  go_wp2
  go_loopw [8] (fun i wr => ∃ k : Nat, k ≤ n ∧ i = .int .i64 k ∧ Hid (P k wr)) (fun i _ => n - (intOf i).toNat)
  case atStart => exact ⟨0, Nat.zero_le _, rfl, H0⟩
  case round =>
    obtain ⟨k, hk, rfl, iv⟩ := hrel
    by_cases hlt : (k : Int) < n
    · have hkl : k < fs.length := by have := HN.out; omega
      obtain ⟨x, hx⟩ : ∃ x, fs[k]? = some x := ⟨_, List.getElem?_eq_getElem hkl⟩
      obtain ⟨g, off, rfl, hc⟩ := hP.out k _ iv.out k (fnv x) (by rw [List.getElem?_map, hx]; rfl)
      have CX := hs.out k x hx _ iv.out
      have hentx := hent x (List.mem_of_getElem? hx)
      obtain ⟨xf, xb, xc⟩ := x
      simp only [fnv] at hc CX hentx
      clear hx hent
      have hnb : (n : Int) < 1000 := by have := HN.out; have := hl.out; omega
      go_wp2_with fail
      refine CX.mono ?_
      rintro en w2 (⟨rfl, hp⟩ | ⟨e, he, rfl, hq⟩)
      · have HP2 := hid hp
        clear hp
        go_wp2
        go_roundw
        case rel => exact ⟨k + 1, by omega, rfl, HP2⟩
        case measure => simp only [intOf]; omega
      · have HQ := hid hq
        clear hq
        go_wp2
        go_ret
        exact .inr ⟨e, he, rfl, HQ.out⟩
    · have I := iv
      clear iv hent
      have hkn : k = n := by omega
      subst hkn
      go_wp2
      go_ret
      exact .inl ⟨rfl, I.out⟩
end Go.Proofs.YtbcghggkfnagoaaGreatDoor
