/- THE WALK of row, where the closure says that it wants more. -/
import Derived.Test.YtlikggeceeennaaCac7
set_option linter.unusedVariables false
set_option linter.unusedSimpArgs false
namespace Go.Proofs.Ytlikggeceeennaa
open Go Go.RowKit Hach

set_option maxRecDepth 100000 in
set_option maxHeartbeats 1000000 in
theorem rowAll_calls (n : Nat) (caps : Array Value) (w : World) (base g : Nat) (room : Int) (mp r : Nat) (hits miss : Int) (es : List Ent) (I : World → List Ent → List Ent → Prop)
    (hI : Hid (∀ wr done rest, I wr done rest → CacheAt wr base g room mp r hits miss (done ++ rest)))
    (hS : Hid (∀ wr done x rest, I wr done (x :: rest) → Calls Try.prog n (#[ptr x.blk] ++ caps) wr fun en w' => en = .returned (.bool true) ∧ Hid (∃ done', I w' done' rest)))
    (hn : ∀ (args : Array Value) (w : World), (callFunc n args).run Try.prog w = .ok (.enter n args) w) (h : Hid (I w [] es)) :
    Calls Try.prog 64 #[ptr g, .func (.func n) #[] caps] w fun en w' => en = .returned (.tuple #[]) ∧ Hid (∃ done, I w' done []) := by
  have CA0 := hid (hI.out _ _ _ h.out)
  have g2 := CA0.out.own.c2
  have f4 := chain_first CA0.out.row
  have ring := CA0.out.ring
  obtain ⟨f0, hf0⟩ : ∃ f, hd r es = f := ⟨_, rfl⟩
  have HF0 := hid hf0
  have f4' : w.cell? ⟨r, 4, none⟩ = some (ptr (hd r es)) := f4
  rw [hf0] at f4'
  clear hf0 f4
  unfold ptr at g2 f4' ⊢
  go_enter Try.func64, Try.ntmps64
  go_wp2
  clear g2 f4' ring
  go_loopg [4] es.length (fun k c wr => ∃ done rest, rest.length = k ∧ c = .pointer (some ⟨hd r rest, 0, none⟩) ∧ Hid (I wr done rest))
  case atStart => exact ⟨[], es, rfl, by rw [HF0.out], h⟩
  case round =>
    obtain ⟨done, rest, hk, rfl, iv⟩ := hrel
    have ca := hI.out _ _ _ iv.out
    have g2 := ca.own.c2
    cases rest with
    | nil =>
      have nn := neq_same wr r
      unfold ptr at g2
      rw [hd_nil]
      go_wp2
      go_end0
      exact ⟨rfl, hid ⟨done, iv.out⟩⟩
    | cons x rest =>
      have hx := ca.ents x (by simp)
      have hxr : x.blk ≠ r := by
        intro e9
        have := ca.nodup
        rw [List.nodup_cons] at this
        exact this.1 (by rw [← e9]; exact List.mem_map.2 ⟨x, by simp, rfl⟩)
      have nn := neq_other wr x.blk r hx.1 ca.ring hxr
      have f4 := chain_next ca.row
      rw [hd_cons]
      obtain ⟨f1, hf1⟩ : ∃ f, hd r rest = f := ⟨_, rfl⟩
      have HF1 := hid hf1
      rw [hf1] at f4
      have GK := hid hk
      clear ca hx hxr hf1 hk
      unfold ptr at g2 f4
      go_wp2_with fail
      refine Calls.mono (hS.out wr done x rest iv.out) ?_
      rintro en w2 ⟨rfl, hh⟩
      go_wp2
      go_roundg rest.length
      case measure => have := GK.out; rw [← this]; exact Nat.lt_succ_self _
      case rel => obtain ⟨done', h9⟩ := hh.out; exact ⟨done', rest, rfl, by rw [HF1.out], hid h9⟩
theorem enters130 (args : Array Value) (w : World) : (callFunc 130 args).run Try.prog w = .ok (.enter 130 args) w := by go_simp
end Go.Proofs.Ytlikggeceeennaa
