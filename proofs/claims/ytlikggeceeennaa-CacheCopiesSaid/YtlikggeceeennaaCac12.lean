/- THE CACHE AS WHAT IS TOLD OF IT: pages, bytes, pins, marks. -/
import Derived.Test.YtlikggeceeennaaCac11
set_option linter.unusedVariables false
set_option linter.unusedSimpArgs false
namespace Go.Proofs.Ytlikggeceeennaa
open Go Go.RowKit Hach

abbrev Vis := Int × List UInt8 × Int × Bool
def vis (x : Ent) : Vis := (x.page, x.data, x.pins, x.dirty)
def goesV (room p : Int) (n : Nat) (v : Vis) : Bool := decide (room < (n : Int)) && (decide (v.1 ≠ p) && ((v.2.2.1 == 0) && !v.2.2.2))
def evictV (room p : Int) : List Vis → List Vis → List Vis
  | done, [] => done
  | done, x :: rest =>
    if goesV room p (done ++ x :: rest).length x = true then (if room < ((done ++ rest).length : Int) then evictV room p done rest else done ++ rest)
    else (if room < ((done ++ x :: rest).length : Int) then evictV room p (done ++ [x]) rest else done ++ x :: rest)
theorem evict_vis (room p : Int) (e : Nat) (done rest : List Ent) (h : ∀ y ∈ rest, y.blk = e ↔ y.page = p) : (evict room e done rest).map vis = evictV room p (done.map vis) (rest.map vis) := by
  induction rest generalizing done with
  | nil => rfl
  | cons x rest ih =>
    have hg : ∀ n, goes room e n x = goesV room p n (vis x) := fun n => by
      unfold goes goesV
      have := h x List.mem_cons_self
      rw [show decide (x.blk ≠ e) = decide ((vis x).1 ≠ p) from decide_eq_decide.2 (not_congr this)]
      rfl
    have l1 : (List.map vis done ++ vis x :: List.map vis rest).length = (done ++ x :: rest).length := by simp
    have l2 : (List.map vis done ++ List.map vis rest).length = (done ++ rest).length := by simp
    have ih1 := ih done (fun y hy => h y (List.mem_cons_of_mem _ hy))
    have ih2 := ih (done ++ [x]) (fun y hy => h y (List.mem_cons_of_mem _ hy))
    rw [List.map_append] at ih2
    rw [List.map_cons]
    unfold evict evictV
    rw [l1, l2, hg]
    split
    · split
      · exact ih1
      · rw [List.map_append]
    · split
      · exact ih2
      · rw [List.map_append]; rfl

/-- A cache with these pages. -/
def CacheV (w : World) (base g : Nat) (room hits miss : Int) (V : List Vis) : Prop := ∃ mp r es, CacheAt w base g room mp r hits miss es ∧ es.map vis = V
theorem CacheV.up {w w' : World} {base g : Nat} {room hits miss : Int} {V : List Vis} (h : CacheV w base g room hits miss V) (hu : Up w w') : CacheV w' base g room hits miss V := by
  obtain ⟨mp, r, es, h1, h2⟩ := h
  exact ⟨mp, r, es, h1.up hu, h2⟩
theorem vis_page (es : List Ent) : (es.map vis).map (·.1) = es.map Ent.page := by rw [List.map_map]; rfl

def StepV (w : World) (base g : Nat) (room hits miss : Int) (V : List Vis) (v : Value) (en : Ending) (w' : World) : Prop :=
  en = .returned v ∧ Hid (CacheV w' base g room hits miss V ∧ Below base w w')

theorem putNewV_calls (w : World) (base g : Nat) (room hits miss : Int) (V : List Vis) (p : Int) (A : Option Addr) (c : Nat) (D : List UInt8) (h : Hid (CacheV w base g room hits miss V))
    (hp : 1 ≤ p) (hwf : Hid ((Lit.int .i64 p).wf = true)) (hno : Hid (p ∉ V.map (·.1))) (hD : Hid (D.length = 512)) (hb : Hid (Bytes w A D)) (hl : Hid (V.length < 1000000)) :
    Calls Try.prog 17 #[ptr g, .int .i64 p, .slice A 512 c] w (StepV w base g room hits miss (evictV room p [] (V ++ [(p, D, 0, false)])) (.int .i64 0)) := by
  obtain ⟨mp, r, es, h1, rfl⟩ := h.out
  have hno' : p ∉ es.map Ent.page := by rw [← vis_page]; exact hno.out
  refine (putNew_calls w base g room mp r hits miss es p A c D (hid h1) hp hwf (hid hno') hD hb (hid (by have := hl.out; rwa [List.length_map] at this))).mono ?_
  rintro en w' ⟨rfl, hh⟩
  obtain ⟨e, he, ca, bl, _⟩ := hh.out
  refine ⟨rfl, hid ⟨⟨mp, r, _, ca, ?_⟩, bl⟩⟩
  rw [evict_vis room p e [] _ ?_, List.map_append]
  · rfl
  · intro y hy
    rcases List.mem_append.1 hy with hy | hy
    · constructor
      · intro e9
        have := (h1.ents y hy).1.lt
        omega
      · intro e9
        exact absurd (by rw [← e9]; exact List.mem_map.2 ⟨y, hy, rfl⟩) hno'
    · rw [List.mem_singleton.1 hy]
      exact ⟨fun _ => rfl, fun _ => rfl⟩

def GetV (w : World) (base g : Nat) (room hits miss : Int) (V : List Vis) (D : List UInt8) (en : Ending) (w' : World) : Prop :=
  ∃ A c, en = .returned (.tuple #[.slice A 512 c, .bool true]) ∧ Hid (D.length = 512 ∧ Bytes w' A D ∧ CacheV w' base g room hits miss V ∧ Below base w w')
theorem map_split {α β : Type} {f : α → β} {l : List α} {V1 V2 : List β} {v : β} (h : l.map f = V1 ++ v :: V2) : ∃ l1 x l2, l = l1 ++ x :: l2 ∧ l1.map f = V1 ∧ f x = v ∧ l2.map f = V2 := by
  obtain ⟨l1, l2, rfl, h1, h2⟩ := List.map_eq_append_iff.1 h
  obtain ⟨x, l3, rfl, h3, h4⟩ := List.map_eq_cons_iff.1 h2
  exact ⟨l1, x, l3, rfl, h1, h3, h4⟩
theorem ent_len {w : World} {base : Nat} {x : Ent} (h : EntIs w base x) : x.data.length = 512 := by
  obtain ⟨_, ⟨A, c, _, xo⟩, _⟩ := h
  have := xo.1
  rw [List.length_map] at this
  exact this
theorem getHitV_calls (w : World) (base g : Nat) (room hits miss : Int) (V1 V2 : List Vis) (v : Vis) (h : Hid (CacheV w base g room hits miss (V1 ++ v :: V2))) (hh : IntKind.i64.wrap (hits + 1) = hits + 1) :
    Calls Try.prog 35 #[ptr g, .int .i64 v.1] w (GetV w base g room (hits + 1) miss ((V1 ++ V2) ++ [v]) v.2.1) := by
  obtain ⟨mp, r, es, h1, h2⟩ := h.out
  obtain ⟨l1, x, l2, rfl, rfl, rfl, rfl⟩ := map_split h2
  refine (getHit_calls w base g room mp r hits miss l1 l2 x (hid h1) hh).mono ?_
  rintro en w' ⟨A, c, rfl, hh⟩
  exact ⟨A, c, rfl, hid ⟨ent_len (h1.ents x (by simp)).2, hh.out.1, ⟨mp, r, _, hh.out.2.1, by simp only [List.map_append, List.map_cons, List.map_nil]⟩, hh.out.2.2.1⟩⟩

def PeekV (w : World) (V : List Vis) (p : Int) (en : Ending) (w' : World) : Prop :=
  (V.find? (fun v => v.1 == p) = none ∧ en = .returned (.tuple #[.slice none 0 0, .bool false]) ∧ w = w') ∨
  ∃ v A c, V.find? (fun v => v.1 == p) = some v ∧ en = .returned (.tuple #[.slice A 512 c, .bool true]) ∧ Hid (v.2.1.length = 512 ∧ Bytes w' A v.2.1) ∧ Up w w'
theorem peekV_calls (w : World) (base g : Nat) (room hits miss : Int) (V : List Vis) (p : Int) (h : Hid (CacheV w base g room hits miss V)) (hwf : Hid ((Lit.int .i64 p).wf = true)) :
    Calls Try.prog 19 #[ptr g, .int .i64 p] w (PeekV w V p) := by
  obtain ⟨mp, r, es, h1, rfl⟩ := h.out
  have hf : (es.map vis).find? (fun v => v.1 == p) = (es.find? (fun x => x.page == p)).map vis := by rw [List.find?_map]; rfl
  refine (peek_calls w base g room mp r hits miss es p (hid h1) hwf).mono ?_
  rintro en w' (⟨q1, rfl, rfl⟩ | ⟨x, A, c, q1, rfl, hh, hu⟩)
  · exact .inl ⟨by rw [hf, q1]; rfl, rfl, rfl⟩
  · exact .inr ⟨vis x, A, c, by rw [hf, q1]; rfl, rfl, hh, hu⟩
theorem orderV_calls (w : World) (base g : Nat) (room hits miss : Int) (V : List Vis) (h : Hid (CacheV w base g room hits miss V)) (hl : Hid (V.length < 1000000)) :
    Calls Try.prog 26 #[ptr g] w (IntsRet w (V.map (·.1))) := by
  obtain ⟨mp, r, es, h1, rfl⟩ := h.out
  rw [vis_page]
  exact order_calls w base g room mp r hits miss es (hid h1) (hid (by have := hl.out; rwa [List.length_map] at this))
end Go.Proofs.Ytlikggeceeennaa
