/- THE WALKS of some and Order. -/
import Derived.Test.YtlikggeceeennaaCac9
set_option linter.unusedVariables false
set_option linter.unusedSimpArgs false
namespace Go.Proofs.Ytlikggeceeennaa
open Go Go.RowKit Hach

def pagesOf (so : Ent → Bool) (es : List Ent) : List Int := (es.filter so).map Ent.page
/-- A list of numbers. -/
def IntsRet (w : World) (L : List Int) (en : Ending) (w' : World) : Prop :=
  ∃ A c n, en = .returned (.slice A n c) ∧ Hid (n = L.length ∧ w'.ownsRow w.heap.size 3 1 (.slice A n c) n (L.map intCell) ∧ Up w w')

theorem some_step (m : Nat) (so : Ent → Bool) (w : World) (base g : Nat) (room : Int) (mp r : Nat) (hits miss : Int) (es : List Ent) (b1 b5 B : Nat) (h : Hid (CacheAt w base g room mp r hits miss es)) (hl : Hid (es.length < 1000000))
    (hn : ∀ (args : Array Value) (w : World), (callFunc m args).run Try.prog w = .ok (.enter m args) w)
    (hm : Hid (∀ w' x, CacheAt w' base g room mp r hits miss es → x ∈ es → Calls Try.prog m #[ptr x.blk] w' fun en w'' => en = .returned (.bool (so x)) ∧ Up w' w''))
    (wr : World) (done : List Ent) (x : Ent) (rest : List Ent) (iv : done ++ x :: rest = es ∧ SomeSt w wr b1 b5 B m (pagesOf so done)) :
    Calls Try.prog 130 (#[ptr x.blk] ++ #[ptr b1, ptr b5]) wr fun en w' => en = .returned (.bool true) ∧ Hid (∃ done', done' ++ rest = es ∧ SomeSt w w' b1 b5 B m (pagesOf so done')) := by
  have hx : x ∈ es := by rw [← iv.1]; simp
  have ca := h.out.up iv.2.1
  refine (some1_calls m (so x) w wr b1 b5 B x.blk x.page (pagesOf so done) (hid iv.2) (h.out.ents x hx).2.1 (hid ?_) hn (hm.out wr x ca hx)).mono ?_
  · have h1 : (pagesOf so done).length ≤ done.length := by unfold pagesOf; rw [List.length_map]; exact List.length_filter_le _ _
    have h2 := hl.out
    rw [← iv.1, List.length_append] at h2
    omega
  · rintro en w' ⟨rfl, hh⟩
    refine ⟨rfl, hid ⟨done ++ [x], by rw [List.append_assoc]; exact iv.1, ?_⟩⟩
    have e : pagesOf so (done ++ [x]) = if so x = true then pagesOf so done ++ [x.page] else pagesOf so done := by
      unfold pagesOf
      rw [List.filter_append, List.map_append]
      by_cases hs : so x = true
      · rw [if_pos hs, List.filter_cons_of_pos hs]; rfl
      · rw [if_neg hs, List.filter_cons_of_neg hs]; simp
    rw [e]
    exact hh.out

set_option maxRecDepth 100000 in
set_option maxHeartbeats 1000000 in
theorem some_calls (m : Nat) (so : Ent → Bool) (w : World) (base g : Nat) (room : Int) (mp r : Nat) (hits miss : Int) (es : List Ent) (h : Hid (CacheAt w base g room mp r hits miss es)) (hl : Hid (es.length < 1000000))
    (hn : ∀ (args : Array Value) (w : World), (callFunc m args).run Try.prog w = .ok (.enter m args) w)
    (hm : Hid (∀ w' x, CacheAt w' base g room mp r hits miss es → x ∈ es → Calls Try.prog m #[ptr x.blk] w' fun en w'' => en = .returned (.bool (so x)) ∧ Up w' w'')) :
    Calls Try.prog 77 #[ptr g, .func (.func m) #[] #[]] w (IntsRet w (pagesOf so es)) := by
  have c2 := h.out.own.c2
  have u2 : Up w ((w.alloc (.cells #[.func (.func m) #[] #[]] 107)).alloc (.cells #[.slice none 0 0] 44)) := ((Below.refl _ _).alloc (Nat.le_refl _) _).alloc (by simp) _
  have k1 : ((w.alloc (.cells #[.func (.func m) #[] #[]] 107)).alloc (.cells #[.slice none 0 0] 44)).heap[w.heap.size]? = some (.cells #[.func (.func m) #[] #[]] 107 (0, 0)) := by
    rw [Below.heap_alloc _ _ _ (by simp)]; exact heap_alloc_new w _
  have k5 : ((w.alloc (.cells #[.func (.func m) #[] #[]] 107)).alloc (.cells #[.slice none 0 0] 44)).heap[w.heap.size + 1]? = some (.cells #[.slice none 0 0] 44 (0, 0)) := by
    have := heap_alloc_new (w.alloc (.cells #[.func (.func m) #[] #[]] 107)) (.cells #[.slice none 0 0] 44)
    simpa using this
  have c2' := u2.c c2
  have sz : ((w.alloc (.cells #[.func (.func m) #[] #[]] 107)).alloc (.cells #[.slice none 0 0] 44)).heap.size = w.heap.size + 1 + 1 := by simp
  have ST : Hid (SomeSt w ((w.alloc (.cells #[.func (.func m) #[] #[]] 107)).alloc (.cells #[.slice none 0 0] 44)) w.heap.size (w.heap.size + 1) (w.heap.size + 1 + 1) m []) :=
    hid ⟨u2, k1, ⟨by omega, by omega, by omega, by omega⟩, none, 0, k5, own_nil _ _ _ _⟩
  clear c2 u2 k1 k5 sz
  unfold ptr at c2' ⊢
  go_enter Try.func77, Try.ntmps77
  go_wp2_with (go_at_call 60; refine (made_calls _ g r c2').mono ?_; rintro e w' ⟨rfl, rfl⟩)
  refine (rowAll_calls 130 #[ptr w.heap.size, ptr (w.heap.size + 1)] _ base g room mp r hits miss es (fun wr done rest => done ++ rest = es ∧ SomeSt w wr w.heap.size (w.heap.size + 1) (w.heap.size + 1 + 1) m (pagesOf so done))
    (hid (fun wr done rest iv => by rw [iv.1]; exact h.out.up iv.2.1)) (hid (fun wr done x rest iv => some_step m so w base g room mp r hits miss es _ _ _ h hl hn hm wr done x rest iv)) enters130 (hid ⟨rfl, ST.out⟩)).mono ?_
  rintro en w3 ⟨rfl, hh⟩
  have S3 : Hid (SomeSt w w3 w.heap.size (w.heap.size + 1) (w.heap.size + 1 + 1) m (pagesOf so es)) := by
    obtain ⟨done, e, s⟩ := hh.out
    rw [List.append_nil] at e
    rw [← e]; exact hid s
  obtain ⟨_, _, _, A, c, k5, o5⟩ := S3.out
  have f5 := (cell_one k5).1
  have O5 := hid o5
  clear k5 o5 hh ST hm hn
  go_wp2
  go_ret
  exact ⟨A, c, _, rfl, hid ⟨rfl, own_base O5.out (by omega), S3.out.1⟩⟩

theorem order1_calls (e : Nat) (w : World) : Calls Try.prog 80 #[ptr e] w fun en w' => en = .returned (.bool true) ∧ Up w w' := by
  unfold ptr
  go_enter Try.func80, Try.ntmps80
  go_wp2
  go_ret
  exact ⟨rfl, Up.refl w⟩
theorem enters80 (args : Array Value) (w : World) : (callFunc 80 args).run Try.prog w = .ok (.enter 80 args) w := by go_simp

theorem pagesOf_all (es : List Ent) : pagesOf (fun _ => true) es = es.map Ent.page := by
  unfold pagesOf
  rw [List.filter_eq_self.2 (fun _ _ => rfl)]

theorem order_calls (w : World) (base g : Nat) (room : Int) (mp r : Nat) (hits miss : Int) (es : List Ent) (h : Hid (CacheAt w base g room mp r hits miss es)) (hl : Hid (es.length < 1000000)) :
    Calls Try.prog 26 #[ptr g] w (IntsRet w (es.map Ent.page)) := by
  unfold ptr
  go_enter Try.func26, Try.ntmps26
  go_wp2_with fail
  refine (some_calls 80 (fun _ => true) w base g room mp r hits miss es h hl enters80 (hid (fun w' x _ _ => order1_calls x.blk w'))).mono ?_
  rintro en w2 ⟨A, c, n, rfl, hh⟩
  rw [pagesOf_all] at hh
  go_wp2
  go_ret
  exact ⟨A, c, n, rfl, hh⟩
end Go.Proofs.Ytlikggeceeennaa
