/- THE DOCUMENT's CACHE IN MEMORY; find. -/
import Derived.Test.YtlikggeceeennaaCac22
import Derived.Test.YtlikggeceeennaaK6
import Derived.Test.YtlikggeceeennaaK7
set_option linter.unusedVariables false
set_option linter.unusedSimpArgs false
namespace Go.Proofs.Ytlikggeceeennaa
open Go Go.RowKit Hach

structure RowR where
  page : Int
  A : Option Addr
  c : Nat
  data : List UInt8
  pins : Int
  dirty : Bool
def rowC (x : RowR) : List Value := [.int .i64 x.page, .slice x.A 512 x.c, .int .i64 x.pins, .bool x.dirty]
theorem rowC_length (x : RowR) : (rowC x).length = 4 := rfl
def visR (x : RowR) : Vis := (x.page, x.data, x.pins, x.dirty)
theorem elemRow : Elem Try.prog 128 174 (.agg #[.int .i64 0, .slice none 0 0, .int .i64 0, .bool false]) 4 48 := ⟨Try.underlying128, by kernel_rfl, rfl, by decide⟩
structure RefAt (w : World) (base b : Nat) (room hit miss : Int) (A : Option Addr) (c : Nat) (R : List RowR) : Prop where
  own : w.heap[b]? = some (.cells #[.int .i64 room, .slice A R.length c, .int .i64 hit, .int .i64 miss] 130 (0, 0))
  rows : w.ownsRow base 174 4 (.slice A R.length c) R.length (R.flatMap rowC)
  data : ∀ x ∈ R, w.ownsRow 0 5 1 (.slice x.A 512 x.c) 512 (x.data.map byteCell)
  low : base ≤ b
section
variable {w w' : World} {base b : Nat} {room hit miss : Int} {A : Option Addr} {c : Nat} {R : List RowR}
theorem RefAt.c0 (h : RefAt w base b room hit miss A c R) : w.cell? ⟨b, 0, none⟩ = some (.int .i64 room) := by unfold World.cell?; rw [show (⟨b, 0, none⟩ : Addr).block = b from rfl, h.own]; rfl
theorem RefAt.c1 (h : RefAt w base b room hit miss A c R) : w.cell? ⟨b, 1, none⟩ = some (.slice A R.length c) := by unfold World.cell?; rw [show (⟨b, 1, none⟩ : Addr).block = b from rfl, h.own]; rfl
theorem RefAt.c2 (h : RefAt w base b room hit miss A c R) : w.cell? ⟨b, 2, none⟩ = some (.int .i64 hit) := by unfold World.cell?; rw [show (⟨b, 2, none⟩ : Addr).block = b from rfl, h.own]; rfl
theorem RefAt.c3 (h : RefAt w base b room hit miss A c R) : w.cell? ⟨b, 3, none⟩ = some (.int .i64 miss) := by unfold World.cell?; rw [show (⟨b, 3, none⟩ : Addr).block = b from rfl, h.own]; rfl
theorem RefAt.fz (h : RefAt w base b room hit miss A c R) (i : Nat) : w.frozen? ⟨b, i, none⟩ = false := by unfold World.frozen?; rw [show (⟨b, i, none⟩ : Addr).block = b from rfl, h.own]; simp
theorem RefAt.lt (h : RefAt w base b room hit miss A c R) : b < w.heap.size := (Array.getElem?_eq_some_iff.1 h.own).1
theorem RefAt.bs (h : RefAt w base b room hit miss A c R) : base ≤ w.heap.size := Nat.le_of_lt (Nat.lt_of_le_of_lt h.low h.lt)
/-- A row of another type is no block of this one. -/
theorem own_ne {w : World} {base : Nat} {e t : TypeId} {size n : Nat} {v : Value} {xs : List Value} {k : Nat} {cs : Array Value} {fr : Nat × Nat} (h : w.ownsRow base e size v n xs) (hk : w.heap[k]? = some (.cells cs t fr)) (hne : e ≠ t) : v.ownBlock ≠ some k := by
  intro e'
  rcases h.2 with ⟨rfl, _⟩ | ⟨g, cap, cur', rfl, _, hg, _⟩
  · cases e'
  · obtain rfl : g = k := by simpa [Value.ownBlock] using e'
    rw [hk] at hg
    injection hg with hg
    injection hg with _ h2 _
    exact hne h2.symm
/-- Behind what writes none of its blocks. -/
theorem RefAt.keep (h : RefAt w base b room hit miss A c R) {S : Nat → Prop} (hf : Fr S w w') (hb : ¬ S b) (hS : ∀ k, S k → k < w.heap.size → ∀ cs fr, w.heap[k]? ≠ some (.cells cs 174 fr) ∧ w.heap[k]? ≠ some (.cells cs 5 fr)) : RefAt w' base b room hit miss A c R := by
  refine ⟨(hf.block b h.lt hb).trans h.own, hf.own h.rows (fun k hk hs => ?_), fun x hx => hf.own (h.data x hx) (fun k hk hs => ?_), h.low⟩
  · rcases h.rows.2 with ⟨hv, _⟩ | ⟨g, cap, cur, hv, _, hg, _⟩
    · rw [hv] at hk; cases hk
    · rw [hv] at hk
      obtain rfl : g = k := by simpa [Value.ownBlock] using hk
      exact (hS g hs (Array.getElem?_eq_some_iff.1 hg).1 _ _).1 hg
  · rcases (h.data x hx).2 with ⟨hv, _⟩ | ⟨g, cap, cur, hv, _, hg, _⟩
    · rw [hv] at hk; cases hk
    · rw [hv] at hk
      obtain rfl : g = k := by simpa [Value.ownBlock] using hk
      exact (hS g hs (Array.getElem?_eq_some_iff.1 hg).1 _ _).2 hg
theorem RefAt.up (h : RefAt w base b room hit miss A c R) (hu : Up w w') : RefAt w' base b room hit miss A c R := h.keep (Fr.of_below hu) id (fun _ f => f.elim)
/-- Row number i, in whatever later world. -/
theorem RefAt.at (h : RefAt w base b room hit miss A c R) (hu : Up w w') {i : Nat} (hi : i < R.length) :
    ∃ g off, A = some ⟨g, off, none⟩ ∧ w'.cell? ⟨g, off + i * 4, none⟩ = some (.int .i64 R[i].page) ∧ w'.cell? ⟨g, off + i * 4 + 1, none⟩ = some (.slice R[i].A 512 R[i].c) ∧
      w'.cell? ⟨g, off + i * 4 + 2, none⟩ = some (.int .i64 R[i].pins) ∧ w'.cell? ⟨g, off + i * 4 + 3, none⟩ = some (.bool R[i].dirty) := by
  obtain ⟨g, off, e, q⟩ := Rd.row rowC_length ((Rd.own h.rows).grown hu) (List.getElem?_eq_getElem hi) (by decide)
  exact ⟨g, off, e, q 0 _ rfl, by rw [Nat.add_assoc]; exact q 1 _ rfl, by rw [Nat.add_assoc]; exact q 2 _ rfl, by rw [Nat.add_assoc]; exact q 3 _ rfl⟩
end

/-- A page's place from k on; below 0: it is not there. -/
def findI (p : Int) : Nat → List RowR → Int
  | _, [] => -1
  | k, x :: l => if x.page = p then (k : Int) else findI p (k + 1) l

set_option maxRecDepth 100000 in
set_option maxHeartbeats 1000000 in
theorem find_calls (w : World) (base b : Nat) (room hit miss : Int) (A : Option Addr) (c : Nat) (R : List RowR) (p : Int) (h : Hid (RefAt w base b room hit miss A c R)) (hl : Hid (R.length < 1000000)) :
    Calls Try.prog 133 #[ptr b, .int .i64 p] w fun en w' => en = .returned (.int .i64 (findI p 0 R)) ∧ Up w w' := by
  obtain ⟨RES, hR⟩ : ∃ z, findI p 0 R = z := ⟨_, rfl⟩
  rw [hR]
  have START : Hid (Up w w ∧ findI p 0 (R.drop 0) = RES) := hid ⟨Up.refl w, hR⟩
  have c1 := h.out.c1
  obtain ⟨n, hn⟩ : ∃ n, R.length = n := ⟨_, rfl⟩
  rw [hn] at c1
  have HN := hid hn
  have HL : Hid (n < 1000000) := hid (by rw [← hn]; exact hl.out)
  clear hR hn
  unfold ptr at *
  go_enter Try.func133, Try.ntmps133
  go_wp2
  clear c1
  go_loopw [12] (fun i wr => ∃ k : Nat, k ≤ n ∧ i = .int .i64 k ∧ Hid (Up w wr ∧ findI p k (R.drop k) = RES)) (fun i _ => n - (intOf i).toNat)
  case atStart => exact ⟨0, Nat.zero_le _, rfl, START⟩
  case round =>
    obtain ⟨k, hk, rfl, iv⟩ := hrel
    by_cases hlt : (k : Int) < n
    · have hkl : k < R.length := by have := HN.out; omega
      obtain ⟨u, he⟩ := iv.out
      obtain ⟨g, off, rfl, q0, q1, q2, q3⟩ := h.out.at u hkl
      rw [List.drop_eq_getElem_cons hkl] at he
      have HX : Hid ((if R[k].page = p then (k : Int) else findI p (k + 1) (R.drop (k + 1))) = RES) := hid he
      generalize R[k] = x at *
      have U1 : Hid (Up w (wr.alloc (.cells #[.int .i64 x.page, .slice x.A 512 x.c, .int .i64 x.pins, .bool x.dirty] 174))) := hid (u.t (show Up _ _ from (Below.refl _ _).alloc (Nat.le_refl _) _))
      have HK := hid (And.intro hkl hlt)
      clear he iv u hkl
      by_cases hp : x.page = p
      · have hres : (k : Int) = RES := by have := HX.out; rwa [if_pos hp] at this
        subst hres
        rw [hp] at U1
        go_wp2
        go_ret
        exact ⟨rfl, U1.out⟩
      · have NX : Hid (findI p (k + 1) (R.drop (k + 1)) = RES) := hid (by have := HX.out; rwa [if_neg hp] at this)
        go_wp2
        go_roundw
        case rel => exact ⟨k + 1, by have := HK.out.2; omega, (by have := HL.out; have := HK.out.2; rw [show wrap64 ((k : Int) + 1) = ((k + 1 : Nat) : Int) by unfold wrap64; omega]), hid ⟨U1.out, NX.out⟩⟩
        case measure => have := HL.out; have := HK.out.2; rw [show wrap64 ((k : Int) + 1) = ((k + 1 : Nat) : Int) by unfold wrap64; omega]; simp only [intOf]; omega
    · have hkk : k = R.length := by have := HN.out; omega
      have hres : RES = -1 := by
        have := iv.out.2
        rw [hkk, List.drop_length] at this
        exact this.symm
      have U := hid iv.out.1
      clear iv hkk
      subst hres
      go_wp2
      go_ret
      exact ⟨rfl, U.out⟩
end Go.Proofs.Ytlikggeceeennaa
