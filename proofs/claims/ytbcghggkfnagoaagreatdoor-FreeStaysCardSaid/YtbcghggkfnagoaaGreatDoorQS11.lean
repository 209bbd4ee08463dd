/- PARTS OF A PROOF, one behind the other: THE PAGER's steps: functions one behind the other, until one errs. THE WALKS of octet's Source: Read, and Num where there are bytes enough. CONDITIONS: none of this text's own. -/
import Derived.Test.YtbcghggkfnagoaaGreatDoorQS10
import Derived.Test.YtbcghggkfnagoaaGreatDoorQS6
set_option linter.unusedVariables false
set_option linter.unusedSimpArgs false
namespace Go.Proofs.YtbcghggkfnagoaaGreatDoor
open Go Go.RowKit Hach

structure FnV where
  f : Nat
  b : Array Value
  c : Array Value
def fnv (x : FnV) : Value := .func (.func x.f) x.b x.c
def StepsRet (n : Nat) (P : Nat → World → Prop) (E : Int → World → Prop) (en : Ending) (w' : World) : Prop :=
  (en = .returned (.int .i64 0) ∧ P n w') ∨ ∃ e, e ≠ 0 ∧ en = .returned (.int .i64 e) ∧ E e w'
set_option maxRecDepth 100000 in
set_option maxHeartbeats 2000000 in
theorem steps_calls (w : World) (A : Option Addr) (c : Nat) (fs : List FnV) (P : Nat → World → Prop) (E : Int → World → Prop) (hl : Hid (fs.length < 1000))
    (hP : Hid (∀ k w', P k w' → Rd w' A (fs.map fnv))) (hent : ∀ x ∈ fs, ∀ (args : Array Value) (w : World), (callFunc x.f args).run Tryz.prog w = .ok (.enter x.f args) w)
    (hs : Hid (∀ k x, fs[k]? = some x → ∀ w', P k w' → Calls Tryz.prog x.f (x.b ++ x.c) w' (StepsRet (k + 1) P E))) (h0 : P 0 w) :
    Calls Tryz.prog 74 #[.slice A fs.length c] w (StepsRet fs.length P E) := by
  obtain ⟨n, hn⟩ : ∃ n, fs.length = n := ⟨_, rfl⟩
  have HN := hid hn
  rw [hn]
  have H0 := hid h0
  clear hn h0
  go_enter Tryz.func74, Tryz.ntmps74
  go_wp2
  go_loopw [8] (fun i wr => ∃ k : Nat, k ≤ n ∧ i = .int .i64 k ∧ Hid (P k wr)) (fun i _ => n - (intOf i).toNat)
  case atStart => exact ⟨0, Nat.zero_le _, rfl, H0⟩
  case round =>
    obtain ⟨k, hk, rfl, iv⟩ := hrel
    by_cases hlt : (k : Int) < n
    · have hkl : k < fs.length := by have := HN.out; omega
      obtain ⟨x, hx⟩ : ∃ x, fs[k]? = some x := ⟨_, List.getElem?_eq_getElem hkl⟩
      obtain ⟨g, off, rfl, hc⟩ := hP.out k _ iv.out k (fnv x) (by rw [List.getElem?_map, hx]; rfl)
      have CX := hs.out k x hx _ iv.out
      have hentx := hent x (List.mem_of_getElem? hx)
      obtain ⟨xf, xb, xc⟩ := x
      simp only [fnv] at hc CX hentx
      clear hx hent
      have hnb : (n : Int) < 1000 := by have := HN.out; have := hl.out; omega
      go_wp2_with fail
      refine CX.mono ?_
      rintro en w2 (⟨rfl, hp⟩ | ⟨e, he, rfl, hq⟩)
      · have HP2 := hid hp
        clear hp
        go_wp2
        go_roundw
        case rel => exact ⟨k + 1, by omega, rfl, HP2⟩
        case measure => simp only [intOf]; omega
      · have HQ := hid hq
        clear hq
        go_wp2
        go_ret
        exact .inr ⟨e, he, rfl, HQ.out⟩
    · have I := iv
      clear iv hent
      have hkn : k = n := by omega
      subst hkn
      go_wp2
      go_ret
      exact .inl ⟨rfl, I.out⟩
end Go.Proofs.YtbcghggkfnagoaaGreatDoor

namespace Go.Proofs.YtbcghggkfnagoaaGreatDoor
open Go.RowKit Hach

theorem hmf (fn : Fn) (first cap : Array Value) (w : World) : (Instr.makeFunc fn first cap).run Tryz.prog w = .ok (.func fn first cap) w := rfl
attribute [local go_sem] hmf

theorem srcIs_calls (w : World) (g : Nat) (h : w.cell? ⟨g, 0, none⟩ = some (.bool true)) :
    Calls Tryz.prog 209 #[.pointer (some ⟨g, 0, none⟩)] w fun e w' => e = .returned (.bool true) ∧ w = w' := by
  go_enter Tryz.func209, Tryz.ntmps209
  go_wp2
  go_ret
  exact ⟨rfl, rfl⟩

theorem get_callsY (w : World) (A : Option Addr) (xs : List UInt8) (c k v n : Nat) (hn : Hid (xs.length = n)) (hp : Hid (Oct.val (xs.take k) = v)) (k1 : (1 : Int) ≤ k) (k8 : (k : Int) ≤ 8) (kn : Hid (k ≤ n ∧ n ≤ 1099511627776)) (hc : Hid (Bytes w A xs)) :
    Calls Tryz.prog 129 #[.slice A n c, .int .i64 k, .bool false] w fun e w' => e = .returned (.tuple #[.int .u64 (v : Int), .bool true]) ∧ w = w' := by
  have e := hn.out
  subst e
  exact get_callsX w A xs c k v k rfl hp (by omega) (by omega) kn.out.1 kn.out.2 hc

set_option maxHeartbeats 1000000 in
theorem num1_calls (w : World) (g x4 x3 x5 x7 n c k v : Nat) (A : Option Addr) (xs : List UInt8) (old : Value)
    (c4 : w.cell? ⟨x4, 0, none⟩ = some (.int .i64 k)) (c3 : w.cell? ⟨x3, 0, none⟩ = some (.pointer (some ⟨g, 0, none⟩))) (c5 : w.cell? ⟨x5, 0, none⟩ = some (.bool false))
    (c7 : w.cell? ⟨x7, 0, none⟩ = some old) (f7 : w.frozen? ⟨x7, 0, none⟩ = false) (cg : w.cell? ⟨g, 1, none⟩ = some (.slice A n c))
    (d4 : x7 ≠ x4) (d3 : x7 ≠ x3) (d5 : x7 ≠ x5) (dg : x7 ≠ g)
    (k1 : (1 : Int) ≤ k) (k8 : (k : Int) ≤ 8) (kn : Hid (k ≤ n ∧ n ≤ 1099511627776)) (hn : Hid (xs.length = n)) (hp : Hid (Oct.val (xs.take k) = v)) (hb : Hid (Bytes w A xs)) :
    Calls Tryz.prog 207 #[.pointer (some ⟨x4, 0, none⟩), .pointer (some ⟨x3, 0, none⟩), .pointer (some ⟨x5, 0, none⟩), .pointer (some ⟨x7, 0, none⟩)] w
      fun e w' => e = .returned (.tuple #[.int .i64 k, .int .i64 0]) ∧ w' = (w.setCell ⟨x7, 0, none⟩ (.int .u64 v)).drew := by
  have hb' : Hid (Bytes w.drew A xs) := hid (show Bytes w A xs from hb.out)
  go_enter Tryz.func207, Tryz.ntmps207
  go_wp2
  go_region_held3 (fun w' => w'.cell? ⟨x3, 0, none⟩ = some (.pointer (some ⟨g, 0, none⟩)) ∧ w'.cell? ⟨g, 1, none⟩ = some (.slice A n c) ∧ w'.cell? ⟨x4, 0, none⟩ = some (.int .i64 k) ∧ w'.cell? ⟨x5, 0, none⟩ = some (.bool false))
    (first | exact ⟨c3, cg, c4, c5⟩ | go_keep)
    (first
      | (go_at_call 129; refine (get_callsY _ A xs c k v n hn hp k1 k8 kn hb').mono ?_; rintro e w' ⟨rfl, rfl⟩))
  rename_i K1 h1 hHeld
  have e4 := hHeld.2.2.1
  clear hHeld
  show K1 _ _
  refine h1 _ _ ?_
  clear h1 K1
  go_wp2
  go_ret2
  exact ⟨rfl, rfl⟩

def SrcStep (w : World) (g x7 n c k v b off : Nat) (e : Ending) (w' : World) : Prop :=
  e = .returned (.tuple #[]) ∧ ∃ off', (off' = off + k ∨ k = n) ∧ w' = ((w.setCell ⟨x7, 0, none⟩ (.int .u64 v)).drew).setCell ⟨g, 1, none⟩ (.slice (some ⟨b, off', none⟩) (n - k) (c - k))

set_option maxHeartbeats 1000000 in
theorem step_calls (w : World) (g x4 x3 x5 x7 n c k v b off : Nat) (xs : List UInt8) (old : Value)
    (c4 : w.cell? ⟨x4, 0, none⟩ = some (.int .i64 k)) (c3 : w.cell? ⟨x3, 0, none⟩ = some (.pointer (some ⟨g, 0, none⟩))) (c5 : w.cell? ⟨x5, 0, none⟩ = some (.bool false))
    (c7 : w.cell? ⟨x7, 0, none⟩ = some old) (f7 : w.frozen? ⟨x7, 0, none⟩ = false) (cg0 : w.cell? ⟨g, 0, none⟩ = some (.bool true)) (cg : w.cell? ⟨g, 1, none⟩ = some (.slice (some ⟨b, off, none⟩) n c)) (cg2 : w.cell? ⟨g, 2, none⟩ = some (.int .i64 0)) (fg : w.frozen? ⟨g, 1, none⟩ = false)
    (d4 : x7 ≠ x4) (d3 : x7 ≠ x3) (d5 : x7 ≠ x5) (dg : x7 ≠ g)
    (k1 : (1 : Int) ≤ k) (k8 : (k : Int) ≤ 8) (kn : Hid (k ≤ n ∧ n ≤ 1099511627776)) (kn' : (k : Int) ≤ n) (nc : n ≤ c) (hn : Hid (xs.length = n)) (hp : Hid (Oct.val (xs.take k) = v)) (hb : Hid (Bytes w (some ⟨b, off, none⟩) xs)) :
    Calls Tryz.prog 206 #[.pointer (some ⟨g, 0, none⟩), .func (.func 207) #[] #[.pointer (some ⟨x4, 0, none⟩), .pointer (some ⟨x3, 0, none⟩), .pointer (some ⟨x5, 0, none⟩), .pointer (some ⟨x7, 0, none⟩)]] w
      (SrcStep w g x7 n c k v b off) := by
  go_enter Tryz.func206, Tryz.ntmps206
  go_wp2_with (first
    | (go_at_call 209; refine (srcIs_calls _ g cg0).mono ?_; rintro e w' ⟨rfl, rfl⟩)
    | (go_at_call 207; refine (num1_calls _ g x4 x3 x5 x7 n c k v _ xs old c4 c3 c5 c7 f7 cg d4 d3 d5 dg k1 k8 kn hn hp hb).mono ?_; rintro e w' ⟨rfl, rfl⟩))
  · go_end0
    exact ⟨rfl, off, .inr (by omega), by rw [Nat.sub_self]; rfl⟩
  · go_end0
    exact ⟨rfl, off + k, .inl rfl, rfl⟩

def SrcAt (w : World) (g : Nat) (xs : List UInt8) : Prop :=
  ∃ A c, w.cell? ⟨g, 0, none⟩ = some (.bool true) ∧ w.cell? ⟨g, 1, none⟩ = some (.slice A xs.length c) ∧ w.cell? ⟨g, 2, none⟩ = some (.int .i64 0) ∧ w.frozen? ⟨g, 1, none⟩ = false ∧ xs.length ≤ c ∧ Bytes w A xs ∧ (∀ b off, A = some ⟨b, off, none⟩ → b ≠ g)

set_option maxHeartbeats 1000000 in
theorem srcNum_calls (w : World) (g k v : Nat) (S : Int) (xs : List UInt8) (hS : S = k) (k1 : (1 : Int) ≤ k) (k8 : (k : Int) ≤ 8) (kn : Hid (k ≤ xs.length ∧ xs.length ≤ 1099511627776)) (hp : Hid (Oct.val (xs.take k) = v)) (hs : Hid (SrcAt w g xs)) :
    Calls Tryz.prog 197 #[.pointer (some ⟨g, 0, none⟩), .int .i64 S, .bool false] w fun e w' => e = .returned (.int .u64 v) ∧ Hid (SrcAt w' g (xs.drop k)) ∧ Hid (Fr (fun i => i = g) w w') := by
  subst hS
  obtain ⟨A, c, s0, s1, s2, sf, nc, hb, hd⟩ := hs.out
  obtain ⟨b, off, rfl, _⟩ := hb 0 (by have := kn.out; omega)
  have hbg := hd b off rfl
  obtain ⟨n, hn⟩ : ∃ n, xs.length = n := ⟨_, rfl⟩
  have HN := hid hn
  have HB := hid hb
  rw [hn] at s1 nc kn
  have kn' : (k : Int) ≤ n := by have := kn.out.1; omega
  have hg := World.block_lt_of_cell? _ _ s0
  clear hn hb hd
  have hmk : ∀ w0 : World, w0 = (((w.alloc (Obj.cells #[.pointer (some ⟨g, 0, none⟩)] 250)).alloc (Obj.cells #[.int .i64 k] 3)).alloc (Obj.cells #[.bool false] 4)).alloc (Obj.cells #[.int .u64 0] 142) →
      (w0.cell? ⟨w.heap.size, 0, none⟩ = some (.pointer (some ⟨g, 0, none⟩)) ∧ w0.cell? ⟨w.heap.size + 1, 0, none⟩ = some (.int .i64 k) ∧ w0.cell? ⟨w.heap.size + 1 + 1, 0, none⟩ = some (.bool false) ∧ w0.cell? ⟨w.heap.size + 1 + 1 + 1, 0, none⟩ = some (.int .u64 0) ∧ w0.frozen? ⟨w.heap.size + 1 + 1 + 1, 0, none⟩ = false ∧ w0.frozen? ⟨g, 1, none⟩ = false) ∧ Below w.heap.size w w0 := by
    rintro w0 rfl
    have bb : Below w.heap.size w ((((w.alloc (Obj.cells #[.pointer (some ⟨g, 0, none⟩)] 250)).alloc (Obj.cells #[.int .i64 k] 3)).alloc (Obj.cells #[.bool false] 4)).alloc (Obj.cells #[.int .u64 0] 142)) := ((((Below.refl _ _).alloc (Nat.le_refl _) _).alloc (by simp) _).alloc (by simp; omega) _).alloc (by simp; omega) _
    exact ⟨⟨by go_simp, by go_simp, by go_simp, by go_simp, by go_simp, (Below.frozen bb (p := ⟨g, 1, none⟩) hg).trans sf⟩, bb⟩
  go_enter Tryz.func197, Tryz.ntmps197
  go_wp2_with fail
  obtain ⟨⟨e0, e1, e2, e3, e4, e5⟩, b0⟩ := hmk _ rfl
  clear hmk
  generalize (((w.alloc (Obj.cells #[.pointer (some ⟨g, 0, none⟩)] 250)).alloc (Obj.cells #[.int .i64 k] 3)).alloc (Obj.cells #[.bool false] 4)).alloc (Obj.cells #[.int .u64 0] 142) = w0 at *
  have t0 := (b0.cell (p := ⟨g, 0, none⟩) hg).trans s0
  have t1 := (b0.cell (p := ⟨g, 1, none⟩) hg).trans s1
  have t2 := (b0.cell (p := ⟨g, 2, none⟩) hg).trans s2
  have B0 := hid b0
  have HB0 := hid (HB.out.grown b0)
  refine (step_calls w0 g _ _ _ _ n c k v b off xs _ e1 e0 e2 e3 e4 t0 t1 t2 e5 (by omega) (by omega) (by omega) (by omega) k1 k8 kn kn' nc HN hp HB0).mono ?_
  rintro e w2 ⟨rfl, off', ho, rfl⟩
  have hx : w.heap.size + 1 + 1 + 1 ≠ g := by omega
  have z0 := World.block_lt_of_cell? _ _ e3
  have l7 : (((w0.setCell ⟨w.heap.size + 1 + 1 + 1, 0, none⟩ (.int .u64 v)).drew).setCell ⟨g, 1, none⟩ (.slice (some ⟨b, off', none⟩) (n - k) (c - k))).cell? ⟨w.heap.size + 1 + 1 + 1, 0, none⟩ = some (.int .u64 v) := by go_simp
  have l0 : (((w0.setCell ⟨w.heap.size + 1 + 1 + 1, 0, none⟩ (.int .u64 v)).drew).setCell ⟨g, 1, none⟩ (.slice (some ⟨b, off', none⟩) (n - k) (c - k))).cell? ⟨g, 0, none⟩ = some (.bool true) := by go_simp
  have l1 : (((w0.setCell ⟨w.heap.size + 1 + 1 + 1, 0, none⟩ (.int .u64 v)).drew).setCell ⟨g, 1, none⟩ (.slice (some ⟨b, off', none⟩) (n - k) (c - k))).cell? ⟨g, 1, none⟩ = some (.slice (some ⟨b, off', none⟩) (n - k) (c - k)) := by go_simp
  have l2 : (((w0.setCell ⟨w.heap.size + 1 + 1 + 1, 0, none⟩ (.int .u64 v)).drew).setCell ⟨g, 1, none⟩ (.slice (some ⟨b, off', none⟩) (n - k) (c - k))).cell? ⟨g, 2, none⟩ = some (.int .i64 0) := by go_simp
  have lf : (((w0.setCell ⟨w.heap.size + 1 + 1 + 1, 0, none⟩ (.int .u64 v)).drew).setCell ⟨g, 1, none⟩ (.slice (some ⟨b, off', none⟩) (n - k) (c - k))).frozen? ⟨g, 1, none⟩ = false := by go_simp
  have F : Fr (fun i => i = g) w (((w0.setCell ⟨w.heap.size + 1 + 1 + 1, 0, none⟩ (.int .u64 v)).drew).setCell ⟨g, 1, none⟩ (.slice (some ⟨b, off', none⟩) (n - k) (c - k))) :=
    ((((Fr.of_below B0.out).mono (T := fun i => i = g) (fun _ h => h.elim)).setCell (p := ⟨w.heap.size + 1 + 1 + 1, 0, none⟩) (fun h => by simp at h; omega) _).drew).setCell (fun _ => rfl) _
  have LL := hid (And.intro l0 (And.intro l1 (And.intro l2 (And.intro lf F))))
  generalize ((w0.setCell ⟨w.heap.size + 1 + 1 + 1, 0, none⟩ (.int .u64 v)).drew).setCell ⟨g, 1, none⟩ (.slice (some ⟨b, off', none⟩) (n - k) (c - k)) = w2 at *
  clear l0 l1 l2 lf F hx z0 e0 e1 e2 e3 e4 e5 t0 t1 t2 HB0
  go_wp2
  go_ret
  obtain ⟨l0, l1, l2, lf, F⟩ := LL.out
  refine ⟨rfl, hid ⟨some ⟨b, off', none⟩, c - k, l0, by rw [List.length_drop, HN.out]; exact l1, l2, lf, by rw [List.length_drop, HN.out]; omega, ?_, ?_⟩, hid F⟩
  · intro j hj
    rw [List.length_drop, HN.out] at hj
    obtain ⟨b', o', e, q⟩ := (HB.out.rd.fr F (fun b1 o1 h => by injection h with h; injection h with h _ _; subst h; exact hbg)).bytes (k + j) (by rw [HN.out]; omega)
    injection e with e; injection e with e1 e2
    subst e1; subst e2
    refine ⟨b, off', rfl, ?_⟩
    have : off' = off + k := by omega
    subst this
    rw [Nat.add_assoc, q, List.getElem?_drop]
  · rintro b1 o1 h
    injection h with h; injection h with h _ _; subst h; exact hbg

set_option maxHeartbeats 1000000 in
theorem srcRead_calls (w : World) (A : Option Addr) (xs : List UInt8) (c : Nat) (hl : Hid (xs.length ≤ 1099511627776)) (hc : Hid (Bytes w A xs)) :
    Calls Tryz.prog 196 #[.slice A xs.length c] w fun e w' => ∃ g, e = .returned (.pointer (some ⟨g, 0, none⟩)) ∧ Hid (w.heap.size ≤ g ∧ SrcAt w' g xs ∧ Below w.heap.size w w') := by
  go_enter Tryz.func196, Tryz.ntmps196
  go_wp2_with fail
  refine (clone_calls _ A xs c hl.out hc).mono ?_
  rintro e w2 ⟨A2, c2, rfl, o2, b2⟩
  generalize hm : xs.length = m at *
  have HM := hid hm
  unfold OwnB at o2
  rw [hm] at o2
  have O2 := hid o2
  have B2 := hid b2
  clear o2 b2 hm hc hl
  go_wp2
  go_ret
  have b3 := B2.out.alloc B2.out.size (.cells #[.bool true, .slice A2 m c2, .int .i64 0] 263)
  obtain ⟨_, _, he, hle⟩ := own_form O2.out
  injection he with e1 _ e3
  refine ⟨w2.heap.size, rfl, hid ⟨B2.out.size, ⟨A2, c2, by go_simp, by rw [HM.out]; go_simp, by go_simp, by go_simp, by rw [HM.out]; omega, ?_, ?_⟩, b3⟩⟩
  · exact Bytes.grown (Rd.bytes (Rd.own O2.out)) ((Below.refl _ _).alloc (Nat.le_refl _) _)
  · rintro b1 o1 rfl
    have := O2.out.lt b1 (by simp [Value.ownBlock])
    omega
end Go.Proofs.YtbcghggkfnagoaaGreatDoor
