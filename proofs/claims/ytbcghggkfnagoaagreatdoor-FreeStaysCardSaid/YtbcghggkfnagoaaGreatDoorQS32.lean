/- PARTS OF A PROOF, one behind the other: WHAT A CRASH LEAVES, and what comes back, in plain: a disk with pages and a rollback journal. THE JOURNAL of a commit, as sectors: what is recovered from it, whatever a crash keeps of it. CONDITIONS: none of this text's own. -/
import Derived.Test.YtbcghggkfnagoaaGreatDoorQS31
import Derived.Test.YtbcghggkfnagoaaGreatDoorQS21
set_option linter.unusedVariables false
set_option linter.unusedSimpArgs false
namespace Go.Proofs.YtbcghggkfnagoaaGreatDoor
open Go Go.RowKit Go.Maps Hach

def hotS (J : List Sec) : Bool := Jrn.hotB J.flatten
def parseS (J : List Sec) : Option (Nat × List (Int × List UInt8)) := if Jrn.parseOk J.flatten = true then some (Jrn.hdP J.flatten, Jrn.recsOf J.flatten (Jrn.hdC J.flatten)) else none
theorem hot_nil : hotS [] = false := rfl
def writesB (D : DiskV) : List (Int × List UInt8) → DiskV × Int
  | [] => (D, 0)
  | y :: r => if (writeR D 0 (placeV y.1) (secs4 y.2)).2 = 0 then writesB (writeR D 0 (placeV y.1) (secs4 y.2)).1 r else writeR D 0 (placeV y.1) (secs4 y.2)
def restsR (D : DiskV) : List (Int × List UInt8) → DiskV × Int
  | [] => (D, 0)
  | r :: l => if (D.f0.now.length : Int) < placeV r.1 then (D, 9) else if (writeR D 0 (placeV r.1) (secs4 r.2)).2 = 0 then restsR (writeR D 0 (placeV r.1) (secs4 r.2)).1 l else writeR D 0 (placeV r.1) (secs4 r.2)
def restoreR (D : DiskV) (n : Nat) (R : List (Int × List UInt8)) : DiskV × Int :=
  if (restsR D R).2 = 0 then seqR (restsR D R).1 [fun D => pcutR D n, fun D => syncR D 0] else restsR D R
def recoverR (D : DiskV) : DiskV × Int :=
  if hotS D.f1.now = true then (match parseS D.f1.now with | none => (D, 9) | some (n, R) => restoreR D n R) else (D, 0)
def wholeE (D : DiskV) : Int := if D.f0.now.length % 4 = 0 ∧ D.f0.now.length / 4 ≤ 4000 then 0 else 9
def openR (D : DiskV) : DiskV × Int := seqR D [recoverR, cleanR, fun D => (D, wholeE D)]
def failD (r : DiskV × Int) (gs : List (DiskV → DiskV × Int)) : DiskV × Int := if r.2 = 3 then (if (seqR r.1 gs).2 = 0 then ((seqR r.1 gs).1, 3) else seqR r.1 gs) else r
def dataGB (L : List (Int × List UInt8)) (n : Nat) : List (DiskV → DiskV × Int) := [fun D => writesB D L, fun D => syncR D 0, fun D => pcutR D n, cleanR]
def commitD (D : DiskV) (XS Y : List Sec) (L : List (Int × List UInt8)) (n cnt : Nat) (R : List (Int × List UInt8)) : DiskV × Int :=
  if (seqR D (jouGs XS Y)).2 = 0 then
    (if (seqR (seqR D (jouGs XS Y)).1 (dataGB L n)).2 = 0 then seqR (seqR D (jouGs XS Y)).1 (dataGB L n)
     else failD (seqR (seqR D (jouGs XS Y)).1 (dataGB L n)) [fun D => restoreR D cnt R, cleanR])
  else failD (seqR D (jouGs XS Y)) [cleanR]
structure CrashE (D E : DiskV) : Prop where
  f0 : CrashOf D.f0 E.f0
  f1 : CrashOf D.f1 E.f1
  on : E.on = false
  armed : E.armed = 0
  room : E.room = D.room
theorem crashE_of {D : DiskV} {m : Int} (h : Fit D m) : CrashE D (crashV D.keep D.torn (tick D)) := by
  have := crashV_of (D := tick D) D.keep D.torn h.ok0 h.ok1
  exact ⟨this.f0, this.f1, this.on, this.armed, this.room⟩
theorem tick0 {D : DiskV} (h : D.armed = 0) : (tick D).armed = 0 := by unfold tick; simp only [h]; rfl
theorem fileNr_idx' (b : Bool) : fileNr (idx b) = some b := by cases b <;> rfl
theorem write_cases {D : DiskV} {m : Int} (hf : Fit D m) (hon : D.on = true) (b : Bool) (a : Nat) {ss : List Sec} (ha : a ≤ (D.fl b).now.length) (hs : ss ≠ []) :
    (D.armed = 1 ∧ (writeR D (idx b) a ss).2 = 4 ∧ CrashE D (writeR D (idx b) a ss).1) ∨
    (D.armed ≠ 1 ∧ D.room - ((D.fl (!b)).now.length : Int) < (max (a + ss.length) (D.fl b).now.length : Nat) ∧ writeR D (idx b) a ss = (tick D, 3)) ∨
    (D.armed ≠ 1 ∧ ¬ D.room - ((D.fl (!b)).now.length : Int) < (max (a + ss.length) (D.fl b).now.length : Nat) ∧ writeR D (idx b) a ss = ((tick D).setF b (putsF (D.fl b) a ss), 0)) := by
  have e : writeR D (idx b) a ss = (opV D (writeV b a ss (tick D)), opR D (if isFull b a ss.length (tick D) then 3 else 0)) := by
    unfold writeR
    rw [if_neg (by rw [hon]; decide), fileNr_idx']
    simp only
    rw [if_neg (by omega), if_neg hs, Int.toNat_natCast]
  have hfull : isFull b a ss.length (tick D) = decide (D.room - ((D.fl (!b)).now.length : Int) < (max (a + ss.length) (D.fl b).now.length : Nat)) := by
    unfold isFull; cases b <;> rfl
  rw [e]
  rcases op_cases D (writeV b a ss (tick D)) (if isFull b a ss.length (tick D) then 3 else 0) with ⟨h1, h2, h3⟩ | ⟨h1, h2, h3⟩
  · exact .inl ⟨h1, h3, by rw [h2]; exact crashE_of hf⟩
  · rw [h2, h3, hfull]
    by_cases hr : D.room - ((D.fl (!b)).now.length : Int) < (max (a + ss.length) (D.fl b).now.length : Nat)
    · refine .inr (.inl ⟨h1, hr, ?_⟩)
      unfold writeV
      rw [hfull, decide_eq_true hr]; rfl
    · refine .inr (.inr ⟨h1, hr, ?_⟩)
      unfold writeV
      rw [hfull, decide_eq_false hr]
      cases b <;> rfl
theorem sync_cases {D : DiskV} {m : Int} (hf : Fit D m) (hon : D.on = true) (b : Bool) :
    (D.armed = 1 ∧ (syncR D (idx b)).2 = 4 ∧ CrashE D (syncR D (idx b)).1) ∨ (D.armed ≠ 1 ∧ syncR D (idx b) = ((tick D).setF b (settleF (D.fl b)), 0)) := by
  have e : syncR D (idx b) = (opV D (syncV b (tick D)), opR D 0) := by
    unfold syncR
    rw [if_neg (by rw [hon]; decide), fileNr_idx']
  rw [e]
  rcases op_cases D (syncV b (tick D)) 0 with ⟨h1, h2, h3⟩ | ⟨h1, h2, h3⟩
  · exact .inl ⟨h1, h3, by rw [h2]; exact crashE_of hf⟩
  · refine .inr ⟨h1, ?_⟩
    rw [h2, h3]
    cases b <;> rfl
theorem cut_cases {D : DiskV} {m : Int} (hf : Fit D m) (hon : D.on = true) (b : Bool) (k : Nat) (hk : k ≤ (D.fl b).now.length) :
    (D.armed = 1 ∧ (cutR D (idx b) k).2 = 4 ∧ CrashE D (cutR D (idx b) k).1) ∨ (D.armed ≠ 1 ∧ cutR D (idx b) k = ((tick D).setF b (cutF k (D.fl b)), 0)) := by
  have e : cutR D (idx b) k = (opV D (cutV b k (tick D)), opR D 0) := by
    unfold cutR
    rw [if_neg (by rw [hon]; decide), fileNr_idx']
    simp only
    rw [if_neg (by omega), Int.toNat_natCast]
  rw [e]
  rcases op_cases D (cutV b k (tick D)) 0 with ⟨h1, h2, h3⟩ | ⟨h1, h2, h3⟩
  · exact .inl ⟨h1, h3, by rw [h2]; exact crashE_of hf⟩
  · refine .inr ⟨h1, ?_⟩
    rw [h2, h3]
    cases b <;> rfl
theorem set0 (D : DiskV) (f : FileV) : (D.setF false f).f0 = f ∧ (D.setF false f).f1 = D.f1 ∧ (D.setF false f).on = D.on ∧ (D.setF false f).room = D.room ∧ (D.setF false f).armed = D.armed := ⟨rfl, rfl, rfl, rfl, rfl⟩
theorem set1 (D : DiskV) (f : FileV) : (D.setF true f).f1 = f ∧ (D.setF true f).f0 = D.f0 ∧ (D.setF true f).on = D.on ∧ (D.setF true f).room = D.room ∧ (D.setF true f).armed = D.armed := ⟨rfl, rfl, rfl, rfl, rfl⟩
/-! ### a journal that is hot -/
structure GoodR (S : List (List UInt8)) (R : List (Int × List UInt8)) : Prop where
  keys : R.Pairwise fun a b => a.1 < b.1
  all : ∀ r ∈ R, ∃ y : Nat, r.1 = (y : Int) ∧ 1 ≤ y ∧ y ≤ S.length ∧ S[y - 1]? = some r.2
  len : ∀ b ∈ S, b.length = 512
structure HotD (D : DiskV) (S : List (List UInt8)) (R : List (Int × List UInt8)) (J : List Sec) : Prop where
  jou : D.f1.now = J
  old : D.f1.old = []
  sure : D.f1.sure = D.f1.now.length
  data : ∀ y, 1 ≤ y → y ≤ S.length → (∀ r ∈ R, r.1 ≠ (y : Int)) → PageClean D.f0 y (S[y - 1]?.getD [])
  fits : ((4 * S.length + J.length : Nat) : Int) ≤ D.room
theorem CrashOf.same {f g : FileV} (h : CrashOf f g) (ho : f.old = []) (hs : f.sure = f.now.length) : g.now = f.now := by
  have hl : g.now.length = f.now.length := by have := h.lo; have := h.hi; omega
  refine List.ext_getElem? fun i => ?_
  by_cases hi : i < g.now.length
  · exact h.clean i hi (by rw [ho]; rfl)
  · rw [List.getElem?_eq_none (by omega), List.getElem?_eq_none (by omega)]
theorem HotD.crash {D E : DiskV} {S : List (List UInt8)} {R : List (Int × List UInt8)} {J : List Sec} (h : HotD D S R J) (hc : CrashE D E) : HotD E S R J := by
  have e := hc.f1.same h.old h.sure
  exact ⟨e.trans h.jou, hc.f1.old, hc.f1.sure, fun y h1 h2 h3 => (h.data y h1 h2 h3).crash h1 hc.f0, by rw [hc.room]; exact h.fits⟩
def Prog (f : FileV) (S : List (List UInt8)) (todo : List (Int × List UInt8)) : Prop := ∀ y, 1 ≤ y → y ≤ S.length → (∀ r ∈ todo, r.1 ≠ (y : Int)) → PageIn f y (S[y - 1]?.getD [])
theorem placeV_nat {y : Nat} (h : 1 ≤ y) : placeV (y : Int) = ((4 * (y - 1) : Nat) : Int) := by unfold placeV; omega
structure Out (D E : DiskV) (c : Int) : Prop where
  cs : c = 0 ∨ c = 4
  on : c = 0 → E.on = true
  off : c = 4 → E.on = false ∧ D.armed ≠ 0
  arm : D.armed = 0 → E.armed = 0
theorem rests_spec {S : List (List UInt8)} {R : List (Int × List UInt8)} {J : List Sec} (hR : GoodR S R) : ∀ (todo done : List (Int × List UInt8)) (D : DiskV) (m : Int), R = done ++ todo → HotD D S R J → Prog D.f0 S todo → D.on = true → Fit D (m + todo.length) → 0 ≤ m →
    Out D (restsR D todo).1 (restsR D todo).2 ∧ HotD (restsR D todo).1 S R J ∧ Fit (restsR D todo).1 m ∧ ((restsR D todo).2 = 0 → Prog (restsR D todo).1.f0 S []) := by
  intro todo
  induction todo with
  | nil =>
    intro done D m hd hh hp hon hf hm
    exact ⟨⟨.inl rfl, fun _ => hon, fun h => (by cases h), fun h => h⟩, hh, hf.less (by simp), fun _ => hp⟩
  | cons r todo ih =>
    intro done D m hd hh hp hon hf hm
    obtain ⟨y, hy, h1, h2, h3⟩ := hR.all r (by rw [hd]; simp)
    have hrl : r.2.length = 512 := hR.len _ (List.mem_of_getElem? h3)
    have hks := hR.keys
    rw [hd, List.pairwise_append, List.pairwise_cons] at hks
    have hlen : 4 * (y - 1) ≤ D.f0.now.length := by
      by_cases hy1 : y = 1
      · subst hy1; omega
      · have := (hp (y - 1) (by omega) (by omega) (fun s hs e => by
          rcases List.mem_cons.1 hs with rfl | hs
          · omega
          · have := hks.2.1.1 s hs; omega)).lt (by omega)
        omega
    have hpl : placeV r.1 = ((4 * (y - 1) : Nat) : Int) := by rw [hy]; exact placeV_nat h1
    have hf' : Fit D ((m + todo.length) + 1) := hf.less (by rw [List.length_cons]; omega)
    unfold restsR
    rw [if_neg (by rw [hpl]; omega), hpl]
    have hne : secs4 r.2 ≠ [] := fun e => by have := secs4_len r.2; rw [e] at this; cases this
    have hfw := hf'.write (by omega) 0 ((4 * (y - 1) : Nat) : Int) (secs4_whole hrl)
    rcases write_cases hf' hon false (4 * (y - 1)) (ss := secs4 r.2) hlen hne with ⟨ha, hc, hE⟩ | ⟨ha, hfull, _⟩ | ⟨ha, hfull, he⟩
    · have hc : (writeR D 0 ((4 * (y - 1) : Nat) : Int) (secs4 r.2)).2 = 4 := hc
      have hE : CrashE D (writeR D 0 ((4 * (y - 1) : Nat) : Int) (secs4 r.2)).1 := hE
      rw [if_neg (by rw [hc]; decide)]
      exact ⟨⟨.inr hc, fun h => (by rw [hc] at h; cases h), fun _ => ⟨hE.on, (by rw [ha]; decide)⟩, fun h => (by rw [ha] at h; cases h)⟩, hh.crash hE, hfw.less (by omega), fun h => (by rw [hc] at h; cases h)⟩
    · exfalso
      have := hf'.num.size
      have := hh.fits
      rw [hh.jou] at *
      simp only [DiskV.fl, Bool.not_false, secs4_len] at hfull
      rw [hh.jou] at hfull
      omega
    · obtain ⟨D1, hD1⟩ : ∃ D1, D1 = (tick D).setF false (putsF D.f0 (4 * (y - 1)) (secs4 r.2)) := ⟨_, rfl⟩
      obtain ⟨e0, e1, e2, e3, e4⟩ := set0 (tick D) (putsF D.f0 (4 * (y - 1)) (secs4 r.2))
      rw [← hD1] at e0 e1 e2 e3 e4
      have e1 : D1.f1 = D.f1 := e1
      have e2 : D1.on = true := e2.trans hon
      have e3 : D1.room = D.room := e3
      have he : writeR D 0 ((4 * (y - 1) : Nat) : Int) (secs4 r.2) = (D1, 0) := by rw [hD1]; exact he
      rw [he] at hfw ⊢
      rw [if_pos rfl]
      clear hD1 he
      have hH : HotD D1 S R J := by
        refine ⟨by rw [e1]; exact hh.jou, by rw [e1]; exact hh.old, by rw [e1]; exact hh.sure, fun z hz1 hz2 hz3 => ?_, by rw [e3]; exact hh.fits⟩
        have hzy : z ≠ y := fun e => hz3 r (by rw [hd]; simp) (by rw [hy, e])
        rw [e0]
        exact (hh.data z hz1 hz2 hz3).other hz1 h1 hzy hlen r.2
      have hp1 : Prog D1.f0 S todo := by
        intro z hz1 hz2 hz3
        rw [e0]
        by_cases hzy : z = y
        · subst hzy
          rw [h3]
          exact PageIn.self h1 hlen r.2
        · exact (hp z hz1 hz2 (fun s hs => by
            rcases List.mem_cons.1 hs with rfl | hs
            · intro e; omega
            · exact hz3 s hs)).other hz1 h1 hzy hlen r.2
      obtain ⟨k1, k2, k3, k4⟩ := ih (done ++ [r]) D1 m (by rw [hd]; simp) hH hp1 e2 hfw hm
      refine ⟨⟨k1.cs, k1.on, fun h => ⟨(k1.off h).1, fun h0 => (k1.off h).2 (by rw [e4]; exact tick0 h0)⟩, fun h => k1.arm (by rw [e4]; exact tick0 h)⟩, k2, k3, k4⟩

theorem seqR_cons (D : DiskV) (g : DiskV → DiskV × Int) (r : List (DiskV → DiskV × Int)) : seqR D (g :: r) = if (g D).2 = 0 then seqR (g D).1 r else g D := rfl
theorem seqR_nil (D : DiskV) : seqR D [] = (D, 0) := rfl
theorem cutL_none {L : Olds} {k : Int} {j : Int} (h : getL L j = none) : getL (cutL L k) j = none := by
  unfold getL at h ⊢
  cases hf : (cutL L k).find? (fun q => decide (q.1 = j)) with
  | none => rfl
  | some q =>
    have h1 := List.mem_of_find?_eq_some hf
    have h2 : q.1 = j := of_decide_eq_true (p := q.1 = j) (List.find?_some (p := fun q : Int × Sec => decide (q.1 = j)) hf)
    exact absurd h2 (getL_none_iff (by unfold getL; exact h) q (List.mem_filter.1 h1).1)
theorem PageIn.cut {f : FileV} {y k : Nat} {b : List UInt8} (h : PageIn f y b) (hy : 1 ≤ y) (hk : 4 * y ≤ k) : PageIn (cutF k f) y b := by
  intro j hj
  show (f.now.take k)[4 * (y - 1) + j]? = _
  rw [List.getElem?_take, if_pos (by omega)]
  exact h j hj
theorem PageClean.cut {f : FileV} {y k : Nat} {b : List UInt8} (h : PageClean f y b) (hy : 1 ≤ y) (hk : 4 * y ≤ k) : PageClean (cutF k f) y b :=
  ⟨h.inn.cut hy hk, hk, fun j hj => cutL_none (h.clean j hj)⟩
theorem PageClean.settle {f : FileV} {y : Nat} {b : List UInt8} (h : PageIn f y b) (hy : 1 ≤ y) : PageClean (settleF f) y b :=
  ⟨h, h.lt hy, fun j hj => rfl⟩
section
variable {S : List (List UInt8)} {R : List (Int × List UInt8)} {J : List Sec} {D E : DiskV}
theorem Out.trans {D E G : DiskV} {c : Int} (h : Out D E 0) (k : Out E G c) : Out D G c :=
  ⟨k.cs, k.on, fun e => ⟨(k.off e).1, fun h0 => (k.off e).2 (h.arm h0)⟩, fun h0 => k.arm (h.arm h0)⟩
theorem Out.refl {D : DiskV} (h : D.on = true) : Out D D 0 := ⟨.inl rfl, fun _ => h, fun e => (by cases e), fun h => h⟩
theorem Out.crash {D E : DiskV} (ha : D.armed = 1) (hE : CrashE D E) : Out D E 4 := ⟨.inr rfl, fun e => (by cases e), fun _ => ⟨hE.on, (by rw [ha]; decide)⟩, fun h => (by rw [ha] at h; cases h)⟩
theorem Out.done {D E : DiskV} (hon : E.on = true) (ha : E.armed = (tick D).armed) : Out D E 0 := ⟨.inl rfl, fun _ => hon, fun e => (by cases e), fun h => (by rw [ha]; exact tick0 h)⟩
theorem tail_spec {m : Int} (hh : HotD D S R J) (hp : Prog D.f0 S []) (hon : D.on = true) (hf : Fit D (m + 1 + 1)) (hm : 0 ≤ m) :
    Out D (seqR D [fun D => pcutR D S.length, fun D => syncR D 0]).1 (seqR D [fun D => pcutR D S.length, fun D => syncR D 0]).2 ∧ HotD (seqR D [fun D => pcutR D S.length, fun D => syncR D 0]).1 S R J ∧
    Fit (seqR D [fun D => pcutR D S.length, fun D => syncR D 0]).1 m ∧ ((seqR D [fun D => pcutR D S.length, fun D => syncR D 0]).2 = 0 → DataIs (seqR D [fun D => pcutR D S.length, fun D => syncR D 0]).1.f0 S) := by
  have hl : 4 * S.length ≤ D.f0.now.length := by
    by_cases h0 : S.length = 0
    · omega
    · exact (hp S.length (by omega) (Nat.le_refl _) (fun r hr => by cases hr)).lt (by omega)
  -- the cut
  have cutStep : Out D (pcutR D S.length).1 (pcutR D S.length).2 ∧ HotD (pcutR D S.length).1 S R J ∧ Fit (pcutR D S.length).1 (m + 1) ∧ ((pcutR D S.length).2 = 0 → Prog (pcutR D S.length).1.f0 S [] ∧ (pcutR D S.length).1.f0.now.length = 4 * S.length) := by
    have hfc := hf.pcut (by omega) S.length
    unfold pcutR at hfc ⊢
    by_cases hle : D.f0.now.length ≤ S.length * 4
    · rw [if_pos hle] at hfc ⊢
      exact ⟨Out.refl hon, hh, hfc, fun _ => ⟨hp, by show D.f0.now.length = _; omega⟩⟩
    · rw [if_neg hle] at hfc ⊢
      rcases cut_cases hf hon false (S.length * 4) (by show _ ≤ D.f0.now.length; omega) with ⟨ha, hc, hE⟩ | ⟨ha, he⟩
      · have hc : (cutR D 0 ((S.length * 4 : Nat) : Int)).2 = 4 := hc
        have hE : CrashE D (cutR D 0 ((S.length * 4 : Nat) : Int)).1 := hE
        rw [hc]
        exact ⟨Out.crash ha hE, hh.crash hE, hfc, fun e => by cases e⟩
      · have he : cutR D 0 ((S.length * 4 : Nat) : Int) = ((tick D).setF false (cutF (S.length * 4) D.f0), 0) := he
        obtain ⟨e0, e1, e2, e3, e4⟩ := set0 (tick D) (cutF (S.length * 4) D.f0)
        rw [he] at hfc ⊢
        generalize (tick D).setF false (cutF (S.length * 4) D.f0) = D1 at *
        have e1 : D1.f1 = D.f1 := e1
        have e3 : D1.room = D.room := e3
        refine ⟨Out.done (e2.trans hon) e4, ⟨by rw [e1]; exact hh.jou, by rw [e1]; exact hh.old, by rw [e1]; exact hh.sure, fun y h1 h2 h3 => by rw [e0]; exact (hh.data y h1 h2 h3).cut h1 (by omega), by rw [e3]; exact hh.fits⟩, hfc, fun _ => ⟨fun y h1 h2 h3 => by rw [e0]; exact (hp y h1 h2 h3).cut h1 (by omega), by rw [e0]; show (List.take _ _).length = _; rw [List.length_take]; omega⟩⟩
  obtain ⟨c1, c2, c3, c4⟩ := cutStep
  simp only [seqR_cons, seqR_nil]
  generalize pcutR D S.length = r at *
  obtain ⟨D1, c⟩ := r
  simp only at c1 c2 c3 c4 ⊢
  rcases c1.cs with rfl | rfl
  · rw [if_pos rfl]
    obtain ⟨p1, l1⟩ := c4 rfl
    have on1 := c1.on rfl
    have hfs := c3.sync hm 0
    rcases sync_cases c3 on1 false with ⟨ha, hc, hE⟩ | ⟨ha, he⟩
    · have hc : (syncR D1 0).2 = 4 := hc
      have hE : CrashE D1 (syncR D1 0).1 := hE
      rw [if_neg (by rw [hc]; decide), hc]
      exact ⟨c1.trans (Out.crash ha hE), c2.crash hE, hfs, fun e => by cases e⟩
    · have he : syncR D1 0 = ((tick D1).setF false (settleF D1.f0), 0) := he
      obtain ⟨e0, e1, e2, e3, e4⟩ := set0 (tick D1) (settleF D1.f0)
      rw [he] at hfs ⊢
      rw [if_pos rfl]
      generalize (tick D1).setF false (settleF D1.f0) = D2 at *
      have e1 : D2.f1 = D1.f1 := e1
      have e3 : D2.room = D1.room := e3
      have hD : DataIs D2.f0 S := by
        rw [e0]
        exact ⟨data_of (fun y h1 h2 => p1 y h1 h2 (fun r hr => by cases hr)) l1, rfl, rfl⟩
      exact ⟨c1.trans (Out.done (e2.trans on1) e4), ⟨by show D2.f1.now = J; rw [e1]; exact c2.jou, by show D2.f1.old = []; rw [e1]; exact c2.old, by show D2.f1.sure = _; rw [e1]; exact c2.sure, fun y h1 h2 h3 => hD.page h1 h2, by show _ ≤ D2.room; rw [e3]; exact c2.fits⟩, hfs, fun _ => hD⟩
  · rw [if_neg (by decide)]
    exact ⟨c1, c2, c3.less (by omega), fun e => by cases e⟩
theorem restore_spec {m : Int} (hR : GoodR S R) (hh : HotD D S R J) (hon : D.on = true) (hf : Fit D (m + 2 + R.length)) (hm : 0 ≤ m) :
    Out D (restoreR D S.length R).1 (restoreR D S.length R).2 ∧ HotD (restoreR D S.length R).1 S R J ∧ Fit (restoreR D S.length R).1 m ∧ ((restoreR D S.length R).2 = 0 → DataIs (restoreR D S.length R).1.f0 S) := by
  obtain ⟨k1, k2, k3, k4⟩ := rests_spec hR R [] D (m + 2) rfl hh (fun y h1 h2 h3 => (hh.data y h1 h2 h3).inn) hon hf (by omega)
  unfold restoreR
  generalize restsR D R = r at *
  obtain ⟨D1, c⟩ := r
  simp only at k1 k2 k3 k4 ⊢
  rcases k1.cs with rfl | rfl
  · rw [if_pos rfl]
    obtain ⟨t1, t2, t3, t4⟩ := tail_spec k2 (k4 rfl) (k1.on rfl) (k3.less (by omega)) hm
    exact ⟨k1.trans t1, t2, t3, t4⟩
  · rw [if_neg (by decide)]
    exact ⟨k1, k2, k3.less (by omega), fun e => by cases e⟩
/-! ### opened -/
structure ColdD (D : DiskV) (S : List (List UInt8)) : Prop where
  data : DataIs D.f0 S
  old : D.f1.old = []
  sure : D.f1.sure = D.f1.now.length
  cold : hotS D.f1.now = false
structure HotJ (S : List (List UInt8)) (R : List (Int × List UInt8)) (J : List Sec) : Prop where
  good : GoodR S R
  hot : hotS J = true
  parse : parseS J = some (S.length, R)
def RecD (D : DiskV) (S : List (List UInt8)) : Prop := ColdD D S ∨ ∃ R J, HotJ S R J ∧ HotD D S R J
structure QuietD (D : DiskV) (S : List (List UInt8)) : Prop where
  data : DataIs D.f0 S
  now : D.f1.now = []
  old : D.f1.old = []
  sure : D.f1.sure = 0
theorem DataIs.crash {f g : FileV} (h : DataIs f S) (hc : CrashOf f g) : DataIs g S := by
  have e := hc.same h.2.1 h.2.2
  exact ⟨e.trans h.1, hc.old, hc.sure⟩
theorem ColdD.crash (h : ColdD D S) (hc : CrashE D E) : ColdD E S := by
  have e := hc.f1.same h.old h.sure
  exact ⟨h.data.crash hc.f0, hc.f1.old, hc.f1.sure, by rw [e]; exact h.cold⟩
theorem RecD.crash (h : RecD D S) (hc : CrashE D E) : RecD E S := by
  rcases h with h | ⟨R, J, h1, h2⟩
  · exact .inl (h.crash hc)
  · exact .inr ⟨R, J, h1, h2.crash hc⟩
theorem QuietD.cold (h : QuietD D S) : ColdD D S := ⟨h.data, h.old, by rw [h.sure, h.now]; rfl, by rw [h.now]; exact hot_nil⟩
theorem clean_spec {m : Int} (hd : DataIs D.f0 S) (ho : D.f1.old = []) (hs : D.f1.sure = D.f1.now.length) (hon : D.on = true) (hf : Fit D (m + 1)) (hm : 0 ≤ m) :
    ((cleanR D).2 = 4 ∧ Out D (cleanR D).1 4 ∧ CrashE D (cleanR D).1 ∧ Fit (cleanR D).1 m) ∨ ((cleanR D).2 = 0 ∧ Out D (cleanR D).1 0 ∧ QuietD (cleanR D).1 S ∧ Fit (cleanR D).1 m) := by
  have hfc := hf.clean hm
  unfold cleanR at hfc ⊢
  by_cases h0 : D.f1.now.length = 0
  · rw [if_pos h0] at hfc ⊢
    exact .inr ⟨rfl, Out.refl hon, ⟨hd, List.eq_nil_of_length_eq_zero h0, ho, by rw [hs, h0]⟩, hfc⟩
  · rw [if_neg h0] at hfc ⊢
    rcases cut_cases hf hon true 0 (Nat.zero_le _) with ⟨ha, hc, hE⟩ | ⟨ha, he⟩
    · exact .inl ⟨hc, Out.crash ha hE, hE, hfc⟩
    · have he : cutR D 1 0 = ((tick D).setF true (cutF 0 D.f1), 0) := he
      obtain ⟨e0, e1, e2, e3, e4⟩ := set1 (tick D) (cutF 0 D.f1)
      rw [he] at hfc ⊢
      generalize (tick D).setF true (cutF 0 D.f1) = D1 at *
      have e1 : D1.f0 = D.f0 := e1
      have eo : D1.f1.old = [] := by rw [e0]; show cutL D.f1.old _ = []; rw [ho]; rfl
      have en : D1.f1.now = [] := by rw [e0]; rfl
      have es : D1.f1.sure = 0 := by rw [e0]; rfl
      exact .inr ⟨rfl, Out.done (e2.trans hon) e4, ⟨by show DataIs D1.f0 S; rw [e1]; exact hd, en, eo, es⟩, hfc⟩
theorem GoodR.len_le (h : GoodR S R) : R.length ≤ S.length := by
  have key : ∀ (l : List (Int × List UInt8)) (k : Int), l.Pairwise (fun a b => a.1 < b.1) → (∀ r ∈ l, k < r.1 ∧ r.1 ≤ (S.length : Int)) → k ≤ S.length → (l.length : Int) ≤ S.length - k := by
    intro l
    induction l with
    | nil => intro k _ _ hk; simp; omega
    | cons a l ih =>
      intro k hp hr hk
      rw [List.pairwise_cons] at hp
      have ha := hr a List.mem_cons_self
      have := ih a.1 hp.2 (fun r hr' => ⟨hp.1 r hr', (hr r (List.mem_cons_of_mem _ hr')).2⟩) ha.2
      rw [List.length_cons]
      omega
  have := key R 0 h.keys (fun r hr => by obtain ⟨y, e, h1, h2, _⟩ := h.all r hr; omega) (by omega)
  omega
theorem recover_spec {m : Int} (h : RecD D S) (hon : D.on = true) (hf : Fit D (m + 2 + S.length)) (hm : 0 ≤ m) :
    Out D (recoverR D).1 (recoverR D).2 ∧ RecD (recoverR D).1 S ∧ Fit (recoverR D).1 m ∧ ((recoverR D).2 = 0 → DataIs (recoverR D).1.f0 S ∧ (recoverR D).1.f1.old = [] ∧ (recoverR D).1.f1.sure = (recoverR D).1.f1.now.length) := by
  unfold recoverR
  rcases h with h | ⟨R, J, h1, h2⟩
  · rw [if_neg (by rw [h.cold]; decide)]
    exact ⟨Out.refl hon, .inl h, hf.less (by omega), fun _ => ⟨h.data, h.old, h.sure⟩⟩
  · rw [h2.jou, if_pos h1.hot, h1.parse]
    have hl := h1.good.len_le
    obtain ⟨k1, k2, k3, k4⟩ := restore_spec (m := m) h1.good h2 hon (hf.less (by omega)) hm
    exact ⟨k1, .inr ⟨R, J, h1, k2⟩, k3, fun e => ⟨k4 e, k2.old, k2.sure⟩⟩
theorem open_spec {m : Int} (h : RecD D S) (h4 : S.length ≤ 4000) (hon : D.on = true) (hf : Fit D (m + 3 + S.length)) (hm : 0 ≤ m) :
    Out D (openR D).1 (openR D).2 ∧ RecD (openR D).1 S ∧ Fit (openR D).1 m ∧ ((openR D).2 = 0 → QuietD (openR D).1 S) := by
  obtain ⟨k1, k2, k3, k4⟩ := recover_spec (m := m + 1) h hon (hf.less (by omega)) (by omega)
  unfold openR
  rw [seqR_cons]
  generalize recoverR D = r at *
  obtain ⟨D1, c⟩ := r
  simp only at k1 k2 k3 k4 ⊢
  rcases k1.cs with rfl | rfl
  · rw [if_pos rfl]
    obtain ⟨q1, q2, q3⟩ := k4 rfl
    rw [seqR_cons]
    rcases clean_spec q1 q2 q3 (k1.on rfl) k3 hm with ⟨c0, o, e, f⟩ | ⟨c0, o, e, f⟩
    · rw [if_neg (by rw [c0]; decide), c0]
      exact ⟨k1.trans o, k2.crash e, f, fun e => by cases e⟩
    · rw [if_pos c0]
      generalize cleanR D1 = r2 at *
      obtain ⟨D2, c2⟩ := r2
      simp only at c0 o e f ⊢
      have hw : wholeE D2 = 0 := by
        unfold wholeE
        have : D2.f0.now.length = 4 * S.length := by rw [e.data.1, flat4_len]
        rw [if_pos (by omega)]
      have hsq : seqR D2 [fun D => (D, wholeE D)] = (D2, 0) := by
        rw [seqR_cons]; simp only [seqR_nil, hw]; rfl
      rw [hsq]
      exact ⟨k1.trans o, .inl e.cold, f, fun _ => e⟩
  · rw [if_neg (by decide)]
    exact ⟨k1, k2, k3.less (by omega), fun e => by cases e⟩
end

structure ChOk (S : List (List UInt8)) (n : Nat) (L : List (Int × List UInt8)) : Prop where
  keys : L.Pairwise fun a b => a.1 < b.1
  all : ∀ x ∈ L, ∃ k : Nat, x.1 = (k : Int) ∧ 1 ≤ k ∧ k ≤ n ∧ x.2.length = 512
  new : ∀ k : Nat, S.length < k → k ≤ n → ∃ x ∈ L, x.1 = (k : Int)
  most : n ≤ 4000
def getB (L : List (Int × List UInt8)) (k : Int) : Option (List UInt8) := (L.find? fun q => decide (q.1 = k)).map (·.2)
def newS (S : List (List UInt8)) (n : Nat) (L : List (Int × List UInt8)) : List (List UInt8) := (List.range n).map fun i => (getB L ((i + 1 : Nat) : Int)).getD (S[i]?.getD [])
structure JouP (S : List (List UInt8)) (n : Nat) (L R : List (Int × List UInt8)) (h0 Y : Sec) (recs : List Sec) : Prop where
  whole : ∀ s ∈ h0 :: Y :: recs, s.length = 128
  hot : HotJ S R (Y :: recs)
  coldX : hotS (h0 :: recs) = false
  coldD : ∀ g, CrashOf (putsF fileNo 0 (h0 :: recs)) g → hotS g.now = false
  mix : ∀ k, k ≤ 128 → Y.take k ++ h0.drop k = Y ∨ hotS ((Y.take k ++ h0.drop k) :: recs) = false
  rows : ∀ y : Nat, 1 ≤ y → y ≤ S.length → ((∃ x ∈ L, x.1 = (y : Int)) ∨ n < y) → ∃ r ∈ R, r.1 = (y : Int)
section
variable {S : List (List UInt8)} {n : Nat} {L R : List (Int × List UInt8)} {h0 Y : Sec} {recs J : List Sec} {D E : DiskV}
theorem putF_self {f : FileV} {i : Nat} {s : Sec} (hi : i < f.now.length) (hn : getL f.old (i : Int) = none) : getL (putF f i s).old (i : Int) = some (oldAt f i) := by
  have hg : growF f i = f := by unfold growF; rw [if_neg (by omega)]
  have hm : markF f i = { f with old := putL f.old i (oldAt f i) } := by unfold markF; rw [hn]; rfl
  unfold putF
  rw [hg, hm]
  show getL (putL f.old (i : Int) (oldAt f i)) (i : Int) = _
  rw [getL_put, if_pos rfl]
theorem f1_no (h : QuietD D S) : D.f1 = fileNo := by
  have h1 := h.now
  have h2 := h.old
  have h3 := h.sure
  cases hf : D.f1 with
  | mk a b c => rw [hf] at h1 h2 h3; simp only at h1 h2 h3; subst h1; subst h2; subst h3; rfl
structure OutX (D E : DiskV) (c : Int) : Prop where
  cs : c = 0 ∨ c = 3 ∨ c = 4
  on : c ≠ 4 → E.on = true
  off : c = 4 → E.on = false ∧ D.armed ≠ 0
  arm : D.armed = 0 → E.armed = 0
theorem Out.x {c : Int} (h : Out D E c) : OutX D E c := ⟨h.cs.imp id .inr, fun e => h.on (h.cs.resolve_right e), h.off, h.arm⟩
theorem Out.transX {D E G : DiskV} {c : Int} (h : Out D E 0) (k : OutX E G c) : OutX D G c :=
  ⟨k.cs, k.on, fun e => ⟨(k.off e).1, fun h0 => (k.off e).2 (h.arm h0)⟩, fun h0 => k.arm (h.arm h0)⟩
theorem OutX.ok {c : Int} (h : OutX D E c) (hc : c = 0) : Out D E 0 := ⟨.inl rfl, fun _ => h.on (by rw [hc]; decide), fun e => (by cases e), h.arm⟩
theorem jou_spec {m : Int} (hq : QuietD D S) (hj : JouP S n L R h0 Y recs) (hon : D.on = true) (hf : Fit D (m + 4)) (hm : 0 ≤ m) :
    OutX D (seqR D (jouGs (h0 :: recs) [Y])).1 (seqR D (jouGs (h0 :: recs) [Y])).2 ∧ Fit (seqR D (jouGs (h0 :: recs) [Y])).1 m ∧
    ((seqR D (jouGs (h0 :: recs) [Y])).2 = 0 → HotD (seqR D (jouGs (h0 :: recs) [Y])).1 S R (Y :: recs) ∧ DataIs (seqR D (jouGs (h0 :: recs) [Y])).1.f0 S ∧ (seqR D (jouGs (h0 :: recs) [Y])).1.room = D.room) ∧
    ((seqR D (jouGs (h0 :: recs) [Y])).2 = 3 → QuietD (seqR D (jouGs (h0 :: recs) [Y])).1 S ∧ D.room < ((4 * S.length + (recs.length + 1) : Nat) : Int)) ∧
    ((seqR D (jouGs (h0 :: recs) [Y])).2 = 4 → RecD (seqR D (jouGs (h0 :: recs) [Y])).1 S) := by
  have hl0 : D.f0.now.length = 4 * S.length := by rw [hq.data.1, flat4_len]
  have hX : ∀ s ∈ h0 :: recs, s.length = 128 := fun s hs => hj.whole s (by rcases List.mem_cons.1 hs with rfl | hs; exact List.mem_cons_self; exact List.mem_cons_of_mem _ (List.mem_cons_of_mem _ hs))
  unfold jouGs
  simp only [seqR_cons, seqR_nil]
  -- 1
  have f1 := (hf.less (k := m + 3 + 1) (by omega)).write (by omega) 1 0 hX
  rcases write_cases hf hon true 0 (ss := h0 :: recs) (Nat.zero_le _) (by simp) with ⟨ha, hc, hE⟩ | ⟨ha, hfull, he⟩ | ⟨ha, hfull, he⟩
  · have hc : (writeR D 1 0 (h0 :: recs)).2 = 4 := hc
    have hE : CrashE D (writeR D 1 0 (h0 :: recs)).1 := hE
    rw [if_neg (by rw [hc]; decide), hc]
    exact ⟨(Out.crash ha hE).x, f1.less (by omega), fun e => (by cases e), fun e => (by cases e), fun _ => .inl (hq.cold.crash hE)⟩
  · have he : writeR D 1 0 (h0 :: recs) = (tick D, 3) := he
    rw [he] at f1 ⊢
    rw [if_neg (show ¬ (3 : Int) = 0 by decide)]
    simp only [DiskV.fl, Bool.not_true, hq.now, List.length_nil, List.length_cons] at hfull
    refine ⟨⟨.inr (.inl rfl), fun _ => hon, fun e => (by cases e), fun h => tick0 h⟩, f1.less (by omega), fun e => (by cases e), fun _ => ⟨⟨hq.data, hq.now, hq.old, hq.sure⟩, ?_⟩, fun e => (by cases e)⟩
    rw [hl0] at hfull
    omega
  · have he : writeR D 1 0 (h0 :: recs) = ((tick D).setF true (putsF D.f1 0 (h0 :: recs)), 0) := he
    obtain ⟨e0, e1, e2, e3, e4⟩ := set1 (tick D) (putsF D.f1 0 (h0 :: recs))
    simp only [DiskV.fl, Bool.not_true, hq.now, List.length_nil, List.length_cons] at hfull
    rw [hl0] at hfull
    rw [he] at f1 ⊢
    rw [if_pos rfl]
    generalize (tick D).setF true (putsF D.f1 0 (h0 :: recs)) = D1 at *
    have e1 : D1.f0 = D.f0 := e1
    have e3 : D1.room = D.room := e3
    rw [f1_no hq] at e0
    have on1 := e2.trans hon
    have o1 : Out D D1 0 := Out.done on1 e4
    have n1 : D1.f1.now = h0 :: recs := by rw [e0, (putsF_spec _ _ _ (Nat.zero_le _)).1]; simp [fileNo]
    have d1 : DataIs D1.f0 S := by rw [e1]; exact hq.data
    -- 2
    have f2 := (f1.less (k := m + 2 + 1) (by omega)).sync (by omega) 1
    simp only
    rcases sync_cases f1 on1 true with ⟨ha, hc, hE⟩ | ⟨ha, he⟩
    · have hc : (syncR D1 1).2 = 4 := hc
      have hE : CrashE D1 (syncR D1 1).1 := hE
      rw [if_neg (by rw [hc]; decide), hc]
      refine ⟨(o1.trans (Out.crash ha hE)).x, f2.less (by omega), fun e => (by cases e), fun e => (by cases e), fun _ => .inl ⟨d1.crash hE.f0, hE.f1.old, hE.f1.sure, ?_⟩⟩
      exact hj.coldD _ (by rw [← e0]; exact hE.f1)
    · have he : syncR D1 1 = ((tick D1).setF true (settleF D1.f1), 0) := he
      obtain ⟨g0, g1, g2, g3, g4⟩ := set1 (tick D1) (settleF D1.f1)
      rw [he] at f2 ⊢
      rw [if_pos rfl]
      generalize (tick D1).setF true (settleF D1.f1) = D2 at *
      have g1 : D2.f0 = D1.f0 := g1
      have g3 : D2.room = D1.room := g3
      have on2 := g2.trans on1
      have o2 : Out D D2 0 := o1.trans (Out.done on2 g4)
      have n2 : D2.f1.now = h0 :: recs := by rw [g0]; exact n1
      have l2 : D2.f1.old = [] := by rw [g0]; rfl
      have s2 : D2.f1.sure = D2.f1.now.length := by rw [g0]; rfl
      have d2 : DataIs D2.f0 S := by rw [g1]; exact d1
      -- 3
      have hYw : ∀ s ∈ [Y], s.length = 128 := fun s hs => hj.whole s (by rw [List.mem_singleton.1 hs]; simp)
      have f3 := (f2.less (k := m + 1 + 1) (by omega)).write (by omega) 1 0 hYw
      simp only
      rcases write_cases f2 on2 true 0 (ss := [Y]) (Nat.zero_le _) (by simp) with ⟨ha, hc, hE⟩ | ⟨ha, hfull2, he⟩ | ⟨ha, hfull2, he⟩
      · have hc : (writeR D2 1 0 [Y]).2 = 4 := hc
        have hE : CrashE D2 (writeR D2 1 0 [Y]).1 := hE
        rw [if_neg (by rw [hc]; decide), hc]
        refine ⟨(o2.trans (Out.crash ha hE)).x, f3.less (by omega), fun e => (by cases e), fun e => (by cases e), fun _ => .inl (ColdD.crash ⟨d2, l2, s2, by rw [n2]; exact hj.coldX⟩ hE)⟩
      · exfalso
        simp only [DiskV.fl, Bool.not_true, n2, List.length_cons, List.length_nil] at hfull2
        rw [g1, e1, hl0, g3, e3] at hfull2
        omega
      · have he : writeR D2 1 0 [Y] = ((tick D2).setF true (putsF D2.f1 0 [Y]), 0) := he
        obtain ⟨p0, p1, p2, p3, p4⟩ := set1 (tick D2) (putsF D2.f1 0 [Y])
        rw [he] at f3 ⊢
        rw [if_pos rfl]
        generalize (tick D2).setF true (putsF D2.f1 0 [Y]) = D3 at *
        have p1 : D3.f0 = D2.f0 := p1
        have p3 : D3.room = D2.room := p3
        have on3 := p2.trans on2
        have o3 : Out D D3 0 := o2.trans (Out.done on3 p4)
        obtain ⟨q1, q2, q3⟩ := putsF_spec [Y] D2.f1 0 (Nat.zero_le _)
        have n3 : D3.f1.now = Y :: recs := by rw [p0, q1, n2]; simp
        have s3 : D3.f1.sure = D3.f1.now.length := by rw [n3, p0, q2, s2, n2]; rfl
        have c3 : ∀ j : Nat, 1 ≤ j → getL D3.f1.old (j : Int) = none := fun j hj => by rw [p0, q3 _ (by simp; omega), l2]; rfl
        have c0 : getL D3.f1.old 0 = some h0 := by
          rw [p0]
          show getL (putF D2.f1 0 Y).old ((0 : Nat) : Int) = _
          rw [putF_self (by rw [n2]; simp) (by rw [l2]; rfl)]
          unfold oldAt
          rw [if_pos (by rw [s2, n2]; simp), n2]; rfl
        have d3 : DataIs D3.f0 S := by rw [p1]; exact d2
        -- 4
        have f4 := f3.sync hm 1
        simp only
        rcases sync_cases f3 on3 true with ⟨ha, hc, hE⟩ | ⟨ha, he⟩
        · have hc : (syncR D3 1).2 = 4 := hc
          have hE : CrashE D3 (syncR D3 1).1 := hE
          rw [if_neg (by rw [hc]; decide), hc]
          refine ⟨(o3.trans (Out.crash ha hE)).x, f4, fun e => (by cases e), fun e => (by cases e), fun _ => ?_⟩
          generalize (syncR D3 1).1 = E at *
          have hlen : E.f1.now.length = (Y :: recs).length := by have := hE.f1.lo; have := hE.f1.hi; rw [s3] at *; rw [n3] at *; omega
          obtain ⟨k, hk, h5⟩ := hE.f1.dirty 0 h0 (by rw [hlen]; simp) c0
          rw [n3] at h5
          have hY : (Y :: recs)[0]?.getD zeroS = Y := rfl
          rw [hY] at h5
          have hnow : E.f1.now = (Y.take k ++ h0.drop k) :: recs := by
            refine List.ext_getElem? fun i => ?_
            cases i with
            | zero => exact h5
            | succ i =>
              by_cases hi : i + 1 < E.f1.now.length
              · rw [hE.f1.clean (i + 1) hi (c3 (i + 1) (by omega)), n3]; rfl
              · rw [List.getElem?_eq_none (by omega), List.getElem?_eq_none (by rw [hlen] at hi; simpa using hi)]
          rcases hj.mix k hk with hh | hh
          · rw [hh] at hnow
            refine .inr ⟨R, Y :: recs, hj.hot, ⟨hnow, hE.f1.old, hE.f1.sure, fun y h1 h2 _ => (d3.page h1 h2).crash h1 hE.f0, ?_⟩⟩
            rw [hE.room, p3, g3, e3, List.length_cons]
            omega
          · exact .inl ⟨d3.crash hE.f0, hE.f1.old, hE.f1.sure, by rw [hnow]; exact hh⟩
        · have he : syncR D3 1 = ((tick D3).setF true (settleF D3.f1), 0) := he
          obtain ⟨t0, t1, t2, t3, t4⟩ := set1 (tick D3) (settleF D3.f1)
          rw [he] at f4 ⊢
          rw [if_pos rfl]
          generalize (tick D3).setF true (settleF D3.f1) = D4 at *
          have t1 : D4.f0 = D3.f0 := t1
          have t3 : D4.room = D3.room := t3
          have d4 : DataIs D4.f0 S := by rw [t1]; exact d3
          refine ⟨(o3.trans (Out.done (t2.trans on3) t4)).x, f4, fun _ => ⟨⟨by show D4.f1.now = _; rw [t0]; exact n3, by show D4.f1.old = []; rw [t0]; rfl, by show D4.f1.sure = _; rw [t0]; rfl, fun y h1 h2 _ => d4.page h1 h2, ?_⟩, d4, ?_⟩, fun e => (by cases e), fun e => (by cases e)⟩
          · show _ ≤ D4.room
            rw [t3, p3, g3, e3, List.length_cons]
            omega
          · show D4.room = _
            rw [t3, p3, g3, e3]
end

section
variable {S : List (List UInt8)} {n : Nat} {L R : List (Int × List UInt8)} {h0 Y : Sec} {recs J : List Sec} {D E : DiskV}
structure WPg (f : FileV) (S : List (List UInt8)) (n : Nat) (dn : List (Int × List UInt8)) : Prop where
  lo : 4 * S.length ≤ f.now.length
  hi : f.now.length ≤ 4 * max S.length n
  new : ∀ x ∈ dn, ∀ k : Nat, x.1 = (k : Int) → PageIn f k x.2
  old : ∀ y, 1 ≤ y → y ≤ S.length → (∀ x ∈ dn, x.1 ≠ (y : Int)) → PageIn f y (S[y - 1]?.getD [])
theorem writes_spec (hC : ChOk S n L) (hrows : ∀ y : Nat, 1 ≤ y → y ≤ S.length → ((∃ x ∈ L, x.1 = (y : Int)) ∨ n < y) → ∃ r ∈ R, r.1 = (y : Int)) : ∀ (todo dn : List (Int × List UInt8)) (D : DiskV) (m : Int), L = dn ++ todo → HotD D S R J → WPg D.f0 S n dn → D.on = true → Fit D (m + todo.length) → 0 ≤ m →
    OutX D (writesB D todo).1 (writesB D todo).2 ∧ HotD (writesB D todo).1 S R J ∧ Fit (writesB D todo).1 m ∧ ((writesB D todo).2 = 0 → WPg (writesB D todo).1.f0 S n L) ∧ ((writesB D todo).2 = 3 → D.room < ((4 * max S.length n + J.length : Nat) : Int)) ∧ (writesB D todo).1.room = D.room := by
  intro todo
  induction todo with
  | nil =>
    intro dn D m hd hh hp hon hf hm
    rw [List.append_nil] at hd
    subst hd
    exact ⟨(Out.refl hon).x, hh, hf.less (by simp), fun _ => hp, fun e => (by cases e), rfl⟩
  | cons x todo ih =>
    intro dn D m hd hh hp hon hf hm
    have hxL : x ∈ L := by rw [hd]; simp
    obtain ⟨k, hk, h1, h2, h3⟩ := hC.all x hxL
    have hks := hC.keys
    rw [hd, List.pairwise_append, List.pairwise_cons] at hks
    have hlen : 4 * (k - 1) ≤ D.f0.now.length := by
      by_cases hks1 : k - 1 ≤ S.length
      · have := hp.lo; omega
      · obtain ⟨z, hz, hzk⟩ := hC.new (k - 1) (by omega) (by omega)
        have hzd : z ∈ dn := by
          rw [hd] at hz
          rcases List.mem_append.1 hz with hz | hz
          · exact hz
          · rcases List.mem_cons.1 hz with rfl | hz
            · omega
            · have := hks.2.1.1 z hz; omega
        have := (hp.new z hzd (k - 1) hzk).lt (by omega)
        omega
    have hpl : placeV x.1 = ((4 * (k - 1) : Nat) : Int) := by rw [hk]; exact placeV_nat h1
    have hf' : Fit D ((m + todo.length) + 1) := hf.less (by rw [List.length_cons]; omega)
    unfold writesB
    rw [hpl]
    have hne : secs4 x.2 ≠ [] := fun e => by have := secs4_len x.2; rw [e] at this; cases this
    have hfw := hf'.write (by omega) 0 ((4 * (k - 1) : Nat) : Int) (secs4_whole h3)
    rcases write_cases hf' hon false (4 * (k - 1)) (ss := secs4 x.2) hlen hne with ⟨ha, hc, hE⟩ | ⟨ha, hfull, he⟩ | ⟨ha, hfull, he⟩
    · have hc : (writeR D 0 ((4 * (k - 1) : Nat) : Int) (secs4 x.2)).2 = 4 := hc
      have hE : CrashE D (writeR D 0 ((4 * (k - 1) : Nat) : Int) (secs4 x.2)).1 := hE
      rw [if_neg (by rw [hc]; decide), hc]
      exact ⟨(Out.crash ha hE).x, hh.crash hE, hfw.less (by omega), fun e => (by cases e), fun e => (by cases e), hE.room⟩
    · have he : writeR D 0 ((4 * (k - 1) : Nat) : Int) (secs4 x.2) = (tick D, 3) := he
      rw [he] at hfw ⊢
      rw [if_neg (show ¬ (3 : Int) = 0 by decide)]
      refine ⟨⟨.inr (.inl rfl), fun _ => hon, fun e => (by cases e), fun h => tick0 h⟩, ⟨hh.jou, hh.old, hh.sure, hh.data, hh.fits⟩, hfw.less (by omega), fun e => (by cases e), fun _ => ?_, rfl⟩
      simp only [DiskV.fl, Bool.not_false, secs4_len, hh.jou] at hfull
      have := hp.hi
      omega
    · have he : writeR D 0 ((4 * (k - 1) : Nat) : Int) (secs4 x.2) = ((tick D).setF false (putsF D.f0 (4 * (k - 1)) (secs4 x.2)), 0) := he
      obtain ⟨e0, e1, e2, e3, e4⟩ := set0 (tick D) (putsF D.f0 (4 * (k - 1)) (secs4 x.2))
      rw [he] at hfw ⊢
      rw [if_pos rfl]
      generalize (tick D).setF false (putsF D.f0 (4 * (k - 1)) (secs4 x.2)) = D1 at *
      have e1 : D1.f1 = D.f1 := e1
      have e3 : D1.room = D.room := e3
      have hH : HotD D1 S R J := by
        refine ⟨by rw [e1]; exact hh.jou, by rw [e1]; exact hh.old, by rw [e1]; exact hh.sure, fun z hz1 hz2 hz3 => ?_, by rw [e3]; exact hh.fits⟩
        have hzk : z ≠ k := fun e => by
          obtain ⟨r, hr, hrz⟩ := hrows z hz1 hz2 (.inl ⟨x, hxL, by rw [hk, e]⟩)
          exact hz3 r hr hrz
        rw [e0]
        exact (hh.data z hz1 hz2 hz3).other hz1 h1 hzk hlen x.2
      have hp1 : WPg D1.f0 S n (dn ++ [x]) := by
        have hpl2 := putsF_lenC (ss := secs4 x.2) hlen
        refine ⟨?_, ?_, fun z hz j hj => ?_, fun z hz1 hz2 hz3 => ?_⟩
        · rw [e0, hpl2]; have := hp.lo; omega
        · rw [e0, hpl2, secs4_len]; have := hp.hi; omega
        · rw [e0]
          rcases List.mem_append.1 hz with hz | hz
          · have hlt : z.1 < x.1 := hks.2.2 z hz x List.mem_cons_self
            obtain ⟨j', hj', hj1, _, _⟩ := hC.all z (by rw [hd]; simp [hz])
            exact (hp.new z hz j hj).other (by omega) h1 (by omega) hlen x.2
          · rw [List.mem_singleton.1 hz] at hj ⊢
            obtain rfl : j = k := by omega
            exact PageIn.self h1 hlen x.2
        · rw [e0]
          have hzk : z ≠ k := fun e => hz3 x (by simp) (by rw [hk, e])
          exact (hp.old z hz1 hz2 (fun s hs => hz3 s (by simp [hs]))).other hz1 h1 hzk hlen x.2
      obtain ⟨k1, k2, k3, k4, k5, k6⟩ := ih (dn ++ [x]) D1 m (by rw [hd]; simp) hH hp1 (e2.trans hon) hfw hm
      exact ⟨(Out.done (e2.trans hon) e4).transX k1, k2, k3, k4, fun e => (by rw [← e3]; exact k5 e), k6.trans e3⟩
theorem getB_some {L : List (Int × List UInt8)} {k : Int} {b : List UInt8} (h : getB L k = some b) : (k, b) ∈ L := by
  unfold getB at h
  cases hf : L.find? (fun q => decide (q.1 = k)) with
  | none => rw [hf] at h; cases h
  | some q =>
    rw [hf] at h
    injection h with h
    have h1 := List.mem_of_find?_eq_some hf
    have h2 : q.1 = k := of_decide_eq_true (p := q.1 = k) (List.find?_some (p := fun q : Int × List UInt8 => decide (q.1 = k)) hf)
    rw [← h, ← h2]; exact h1
theorem getB_none {L : List (Int × List UInt8)} {k : Int} (h : getB L k = none) : ∀ p ∈ L, p.1 ≠ k := by
  intro p hp e
  unfold getB at h
  cases hf : L.find? (fun q => decide (q.1 = k)) with
  | none => exact absurd (decide_eq_true e) (by have := List.find?_eq_none.1 hf p hp; simpa using this)
  | some q => rw [hf] at h; cases h
theorem newS_len : (newS S n L).length = n := by unfold newS; rw [List.length_map, List.length_range]
theorem newS_get {y : Nat} (h1 : 1 ≤ y) (h2 : y ≤ n) : (newS S n L)[y - 1]?.getD [] = (getB L (y : Int)).getD (S[y - 1]?.getD []) := by
  unfold newS
  rw [List.getElem?_map, List.getElem?_range (by omega)]
  simp only [Option.map_some, Option.getD_some]
  rw [show y - 1 + 1 = y by omega]
theorem WPg.pages {f : FileV} (hC : ChOk S n L) (h : WPg f S n L) : ∀ y, 1 ≤ y → y ≤ n → PageIn f y ((newS S n L)[y - 1]?.getD []) := by
  intro y h1 h2
  rw [newS_get h1 h2]
  cases hg : getB L (y : Int) with
  | some b => exact h.new _ (getB_some hg) y rfl
  | none =>
    have hn := getB_none hg
    have hy : y ≤ S.length := by
      apply Nat.le_of_not_lt
      intro hlt
      obtain ⟨x, hx, e⟩ := hC.new y hlt h2
      exact hn x hx e
    exact h.old y h1 hy hn
theorem data_spec {m : Int} (hC : ChOk S n L) (hj : JouP S n L R h0 Y recs) (hh : HotD D S R (Y :: recs)) (hd : DataIs D.f0 S) (hon : D.on = true) (hf : Fit D (m + 3 + L.length)) (hm : 0 ≤ m) :
    OutX D (seqR D (dataGB L n)).1 (seqR D (dataGB L n)).2 ∧ Fit (seqR D (dataGB L n)).1 m ∧
    ((seqR D (dataGB L n)).2 = 0 → QuietD (seqR D (dataGB L n)).1 (newS S n L)) ∧
    ((seqR D (dataGB L n)).2 = 3 → HotD (seqR D (dataGB L n)).1 S R (Y :: recs) ∧ D.room < ((4 * max S.length n + (Y :: recs).length : Nat) : Int)) ∧
    ((seqR D (dataGB L n)).2 = 4 → HotD (seqR D (dataGB L n)).1 S R (Y :: recs)) := by
  have hl0 : D.f0.now.length = 4 * S.length := by rw [hd.1, flat4_len]
  obtain ⟨k1, k2, k3, k4, k5, k6⟩ := writes_spec (m := m + 3) hC hj.rows L [] D rfl hh ⟨by omega, by omega, fun x hx => (by cases hx), fun y h1 h2 _ => (hd.page h1 h2).inn⟩ hon hf (by omega)
  unfold dataGB
  simp only [seqR_cons, seqR_nil]
  generalize writesB D L = r at *
  obtain ⟨D1, c⟩ := r
  simp only at k1 k2 k3 k4 k5 k6 ⊢
  rcases k1.cs with rfl | rfl | rfl
  rotate_left
  · rw [if_neg (show ¬ (3 : Int) = 0 by decide)]
    exact ⟨k1, k3.less (by omega), fun e => (by cases e), fun _ => ⟨k2, k5 rfl⟩, fun e => (by cases e)⟩
  · rw [if_neg (show ¬ (4 : Int) = 0 by decide)]
    exact ⟨k1, k3.less (by omega), fun e => (by cases e), fun e => (by cases e), fun _ => k2⟩
  rw [if_pos rfl]
  have w1 := k4 rfl
  have o1 := k1.ok rfl
  have on1 := o1.on rfl
  have pg1 := w1.pages hC
  clear k4 k5 k1
  -- sync
  have f2 := (k3.less (k := m + 2 + 1) (by omega)).sync (by omega) 0
  rcases sync_cases k3 on1 false with ⟨ha, hc, hE⟩ | ⟨ha, he⟩
  · have hc : (syncR D1 0).2 = 4 := hc
    have hE : CrashE D1 (syncR D1 0).1 := hE
    rw [if_neg (by rw [hc]; decide), hc]
    exact ⟨(o1.trans (Out.crash ha hE)).x, f2.less (by omega), fun e => (by cases e), fun e => (by cases e), fun _ => k2.crash hE⟩
  have he : syncR D1 0 = ((tick D1).setF false (settleF D1.f0), 0) := he
  obtain ⟨e0, e1, e2, e3, e4⟩ := set0 (tick D1) (settleF D1.f0)
  rw [he] at f2 ⊢
  rw [if_pos rfl]
  generalize (tick D1).setF false (settleF D1.f0) = D2 at *
  have e1 : D2.f1 = D1.f1 := e1
  have e3 : D2.room = D1.room := e3
  have on2 := e2.trans on1
  have o2 := o1.trans (Out.done on2 e4)
  have h2 : HotD D2 S R (Y :: recs) := ⟨by rw [e1]; exact k2.jou, by rw [e1]; exact k2.old, by rw [e1]; exact k2.sure, fun y h1 h2 h3 => by rw [e0]; exact PageClean.settle (k2.data y h1 h2 h3).inn h1, by rw [e3]; exact k2.fits⟩
  have n2 : D2.f0.now = D1.f0.now := by rw [e0]; rfl
  have l2 : D2.f0.old = [] := by rw [e0]; rfl
  have s2 : D2.f0.sure = D2.f0.now.length := by rw [e0]; rfl
  have p2 : ∀ y, 1 ≤ y → y ≤ n → PageIn D2.f0 y ((newS S n L)[y - 1]?.getD []) := fun y h1 h2 j hj => by rw [n2]; exact pg1 y h1 h2 j hj
  have hi2 := w1.hi
  have lo2 := w1.lo
  rw [← n2] at hi2 lo2
  -- cut
  have f3 := (f2.less (k := m + 1 + 1) (by omega)).pcut (by omega) n
  have cutStep : (∃ E, pcutR D2 n = (E, 4) ∧ D2.armed = 1 ∧ CrashE D2 E) ∨ ∃ E, pcutR D2 n = (E, 0) ∧ Out D2 E 0 ∧ HotD E S R (Y :: recs) ∧ DataIs E.f0 (newS S n L) := by
    unfold pcutR
    by_cases hle : D2.f0.now.length ≤ n * 4
    · rw [if_pos hle]
      refine .inr ⟨D2, rfl, Out.refl on2, h2, data_of (fun y h1 h2 => p2 y h1 (by rw [newS_len] at h2; exact h2)) ?_, l2, s2⟩
      rw [newS_len]
      by_cases hn0 : n = 0
      · omega
      · have := (p2 n (by omega) (Nat.le_refl _)).lt (by omega)
        omega
    · rw [if_neg hle]
      rcases cut_cases f2 on2 false (n * 4) (by show _ ≤ D2.f0.now.length; omega) with ⟨ha, hc, hE⟩ | ⟨ha, he⟩
      · have hc : (cutR D2 0 ((n * 4 : Nat) : Int)).2 = 4 := hc
        refine .inl ⟨(cutR D2 0 ((n * 4 : Nat) : Int)).1, ?_, ha, hE⟩
        rw [← hc]
      · have he : cutR D2 0 ((n * 4 : Nat) : Int) = ((tick D2).setF false (cutF (n * 4) D2.f0), 0) := he
        obtain ⟨t0, t1, t2, t3, t4⟩ := set0 (tick D2) (cutF (n * 4) D2.f0)
        rw [he]
        generalize (tick D2).setF false (cutF (n * 4) D2.f0) = D3 at *
        have t1 : D3.f1 = D2.f1 := t1
        have t3 : D3.room = D2.room := t3
        refine .inr ⟨D3, rfl, Out.done (t2.trans on2) t4, ⟨by rw [t1]; exact h2.jou, by rw [t1]; exact h2.old, by rw [t1]; exact h2.sure, fun y h1 h3 h4 => ?_, by rw [t3]; exact h2.fits⟩, data_of (fun y h1 h3 => ?_) ?_, ?_, ?_⟩
        · rw [t0]
          refine (h2.data y h1 h3 h4).cut h1 ?_
          have : y ≤ n := by
            apply Nat.le_of_not_lt
            intro hlt
            obtain ⟨r, hr, hry⟩ := hj.rows y h1 h3 (.inr hlt)
            exact h4 r hr hry
          omega
        · rw [t0]
          rw [newS_len] at h3
          exact (p2 y h1 h3).cut h1 (by omega)
        · rw [t0, newS_len]; show (List.take _ _).length = _; rw [List.length_take]; omega
        · rw [t0]; show cutL D2.f0.old _ = []; rw [l2]; rfl
        · rw [t0]; show n * 4 = (List.take _ _).length; rw [List.length_take]; omega
  rcases cutStep with ⟨E, hc, ha, hE⟩ | ⟨D3, hc, o3, h3, d3⟩
  · rw [hc] at f3 ⊢
    rw [if_neg (show ¬ (4 : Int) = 0 by decide)]
    exact ⟨(o2.trans (Out.crash ha hE)).x, f3.less (by omega), fun e => (by cases e), fun e => (by cases e), fun _ => h2.crash hE⟩
  · rw [hc] at f3 ⊢
    rw [if_pos rfl]
    have o3' := o2.trans o3
    simp only at f3 ⊢
    rcases clean_spec d3 h3.old h3.sure (o3.on rfl) f3 hm with ⟨c0, o, e, f⟩ | ⟨c0, o, e, f⟩
    · rw [if_neg (by rw [c0]; decide), c0]
      exact ⟨(o3'.trans o).x, f, fun e => (by cases e), fun e => (by cases e), fun _ => h3.crash e⟩
    · rw [if_pos c0]
      exact ⟨(o3'.trans o).x, f, fun _ => e, fun e => (by cases e), fun e => (by cases e)⟩
theorem back_spec {m : Int} (hJ : HotJ S R J) (hh : HotD D S R J) (hon : D.on = true) (hf : Fit D (m + 3 + S.length)) (hm : 0 ≤ m) :
    ∃ E c, seqR D [fun D => restoreR D S.length R, cleanR] = (E, c) ∧ Out D E c ∧ Fit E m ∧ (c = 0 → QuietD E S) ∧ (c = 4 → HotD E S R J) := by
  have hRl := hJ.good.len_le
  obtain ⟨b1, b2, b3, b4⟩ := restore_spec (m := m + 1) hJ.good hh hon (hf.less (by omega)) (by omega)
  rw [seqR_cons, seqR_cons, seqR_nil]
  generalize restoreR D S.length R = r3 at *
  obtain ⟨D3, c3⟩ := r3
  simp only at b1 b2 b3 b4 ⊢
  rcases b1.cs with rfl | rfl
  · rw [if_pos rfl]
    rcases clean_spec (b4 rfl) b2.old b2.sure (b1.on rfl) b3 hm with ⟨c0, o, e, f⟩ | ⟨c0, o, e, f⟩
    · rw [if_neg (by rw [c0]; decide)]
      refine ⟨(cleanR D3).1, 4, by rw [← c0], b1.trans o, f, fun e => (by cases e), fun _ => b2.crash e⟩
    · rw [if_pos c0]
      exact ⟨(cleanR D3).1, 0, rfl, b1.trans o, f, fun _ => e, fun e => (by cases e)⟩
  · rw [if_neg (show ¬ (4 : Int) = 0 by decide)]
    exact ⟨D3, 4, rfl, b1, b3.less (by omega), fun e => (by cases e), fun _ => b2⟩
theorem commit_spec {m : Int} (hq : QuietD D S) (hC : ChOk S n L) (hj : JouP S n L R h0 Y recs) (hon : D.on = true) (hf : Fit D (m + 10 + L.length + S.length)) (hm : 0 ≤ m) :
    OutX D (commitD D (h0 :: recs) [Y] L n S.length R).1 (commitD D (h0 :: recs) [Y] L n S.length R).2 ∧ Fit (commitD D (h0 :: recs) [Y] L n S.length R).1 m ∧
    ((commitD D (h0 :: recs) [Y] L n S.length R).2 = 0 → QuietD (commitD D (h0 :: recs) [Y] L n S.length R).1 (newS S n L)) ∧
    ((commitD D (h0 :: recs) [Y] L n S.length R).2 = 3 → QuietD (commitD D (h0 :: recs) [Y] L n S.length R).1 S ∧ D.room < ((4 * max S.length n + (recs.length + 1) : Nat) : Int)) ∧
    ((commitD D (h0 :: recs) [Y] L n S.length R).2 = 4 → RecD (commitD D (h0 :: recs) [Y] L n S.length R).1 S) := by
  obtain ⟨k1, k2, k3, k4, k5⟩ := jou_spec (m := m + 6 + L.length + S.length) hq hj hon (hf.less (by omega)) (by omega)
  unfold commitD
  generalize seqR D (jouGs (h0 :: recs) [Y]) = r at *
  obtain ⟨D1, c⟩ := r
  simp only at k1 k2 k3 k4 k5 ⊢
  rcases k1.cs with rfl | rfl | rfl
  · rw [if_pos rfl]
    obtain ⟨h1, d1, rm⟩ := k3 rfl
    have o1 := k1.ok rfl
    obtain ⟨t1, t2, t3, t4, t5⟩ := data_spec (m := m + 3 + S.length) hC hj h1 d1 (o1.on rfl) (k2.less (by omega)) (by omega)
    generalize seqR D1 (dataGB L n) = r2 at *
    obtain ⟨D2, c2⟩ := r2
    simp only at t1 t2 t3 t4 t5 ⊢
    rcases t1.cs with rfl | rfl | rfl
    · rw [if_pos rfl]
      exact ⟨o1.transX t1, t2.less (by omega), fun _ => t3 rfl, fun e => (by cases e), fun e => (by cases e)⟩
    · rw [if_neg (show ¬ (3 : Int) = 0 by decide)]
      unfold failD
      rw [if_pos rfl]
      obtain ⟨h2, full⟩ := t4 rfl
      rw [rm, List.length_cons] at full
      have hRl := hj.hot.good.len_le
      obtain ⟨E, c, he, b1, b2, b3, b4⟩ := back_spec (m := m) hj.hot h2 (t1.on (by decide)) (t2.less (by omega)) hm
      rw [he]
      have o2 : OutX D D2 3 := o1.transX t1
      rcases b1.cs with rfl | rfl
      · rw [if_pos rfl]
        exact ⟨⟨.inr (.inl rfl), fun _ => b1.on rfl, fun e => (by cases e), fun h0 => b1.arm (o2.arm h0)⟩, b2, fun e => (by cases e), fun _ => ⟨b3 rfl, full⟩, fun e => (by cases e)⟩
      · rw [if_neg (show ¬ (4 : Int) = 0 by decide)]
        exact ⟨⟨.inr (.inr rfl), fun e => absurd rfl e, fun e => ⟨(b1.off rfl).1, fun h0 => (b1.off rfl).2 (o2.arm h0)⟩, fun h0 => b1.arm (o2.arm h0)⟩, b2, fun e => (by cases e), fun e => (by cases e), fun _ => .inr ⟨R, Y :: recs, hj.hot, b4 rfl⟩⟩
    · rw [if_neg (show ¬ (4 : Int) = 0 by decide)]
      unfold failD
      rw [if_neg (show ¬ (4 : Int) = 3 by decide)]
      exact ⟨o1.transX t1, t2.less (by omega), fun e => (by cases e), fun e => (by cases e), fun _ => .inr ⟨R, Y :: recs, hj.hot, t5 rfl⟩⟩
  · rw [if_neg (show ¬ (3 : Int) = 0 by decide)]
    unfold failD
    rw [if_pos rfl]
    obtain ⟨q1, full⟩ := k4 rfl
    have hcl : seqR D1 [cleanR] = (D1, 0) := by
      have hc : cleanR D1 = (D1, 0) := by unfold cleanR; rw [if_pos (by rw [q1.now]; rfl)]
      rw [seqR_cons, seqR_nil, hc]; rfl
    rw [hcl, if_pos rfl]
    exact ⟨k1, k2.less (by omega), fun e => (by cases e), fun _ => ⟨q1, by omega⟩, fun e => (by cases e)⟩
  · rw [if_neg (show ¬ (4 : Int) = 0 by decide)]
    unfold failD
    rw [if_neg (show ¬ (4 : Int) = 3 by decide)]
    exact ⟨k1, k2.less (by omega), fun e => (by cases e), fun e => (by cases e), fun _ => k5 rfl⟩
end
end Go.Proofs.YtbcghggkfnagoaaGreatDoor

namespace Go.Proofs.YtbcghggkfnagoaaGreatDoor
open Go Go.RowKit Go.Maps Hach

def secsB (bs : List UInt8) : List Sec := (List.range (bs.length / 128)).map fun i => (bs.drop (i * 128)).take 128
theorem secsB_len (bs : List UInt8) : (secsB bs).length = bs.length / 128 := by unfold secsB; rw [List.length_map, List.length_range]
theorem secsB_whole (bs : List UInt8) : ∀ s ∈ secsB bs, s.length = 128 := by
  intro s hs
  unfold secsB at hs
  obtain ⟨i, hi, rfl⟩ := List.mem_map.1 hs
  rw [List.mem_range] at hi
  show ((bs.drop (i * 128)).take 128).length = 128
  rw [List.length_take, List.length_drop]
  omega
theorem secsB_cons {hd bs : List UInt8} (h : hd.length = 128) : secsB (hd ++ bs) = hd :: secsB bs := by
  unfold secsB
  rw [List.length_append, h, show (128 + bs.length) / 128 = bs.length / 128 + 1 by omega, List.range_succ_eq_map, List.map_cons, List.map_map]
  congr 1
  · rw [Nat.zero_mul, List.drop_zero, List.take_append_of_le_length (by omega), List.take_of_length_le (by omega)]
  · apply List.map_congr_left
    intro i _
    show ((hd ++ bs).drop ((i + 1) * 128)).take 128 = _
    have d0 : hd.drop 128 = [] := List.drop_of_length_le (by omega)
    rw [show (i + 1) * 128 = 128 + i * 128 by omega, ← List.drop_drop, List.drop_append_of_le_length (by omega), d0, List.nil_append]
theorem secsB_flat : ∀ (k : Nat) (bs : List UInt8), bs.length = 128 * k → (secsB bs).flatten = bs := by
  intro k
  induction k with
  | zero => intro bs h; have : bs = [] := List.eq_nil_of_length_eq_zero (by omega); subst this; rfl
  | succ k ih =>
    intro bs h
    have e : bs = bs.take 128 ++ bs.drop 128 := (List.take_append_drop 128 bs).symm
    have h1 : (bs.take 128).length = 128 := by rw [List.length_take]; omega
    have h2 := ih (bs.drop 128) (by rw [List.length_drop]; omega)
    rw [e, secsB_cons h1, List.flatten_cons, h2]
def inX (n : Nat) (L : List (Int × List UInt8)) (k : Nat) : Bool := (getB L (k : Int)).isSome || decide (n < k)
def recsFor (S : List (List UInt8)) (n : Nat) (L : List (Int × List UInt8)) : List (Int × List UInt8) :=
  ((List.range S.length).filter fun i => inX n L (i + 1)).map fun i => (((i + 1 : Nat) : Int), S[i]?.getD [])
section
variable {S : List (List UInt8)} {n : Nat} {L : List (Int × List UInt8)}
theorem goodL_of {R : List (Int × List UInt8)} (hg : ∀ r ∈ R, 1 ≤ r.1 ∧ r.1 ≤ 4000 ∧ r.1 ≤ (S.length : Int) ∧ r.2.length = 512) : ∀ (last : Int), R.Pairwise (fun a b => a.1 < b.1) → (∀ r ∈ R, last < r.1) → Jrn.goodL S.length last R = true := by
  induction R with
  | nil => intro _ _ _; rfl
  | cons r R ih =>
    intro last hp hl
    obtain ⟨p, D⟩ := r
    rw [List.pairwise_cons] at hp
    have h1 := hg (p, D) List.mem_cons_self
    have h2 := hl (p, D) List.mem_cons_self
    simp only at h1 h2
    unfold Jrn.goodL Jrn.recGood
    rw [ih (fun r hr => hg r (List.mem_cons_of_mem _ hr)) p hp.2 (fun r hr => hp.1 r hr)]
    rw [decide_eq_true (show (1 ≤ p ∧ p ≤ 4000) ∧ D.length = 512 from ⟨⟨h1.1, h1.2.1⟩, h1.2.2.2⟩), decide_eq_true h2, decide_eq_true h1.2.2.1]
    rfl
theorem GoodR.goodJ {R : List (Int × List UInt8)} (h : GoodR S R) (h4 : S.length ≤ 4000) : Jrn.goodJ R.length S.length R = true := by
  have hl := h.len_le
  unfold Jrn.goodJ
  rw [goodL_of (S := S) (fun r hr => ?_) 0 h.keys (fun r hr => ?_), decide_eq_true rfl, decide_eq_true (show (0 : Int) ≤ (R.length : Int) ∧ (R.length : Int) ≤ 4000 by omega), decide_eq_true (show (0 : Int) ≤ (S.length : Int) ∧ (S.length : Int) ≤ 4000 by omega)]
  · rfl
  · obtain ⟨y, e, h1, h2, h3⟩ := h.all r hr
    exact ⟨by omega, by omega, by omega, h.len _ (List.mem_of_getElem? h3)⟩
  · obtain ⟨y, e, h1, h2, h3⟩ := h.all r hr
    omega
def hd0 (S : List (List UInt8)) (R : List (Int × List UInt8)) (nn : Nat) : Sec := Jrn.headB R.length S.length nn false
def hdY (S : List (List UInt8)) (R : List (Int × List UInt8)) (nn : Nat) : Sec := Jrn.headB R.length S.length nn true
theorem cold_of {X : Sec} {recs : List Sec} (hX : X.length = 128) (h : X[127]? ≠ some 165) : hotS (X :: recs) = false := by
  unfold hotS Jrn.hotB
  have hl : 128 ≤ ((X :: recs).flatten).length := by rw [List.flatten_cons, List.length_append]; omega
  rw [if_neg (by omega)]
  refine Jrn.headIs_unmarked _ ?_ hl
  rw [List.flatten_cons, List.getElem?_append_left (by omega)]
  exact h
theorem jouP {R : List (Int × List UInt8)} (hR : GoodR S R) (h4 : S.length ≤ 4000) (nn : Nat) (hn : nn < 18446744073709551616) (hrows : ∀ y : Nat, 1 ≤ y → y ≤ S.length → ((∃ x ∈ L, x.1 = (y : Int)) ∨ n < y) → ∃ r ∈ R, r.1 = (y : Int)) :
    JouP S n L R (hd0 S R nn) (hdY S R nn) (secsB (Jrn.recsB nn R)) := by
  have hgJ := hR.goodJ h4
  have hl := hR.len_le
  have hc : (0 : Int) ≤ (R.length : Int) ∧ (R.length : Int) ≤ 4000 := by omega
  have hp : (0 : Int) ≤ (S.length : Int) ∧ (S.length : Int) ≤ 4000 := by omega
  have l0 : (hd0 S R nn).length = 128 := Jrn.headB_length hc hp
  have lY : (hdY S R nn).length = 128 := Jrn.headB_length hc hp
  have e0 : hd0 S R nn = Jrn.headN R.length S.length nn := by unfold hd0 Jrn.headB; rw [if_pos ⟨hc, hp⟩]; rfl
  have m0 : (hd0 S R nn)[127]? = some 0 := by rw [e0]; exact Jrn.headN_last _ _ _
  have h4' := (Jrn.journal_parts hgJ).2.2.2
  have lr := Jrn.recsB_length (n := nn) h4'
  have fl : (secsB (Jrn.recsB nn R)).flatten = Jrn.recsB nn R := secsB_flat (5 * R.length) _ (by rw [lr]; omega)
  have eY : (hdY S R nn :: secsB (Jrn.recsB nn R)).flatten = Jrn.bytesJ R.length S.length nn R true ++ [] := by
    rw [List.flatten_cons, fl, List.append_nil]
    unfold Jrn.bytesJ
    rw [if_pos hgJ]; rfl
  obtain ⟨w1, w2, w3, w4, w5⟩ := Jrn.whole_back (n := nn) hgJ hn []
  refine ⟨fun s hs => ?_, ⟨hR, ?_, ?_⟩, ?_, fun g hg => ?_, fun k hk => ?_, hrows⟩
  · rcases List.mem_cons.1 hs with rfl | hs
    · exact l0
    · rcases List.mem_cons.1 hs with rfl | hs
      · exact lY
      · exact secsB_whole _ s hs
  · unfold hotS
    rw [eY]
    have := w1
    unfold Jrn.parseOk at this
    simp only [Bool.and_eq_true] at this
    exact this.1
  · unfold parseS
    rw [eY, if_pos w1]
    have a : Jrn.hdP (Jrn.bytesJ R.length S.length nn R true ++ []) = S.length := by omega
    have b : Jrn.hdC (Jrn.bytesJ R.length S.length nn R true ++ []) = R.length := by omega
    rw [a, b, w5]
  · exact cold_of l0 (by rw [m0]; decide)
  · by_cases hz : g.now = []
    · rw [hz]; rfl
    · obtain ⟨x, r, hx⟩ := List.exists_cons_of_ne_nil hz
      have hold : getL (putsF fileNo 0 (hd0 S R nn :: secsB (Jrn.recsB nn R))).old ((0 : Nat) : Int) = some zeroS := by
        show getL (putsF (putF fileNo 0 (hd0 S R nn)) 1 (secsB (Jrn.recsB nn R))).old ((0 : Nat) : Int) = _
        rw [(putsF_spec _ (putF fileNo 0 (hd0 S R nn)) 1 (by rw [putF_lenC (f := fileNo) (i := 0) (Nat.zero_le _)]; show 1 ≤ max 0 (0 + 1); decide)).2.2 _ (by omega)]
        rfl
      obtain ⟨k, hk, e⟩ := hg.dirty 0 zeroS (by rw [hx]; simp) hold
      have hnow : (putsF fileNo 0 (hd0 S R nn :: secsB (Jrn.recsB nn R))).now[0]?.getD zeroS = hd0 S R nn := by
        rw [(putsF_spec _ fileNo 0 (Nat.le_refl _)).1]; rfl
      rw [hnow, hx] at e
      have e : x = (hd0 S R nn).take k ++ zeroS.drop k := Option.some.inj e
      rw [hx]
      have lx : x.length = 128 := by rw [e, List.length_append, List.length_take, List.length_drop, l0, zeroS_len]; omega
      refine cold_of lx ?_
      rw [e]
      by_cases hk7 : k ≤ 127
      · rw [List.getElem?_append_right (by rw [List.length_take]; omega), List.length_take, List.getElem?_drop, l0]
        unfold zeroS
        rw [List.getElem?_replicate, if_pos (by omega)]
        decide
      · obtain rfl : k = 128 := by omega
        rw [List.getElem?_append_left (by rw [List.length_take]; omega), List.getElem?_take, if_pos (by decide), m0]
        decide
  · by_cases hk7 : k ≤ 127
    · refine .inr (cold_of (by rw [List.length_append, List.length_take, List.length_drop, l0, lY]; omega) ?_)
      rw [List.getElem?_append_right (by rw [List.length_take]; omega), List.length_take, List.getElem?_drop, lY, show k + (127 - min k 128) = 127 by omega, m0]
      decide
    · obtain rfl : k = 128 := by omega
      left
      rw [List.take_of_length_le (by omega), List.drop_of_length_le (by omega), List.append_nil]
end
end Go.Proofs.YtbcghggkfnagoaaGreatDoor
