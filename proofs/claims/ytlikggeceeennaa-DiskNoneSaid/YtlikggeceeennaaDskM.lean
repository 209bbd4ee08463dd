/- THE WALK of Sync. -/
import Derived.Test.YtlikggeceeennaaDskL
set_option linter.unusedVariables false
set_option linter.unusedSimpArgs false
namespace Go.Proofs.Ytlikggeceeennaa
open Go Go.RowKit Go.Maps Hach

/-- What an operation leaves: what was armed, or what is done. -/
def opV (D D2 : DiskV) : DiskV := if D.armed = 1 then crashV D.keep D.torn (tick D) else D2
def opR (D : DiskV) (r : Int) : Int := if D.armed = 1 then 4 else r
theorem op_calls (w : World) (base d : Nat) (p : DiskP) (D : DiskV) (h : Hid (DiskAt w base d p D)) (ho : Hid (D.on = true)) (hn : Hid (NumOk D)) (hkl : Hid (D.keep.length < 1000000)) (fv : Nat) (lb : Array Value) (hent : ∀ (args : Array Value) (w : World), (callFunc fv args).run Try.prog w = .ok (.enter fv args) w) (r : Int) (D2 : DiskV)
    (hdo : Hid (∀ w1, DiskAt w1 base d p (tick D) → Fr (fun k => k = d) w w1 → Calls Try.prog fv lb w1 (StepF w1 (foot d p D) base d D2 (.int .i64 r)))) :
    Calls Try.prog 101 #[.pointer (some ⟨d, 0, none⟩), .func (.func fv) #[] lb] w (StepF w (foot d p D) base d (opV D D2) (.int .i64 (opR D r))) := by
  by_cases ha : D.armed = 1
  · unfold opV opR
    rw [if_pos ha, if_pos ha]
    exact opFire_calls w base d p D h ho hn (hid ha) hkl fv lb
  · unfold opV opR
    rw [if_neg ha, if_neg ha]
    refine opDo_calls w base d p D h hn (hid ha) fv lb hent (.int .i64 r) (fun w' => Goes w (foot d p D) base d D2 w') (hid fun w1 h1 f1 => ?_)
    refine (hdo.out w1 h1 f1).mono ?_
    rintro en w' ⟨rfl, g⟩
    have g := g.out
    refine ⟨rfl, hid ⟨g.1.mono (fun k hk => hk.imp id (fun h2 => Nat.le_trans f1.size h2)), (f1.mono (fun k e => .inl e)).trans' g.2⟩⟩
theorem DiskAt.goes {w w' : World} {base d : Nat} {p : DiskP} {D : DiskV} {f : FileV} {b : Bool} {cs : Array Value} {A : Option Addr} {c : Nat} (h : DiskAt w base d p D) (hk : FileAt w' base d cs 98 (off b) A c (p.mm b) f) (hcs : cs = diskCs (p.setR b A c) (D.setF b f))
    (hf : Fr (fun k => k = d ∨ k = p.mm b ∨ (Value.slice (p.rA b) (D.fl b).now.length (p.rc b)).ownBlock = some k) w w')
    (ho : (Value.slice A f.now.length c).ownBlock = (Value.slice (p.rA b) (D.fl b).now.length (p.rc b)).ownBlock ∨ (Value.slice A f.now.length c).ownBlock = none ∨ ∃ k, w.heap.size ≤ k ∧ (Value.slice A f.now.length c).ownBlock = some k) (hok : FileOk f) :
    Goes w (foot d p D) base d (D.setF b f) w' := by
  obtain ⟨h1, h2⟩ := h.back (n := 0) hk hcs hf ho hok
  exact ⟨⟨_, h1, h2⟩, hf.mono (fun k e => foot_own b e)⟩
def syncV (b : Bool) (D : DiskV) : DiskV := D.setF b (settleF (D.fl b))
theorem FileOk.settled {f : FileV} (h : FileOk f) : FileOk (settleF f) := ⟨h.now, by simp [settleF], by simp [settleF], by simp [settleF], Nat.le_refl _⟩
theorem diskCs_sure (p : DiskP) (D : DiskV) (b : Bool) (f : FileV) (hn : f.now.length = (D.fl b).now.length) : (diskCs p D).setIfInBounds (off b + 2) (.int .i64 f.sure) = diskCs (p.setR b (p.rA b) (p.rc b)) (D.setF b f) := by
  cases b
  · have hn : f.now.length = D.f0.now.length := hn
    unfold diskCs DiskV.setF DiskP.setR; simp only [hn]; rfl
  · have hn : f.now.length = D.f1.now.length := hn
    unfold diskCs DiskV.setF DiskP.setR; simp only [hn]; rfl
theorem sync1_ent (args : Array Value) (w : World) : (callFunc 104 args).run Try.prog w = .ok (.enter 104 args) w := by go_simp
set_option maxRecDepth 100000 in
set_option maxHeartbeats 2000000 in
theorem sync1_calls (w : World) (base d : Nat) (p : DiskP) (D : DiskV) (b : Bool) (bx : Nat) (h : Hid (DiskAt w base d p D)) (hb : w.cell? ⟨bx, 0, none⟩ = some (.pointer (some ⟨d, off b, none⟩))) :
    Calls Try.prog 104 #[.pointer (some ⟨bx, 0, none⟩)] w (StepF w (foot d p D) base d (syncV b D) (.int .i64 0)) := by
  have ST := settle_calls w base d (diskCs p D) 98 (off b) (p.rA b) (p.rc b) (p.mm b) (D.fl b) (hid (h.out.fileB b))
  obtain ⟨o, hoo⟩ : ∃ o, off b = o := ⟨_, rfl⟩
  have HOO := hid hoo
  rw [hoo] at hb ST
  clear hoo
  go_enter Try.func104, Try.ntmps104
  go_wp2_with (go_at_call 105; refine ST.mono ?_; rintro e w6 ⟨rfl, hh⟩)
  go_ret
  obtain ⟨g1, _, g3⟩ := hh.out
  rw [← HOO.out] at g1
  exact ⟨rfl, hid (h.out.goes g1 (diskCs_sure p D b (settleF (D.fl b)) rfl) (g3.mono (fun k e => e.elim .inl (fun e => .inr (.inl e)))) (.inl rfl) (h.out.okB b).settled)⟩
set_option maxRecDepth 100000 in
set_option maxHeartbeats 2000000 in
theorem sync_calls (w : World) (base d : Nat) (p : DiskP) (D : DiskV) (b : Bool) (h : Hid (DiskAt w base d p D)) (ho : Hid (D.on = true)) (hn : Hid (NumOk D)) (hkl : Hid (D.keep.length < 1000000)) :
    Calls Try.prog 47 #[.pointer (some ⟨d, 0, none⟩), .int .i64 (idx b)] w (StepF w (foot d p D) base d (opV D (syncV b (tick D))) (.int .i64 (opR D 0))) := by
  have CF := fileB_calls w base d D b (hid ⟨p, h.out⟩) ho.out
  obtain ⟨o, hoo⟩ : ∃ o, off b = o := ⟨_, rfl⟩
  have HOO := hid hoo
  rw [hoo] at CF
  have UA := upAlD (Up.refl w) (.cells #[.pointer (some ⟨d, o, none⟩)] 131)
  have BB := heap_alloc_new w (.cells #[.pointer (some ⟨d, o, none⟩)] 131)
  have OP := op_calls (w.alloc (.cells #[.pointer (some ⟨d, o, none⟩)] 131)) base d p D (hid (h.out.up UA)) ho hn hkl 104 #[.pointer (some ⟨w.heap.size, 0, none⟩)] sync1_ent 0 (syncV b (tick D)) (hid fun w1 h1 f1 => by
    have hne : w.heap.size ≠ d := fun e => by have := (Array.getElem?_eq_some_iff.1 h.out.own).1; omega
    exact sync1_calls w1 base d p (tick D) b w.heap.size (hid h1) (by rw [cell_of_row _ _ _ _ _ _ ((f1.block w.heap.size (by simp) hne).trans BB), HOO.out]; rfl))
  have UA := hid UA
  clear hoo BB
  generalize idx b = ib at *
  go_enter Try.func47, Try.ntmps47
  go_wp2_with (first
    | (go_at_call 100; refine CF.mono ?_; rintro e w' ⟨rfl, hw⟩; subst hw)
    | (go_at_call 101; refine OP.mono ?_; rintro e w6 ⟨rfl, hh⟩))
  go_ret
  exact ⟨rfl, hid (hh.out.pre UA.out)⟩
end Go.Proofs.Ytlikggeceeennaa
