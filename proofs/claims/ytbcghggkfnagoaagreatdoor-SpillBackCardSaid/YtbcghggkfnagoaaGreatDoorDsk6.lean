/- PUT, by its law; files stay well. -/
import Derived.Test.YtbcghggkfnagoaaGreatDoorDsk5
set_option linter.unusedVariables false
set_option linter.unusedSimpArgs false
namespace Go.Proofs.YtbcghggkfnagoaaGreatDoor
open Go Go.RowKit Go.Maps Hach

theorem getL_none {L : Olds} {k : Int} (h : ∀ p ∈ L, p.1 ≠ k) : getL L k = none := by
  unfold getL
  rw [List.find?_eq_none.2 (fun p hp => by simpa using h p hp)]; rfl
theorem dput_calls (w : World) (base d : Nat) (cs : Array Value) (t : TypeId) (o : Nat) (A : Option Addr) (c m : Nat) (f : FileV) (i : Nat) (s : Sec) (bb bp cB : Nat) (h : Hid (FileAt w base d cs t o A c m f)) (hok : Hid (FileOk f)) (hi : Hid (i ≤ f.now.length ∧ f.now.length < 999999 ∧ f.old.length < 999999))
    (hs : Hid (s.length = 128)) (hb : Hid (ByteRow w bb bp s)) :
    Calls Tryz.prog 173 #[.pointer (some ⟨d, o, none⟩), .int .i64 i, .slice (some ⟨bb, bp, none⟩) 128 cB] w (DPutRet w base d cs t o A c m f (putF f i s)) := by
  by_cases hn : i = f.now.length
  · have hd : getL f.old i = none := getL_none (fun p hp => by have := (hok.out.rng p hp).2; omega)
    have e : putF f i s = { f with now := (f.now ++ [zeroS]).set i s, old := putL f.old i zeroS } := by
      unfold putF growF markF oldAt
      have hsu := hok.out.sure
      rw [if_pos hn]
      simp only [hd, Option.isSome_none]
      rw [if_neg (by simp), if_neg (by omega)]
    rw [e]
    exact putGrow_calls w base d cs t o A c m f i s bb bp cB h hok (hid ⟨hn.symm, hi.out.2⟩) (hid hd) hs hb
  · have hlt : i < f.now.length := by have := hi.out; omega
    have g : growF f i = f := by unfold growF; rw [if_neg hn]
    cases hd : getL f.old i with
    | some v =>
      have e : putF f i s = { f with now := f.now.set i s } := by
        unfold putF markF
        rw [g]
        simp only [hd, Option.isSome_some, if_true]
      rw [e]
      exact putDirty_calls w base d cs t o A c m f i s bb bp cB h hok (hid ⟨hlt, by have := hi.out; omega⟩) (hid (by rw [hd]; rfl)) hs hb
    | none =>
      by_cases hsu : i < f.sure
      · have e : putF f i s = { f with now := f.now.set i s, old := putL f.old i (f.now[i]'hlt) } := by
          unfold putF markF oldAt
          rw [g]
          simp only [hd, Option.isSome_none]
          rw [if_neg (by simp), if_pos hsu, List.getElem?_eq_getElem hlt]
          rfl
        rw [e]
        exact dputOld_calls w base d cs t o A c m f i s bb bp cB h hok (hid ⟨hlt, by have := hi.out; omega, hi.out.2.2⟩) (hid hd) (hid hsu) hs hb
      · have e : putF f i s = { f with now := f.now.set i s, old := putL f.old i zeroS } := by
          unfold putF markF oldAt
          rw [g]
          simp only [hd, Option.isSome_none]
          rw [if_neg (by simp), if_neg hsu]
        rw [e]
        exact putFresh_calls w base d cs t o A c m f i s bb bp cB h hok (hid ⟨hlt, by have := hi.out; omega, hi.out.2.2⟩) (hid hd) (hid hsu) hs hb
/-! ### files stay well -/
theorem mem_insL {x y : Int × Sec} {L : Olds} : y ∈ insL x L ↔ y = x ∨ y ∈ L := by
  induction L with
  | nil => simp [insL]
  | cons z r ih =>
    unfold insL
    split
    · simp
    · rw [List.mem_cons, ih, List.mem_cons]
      constructor
      · rintro (h | h | h)
        · exact .inr (.inl h)
        · exact .inl h
        · exact .inr (.inr h)
      · rintro (h | h | h)
        · exact .inr (.inl h)
        · exact .inl h
        · exact .inr (.inr h)
theorem insL_rising {x : Int × Sec} {L : Olds} (h : (L.map (·.1)).Pairwise (· < ·)) (hx : ∀ y ∈ L, y.1 ≠ x.1) : ((insL x L).map (·.1)).Pairwise (· < ·) := by
  induction L with
  | nil => simp [insL]
  | cons z r ih =>
    rw [List.map_cons, List.pairwise_cons] at h
    unfold insL
    split
    · rename_i hlt
      have hlt := of_decide_eq_true hlt
      rw [List.map_cons, List.map_cons, List.pairwise_cons, List.pairwise_cons]
      refine ⟨fun a ha => ?_, h.1, h.2⟩
      rcases List.mem_cons.1 ha with rfl | ha
      · exact hlt
      · have := h.1 a ha; omega
    · rename_i hlt
      rw [List.map_cons, List.pairwise_cons]
      refine ⟨fun a ha => ?_, ih h.2 (fun y hy => hx y (List.mem_cons_of_mem _ hy))⟩
      obtain ⟨y, hy, rfl⟩ := List.mem_map.1 ha
      rcases mem_insL.1 hy with rfl | hy
      · have h1 := hx z List.mem_cons_self
        have h2 : ¬ y.1 < z.1 := fun e => hlt (decide_eq_true e)
        omega
      · exact h.1 _ (List.mem_map.2 ⟨y, hy, rfl⟩)
theorem mem_putL {L : Olds} {k : Int} {s : Sec} {y : Int × Sec} (h : y ∈ putL L k s) : y = (k, s) ∨ y ∈ L := by
  unfold putL at h
  rcases mem_insL.1 h with h | h
  · exact .inl h
  · exact .inr (List.mem_filter.1 h).1
theorem putL_rising {L : Olds} {k : Int} {s : Sec} (h : (L.map (·.1)).Pairwise (· < ·)) : ((putL L k s).map (·.1)).Pairwise (· < ·) := by
  unfold putL
  refine insL_rising (h.sublist (List.filter_sublist.map _)) (fun y hy e => ?_)
  have := (List.mem_filter.1 hy).2
  unfold keep at this
  rw [decide_eq_true e] at this
  cases this
theorem FileOk.grow {f : FileV} (h : FileOk f) (i : Nat) : FileOk (growF f i) := by
  unfold growF
  split
  · refine ⟨fun s hs => ?_, h.old, h.keys, fun p hp => ⟨(h.rng p hp).1, ?_⟩, ?_⟩
    · rcases List.mem_append.1 hs with hs | hs
      · exact h.now s hs
      · rw [List.mem_singleton.1 hs]; exact zeroS_len
    · have := (h.rng p hp).2; show p.1 < ((f.now ++ [zeroS]).length : Int); rw [List.length_append]; omega
    · show f.sure ≤ (f.now ++ [zeroS]).length; rw [List.length_append]; have := h.sure; omega
  · exact h
theorem FileOk.mark {f : FileV} (h : FileOk f) {i : Nat} (hi : i < f.now.length) : FileOk (markF f i) := by
  unfold markF
  split
  · exact h
  · refine ⟨h.now, fun p hp => ?_, putL_rising h.keys, fun p hp => ?_, h.sure⟩
    · rcases mem_putL hp with rfl | hp
      · show (oldAt f i).length = 128
        unfold oldAt
        split
        · rw [List.getElem?_eq_getElem hi]; exact h.now _ (List.getElem_mem hi)
        · exact zeroS_len
      · exact h.old p hp
    · rcases mem_putL hp with rfl | hp
      · exact ⟨by show (0 : Int) ≤ (i : Int); omega, by show (i : Int) < (f.now.length : Int); omega⟩
      · exact h.rng p hp
theorem growF_length {f : FileV} {i : Nat} (hi : i ≤ f.now.length) : i < (growF f i).now.length ∧ (growF f i).now.length = max (i + 1) f.now.length := by
  unfold growF
  split
  · show i < (f.now ++ [zeroS]).length ∧ (f.now ++ [zeroS]).length = _
    rw [List.length_append]; simp only [List.length_singleton]; omega
  · omega
theorem FileOk.put {f : FileV} (h : FileOk f) {i : Nat} (hi : i ≤ f.now.length) {s : Sec} (hs : s.length = 128) : FileOk (putF f i s) := by
  have k := (h.grow i).mark (growF_length hi).1
  unfold putF
  refine ⟨fun x hx => Whole.set k.now i hs x hx, k.old, k.keys, fun p hp => ?_, ?_⟩
  · show _ ∧ p.1 < ((List.set _ _ _).length : Int); rw [List.length_set]; exact k.rng p hp
  · show _ ≤ (List.set _ _ _).length; rw [List.length_set]; exact k.sure
end Go.Proofs.YtbcghggkfnagoaaGreatDoor
