/- PARTS OF A PROOF, one behind the other: THE WALK of the row, with what Put does with each entry. CONDITIONS: none of this text's own. -/
import Derived.Test.YtbcghggkfnagoaaGreatDoorQS24
import Derived.Deep.LoopGhost
set_option linter.unusedVariables false
set_option linter.unusedSimpArgs false
namespace Go.Proofs.YtbcghggkfnagoaaGreatDoor
open Go Go.RowKit Hach

def goes (room : Int) (e n : Nat) (x : Ent) : Bool := decide (room < (n : Int)) && (decide (x.blk ≠ e) && ((x.pins == 0) && !x.dirty))
def evict (room : Int) (e : Nat) : List Ent → List Ent → List Ent
  | done, [] => done
  | done, x :: rest =>
    if goes room e (done ++ x :: rest).length x = true then (if room < ((done ++ rest).length : Int) then evict room e done rest else done ++ rest)
    else (if room < ((done ++ x :: rest).length : Int) then evict room e (done ++ [x]) rest else done ++ x :: rest)

theorem put1_calls (w : World) (base g : Nat) (room : Int) (mp r : Nat) (hits miss : Int) (l1 l2 : List Ent) (x : Ent) (b3 b7 e : Nat) (h : Hid (CacheAt w base g room mp r hits miss (l1 ++ x :: l2)))
    (h3 : w.cell? ⟨b3, 0, none⟩ = some (ptr g)) (h7 : w.cell? ⟨b7, 0, none⟩ = some (ptr e)) (he : EntB w e) (hb3 : ¬ EntB w b3) (hm3 : b3 ≠ mp) :
    Calls Tryz.prog 182 #[ptr x.blk, ptr b3, ptr b7] w fun en w' => ∃ es b, StepRet w base g room mp r hits miss es b en w' ∧
      ((goes room e (l1 ++ x :: l2).length x = true ∧ es = l1 ++ l2 ∧ b = decide (room < ((l1 ++ l2).length : Int))) ∨ (goes room e (l1 ++ x :: l2).length x = false ∧ es = l1 ++ x :: l2 ∧ b = decide (room < ((l1 ++ x :: l2).length : Int)))) := by
  obtain ⟨n, hn⟩ : ∃ n, (l1 ++ x :: l2).length = n := ⟨_, rfl⟩
  have HN := hid hn
  rw [hn]
  have n1 : ((l1 ++ l2).length : Int) = (n : Int) - 1 := by rw [← hn]; simp only [List.length_append, List.length_cons]; omega
  rw [n1]
  cases hc : decide (room < (n : Int)) with
  | false => exact (put1_A w base g room mp r hits miss l1 l2 x b3 b7 e n h h3 h7 he HN hb3 hm3 hc).mono fun en w' k => ⟨_, _, k, .inr ⟨by unfold goes; rw [hc]; rfl, rfl, by rw [hc]⟩⟩
  | true =>
    by_cases hx : x.blk = e
    · exact (put1_B w base g room mp r hits miss l1 l2 x b3 b7 e n h h3 h7 he HN hb3 hm3 hc hx).mono fun en w' k => ⟨_, _, k, .inr ⟨by unfold goes; rw [hc, decide_eq_false (fun k => k hx)]; rfl, rfl, by rw [hc]⟩⟩
    · cases hp : (x.pins == 0) with
      | false => exact (put1_C w base g room mp r hits miss l1 l2 x b3 b7 e n h h3 h7 he HN hb3 hm3 hc hx hp).mono fun en w' k => ⟨_, _, k, .inr ⟨by unfold goes; rw [hc, decide_eq_true hx, hp]; rfl, rfl, by rw [hc]⟩⟩
      | true =>
        cases hd : x.dirty with
        | true => exact (put1_D w base g room mp r hits miss l1 l2 x b3 b7 e n h h3 h7 he HN hb3 hm3 hc hx hp hd).mono fun en w' k => ⟨_, _, k, .inr ⟨by unfold goes; rw [hc, decide_eq_true hx, hp, hd]; rfl, rfl, by rw [hc]⟩⟩
        | false => exact (put1_E w base g room mp r hits miss l1 l2 x b3 b7 e n h h3 h7 he HN hb3 hm3 hc hx hp hd).mono fun en w' k => ⟨_, _, k, .inl ⟨by unfold goes; rw [hc, decide_eq_true hx, hp, hd]; rfl, rfl, rfl⟩⟩

def hd (r : Nat) : List Ent → Nat
  | [] => r
  | y :: _ => y.blk
theorem chain_next {w : World} {r : Nat} {l1 l2 : List Ent} {x : Ent} (h : Chain w r ((l1 ++ x :: l2).map Ent.blk ++ [r])) : w.cell? ⟨x.blk, 4, none⟩ = some (ptr (hd r l2)) := by
  rw [map_mid, List.append_assoc, List.cons_append] at h
  obtain ⟨_, _, h3⟩ := Chain.append.1 h
  cases l2 with
  | nil => exact h3.1.1
  | cons y l => exact h3.1.1
theorem chain_first {w : World} {r : Nat} {l : List Ent} (h : Chain w r (l.map Ent.blk ++ [r])) : w.cell? ⟨r, 4, none⟩ = some (ptr (hd r l)) := by
  cases l with
  | nil => exact h.1.1
  | cons y l => exact h.1.1

theorem hd_nil (r : Nat) : hd r [] = r := rfl
theorem hd_cons (r : Nat) (x : Ent) (l : List Ent) : hd r (x :: l) = x.blk := rfl
theorem EntB.back {w w' : World} {b : Nat} {S : Nat → Prop} (h : EntB w' b) (hf : Fr S w w') (hS : ¬ S b) (hlt : b < w.heap.size) : EntB w b := by
  obtain ⟨cs, h1, h2⟩ := h
  exact ⟨cs, by rw [← hf.block b hlt hS]; exact h1, h2⟩

def RowInv (w wr : World) (base g : Nat) (room : Int) (mp r : Nat) (hits miss : Int) (b3 b7 e : Nat) (done rest RES : List Ent) : Prop :=
  CacheAt wr base g room mp r hits miss (done ++ rest) ∧ (∃ y ∈ done ++ rest, y.blk = e) ∧ Fr (fun k => k = mp ∨ EntB w k) w wr ∧ Below base w wr ∧ evict room e done rest = RES

set_option maxRecDepth 100000 in
set_option maxHeartbeats 1000000 in
theorem rowPut_calls (w : World) (base g : Nat) (room : Int) (mp r : Nat) (hits miss : Int) (es : List Ent) (b3 b7 e : Nat) (h : Hid (CacheAt w base g room mp r hits miss es))
    (h3 : Hid (w.cell? ⟨b3, 0, none⟩ = some (ptr g))) (h7 : Hid (w.cell? ⟨b7, 0, none⟩ = some (ptr e))) (he : Hid (∃ y ∈ es, y.blk = e)) (hb3 : Hid (¬ EntB w b3)) (hm3 : Hid (b3 ≠ mp)) (hb7 : Hid (¬ EntB w b7)) (hm7 : Hid (b7 ≠ mp)) :
    Calls Tryz.prog 181 #[ptr g, .func (.func 182) #[] #[ptr b3, ptr b7]] w fun en w' => en = .returned (.tuple #[]) ∧ Hid (CacheAt w' base g room mp r hits miss (evict room e [] es) ∧ Fr (fun k => k = mp ∨ EntB w k) w w' ∧ Below base w w') := by
  obtain ⟨RES, hR⟩ : ∃ R, evict room e [] es = R := ⟨_, rfl⟩
  rw [hR]
  have HR := hid hR
  have g2 := h.out.own.c2
  have f4 := chain_first h.out.row
  have ring := h.out.ring
  have START : Hid (RowInv w w base g room mp r hits miss b3 b7 e [] es RES) := hid ⟨h.out, he.out, Fr.refl _ _, Below.refl _ _, hR⟩
  clear hR
  obtain ⟨f0, hf0⟩ : ∃ f, hd r es = f := ⟨_, rfl⟩
  have HF0 := hid hf0
  rw [hf0] at f4
  clear hf0
  unfold ptr at g2 f4 ⊢
  go_enter Tryz.func181, Tryz.ntmps181
  go_wp2
  clear g2 f4 ring
  go_loopg [4] es.length (fun k c wr => ∃ done rest, rest.length = k ∧ c = .pointer (some ⟨hd r rest, 0, none⟩) ∧ Hid (RowInv w wr base g room mp r hits miss b3 b7 e done rest RES))
  case atStart => exact ⟨[], es, rfl, by rw [HF0.out], START⟩
  case round =>
    obtain ⟨done, rest, hk, rfl, iv⟩ := hrel
    obtain ⟨ca, ee, fr, bl, ev⟩ := iv.out
    have g2 := ca.own.c2
    cases rest with
    | nil =>
      have nn := neq_same wr r
      unfold ptr at g2
      rw [hd_nil]
      have EV := hid (show done = RES from ev)
      clear ev
      go_wp2
      go_end0
      exact ⟨rfl, hid ⟨by rw [← EV.out]; have := ca; rwa [List.append_nil] at this, fr, bl⟩⟩
    | cons x rest =>
      have hx := ca.ents x (by simp)
      have hxr : x.blk ≠ r := by
        intro e9
        have := ca.nodup
        rw [List.nodup_cons] at this
        exact this.1 (by rw [← e9]; exact List.mem_map.2 ⟨x, by simp, rfl⟩)
      have nn := neq_other wr x.blk r hx.1 ca.ring hxr
      have f4 := chain_next ca.row
      rw [hd_cons]
      obtain ⟨f1, hf1⟩ : ∃ f, hd r rest = f := ⟨_, rfl⟩
      have HF1 := hid hf1
      rw [hf1] at f4
      have c3 : wr.cell? ⟨b3, 0, none⟩ = some (ptr g) := fr.cell h3.out (by rintro (e9 | e9); exact hm3.out e9; exact hb3.out e9)
      have c7 : wr.cell? ⟨b7, 0, none⟩ = some (ptr e) := fr.cell h7.out (by rintro (e9 | e9); exact hm7.out e9; exact hb7.out e9)
      have nb3 : ¬ EntB wr b3 := fun e9 => hb3.out (e9.back fr (by rintro (e8 | e8); exact hm3.out e8; exact hb3.out e8) (World.block_lt_of_cell? _ _ h3.out))
      have CA := hid ca
      have EE := hid (show EntB wr e by obtain ⟨y, hy, rfl⟩ := ee; exact (ca.ents y hy).1)
      have EY := hid ee
      have FRR := hid fr
      have BLL := hid bl
      have C3 := hid c3
      have C7 := hid c7
      have NB3 := hid nb3
      have EV := hid ev
      have GK := hid hk
      clear iv ca ee fr bl ev hx hxr hf1 c3 c7 nb3 hk
      unfold ptr at g2 f4
      go_wp2_with fail
      refine (put1_calls wr base g room mp r hits miss done rest x b3 b7 e CA C3.out C7.out EE.out NB3.out hm3.out).mono ?_
      rintro en w2 ⟨es', b, ⟨rfl, hh⟩, hcase⟩
      have key : Hid (∃ done', CacheAt w2 base g room mp r hits miss (done' ++ rest) ∧ (∃ y ∈ done' ++ rest, y.blk = e) ∧ (b = true → evict room e done' rest = RES) ∧ (b = false → done' ++ rest = RES)) := by
        have ev := EV.out
        unfold evict at ev
        rcases hcase with ⟨q1, rfl, q2⟩ | ⟨q1, rfl, q2⟩
        · rw [if_pos q1] at ev
          refine hid ⟨done, hh.out.1, ?_, fun hb => ?_, fun hb => ?_⟩
          · obtain ⟨y, hy, hye⟩ := EY.out
            refine ⟨y, ?_, hye⟩
            rcases List.mem_append.1 hy with hy | hy
            · exact List.mem_append_left _ hy
            · rcases List.mem_cons.1 hy with hy | hy
              · subst hy
                unfold goes at q1
                simp only [Bool.and_eq_true, decide_eq_true_eq] at q1
                exact absurd hye q1.2.1
              · exact List.mem_append_right _ hy
          · rw [hb] at q2; rw [if_pos (of_decide_eq_true q2.symm)] at ev; exact ev
          · rw [hb] at q2; rw [if_neg (of_decide_eq_false q2.symm)] at ev; exact ev
        · rw [if_neg (by rw [q1]; decide)] at ev
          refine hid ⟨done ++ [x], by have := hh.out.1; rwa [List.append_assoc], by rw [List.append_assoc]; exact EY.out, fun hb => ?_, fun hb => ?_⟩
          · rw [hb] at q2; rw [if_pos (of_decide_eq_true q2.symm)] at ev; exact ev
          · rw [hb] at q2; rw [if_neg (of_decide_eq_false q2.symm)] at ev; rw [List.append_assoc]; exact ev
      have F2 : Hid (Fr (fun k => k = mp ∨ EntB w k) w w2) := hid (FRR.out.trans hh.out.2.1 (fun i hi hh => by
        rcases hh with h9 | h9
        · exact .inl h9
        · by_cases h8 : i = mp
          · exact .inl h8
          · by_cases h7 : EntB w i
            · exact .inr h7
            · exact .inr (h9.back FRR.out (by rintro (q | q); exact h8 q; exact h7 q) hi)))
      have B2 := hid (BLL.out.trans hh.out.2.2)
      clear hcase hh
      cases b with
      | false =>
        obtain ⟨done', k1, _, _, k2⟩ := key.out
        have k3 : done' ++ rest = RES := k2 (by trivial)
        rw [k3] at k1
        have K1 := hid k1
        clear k1 k2 k3 key
        go_wp2
        refine bodyPost_ret (v := .tuple #[]) (by simp [results, Tryz.results181, go_sem]) rfl ⟨rfl, hid ⟨K1.out, F2.out, B2.out⟩⟩
      | true =>
        go_wp2
        obtain ⟨done', k1, k3, k2, _⟩ := key.out
        go_roundg rest.length
        case measure => have := GK.out; rw [← this]; exact Nat.lt_succ_self _
        case rel => exact ⟨done', rest, rfl, by rw [HF1.out], hid ⟨k1, k3, F2.out, B2.out, k2 (by trivial)⟩⟩
end Go.Proofs.YtbcghggkfnagoaaGreatDoor
