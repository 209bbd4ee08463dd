/- A SECTOR's end is copied over: what a crash does with one. -/
import Derived.Test.YtbcghggkfnagoaaGreatDoorDskH
import Derived.Laws.CopyOwn
set_option linter.unusedVariables false
set_option linter.unusedSimpArgs false
namespace Go.Proofs.YtbcghggkfnagoaaGreatDoor
open Go Go.RowKit Go.Maps Hach

/-- One sector is what stays of it, then what was sure. -/
def crashSec (now : List Sec) (i stay : Nat) (old : Sec) : List Sec := now.set i ((now[i]?.getD zeroS).take stay ++ old.drop stay)
theorem crashSec_length (now : List Sec) (i stay : Nat) (old : Sec) : (crashSec now i stay old).length = now.length := List.length_set
theorem crashSec_whole {now : List Sec} (h : Whole now) {i stay : Nat} (hi : i < now.length) (hs : stay ≤ 128) {old : Sec} (ho : old.length = 128) : Whole (crashSec now i stay old) := by
  refine Whole.set h i ?_
  rw [List.getElem?_eq_getElem hi, Option.getD_some, List.length_append, List.length_take, List.length_drop, h _ (List.getElem_mem hi), ho]
  omega
theorem splice_mid (P Q R X : List Value) (k : Nat) (hk : k ≤ Q.length) (hx : X.length = Q.length) : splice (P ++ (Q ++ R)) (P.length + k) (X.drop k) = P ++ ((Q.take k ++ X.drop k) ++ R) := by
  unfold splice
  have e1 : (P ++ (Q ++ R)).take (P.length + k) = P ++ Q.take k := by
    rw [List.take_length_add_append, List.take_append_of_le_length hk]
  have e2 : (P ++ (Q ++ R)).drop (P.length + k + (X.drop k).length) = R := by
    rw [List.length_drop, show P.length + k + (X.length - k) = P.length + Q.length by omega, List.drop_length_add_append, List.drop_left]
  rw [e1, e2, List.append_assoc, List.append_assoc]
theorem splice_sec {now : List Sec} (h : Whole now) {i stay : Nat} (hi : i < now.length) (hs : stay ≤ 128) {old : Sec} (ho : old.length = 128) :
    splice (now.flatMap secC) (i * 128 + stay) ((secC old).drop stay) = (crashSec now i stay old).flatMap secC := by
  have hl : ((now.take i).flatMap secC).length = i * 128 := by
    rw [flatS_length (fun s hs => h s (List.mem_of_mem_take hs)), List.length_take, Nat.min_eq_left (by omega)]
  have h8 := h _ (List.getElem_mem hi)
  rw [flatS_split h hi, ← hl, splice_mid _ _ _ _ _ (by rw [secC_length, h8]; exact hs) (by rw [secC_length, secC_length, ho, h8])]
  have e : crashSec now i stay old = now.take i ++ (now[i].take stay ++ old.drop stay) :: now.drop (i + 1) := by
    unfold crashSec
    rw [List.getElem?_eq_getElem hi, Option.getD_some]
    generalize now[i].take stay ++ old.drop stay = X
    conv => lhs; rw [← List.take_append_drop i now, List.drop_eq_getElem_cons hi]
    rw [List.set_append_right _ _ (by rw [List.length_take]; omega), List.length_take, Nat.min_eq_left (by omega), Nat.sub_self, List.set_cons_zero]
  rw [e, List.flatMap_append, List.flatMap_cons]
  congr 2
  unfold secC
  rw [List.map_append, List.map_take, List.map_drop]
theorem own_splice {w : World} {base : Nat} {e : TypeId} {size g n c : Nat} {xs : List Value} (h : w.ownsRow base e size (.slice (some ⟨g, 0, none⟩) n c) n xs) :
    ∃ cur : Array Value, w.heap[g]? = some (.cells cur e (0, 0)) ∧ n * size ≤ cur.size ∧ ∀ off news, off + news.length ≤ n * size →
      (w.setRow g (cur.toList.take off ++ (news ++ cur.toList.drop (off + news.length))).toArray).ownsRow base e size (.slice (some ⟨g, 0, none⟩) n c) n (splice xs off news) := by
  obtain ⟨hlen, hh | ⟨g', cap, cur, hv, hb, hg, hnc, hcm, hcs, htake⟩⟩ := h
  · cases hh.1
  injection hv with e1 _ e3
  injection e1 with e1
  injection e1 with e1 _ _
  subst e1; subst e3
  refine ⟨cur, hg, ?_, fun off news hfit => ?_⟩
  · rw [hcs]; exact Nat.mul_le_mul_right _ hnc
  · have hcn : n * size ≤ cur.size := by rw [hcs]; exact Nat.mul_le_mul_right _ hnc
    refine ⟨?_, .inr ⟨g, c, _, rfl, hb, setRow_heap w g _ _ _ _ hg, hnc, hcm, ?_, ?_⟩⟩
    · rw [length_splice]
      · exact hlen
      · rw [hlen]; omega
    · simp only [List.size_toArray, List.length_append, List.length_take, List.length_drop, Array.length_toList]
      omega
    · rw [← htake]
      exact take_splice _ _ _ _ (by omega)
theorem fr_setRow (w : World) (g : Nat) (cs : Array Value) : Fr (fun k => k = g) w (w.setRow g cs) := ⟨rfl, rfl, rfl, by simp [World.setRow], fun q _ hq => setRow_other w g q _ hq⟩
/-- copy, from one sector's end to another's. -/
theorem wp_copyS {w : World} {base d o m c i g bx stay : Nat} {cs : Array Value} {t : TypeId} {A : Option Addr} {f : FileV} (h : FileAt w base d cs t o A c m f) (hi : i < f.now.length) (hA : A = some ⟨g, 0, none⟩) {old : Sec} (hold : w.rangeAt bx 0 (secC old)) (ho : old.length = 128) (hs : stay ≤ 128)
    {q : Oper} {a : Act} {K : Act → World → Prop} {Q : Exit → Act → World → Prop} (x y : Operand) (hq : q.op = .call { callee := .builtin .copy, args := #[x, y], argTypes := #[64, 64] }) {dp sp : Option Addr} {dc sc n : Nat}
    (hx : a.eval x = .slice dp n dc) (hy : a.eval y = .slice sp n sc) (hn : n = 128 - stay) (hpos : stay < 128 → dp = some ⟨g, i * 128 + stay, none⟩ ∧ sp = some ⟨bx, stay, none⟩)
    (hK : ∀ w', FileAt w' base d cs t o A c m { f with now := crashSec f.now i stay old } → Fr (fun k => k = g) w w' → K (a.put q.dst (goInt n)) w') : q.wp Tryz.prog a w K Q := by
  subst hA
  have hown : (Value.slice (some ⟨g, 0, none⟩) f.now.length c).ownBlock = some g := rfl
  have hne := h.ne.2 g hown
  have ht : Tryz.prog.underlying 64 = some (.slice 5) := Tryz.underlying64
  have hi1 : (Tryz.prog.info? 5).map (·.size) = some 1 := by kernel_rfl
  have GO : ∀ w', w'.ownsRow base 173 128 (.slice (some ⟨g, 0, none⟩) f.now.length c) f.now.length ((crashSec f.now i stay old).flatMap secC) → Fr (fun k => k = g) w w' →
      FileAt w' base d cs t o (some ⟨g, 0, none⟩) c m { f with now := crashSec f.now i stay old } := fun w' hr hf =>
    ⟨(hf.block d (Array.getElem?_eq_some_iff.1 h.own).1 (fun e => hne.1 e.symm)).trans h.own, by show cs[o]? = some (.slice _ (crashSec f.now i stay old).length c); rw [crashSec_length]; exact h.c0, h.c1, h.c2,
      by show World.ownsRow _ _ _ _ (.slice _ (crashSec f.now i stay old).length c) (crashSec f.now i stay old).length _; rw [crashSec_length]; exact hr, h.map.kept hf (fun e => hne.2 e.symm), crashSec_whole h.len hi hs ho, h.low, h.ty⟩
  obtain ⟨cur, hg, hsz, hsp⟩ := own_splice h.row
  have hin : i * 128 + 128 ≤ f.now.length * 128 := by omega
  have hdl : ((secC old).drop stay).length = 128 - stay := by rw [List.length_drop, secC_length, ho]
  by_cases h8 : stay = 128
  · subst h8
    have hrun := run_copy_none (P := Tryz.prog) w 64 64 q.type 5 dp sp n dc n sc ht hi1 (by rw [hn]; rfl)
    unfold Oper.wp
    simp [execOp, hq, resolve, invoke, builtin, hx, hy, hrun, Result.andThen]
    have e0 : n = 0 := by omega
    have := hK w (GO w (by
      have := h.row
      have e : crashSec f.now i 128 old = f.now := by
        unfold crashSec
        rw [List.getElem?_eq_getElem hi, Option.getD_some, List.take_of_length_le (by rw [h.len _ (List.getElem_mem hi)]; omega), List.drop_of_length_le (by omega), List.append_nil, List.set_getElem_self]
      rw [e]; exact this) (Fr.refl _ w)) (Fr.refl _ w)
    rw [e0] at this
    exact this
  · obtain ⟨rfl, rfl⟩ := hpos (by omega)
    have hrun := run_copy_row (P := Tryz.prog) w 64 64 q.type 5 g (i * 128 + stay) n dc ⟨bx, stay, none⟩ n sc cur 173 ((secC old).drop stay) ht hi1 hg (by rw [hdl, hn]; simp) (fun j v hv => by
      rw [add_plain]
      rw [List.getElem?_drop] at hv
      have := hold (stay + j) v hv
      rwa [Nat.zero_add] at this) (by rw [hdl]; omega) (fun v hv => secC_one old v (List.mem_of_mem_drop hv))
    have hr := hsp (i * 128 + stay) ((secC old).drop stay) (by rw [hdl]; omega)
    rw [splice_sec h.len hi hs ho] at hr
    have hdn : ((secC old).drop stay).length = n := by rw [hdl, hn]
    rw [hdn] at hrun hr
    rw [← List.append_assoc] at hr
    unfold Oper.wp execOp
    simp only [hq, resolve, invoke, builtin, Sem.run_bind, Sem.run_pure, Result.andThen_ok, List.map_toArray, List.map_cons, List.map_nil, hx, hy, hrun]
    exact hK _ (GO _ hr (fr_setRow w g _)) (fr_setRow w g _)
end Go.Proofs.YtbcghggkfnagoaaGreatDoor
