/- PARTS OF A PROOF, one behind the other: THE WALK of journal.blank, at a head that is none. CONDITIONS: none of this text's own. -/
import Derived.Test.YtbcghggkfnagoaaGreatDoorQS31
import Derived.Deep.MidRow
import Derived.Laws.StructEq
set_option linter.unusedVariables false
set_option linter.unusedSimpArgs false
namespace Go.Proofs.YtbcghggkfnagoaaGreatDoor
open Go Go.RowKit Hach

theorem arr_differ (P : Program) (w : World) (t e : TypeId) (len d : Nat) (xs ys : Array Value) (k k' : IntKind) (a b : Int)
    (ht : P.underlying t = some (.array (len + 1) e)) (he : P.underlying e = some (.int k')) (hi : (P.info? e).map (·.size) = some 1)
    (h1 : ∀ w, (part e xs 0).run P w = .ok (.int k a) w) (h2 : ∀ w, (part e ys 0).run P w = .ok (.int k b) w) (hne : a ≠ b) :
    (Op.equalIn (d + 2) t (.agg xs) (.agg ys)).run P w = .ok false w := by
  have hs : ∀ w, (sizeOf e).run P w = .ok 1 w := by
    intro w
    obtain ⟨i, h3, h4⟩ := Option.map_eq_some_iff.1 hi
    simp [Go.sizeOf, typeInfo, h3, h4]
  have hf : (a == b) = false := beq_eq_false_iff_ne.2 hne
  unfold Op.equalIn
  simp only [Sem.run_bind, run_underlying ht, Result.andThen_ok, hs]
  rw [Std.Legacy.Range.forIn_eq_forIn_range']
  have hr : List.range' 0 (len + 1) = 0 :: List.range' 1 len := rfl
  simp only [Std.Legacy.Range.size, Nat.sub_zero, Nat.add_sub_cancel, Nat.div_one, hr, List.forIn_cons]
  simp [h1, h2, run_equalIn_int, he, hf]

theorem part_first (P : Program) (w : World) (e : TypeId) (k' : IntKind) (cs : Array Value) (v : Value) (he : P.underlying e = some (.int k')) (hc : cs[0]? = some v) : (part e cs 0).run P w = .ok v w := by
  simp [part, isAgg, run_underlying he, hc]

set_option maxRecDepth 100000 in
theorem blank_calls (w : World) (A : Option Addr) (xs : List UInt8) (c : Nat) (x : UInt8) (hn : Hid (xs.length = 128)) (hx : Hid (xs[0]? = some x)) (h0 : Hid (x ≠ 0)) (hb : Hid (Bytes w A xs)) :
    Calls Tryz.prog 163 #[.slice A 128 c] w fun e w' => e = .returned (.bool false) ∧ w = w' := by
  obtain ⟨b, off, rfl, _⟩ := hb.out 0 (by rw [hn.out]; decide)
  have hr := hid (show w.rangeAt b off (xs.map byteCell) from fun j v hj => by
    obtain ⟨b', o', e, q⟩ := hb.out.rd j v hj
    injection e with e; injection e with e1 e2; subst e1; subst e2; exact q)
  have heq := hid (show ∀ w0 : World, (Op.equalIn 10000 172 (.agg (xs.map byteCell).toArray) (.agg Tryz.zeroCells172)).run Tryz.prog w0 = .ok false w0 from fun w0 => by
    refine arr_differ Tryz.prog w0 172 5 127 9998 _ _ .u8 .u8 (n8 x) 0 Tryz.underlying172 Tryz.underlying5 (by kernel_rfl) ?_ ?_ ?_
    · intro w1
      refine part_first Tryz.prog w1 _ _ _ _ Tryz.underlying5 ?_
      rw [List.getElem?_toArray, List.getElem?_map, hx.out]; rfl
    · intro w1
      refine part_first Tryz.prog w1 _ _ _ _ Tryz.underlying5 ?_
      rw [zc128, List.getElem?_toArray, List.getElem?_replicate, if_pos (by decide)]
    · intro e
      apply h0.out
      have : x.toNat = 0 := by have := e; unfold n8 at this; omega
      exact UInt8.toNat_inj.1 (by simpa using this))
  have ha : ∀ w0 : World, (Instr.arrayAt 172 (.slice (some ⟨b, off, none⟩) 128 c)).run Tryz.prog w0 = .ok (.pointer (some ⟨b, off, none⟩)) w0 := fun w0 => by
    simp [Instr.arrayAt, run_underlying Tryz.underlying172]
  go_enter Tryz.func163, Tryz.ntmps163
  go_wp2_with (with_reducible refine hold_at 5 ?_)
  refine hid (wpList_load_mid rfl 172 (.tmp 4) rfl b off rfl (xs.map byteCell) _ hr.out Tryz.underlying172 rfl (by rw [List.length_map, hn.out]; kernel_rfl) ?_)
  have hg : Tryz.prog.eqGuardType Tryz.prog.depth 172 = false := by kernel_rfl
  have heq' := heq.out
  generalize (xs.map byteCell).toArray = cs at *
  go_wp2
  go_ret
  exact ⟨rfl, rfl⟩
end Go.Proofs.YtbcghggkfnagoaaGreatDoor
