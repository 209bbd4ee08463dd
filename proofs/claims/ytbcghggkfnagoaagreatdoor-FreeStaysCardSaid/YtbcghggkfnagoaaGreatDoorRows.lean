/-
  NARROWER THAN 'FOR EVERY INPUT', by the rows' own cells (each row's printed sentence says how): FreeOnce: laid · PagerFull: laid · SpillWrong: laid · PagerCrash: laid · PagerNone: laid · FreeActs: laid · PagerDead: laid · FreeNone: laid · SpillBack: laid · FreeStays: laid.
  DERIVED. THE GIVEN ROWS OF THIS SEAT. 10 by the template 'for every input the law returns true; each argument reads behind the call as it read before'; 0 by the template 'total and deterministic' (their statements: YtbcghggkfnagoaaGreatDoorTotals.lean).
  GIVEN WITH THE SEED: the statements are not yours to turn. If you find one false, say at which input.
  Laid BY PROGRAM, IN A SANDBOX (cutbox-rows.mjs): the forced cells as the released guide's own fill.sh prints them over the translation 1434722bb21f62db… (all of the seat's roots in one cut). By AI agents, Wed Nov 11 2026. No macro, syntax, notation, axiom, sorry.
-/
import Derived.Test.YtbcghggkfnagoaaGreatDoorChecked
import GoSem.Claim
import GoSem.ClaimJoined
import GoSem.ClaimMapViews
import Derived.JoinedTies
import Derived.KernelRfl
namespace Go.Proofs.YtbcghggkfnagoaaGreatDoor
/- THE CELL 'sum', in the pinned program and in every row, IS THE sha256 OF THE DUMP (.gsa) THAT YtbcghggkfnagoaaGreatDoorProg.lean LOADS. Nothing in Lean hashes anything: it is a label: what it is worth is what the hold of that sum in a sandbox is worth. -/
noncomputable def Tryz.pinned : Pinned := { name := "ytbcghggkfnagoaagreatdoor", sum := "1434722bb21f62db3f67ff27387dc3e44a97191ae9170b39b195ded94ad37f85", checked := Tryz.checked }
namespace Rows
def none {H : Type} : Left H := { results := [], args := [] }

/- WHAT THE LISTED PACKAGE-LEVEL VARIABLES READ AS WHEN THE CALL BEGINS. Each datum BY PROGRAM (the guide's laid-datum.mjs) off the statement by which the dump's own 'gosem.cut.vars' lays the variable. In a bare row this is a premise. The card (YtbcghggkfnagoaaGreatDoorCards.lean) ties it to the program's text. -/
def laid_hachure_sum_table {H : Type} : DataW H := .agg [.lit (.int .u32 0), .lit (.int .u32 274646895), .lit (.int .u32 549293790), .lit (.int .u32 820201905), .lit (.int .u32 1098587580), .lit (.int .u32 1361435347), .lit (.int .u32 1640403810), .lit (.int .u32 1905808397), .lit (.int .u32 2197175160), .lit (.int .u32 2460548119), .lit (.int .u32 2722870694), .lit (.int .u32 2987750089), .lit (.int .u32 3280807620), .lit (.int .u32 3553878443), .lit (.int .u32 3811616794), .lit (.int .u32 4084100981)]

/-- 'hachurelaw08.FreeOnce': WHATEVER THE INPUT: true; the input reads as it did. -/
def freeOnceSpec : ChangeSpec := { name := "freeOnce", fn := fun _ => fun
  | [d1, d2] => { results := [.lit (.bool true)], args := [d1, d2] }
  | _ => none }
def freeOnceRow : OpenClaim := { program := "ytbcghggkfnagoaagreatdoor", sum := "1434722bb21f62db3f67ff27387dc3e44a97191ae9170b39b195ded94ad37f85", func := "hachure/hachurelaw08.FreeOnce", spec := "freeOnce", unfollowed := true, recurses := true, named := ["hachure/sum.table"], apart := false, laid := [("hachure/sum.table", laid_hachure_sum_table)] }
def FreeOnceSaid : Prop := freeOnceRow.holds Tryz.pinned (OpenSpec.ofChange freeOnceSpec)

/-- ITS FALSE NEIGHBOUR: 'it returns false'. Refute it at one input. -/
def freeOnceWrong : ChangeSpec := { name := "freeOnce", fn := fun _ => fun
  | [d1, d2] => { results := [.lit (.bool false)], args := [d1, d2] }
  | _ => none }
def FreeOnceWrongFalsely : Prop := freeOnceRow.holds Tryz.pinned (OpenSpec.ofChange freeOnceWrong)

/-- 'hachurelaw07.PagerFull': WHATEVER THE INPUT: true; the input reads as it did. -/
def pagerFullSpec : ChangeSpec := { name := "pagerFull", fn := fun _ => fun
  | [d1, d2, d3] => { results := [.lit (.bool true)], args := [d1, d2, d3] }
  | _ => none }
def pagerFullRow : OpenClaim := { program := "ytbcghggkfnagoaagreatdoor", sum := "1434722bb21f62db3f67ff27387dc3e44a97191ae9170b39b195ded94ad37f85", func := "hachure/hachurelaw07.PagerFull", spec := "pagerFull", inPlace := ["maps.clone"], unfollowed := true, recurses := true, named := ["hachure/sum.table"], apart := false, laid := [("hachure/sum.table", laid_hachure_sum_table)] }
def PagerFullSaid : Prop := pagerFullRow.holds Tryz.pinned (OpenSpec.ofChange pagerFullSpec)

/-- ITS FALSE NEIGHBOUR: 'it returns false'. Refute it at one input. -/
def pagerFullWrong : ChangeSpec := { name := "pagerFull", fn := fun _ => fun
  | [d1, d2, d3] => { results := [.lit (.bool false)], args := [d1, d2, d3] }
  | _ => none }
def PagerFullWrongFalsely : Prop := pagerFullRow.holds Tryz.pinned (OpenSpec.ofChange pagerFullWrong)

/-- 'hachurelaw10.SpillWrong': WHATEVER THE INPUT: true; the input reads as it did. -/
def spillWrongSpec : ChangeSpec := { name := "spillWrong", fn := fun _ => fun
  | [d1, d2, d3] => { results := [.lit (.bool true)], args := [d1, d2, d3] }
  | _ => none }
def spillWrongRow : OpenClaim := { program := "ytbcghggkfnagoaagreatdoor", sum := "1434722bb21f62db3f67ff27387dc3e44a97191ae9170b39b195ded94ad37f85", func := "hachure/hachurelaw10.SpillWrong", spec := "spillWrong", unfollowed := true, recurses := true, named := ["hachure/sum.table"], apart := false, laid := [("hachure/sum.table", laid_hachure_sum_table)] }
def SpillWrongSaid : Prop := spillWrongRow.holds Tryz.pinned (OpenSpec.ofChange spillWrongSpec)

/-- ITS FALSE NEIGHBOUR: 'it returns false'. Refute it at one input. -/
def spillWrongWrong : ChangeSpec := { name := "spillWrong", fn := fun _ => fun
  | [d1, d2, d3] => { results := [.lit (.bool false)], args := [d1, d2, d3] }
  | _ => none }
def SpillWrongWrongFalsely : Prop := spillWrongRow.holds Tryz.pinned (OpenSpec.ofChange spillWrongWrong)

/-- 'hachurelaw07.PagerCrash': WHATEVER THE INPUT: true; the input reads as it did. -/
def pagerCrashSpec : ChangeSpec := { name := "pagerCrash", fn := fun _ => fun
  | [d1, d2, d3] => { results := [.lit (.bool true)], args := [d1, d2, d3] }
  | _ => none }
def pagerCrashRow : OpenClaim := { program := "ytbcghggkfnagoaagreatdoor", sum := "1434722bb21f62db3f67ff27387dc3e44a97191ae9170b39b195ded94ad37f85", func := "hachure/hachurelaw07.PagerCrash", spec := "pagerCrash", inPlace := ["maps.clone"], unfollowed := true, recurses := true, named := ["hachure/sum.table"], apart := false, laid := [("hachure/sum.table", laid_hachure_sum_table)] }
def PagerCrashSaid : Prop := pagerCrashRow.holds Tryz.pinned (OpenSpec.ofChange pagerCrashSpec)

/-- ITS FALSE NEIGHBOUR: 'it returns false'. Refute it at one input. -/
def pagerCrashWrong : ChangeSpec := { name := "pagerCrash", fn := fun _ => fun
  | [d1, d2, d3] => { results := [.lit (.bool false)], args := [d1, d2, d3] }
  | _ => none }
def PagerCrashWrongFalsely : Prop := pagerCrashRow.holds Tryz.pinned (OpenSpec.ofChange pagerCrashWrong)

/-- 'hachurelaw07.PagerNone': WHATEVER THE INPUT: true; the input reads as it did. -/
def pagerNoneSpec : ChangeSpec := { name := "pagerNone", fn := fun _ => fun
  | [d1, d2] => { results := [.lit (.bool true)], args := [d1, d2] }
  | _ => none }
def pagerNoneRow : OpenClaim := { program := "ytbcghggkfnagoaagreatdoor", sum := "1434722bb21f62db3f67ff27387dc3e44a97191ae9170b39b195ded94ad37f85", func := "hachure/hachurelaw07.PagerNone", spec := "pagerNone", inPlace := ["maps.clone"], unfollowed := true, recurses := true, named := ["hachure/sum.table"], apart := false, laid := [("hachure/sum.table", laid_hachure_sum_table)] }
def PagerNoneSaid : Prop := pagerNoneRow.holds Tryz.pinned (OpenSpec.ofChange pagerNoneSpec)

/-- ITS FALSE NEIGHBOUR: 'it returns false'. Refute it at one input. -/
def pagerNoneWrong : ChangeSpec := { name := "pagerNone", fn := fun _ => fun
  | [d1, d2] => { results := [.lit (.bool false)], args := [d1, d2] }
  | _ => none }
def PagerNoneWrongFalsely : Prop := pagerNoneRow.holds Tryz.pinned (OpenSpec.ofChange pagerNoneWrong)

/-- 'hachurelaw08.FreeActs': WHATEVER THE INPUT: true; the input reads as it did. -/
def freeActsSpec : ChangeSpec := { name := "freeActs", fn := fun _ => fun
  | [d] => { results := [.lit (.bool true)], args := [d] }
  | _ => none }
def freeActsRow : OpenClaim := { program := "ytbcghggkfnagoaagreatdoor", sum := "1434722bb21f62db3f67ff27387dc3e44a97191ae9170b39b195ded94ad37f85", func := "hachure/hachurelaw08.FreeActs", spec := "freeActs", unfollowed := true, recurses := true, named := ["hachure/sum.table"], apart := false, laid := [("hachure/sum.table", laid_hachure_sum_table)] }
def FreeActsSaid : Prop := freeActsRow.holds Tryz.pinned (OpenSpec.ofChange freeActsSpec)

/-- ITS FALSE NEIGHBOUR: 'it returns false'. Refute it at one input. -/
def freeActsWrong : ChangeSpec := { name := "freeActs", fn := fun _ => fun
  | [d] => { results := [.lit (.bool false)], args := [d] }
  | _ => none }
def FreeActsWrongFalsely : Prop := freeActsRow.holds Tryz.pinned (OpenSpec.ofChange freeActsWrong)

/-- 'hachurelaw07.PagerDead': WHATEVER THE INPUT: true; the input reads as it did. -/
def pagerDeadSpec : ChangeSpec := { name := "pagerDead", fn := fun _ => fun
  | [d1, d2] => { results := [.lit (.bool true)], args := [d1, d2] }
  | _ => none }
def pagerDeadRow : OpenClaim := { program := "ytbcghggkfnagoaagreatdoor", sum := "1434722bb21f62db3f67ff27387dc3e44a97191ae9170b39b195ded94ad37f85", func := "hachure/hachurelaw07.PagerDead", spec := "pagerDead", inPlace := ["maps.clone"], unfollowed := true, recurses := true, named := ["hachure/sum.table"], apart := false, laid := [("hachure/sum.table", laid_hachure_sum_table)] }
def PagerDeadSaid : Prop := pagerDeadRow.holds Tryz.pinned (OpenSpec.ofChange pagerDeadSpec)

/-- ITS FALSE NEIGHBOUR: 'it returns false'. Refute it at one input. -/
def pagerDeadWrong : ChangeSpec := { name := "pagerDead", fn := fun _ => fun
  | [d1, d2] => { results := [.lit (.bool false)], args := [d1, d2] }
  | _ => none }
def PagerDeadWrongFalsely : Prop := pagerDeadRow.holds Tryz.pinned (OpenSpec.ofChange pagerDeadWrong)

/-- 'hachurelaw08.FreeNone': WHATEVER THE INPUT: true; the input reads as it did. -/
def freeNoneSpec : ChangeSpec := { name := "freeNone", fn := fun _ => fun
  | [d] => { results := [.lit (.bool true)], args := [d] }
  | _ => none }
def freeNoneRow : OpenClaim := { program := "ytbcghggkfnagoaagreatdoor", sum := "1434722bb21f62db3f67ff27387dc3e44a97191ae9170b39b195ded94ad37f85", func := "hachure/hachurelaw08.FreeNone", spec := "freeNone", unfollowed := true, recurses := true, named := ["hachure/sum.table"], apart := false, laid := [("hachure/sum.table", laid_hachure_sum_table)] }
def FreeNoneSaid : Prop := freeNoneRow.holds Tryz.pinned (OpenSpec.ofChange freeNoneSpec)

/-- ITS FALSE NEIGHBOUR: 'it returns false'. Refute it at one input. -/
def freeNoneWrong : ChangeSpec := { name := "freeNone", fn := fun _ => fun
  | [d] => { results := [.lit (.bool false)], args := [d] }
  | _ => none }
def FreeNoneWrongFalsely : Prop := freeNoneRow.holds Tryz.pinned (OpenSpec.ofChange freeNoneWrong)

/-- 'hachurelaw10.SpillBack': WHATEVER THE INPUT: true; the input reads as it did. -/
def spillBackSpec : ChangeSpec := { name := "spillBack", fn := fun _ => fun
  | [d1, d2] => { results := [.lit (.bool true)], args := [d1, d2] }
  | _ => none }
def spillBackRow : OpenClaim := { program := "ytbcghggkfnagoaagreatdoor", sum := "1434722bb21f62db3f67ff27387dc3e44a97191ae9170b39b195ded94ad37f85", func := "hachure/hachurelaw10.SpillBack", spec := "spillBack", unfollowed := true, recurses := true, named := ["hachure/sum.table"], apart := false, laid := [("hachure/sum.table", laid_hachure_sum_table)] }
def SpillBackSaid : Prop := spillBackRow.holds Tryz.pinned (OpenSpec.ofChange spillBackSpec)

/-- ITS FALSE NEIGHBOUR: 'it returns false'. Refute it at one input. -/
def spillBackWrong : ChangeSpec := { name := "spillBack", fn := fun _ => fun
  | [d1, d2] => { results := [.lit (.bool false)], args := [d1, d2] }
  | _ => none }
def SpillBackWrongFalsely : Prop := spillBackRow.holds Tryz.pinned (OpenSpec.ofChange spillBackWrong)

/-- 'hachurelaw08.FreeStays': WHATEVER THE INPUT: true; the input reads as it did. -/
def freeStaysSpec : ChangeSpec := { name := "freeStays", fn := fun _ => fun
  | [d1, d2] => { results := [.lit (.bool true)], args := [d1, d2] }
  | _ => none }
def freeStaysRow : OpenClaim := { program := "ytbcghggkfnagoaagreatdoor", sum := "1434722bb21f62db3f67ff27387dc3e44a97191ae9170b39b195ded94ad37f85", func := "hachure/hachurelaw08.FreeStays", spec := "freeStays", unfollowed := true, recurses := true, named := ["hachure/sum.table"], apart := false, laid := [("hachure/sum.table", laid_hachure_sum_table)] }
def FreeStaysSaid : Prop := freeStaysRow.holds Tryz.pinned (OpenSpec.ofChange freeStaysSpec)

/-- ITS FALSE NEIGHBOUR: 'it returns false'. Refute it at one input. -/
def freeStaysWrong : ChangeSpec := { name := "freeStays", fn := fun _ => fun
  | [d1, d2] => { results := [.lit (.bool false)], args := [d1, d2] }
  | _ => none }
def FreeStaysWrongFalsely : Prop := freeStaysRow.holds Tryz.pinned (OpenSpec.ofChange freeStaysWrong)

/- THE SECOND FORM. 'bulk': how many values and letters a reading holds, each counted each time it is reached (what is shared counts as often as it is met; a slice's spare places count too). A statement '..UptoSaid' is the law's where the arguments, and the package variables that the reading takes, are together of bulk at most 1048576: NARROWER than '..Said'. Prove '..Said' where nothing that the law and all that it calls make is longer than what came in: it says more and counts as full. Else prove '..UptoSaid'. A law counts once. -/
mutual
def uptoBulk {H : Type} : DataW H → Nat
  | .lit (.string bytes) => bytes.length + 1
  | .lit _ => 1
  | .nil => 1
  | .ptr d => uptoBulk d + 1
  | .slice elems spare => uptoBulkAll elems + uptoBulkAll spare + 1
  | .agg parts => uptoBulkAll parts + 1
  | .iface _ d => uptoBulk d + 1
  | .map entries => uptoBulkEntries entries + 1
  | .held _ => 1
def uptoBulkAll {H : Type} : List (DataW H) → Nat
  | [] => 0
  | d :: r => uptoBulk d + uptoBulkAll r
def uptoBulkEntries {H : Type} : List (Lit × DataW H) → Nat
  | [] => 0
  | x :: r => uptoBulkEntry x + uptoBulkEntries r
def uptoBulkEntry {H : Type} : Lit × DataW H → Nat
  | (.string bytes, d) => bytes.length + uptoBulk d + 1
  | (_, d) => uptoBulk d + 1
 end
def uptoSmall : (H : Type) → List (DataW H) → Bool := fun _ ds => decide (uptoBulkAll ds ≤ 1048576)
def OpenSpec.upto (s : _root_.Go.ChangeSpec) : _root_.Go.OpenSpec := { _root_.Go.OpenSpec.ofChange s with cond := some uptoSmall }

/-- 'hachurelaw08.FreeOnce', WHERE WHAT IT READS IS OF BULK AT MOST 1048576: true; the input reads as it did. -/
def freeOnceUptoRow : OpenClaim := { program := "ytbcghggkfnagoaagreatdoor", sum := "1434722bb21f62db3f67ff27387dc3e44a97191ae9170b39b195ded94ad37f85", func := "hachure/hachurelaw08.FreeOnce", spec := "freeOnce", unfollowed := true, recurses := true, named := ["hachure/sum.table"], apart := false, laid := [("hachure/sum.table", laid_hachure_sum_table)], narrowed := true }
def FreeOnceUptoSaid : Prop := freeOnceUptoRow.holds Tryz.pinned (OpenSpec.upto freeOnceSpec)

/-- 'hachurelaw07.PagerFull', WHERE WHAT IT READS IS OF BULK AT MOST 1048576: true; the input reads as it did. -/
def pagerFullUptoRow : OpenClaim := { program := "ytbcghggkfnagoaagreatdoor", sum := "1434722bb21f62db3f67ff27387dc3e44a97191ae9170b39b195ded94ad37f85", func := "hachure/hachurelaw07.PagerFull", spec := "pagerFull", inPlace := ["maps.clone"], unfollowed := true, recurses := true, named := ["hachure/sum.table"], apart := false, laid := [("hachure/sum.table", laid_hachure_sum_table)], narrowed := true }
def PagerFullUptoSaid : Prop := pagerFullUptoRow.holds Tryz.pinned (OpenSpec.upto pagerFullSpec)

/-- 'hachurelaw10.SpillWrong', WHERE WHAT IT READS IS OF BULK AT MOST 1048576: true; the input reads as it did. -/
def spillWrongUptoRow : OpenClaim := { program := "ytbcghggkfnagoaagreatdoor", sum := "1434722bb21f62db3f67ff27387dc3e44a97191ae9170b39b195ded94ad37f85", func := "hachure/hachurelaw10.SpillWrong", spec := "spillWrong", unfollowed := true, recurses := true, named := ["hachure/sum.table"], apart := false, laid := [("hachure/sum.table", laid_hachure_sum_table)], narrowed := true }
def SpillWrongUptoSaid : Prop := spillWrongUptoRow.holds Tryz.pinned (OpenSpec.upto spillWrongSpec)

/-- 'hachurelaw07.PagerCrash', WHERE WHAT IT READS IS OF BULK AT MOST 1048576: true; the input reads as it did. -/
def pagerCrashUptoRow : OpenClaim := { program := "ytbcghggkfnagoaagreatdoor", sum := "1434722bb21f62db3f67ff27387dc3e44a97191ae9170b39b195ded94ad37f85", func := "hachure/hachurelaw07.PagerCrash", spec := "pagerCrash", inPlace := ["maps.clone"], unfollowed := true, recurses := true, named := ["hachure/sum.table"], apart := false, laid := [("hachure/sum.table", laid_hachure_sum_table)], narrowed := true }
def PagerCrashUptoSaid : Prop := pagerCrashUptoRow.holds Tryz.pinned (OpenSpec.upto pagerCrashSpec)

/-- 'hachurelaw07.PagerNone', WHERE WHAT IT READS IS OF BULK AT MOST 1048576: true; the input reads as it did. -/
def pagerNoneUptoRow : OpenClaim := { program := "ytbcghggkfnagoaagreatdoor", sum := "1434722bb21f62db3f67ff27387dc3e44a97191ae9170b39b195ded94ad37f85", func := "hachure/hachurelaw07.PagerNone", spec := "pagerNone", inPlace := ["maps.clone"], unfollowed := true, recurses := true, named := ["hachure/sum.table"], apart := false, laid := [("hachure/sum.table", laid_hachure_sum_table)], narrowed := true }
def PagerNoneUptoSaid : Prop := pagerNoneUptoRow.holds Tryz.pinned (OpenSpec.upto pagerNoneSpec)

/-- 'hachurelaw08.FreeActs', WHERE WHAT IT READS IS OF BULK AT MOST 1048576: true; the input reads as it did. -/
def freeActsUptoRow : OpenClaim := { program := "ytbcghggkfnagoaagreatdoor", sum := "1434722bb21f62db3f67ff27387dc3e44a97191ae9170b39b195ded94ad37f85", func := "hachure/hachurelaw08.FreeActs", spec := "freeActs", unfollowed := true, recurses := true, named := ["hachure/sum.table"], apart := false, laid := [("hachure/sum.table", laid_hachure_sum_table)], narrowed := true }
def FreeActsUptoSaid : Prop := freeActsUptoRow.holds Tryz.pinned (OpenSpec.upto freeActsSpec)

/-- 'hachurelaw07.PagerDead', WHERE WHAT IT READS IS OF BULK AT MOST 1048576: true; the input reads as it did. -/
def pagerDeadUptoRow : OpenClaim := { program := "ytbcghggkfnagoaagreatdoor", sum := "1434722bb21f62db3f67ff27387dc3e44a97191ae9170b39b195ded94ad37f85", func := "hachure/hachurelaw07.PagerDead", spec := "pagerDead", inPlace := ["maps.clone"], unfollowed := true, recurses := true, named := ["hachure/sum.table"], apart := false, laid := [("hachure/sum.table", laid_hachure_sum_table)], narrowed := true }
def PagerDeadUptoSaid : Prop := pagerDeadUptoRow.holds Tryz.pinned (OpenSpec.upto pagerDeadSpec)

/-- 'hachurelaw08.FreeNone', WHERE WHAT IT READS IS OF BULK AT MOST 1048576: true; the input reads as it did. -/
def freeNoneUptoRow : OpenClaim := { program := "ytbcghggkfnagoaagreatdoor", sum := "1434722bb21f62db3f67ff27387dc3e44a97191ae9170b39b195ded94ad37f85", func := "hachure/hachurelaw08.FreeNone", spec := "freeNone", unfollowed := true, recurses := true, named := ["hachure/sum.table"], apart := false, laid := [("hachure/sum.table", laid_hachure_sum_table)], narrowed := true }
def FreeNoneUptoSaid : Prop := freeNoneUptoRow.holds Tryz.pinned (OpenSpec.upto freeNoneSpec)

/-- 'hachurelaw10.SpillBack', WHERE WHAT IT READS IS OF BULK AT MOST 1048576: true; the input reads as it did. -/
def spillBackUptoRow : OpenClaim := { program := "ytbcghggkfnagoaagreatdoor", sum := "1434722bb21f62db3f67ff27387dc3e44a97191ae9170b39b195ded94ad37f85", func := "hachure/hachurelaw10.SpillBack", spec := "spillBack", unfollowed := true, recurses := true, named := ["hachure/sum.table"], apart := false, laid := [("hachure/sum.table", laid_hachure_sum_table)], narrowed := true }
def SpillBackUptoSaid : Prop := spillBackUptoRow.holds Tryz.pinned (OpenSpec.upto spillBackSpec)

/-- 'hachurelaw08.FreeStays', WHERE WHAT IT READS IS OF BULK AT MOST 1048576: true; the input reads as it did. -/
def freeStaysUptoRow : OpenClaim := { program := "ytbcghggkfnagoaagreatdoor", sum := "1434722bb21f62db3f67ff27387dc3e44a97191ae9170b39b195ded94ad37f85", func := "hachure/hachurelaw08.FreeStays", spec := "freeStays", unfollowed := true, recurses := true, named := ["hachure/sum.table"], apart := false, laid := [("hachure/sum.table", laid_hachure_sum_table)], narrowed := true }
def FreeStaysUptoSaid : Prop := freeStaysUptoRow.holds Tryz.pinned (OpenSpec.upto freeStaysSpec)

end Rows
end Go.Proofs.YtbcghggkfnagoaaGreatDoor
