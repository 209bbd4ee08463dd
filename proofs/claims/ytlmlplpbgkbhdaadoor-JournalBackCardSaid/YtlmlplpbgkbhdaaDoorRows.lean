/-
  NARROWER THAN 'FOR EVERY INPUT', by the rows' own cells (each row's printed sentence says how): SumBits: laid · SumOf: laid · SumPieces: laid · JournalFlips: laid · JournalForms: laid · JournalTorn: laid · JournalReads: laid · JournalBack: laid.
  DERIVED. THE GIVEN ROWS OF THIS SEAT. 8 by the template 'for every input the law returns true; each argument reads behind the call as it read before'; 0 by the template 'total and deterministic' (their statements: YtlmlplpbgkbhdaaDoorTotals.lean).
  GIVEN WITH THE SEED: the statements are not yours to turn. If you find one false, say at which input.
  Laid BY PROGRAM, IN A SANDBOX (cutbox-rows.mjs): the forced cells as the released guide's own fill.sh prints them over the translation dce14130bdbdb410… (all of the seat's roots in one cut). By AI agents, Wed Nov 11 2026. No macro, syntax, notation, axiom, sorry.
-/
import Derived.Test.YtlmlplpbgkbhdaaDoorChecked
import GoSem.Claim
import GoSem.ClaimJoined
import GoSem.ClaimMapViews
import Derived.JoinedTies
import Derived.KernelRfl
namespace Go.Proofs.YtlmlplpbgkbhdaaDoor
/- THE CELL 'sum', in the pinned program and in every row, IS THE sha256 OF THE DUMP (.gsa) THAT YtlmlplpbgkbhdaaDoorProg.lean LOADS. Nothing in Lean hashes anything: it is a label: what it is worth is what the hold of that sum in a sandbox is worth. -/
noncomputable def Tryd.pinned : Pinned := { name := "ytlmlplpbgkbhdaadoor", sum := "dce14130bdbdb410f5b2f21b5091200a6409ba17de71488b4d96dbabca0ce574", checked := Tryd.checked }
namespace Rows
def none {H : Type} : Left H := { results := [], args := [] }

/- WHAT THE LISTED PACKAGE-LEVEL VARIABLES READ AS WHEN THE CALL BEGINS. Each datum BY PROGRAM (the guide's laid-datum.mjs) off the statement by which the dump's own 'gosem.cut.vars' lays the variable. In a bare row this is a premise. The card (YtlmlplpbgkbhdaaDoorCards.lean) ties it to the program's text. -/
def laid_hachure_sum_table {H : Type} : DataW H := .agg [.lit (.int .u32 0), .lit (.int .u32 274646895), .lit (.int .u32 549293790), .lit (.int .u32 820201905), .lit (.int .u32 1098587580), .lit (.int .u32 1361435347), .lit (.int .u32 1640403810), .lit (.int .u32 1905808397), .lit (.int .u32 2197175160), .lit (.int .u32 2460548119), .lit (.int .u32 2722870694), .lit (.int .u32 2987750089), .lit (.int .u32 3280807620), .lit (.int .u32 3553878443), .lit (.int .u32 3811616794), .lit (.int .u32 4084100981)]

/-- 'hachurelaw03.SumBits': WHATEVER THE INPUT: true; the input reads as it did. -/
def sumBitsSpec : ChangeSpec := { name := "sumBits", fn := fun _ => fun
  | [d1, d2, d3] => { results := [.lit (.bool true)], args := [d1, d2, d3] }
  | _ => none }
def sumBitsRow : OpenClaim := { program := "ytlmlplpbgkbhdaadoor", sum := "dce14130bdbdb410f5b2f21b5091200a6409ba17de71488b4d96dbabca0ce574", func := "hachure/hachurelaw03.SumBits", spec := "sumBits", named := ["hachure/sum.table"], apart := false, laid := [("hachure/sum.table", laid_hachure_sum_table)] }
def SumBitsSaid : Prop := sumBitsRow.holds Tryd.pinned (OpenSpec.ofChange sumBitsSpec)

/-- ITS FALSE NEIGHBOUR: 'it returns false'. Refute it at one input. -/
def sumBitsWrong : ChangeSpec := { name := "sumBits", fn := fun _ => fun
  | [d1, d2, d3] => { results := [.lit (.bool false)], args := [d1, d2, d3] }
  | _ => none }
def SumBitsWrongFalsely : Prop := sumBitsRow.holds Tryd.pinned (OpenSpec.ofChange sumBitsWrong)

/-- 'hachurelaw03.SumOf': WHATEVER THE INPUT: true; the input reads as it did. -/
def sumOfSpec : ChangeSpec := { name := "sumOf", fn := fun _ => fun
  | [d1, d2, d3] => { results := [.lit (.bool true)], args := [d1, d2, d3] }
  | _ => none }
def sumOfRow : OpenClaim := { program := "ytlmlplpbgkbhdaadoor", sum := "dce14130bdbdb410f5b2f21b5091200a6409ba17de71488b4d96dbabca0ce574", func := "hachure/hachurelaw03.SumOf", spec := "sumOf", named := ["hachure/sum.table"], apart := false, laid := [("hachure/sum.table", laid_hachure_sum_table)] }
def SumOfSaid : Prop := sumOfRow.holds Tryd.pinned (OpenSpec.ofChange sumOfSpec)

/-- ITS FALSE NEIGHBOUR: 'it returns false'. Refute it at one input. -/
def sumOfWrong : ChangeSpec := { name := "sumOf", fn := fun _ => fun
  | [d1, d2, d3] => { results := [.lit (.bool false)], args := [d1, d2, d3] }
  | _ => none }
def SumOfWrongFalsely : Prop := sumOfRow.holds Tryd.pinned (OpenSpec.ofChange sumOfWrong)

/-- 'hachurelaw03.SumPieces': WHATEVER THE INPUT: true; the input reads as it did. -/
def sumPiecesSpec : ChangeSpec := { name := "sumPieces", fn := fun _ => fun
  | [d1, d2, d3] => { results := [.lit (.bool true)], args := [d1, d2, d3] }
  | _ => none }
def sumPiecesRow : OpenClaim := { program := "ytlmlplpbgkbhdaadoor", sum := "dce14130bdbdb410f5b2f21b5091200a6409ba17de71488b4d96dbabca0ce574", func := "hachure/hachurelaw03.SumPieces", spec := "sumPieces", named := ["hachure/sum.table"], apart := false, laid := [("hachure/sum.table", laid_hachure_sum_table)] }
def SumPiecesSaid : Prop := sumPiecesRow.holds Tryd.pinned (OpenSpec.ofChange sumPiecesSpec)

/-- ITS FALSE NEIGHBOUR: 'it returns false'. Refute it at one input. -/
def sumPiecesWrong : ChangeSpec := { name := "sumPieces", fn := fun _ => fun
  | [d1, d2, d3] => { results := [.lit (.bool false)], args := [d1, d2, d3] }
  | _ => none }
def SumPiecesWrongFalsely : Prop := sumPiecesRow.holds Tryd.pinned (OpenSpec.ofChange sumPiecesWrong)

/-- 'hachurelaw06.JournalFlips': WHATEVER THE INPUT: true; the input reads as it did. -/
def journalFlipsSpec : ChangeSpec := { name := "journalFlips", fn := fun _ => fun
  | [d1, d2, d3] => { results := [.lit (.bool true)], args := [d1, d2, d3] }
  | _ => none }
def journalFlipsRow : OpenClaim := { program := "ytlmlplpbgkbhdaadoor", sum := "dce14130bdbdb410f5b2f21b5091200a6409ba17de71488b4d96dbabca0ce574", func := "hachure/hachurelaw06.JournalFlips", spec := "journalFlips", named := ["hachure/sum.table"], apart := false, laid := [("hachure/sum.table", laid_hachure_sum_table)] }
def JournalFlipsSaid : Prop := journalFlipsRow.holds Tryd.pinned (OpenSpec.ofChange journalFlipsSpec)

/-- ITS FALSE NEIGHBOUR: 'it returns false'. Refute it at one input. -/
def journalFlipsWrong : ChangeSpec := { name := "journalFlips", fn := fun _ => fun
  | [d1, d2, d3] => { results := [.lit (.bool false)], args := [d1, d2, d3] }
  | _ => none }
def JournalFlipsWrongFalsely : Prop := journalFlipsRow.holds Tryd.pinned (OpenSpec.ofChange journalFlipsWrong)

/-- 'hachurelaw06.JournalForms': WHATEVER THE INPUT: true; the input reads as it did. -/
def journalFormsSpec : ChangeSpec := { name := "journalForms", fn := fun _ => fun
  | [d1, d2, d3] => { results := [.lit (.bool true)], args := [d1, d2, d3] }
  | _ => none }
def journalFormsRow : OpenClaim := { program := "ytlmlplpbgkbhdaadoor", sum := "dce14130bdbdb410f5b2f21b5091200a6409ba17de71488b4d96dbabca0ce574", func := "hachure/hachurelaw06.JournalForms", spec := "journalForms", named := ["hachure/sum.table"], apart := false, laid := [("hachure/sum.table", laid_hachure_sum_table)] }
def JournalFormsSaid : Prop := journalFormsRow.holds Tryd.pinned (OpenSpec.ofChange journalFormsSpec)

/-- ITS FALSE NEIGHBOUR: 'it returns false'. Refute it at one input. -/
def journalFormsWrong : ChangeSpec := { name := "journalForms", fn := fun _ => fun
  | [d1, d2, d3] => { results := [.lit (.bool false)], args := [d1, d2, d3] }
  | _ => none }
def JournalFormsWrongFalsely : Prop := journalFormsRow.holds Tryd.pinned (OpenSpec.ofChange journalFormsWrong)

/-- 'hachurelaw06.JournalTorn': WHATEVER THE INPUT: true; the input reads as it did. -/
def journalTornSpec : ChangeSpec := { name := "journalTorn", fn := fun _ => fun
  | [d1, d2, d3] => { results := [.lit (.bool true)], args := [d1, d2, d3] }
  | _ => none }
def journalTornRow : OpenClaim := { program := "ytlmlplpbgkbhdaadoor", sum := "dce14130bdbdb410f5b2f21b5091200a6409ba17de71488b4d96dbabca0ce574", func := "hachure/hachurelaw06.JournalTorn", spec := "journalTorn", unfollowed := true, recurses := true, named := ["hachure/sum.table"], apart := false, laid := [("hachure/sum.table", laid_hachure_sum_table)] }
def JournalTornSaid : Prop := journalTornRow.holds Tryd.pinned (OpenSpec.ofChange journalTornSpec)

/-- ITS FALSE NEIGHBOUR: 'it returns false'. Refute it at one input. -/
def journalTornWrong : ChangeSpec := { name := "journalTorn", fn := fun _ => fun
  | [d1, d2, d3] => { results := [.lit (.bool false)], args := [d1, d2, d3] }
  | _ => none }
def JournalTornWrongFalsely : Prop := journalTornRow.holds Tryd.pinned (OpenSpec.ofChange journalTornWrong)

/-- 'hachurelaw06.JournalReads': WHATEVER THE INPUT: true; the input reads as it did. -/
def journalReadsSpec : ChangeSpec := { name := "journalReads", fn := fun _ => fun
  | [d1, d2] => { results := [.lit (.bool true)], args := [d1, d2] }
  | _ => none }
def journalReadsRow : OpenClaim := { program := "ytlmlplpbgkbhdaadoor", sum := "dce14130bdbdb410f5b2f21b5091200a6409ba17de71488b4d96dbabca0ce574", func := "hachure/hachurelaw06.JournalReads", spec := "journalReads", unfollowed := true, recurses := true, named := ["hachure/sum.table"], apart := false, laid := [("hachure/sum.table", laid_hachure_sum_table)] }
def JournalReadsSaid : Prop := journalReadsRow.holds Tryd.pinned (OpenSpec.ofChange journalReadsSpec)

/-- ITS FALSE NEIGHBOUR: 'it returns false'. Refute it at one input. -/
def journalReadsWrong : ChangeSpec := { name := "journalReads", fn := fun _ => fun
  | [d1, d2] => { results := [.lit (.bool false)], args := [d1, d2] }
  | _ => none }
def JournalReadsWrongFalsely : Prop := journalReadsRow.holds Tryd.pinned (OpenSpec.ofChange journalReadsWrong)

/-- 'hachurelaw06.JournalBack': WHATEVER THE INPUT: true; the input reads as it did. -/
def journalBackSpec : ChangeSpec := { name := "journalBack", fn := fun _ => fun
  | [d1, d2, d3] => { results := [.lit (.bool true)], args := [d1, d2, d3] }
  | _ => none }
def journalBackRow : OpenClaim := { program := "ytlmlplpbgkbhdaadoor", sum := "dce14130bdbdb410f5b2f21b5091200a6409ba17de71488b4d96dbabca0ce574", func := "hachure/hachurelaw06.JournalBack", spec := "journalBack", unfollowed := true, recurses := true, named := ["hachure/sum.table"], apart := false, laid := [("hachure/sum.table", laid_hachure_sum_table)] }
def JournalBackSaid : Prop := journalBackRow.holds Tryd.pinned (OpenSpec.ofChange journalBackSpec)

/-- ITS FALSE NEIGHBOUR: 'it returns false'. Refute it at one input. -/
def journalBackWrong : ChangeSpec := { name := "journalBack", fn := fun _ => fun
  | [d1, d2, d3] => { results := [.lit (.bool false)], args := [d1, d2, d3] }
  | _ => none }
def JournalBackWrongFalsely : Prop := journalBackRow.holds Tryd.pinned (OpenSpec.ofChange journalBackWrong)

/- THE SECOND FORM. 'bulk': how many values and letters a reading holds, each counted each time it is reached (what is shared counts as often as it is met; a slice's spare places count too). A statement '..UptoSaid' is the law's where the arguments, and the package variables that the reading takes, are together of bulk at most 1048576: NARROWER than '..Said'. Prove '..Said' where nothing that the law and all that it calls make is longer than what came in: it says more and counts as full. Else prove '..UptoSaid'. A law counts once. -/
mutual
def uptoBulk {H : Type} : DataW H → Nat
  | .lit (.string bytes) => bytes.length + 1
  | .lit _ => 1
  | .nil => 1
  | .ptr d => uptoBulk d + 1
  | .slice elems spare => uptoBulkAll elems + uptoBulkAll spare + 1
  | .agg parts => uptoBulkAll parts + 1
  | .iface _ d => uptoBulk d + 1
  | .map entries => uptoBulkEntries entries + 1
  | .held _ => 1
def uptoBulkAll {H : Type} : List (DataW H) → Nat
  | [] => 0
  | d :: r => uptoBulk d + uptoBulkAll r
def uptoBulkEntries {H : Type} : List (Lit × DataW H) → Nat
  | [] => 0
  | x :: r => uptoBulkEntry x + uptoBulkEntries r
def uptoBulkEntry {H : Type} : Lit × DataW H → Nat
  | (.string bytes, d) => bytes.length + uptoBulk d + 1
  | (_, d) => uptoBulk d + 1
 end
def uptoSmall : (H : Type) → List (DataW H) → Bool := fun _ ds => decide (uptoBulkAll ds ≤ 1048576)
def OpenSpec.upto (s : _root_.Go.ChangeSpec) : _root_.Go.OpenSpec := { _root_.Go.OpenSpec.ofChange s with cond := some uptoSmall }

/-- 'hachurelaw03.SumBits', WHERE WHAT IT READS IS OF BULK AT MOST 1048576: true; the input reads as it did. -/
def sumBitsUptoRow : OpenClaim := { program := "ytlmlplpbgkbhdaadoor", sum := "dce14130bdbdb410f5b2f21b5091200a6409ba17de71488b4d96dbabca0ce574", func := "hachure/hachurelaw03.SumBits", spec := "sumBits", named := ["hachure/sum.table"], apart := false, laid := [("hachure/sum.table", laid_hachure_sum_table)], narrowed := true }
def SumBitsUptoSaid : Prop := sumBitsUptoRow.holds Tryd.pinned (OpenSpec.upto sumBitsSpec)

/-- 'hachurelaw03.SumOf', WHERE WHAT IT READS IS OF BULK AT MOST 1048576: true; the input reads as it did. -/
def sumOfUptoRow : OpenClaim := { program := "ytlmlplpbgkbhdaadoor", sum := "dce14130bdbdb410f5b2f21b5091200a6409ba17de71488b4d96dbabca0ce574", func := "hachure/hachurelaw03.SumOf", spec := "sumOf", named := ["hachure/sum.table"], apart := false, laid := [("hachure/sum.table", laid_hachure_sum_table)], narrowed := true }
def SumOfUptoSaid : Prop := sumOfUptoRow.holds Tryd.pinned (OpenSpec.upto sumOfSpec)

/-- 'hachurelaw03.SumPieces', WHERE WHAT IT READS IS OF BULK AT MOST 1048576: true; the input reads as it did. -/
def sumPiecesUptoRow : OpenClaim := { program := "ytlmlplpbgkbhdaadoor", sum := "dce14130bdbdb410f5b2f21b5091200a6409ba17de71488b4d96dbabca0ce574", func := "hachure/hachurelaw03.SumPieces", spec := "sumPieces", named := ["hachure/sum.table"], apart := false, laid := [("hachure/sum.table", laid_hachure_sum_table)], narrowed := true }
def SumPiecesUptoSaid : Prop := sumPiecesUptoRow.holds Tryd.pinned (OpenSpec.upto sumPiecesSpec)

/-- 'hachurelaw06.JournalFlips', WHERE WHAT IT READS IS OF BULK AT MOST 1048576: true; the input reads as it did. -/
def journalFlipsUptoRow : OpenClaim := { program := "ytlmlplpbgkbhdaadoor", sum := "dce14130bdbdb410f5b2f21b5091200a6409ba17de71488b4d96dbabca0ce574", func := "hachure/hachurelaw06.JournalFlips", spec := "journalFlips", named := ["hachure/sum.table"], apart := false, laid := [("hachure/sum.table", laid_hachure_sum_table)], narrowed := true }
def JournalFlipsUptoSaid : Prop := journalFlipsUptoRow.holds Tryd.pinned (OpenSpec.upto journalFlipsSpec)

/-- 'hachurelaw06.JournalForms', WHERE WHAT IT READS IS OF BULK AT MOST 1048576: true; the input reads as it did. -/
def journalFormsUptoRow : OpenClaim := { program := "ytlmlplpbgkbhdaadoor", sum := "dce14130bdbdb410f5b2f21b5091200a6409ba17de71488b4d96dbabca0ce574", func := "hachure/hachurelaw06.JournalForms", spec := "journalForms", named := ["hachure/sum.table"], apart := false, laid := [("hachure/sum.table", laid_hachure_sum_table)], narrowed := true }
def JournalFormsUptoSaid : Prop := journalFormsUptoRow.holds Tryd.pinned (OpenSpec.upto journalFormsSpec)

/-- 'hachurelaw06.JournalTorn', WHERE WHAT IT READS IS OF BULK AT MOST 1048576: true; the input reads as it did. -/
def journalTornUptoRow : OpenClaim := { program := "ytlmlplpbgkbhdaadoor", sum := "dce14130bdbdb410f5b2f21b5091200a6409ba17de71488b4d96dbabca0ce574", func := "hachure/hachurelaw06.JournalTorn", spec := "journalTorn", unfollowed := true, recurses := true, named := ["hachure/sum.table"], apart := false, laid := [("hachure/sum.table", laid_hachure_sum_table)], narrowed := true }
def JournalTornUptoSaid : Prop := journalTornUptoRow.holds Tryd.pinned (OpenSpec.upto journalTornSpec)

/-- 'hachurelaw06.JournalReads', WHERE WHAT IT READS IS OF BULK AT MOST 1048576: true; the input reads as it did. -/
def journalReadsUptoRow : OpenClaim := { program := "ytlmlplpbgkbhdaadoor", sum := "dce14130bdbdb410f5b2f21b5091200a6409ba17de71488b4d96dbabca0ce574", func := "hachure/hachurelaw06.JournalReads", spec := "journalReads", unfollowed := true, recurses := true, named := ["hachure/sum.table"], apart := false, laid := [("hachure/sum.table", laid_hachure_sum_table)], narrowed := true }
def JournalReadsUptoSaid : Prop := journalReadsUptoRow.holds Tryd.pinned (OpenSpec.upto journalReadsSpec)

/-- 'hachurelaw06.JournalBack', WHERE WHAT IT READS IS OF BULK AT MOST 1048576: true; the input reads as it did. -/
def journalBackUptoRow : OpenClaim := { program := "ytlmlplpbgkbhdaadoor", sum := "dce14130bdbdb410f5b2f21b5091200a6409ba17de71488b4d96dbabca0ce574", func := "hachure/hachurelaw06.JournalBack", spec := "journalBack", unfollowed := true, recurses := true, named := ["hachure/sum.table"], apart := false, laid := [("hachure/sum.table", laid_hachure_sum_table)], narrowed := true }
def JournalBackUptoSaid : Prop := journalBackUptoRow.holds Tryd.pinned (OpenSpec.upto journalBackSpec)

end Rows
end Go.Proofs.YtlmlplpbgkbhdaaDoor
