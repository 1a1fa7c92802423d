/-
  NARROWER THAN 'FOR EVERY INPUT', by the rows' own cells (each row's printed sentence says how): ChangeTrees: loops, laid · ChangeMerges: loops, laid · ChangeRemoves: loops, laid · ChangeNones: loops, laid.
  DERIVED. THE GIVEN ROWS OF THIS SEAT. 4 by the template 'for every input the law returns true; each argument reads behind the call as it read before'; 0 by the template 'total and deterministic' (their statements: YtmjhgjgfinhiaaaDoorTotals.lean).
  GIVEN WITH THE SEED: the statements are not yours to turn. If you find one false, say at which input.
  Laid BY PROGRAM, IN A SANDBOX (cutbox-rows.mjs): the forced cells as the released guide's own fill.sh prints them over the translation 4a7fc087a03bd033… (all of the seat's roots in one cut). By AI agents, Wed Nov 11 2026. No macro, syntax, notation, axiom, sorry.
-/
import Derived.Test.YtmjhgjgfinhiaaaDoorChecked
import GoSem.PinnedTables
import GoSem.Claim
import GoSem.ClaimJoined
import GoSem.ClaimMapViews
import Derived.JoinedTies
import Derived.KernelRfl
namespace Go.Proofs.YtmjhgjgfinhiaaaDoor
/- THE CELL 'sum', in the pinned program and in every row, IS THE sha256 OF THE DUMP (.gsa) THAT YtmjhgjgfinhiaaaDoorProg.lean LOADS. Nothing in Lean hashes anything: it is a label: what it is worth is what the hold of that sum in a sandbox is worth. -/
noncomputable def Tryd.pinned : Pinned := { name := "ytmjhgjgfinhiaaadoor", sum := "4a7fc087a03bd0333d4d8393d16927384d9d840700a58a87498e63ed500198ad", checked := Tryd.checked }
namespace Rows
def none {H : Type} : Left H := { results := [], args := [] }

/- WHAT THE LISTED PACKAGE-LEVEL VARIABLES READ AS WHEN THE CALL BEGINS. Each datum BY PROGRAM (the guide's laid-datum.mjs) off the statement by which the dump's own 'gosem.cut.vars' lays the variable. In a bare row this is a premise. The card (YtmjhgjgfinhiaaaDoorCards.lean) ties it to the program's text. -/
def laid_unicode_utf8_acceptRanges {H : Type} : DataW H := .agg [.agg [.lit (.int .u8 128), .lit (.int .u8 191)], .agg [.lit (.int .u8 160), .lit (.int .u8 191)], .agg [.lit (.int .u8 128), .lit (.int .u8 159)], .agg [.lit (.int .u8 144), .lit (.int .u8 191)], .agg [.lit (.int .u8 128), .lit (.int .u8 143)], .agg [.lit (.int .u8 0), .lit (.int .u8 0)], .agg [.lit (.int .u8 0), .lit (.int .u8 0)], .agg [.lit (.int .u8 0), .lit (.int .u8 0)], .agg [.lit (.int .u8 0), .lit (.int .u8 0)], .agg [.lit (.int .u8 0), .lit (.int .u8 0)], .agg [.lit (.int .u8 0), .lit (.int .u8 0)], .agg [.lit (.int .u8 0), .lit (.int .u8 0)], .agg [.lit (.int .u8 0), .lit (.int .u8 0)], .agg [.lit (.int .u8 0), .lit (.int .u8 0)], .agg [.lit (.int .u8 0), .lit (.int .u8 0)], .agg [.lit (.int .u8 0), .lit (.int .u8 0)]]
/-- One of Go's own tables, pinned by name: the form's constant. -/
def laid_unicode_utf8_first : DataW Unit := Go.Pinned.utf8First

/-- 'tabularylaw15.ChangeTrees': WHATEVER THE INPUT: true; the input reads as it did. -/
def changeTreesSpec : ChangeSpec := { name := "changeTrees", fn := fun _ => fun
  | [d1, d2] => { results := [.lit (.bool true)], args := [d1, d2] }
  | _ => none }
def changeTreesRow : OpenClaim := { program := "ytmjhgjgfinhiaaadoor", sum := "4a7fc087a03bd0333d4d8393d16927384d9d840700a58a87498e63ed500198ad", func := "tabulary/tabularylaw15.ChangeTrees", spec := "changeTrees", inPlace := ["internal/bytealg.IndexByteString", "internal/bytealg.IndexString"], unfollowed := true, recurses := true, named := ["unicode/utf8.first", "unicode/utf8.acceptRanges", "internal/bytealg.MaxLen"], loops := true, apart := false, laid := [("unicode/utf8.acceptRanges", laid_unicode_utf8_acceptRanges), ("unicode/utf8.first", laid_unicode_utf8_first)] }
def ChangeTreesSaid : Prop := changeTreesRow.holds Tryd.pinned (OpenSpec.ofChange changeTreesSpec)

/-- ITS FALSE NEIGHBOUR: 'it returns false'. Refute it at one input. -/
def changeTreesWrong : ChangeSpec := { name := "changeTrees", fn := fun _ => fun
  | [d1, d2] => { results := [.lit (.bool false)], args := [d1, d2] }
  | _ => none }
def ChangeTreesWrongFalsely : Prop := changeTreesRow.holds Tryd.pinned (OpenSpec.ofChange changeTreesWrong)

/-- 'tabularylaw15.ChangeMerges': WHATEVER THE INPUT: true; the input reads as it did. -/
def changeMergesSpec : ChangeSpec := { name := "changeMerges", fn := fun _ => fun
  | [d1, d2] => { results := [.lit (.bool true)], args := [d1, d2] }
  | _ => none }
def changeMergesRow : OpenClaim := { program := "ytmjhgjgfinhiaaadoor", sum := "4a7fc087a03bd0333d4d8393d16927384d9d840700a58a87498e63ed500198ad", func := "tabulary/tabularylaw15.ChangeMerges", spec := "changeMerges", inPlace := ["internal/bytealg.IndexByteString", "internal/bytealg.IndexString"], unfollowed := true, recurses := true, named := ["unicode/utf8.first", "unicode/utf8.acceptRanges", "internal/bytealg.MaxLen"], loops := true, apart := false, laid := [("unicode/utf8.acceptRanges", laid_unicode_utf8_acceptRanges), ("unicode/utf8.first", laid_unicode_utf8_first)] }
def ChangeMergesSaid : Prop := changeMergesRow.holds Tryd.pinned (OpenSpec.ofChange changeMergesSpec)

/-- ITS FALSE NEIGHBOUR: 'it returns false'. Refute it at one input. -/
def changeMergesWrong : ChangeSpec := { name := "changeMerges", fn := fun _ => fun
  | [d1, d2] => { results := [.lit (.bool false)], args := [d1, d2] }
  | _ => none }
def ChangeMergesWrongFalsely : Prop := changeMergesRow.holds Tryd.pinned (OpenSpec.ofChange changeMergesWrong)

/-- 'tabularylaw15.ChangeRemoves': WHATEVER THE INPUT: true; the input reads as it did. -/
def changeRemovesSpec : ChangeSpec := { name := "changeRemoves", fn := fun _ => fun
  | [d1, d2] => { results := [.lit (.bool true)], args := [d1, d2] }
  | _ => none }
def changeRemovesRow : OpenClaim := { program := "ytmjhgjgfinhiaaadoor", sum := "4a7fc087a03bd0333d4d8393d16927384d9d840700a58a87498e63ed500198ad", func := "tabulary/tabularylaw15.ChangeRemoves", spec := "changeRemoves", inPlace := ["internal/bytealg.IndexByteString", "internal/bytealg.IndexString"], unfollowed := true, recurses := true, named := ["unicode/utf8.first", "unicode/utf8.acceptRanges", "internal/bytealg.MaxLen"], loops := true, apart := false, laid := [("unicode/utf8.acceptRanges", laid_unicode_utf8_acceptRanges), ("unicode/utf8.first", laid_unicode_utf8_first)] }
def ChangeRemovesSaid : Prop := changeRemovesRow.holds Tryd.pinned (OpenSpec.ofChange changeRemovesSpec)

/-- ITS FALSE NEIGHBOUR: 'it returns false'. Refute it at one input. -/
def changeRemovesWrong : ChangeSpec := { name := "changeRemoves", fn := fun _ => fun
  | [d1, d2] => { results := [.lit (.bool false)], args := [d1, d2] }
  | _ => none }
def ChangeRemovesWrongFalsely : Prop := changeRemovesRow.holds Tryd.pinned (OpenSpec.ofChange changeRemovesWrong)

/-- 'tabularylaw15.ChangeNones': WHATEVER THE INPUT: true; the input reads as it did. -/
def changeNonesSpec : ChangeSpec := { name := "changeNones", fn := fun _ => fun
  | [d1, d2] => { results := [.lit (.bool true)], args := [d1, d2] }
  | _ => none }
def changeNonesRow : OpenClaim := { program := "ytmjhgjgfinhiaaadoor", sum := "4a7fc087a03bd0333d4d8393d16927384d9d840700a58a87498e63ed500198ad", func := "tabulary/tabularylaw15.ChangeNones", spec := "changeNones", inPlace := ["internal/bytealg.IndexByteString", "internal/bytealg.IndexString"], unfollowed := true, recurses := true, named := ["unicode/utf8.first", "unicode/utf8.acceptRanges", "internal/bytealg.MaxLen"], loops := true, apart := false, laid := [("unicode/utf8.acceptRanges", laid_unicode_utf8_acceptRanges), ("unicode/utf8.first", laid_unicode_utf8_first)] }
def ChangeNonesSaid : Prop := changeNonesRow.holds Tryd.pinned (OpenSpec.ofChange changeNonesSpec)

/-- ITS FALSE NEIGHBOUR: 'it returns false'. Refute it at one input. -/
def changeNonesWrong : ChangeSpec := { name := "changeNones", fn := fun _ => fun
  | [d1, d2] => { results := [.lit (.bool false)], args := [d1, d2] }
  | _ => none }
def ChangeNonesWrongFalsely : Prop := changeNonesRow.holds Tryd.pinned (OpenSpec.ofChange changeNonesWrong)

/- THE SECOND FORM. 'bulk': how many values and letters a reading holds, each counted each time it is reached (what is shared counts as often as it is met; a slice's spare places count too). A statement '..UptoSaid' is the law's where the arguments, and the package variables that the reading takes, are together of bulk at most 1048576: NARROWER than '..Said'. Prove '..Said' where nothing that the law and all that it calls make is longer than what came in: it says more and counts as full. Else prove '..UptoSaid'. A law counts once. -/
mutual
def uptoBulk {H : Type} : DataW H → Nat
  | .lit (.string bytes) => bytes.length + 1
  | .lit _ => 1
  | .nil => 1
  | .ptr d => uptoBulk d + 1
  | .slice elems spare => uptoBulkAll elems + uptoBulkAll spare + 1
  | .agg parts => uptoBulkAll parts + 1
  | .iface _ d => uptoBulk d + 1
  | .map entries => uptoBulkEntries entries + 1
  | .held _ => 1
def uptoBulkAll {H : Type} : List (DataW H) → Nat
  | [] => 0
  | d :: r => uptoBulk d + uptoBulkAll r
def uptoBulkEntries {H : Type} : List (Lit × DataW H) → Nat
  | [] => 0
  | x :: r => uptoBulkEntry x + uptoBulkEntries r
def uptoBulkEntry {H : Type} : Lit × DataW H → Nat
  | (.string bytes, d) => bytes.length + uptoBulk d + 1
  | (_, d) => uptoBulk d + 1
 end
def uptoSmall : (H : Type) → List (DataW H) → Bool := fun _ ds => decide (uptoBulkAll ds ≤ 1048576)
def OpenSpec.upto (s : _root_.Go.ChangeSpec) : _root_.Go.OpenSpec := { _root_.Go.OpenSpec.ofChange s with cond := some uptoSmall }

/-- 'tabularylaw15.ChangeTrees', WHERE WHAT IT READS IS OF BULK AT MOST 1048576: true; the input reads as it did. -/
def changeTreesUptoRow : OpenClaim := { program := "ytmjhgjgfinhiaaadoor", sum := "4a7fc087a03bd0333d4d8393d16927384d9d840700a58a87498e63ed500198ad", func := "tabulary/tabularylaw15.ChangeTrees", spec := "changeTrees", inPlace := ["internal/bytealg.IndexByteString", "internal/bytealg.IndexString"], unfollowed := true, recurses := true, named := ["unicode/utf8.first", "unicode/utf8.acceptRanges", "internal/bytealg.MaxLen"], loops := true, apart := false, laid := [("unicode/utf8.acceptRanges", laid_unicode_utf8_acceptRanges), ("unicode/utf8.first", laid_unicode_utf8_first)], narrowed := true }
def ChangeTreesUptoSaid : Prop := changeTreesUptoRow.holds Tryd.pinned (OpenSpec.upto changeTreesSpec)

/-- 'tabularylaw15.ChangeMerges', WHERE WHAT IT READS IS OF BULK AT MOST 1048576: true; the input reads as it did. -/
def changeMergesUptoRow : OpenClaim := { program := "ytmjhgjgfinhiaaadoor", sum := "4a7fc087a03bd0333d4d8393d16927384d9d840700a58a87498e63ed500198ad", func := "tabulary/tabularylaw15.ChangeMerges", spec := "changeMerges", inPlace := ["internal/bytealg.IndexByteString", "internal/bytealg.IndexString"], unfollowed := true, recurses := true, named := ["unicode/utf8.first", "unicode/utf8.acceptRanges", "internal/bytealg.MaxLen"], loops := true, apart := false, laid := [("unicode/utf8.acceptRanges", laid_unicode_utf8_acceptRanges), ("unicode/utf8.first", laid_unicode_utf8_first)], narrowed := true }
def ChangeMergesUptoSaid : Prop := changeMergesUptoRow.holds Tryd.pinned (OpenSpec.upto changeMergesSpec)

/-- 'tabularylaw15.ChangeRemoves', WHERE WHAT IT READS IS OF BULK AT MOST 1048576: true; the input reads as it did. -/
def changeRemovesUptoRow : OpenClaim := { program := "ytmjhgjgfinhiaaadoor", sum := "4a7fc087a03bd0333d4d8393d16927384d9d840700a58a87498e63ed500198ad", func := "tabulary/tabularylaw15.ChangeRemoves", spec := "changeRemoves", inPlace := ["internal/bytealg.IndexByteString", "internal/bytealg.IndexString"], unfollowed := true, recurses := true, named := ["unicode/utf8.first", "unicode/utf8.acceptRanges", "internal/bytealg.MaxLen"], loops := true, apart := false, laid := [("unicode/utf8.acceptRanges", laid_unicode_utf8_acceptRanges), ("unicode/utf8.first", laid_unicode_utf8_first)], narrowed := true }
def ChangeRemovesUptoSaid : Prop := changeRemovesUptoRow.holds Tryd.pinned (OpenSpec.upto changeRemovesSpec)

/-- 'tabularylaw15.ChangeNones', WHERE WHAT IT READS IS OF BULK AT MOST 1048576: true; the input reads as it did. -/
def changeNonesUptoRow : OpenClaim := { program := "ytmjhgjgfinhiaaadoor", sum := "4a7fc087a03bd0333d4d8393d16927384d9d840700a58a87498e63ed500198ad", func := "tabulary/tabularylaw15.ChangeNones", spec := "changeNones", inPlace := ["internal/bytealg.IndexByteString", "internal/bytealg.IndexString"], unfollowed := true, recurses := true, named := ["unicode/utf8.first", "unicode/utf8.acceptRanges", "internal/bytealg.MaxLen"], loops := true, apart := false, laid := [("unicode/utf8.acceptRanges", laid_unicode_utf8_acceptRanges), ("unicode/utf8.first", laid_unicode_utf8_first)], narrowed := true }
def ChangeNonesUptoSaid : Prop := changeNonesUptoRow.holds Tryd.pinned (OpenSpec.upto changeNonesSpec)

end Rows
end Go.Proofs.YtmjhgjgfinhiaaaDoor
