/-
  NARROWER THAN 'FOR EVERY INPUT', by the rows' own cells (each row's printed sentence says how): AccessPrunes: loops · AccessHides: loops · SieveFilters: loops · AccessChanges: loops · SieveAll: loops · AccessPlain: loops · SieveKeys: loops · SieveJoins: loops.
  DERIVED. THE GIVEN ROWS OF THIS SEAT. 9 by the template 'for every input the law returns true; each argument reads behind the call as it read before'; 0 by the template 'total and deterministic' (their statements: YtgpadcipdbifkaaTotals.lean).
  GIVEN WITH THE SEED: the statements are not yours to turn. If you find one false, say at which input.
  Laid BY PROGRAM, IN A SANDBOX (cutbox-rows.mjs): the forced cells as the released guide's own fill.sh prints them over the translation c659155dff5c3c65… (all of the seat's roots in one cut). By AI agents, Wed Nov 11 2026. No macro, syntax, notation, axiom, sorry.
-/
import Derived.Test.YtgpadcipdbifkaaChecked
import GoSem.Claim
import GoSem.ClaimJoined
import GoSem.ClaimMapViews
import Derived.JoinedTies
import Derived.KernelRfl
namespace Go.Proofs.Ytgpadcipdbifkaa
/- THE CELL 'sum', in the pinned program and in every row, IS THE sha256 OF THE DUMP (.gsa) THAT YtgpadcipdbifkaaProg.lean LOADS. Nothing in Lean hashes anything: it is a label: what it is worth is what the hold of that sum in a sandbox is worth. -/
noncomputable def Try.pinned : Pinned := { name := "ytgpadcipdbifkaa", sum := "c659155dff5c3c65d0af1673a2d6f11fc533b8d02bdd4911040ab46729c3f1c7", checked := Try.checked }
namespace Rows
def none {H : Type} : Left H := { results := [], args := [] }

/-- 'tabularylaw17.AccessPrunes': WHATEVER THE INPUT: true; the input reads as it did. -/
def accessPrunesSpec : ChangeSpec := { name := "accessPrunes", fn := fun _ => fun
  | [d1, d2, d3] => { results := [.lit (.bool true)], args := [d1, d2, d3] }
  | _ => none }
def accessPrunesRow : OpenClaim := { program := "ytgpadcipdbifkaa", sum := "c659155dff5c3c65d0af1673a2d6f11fc533b8d02bdd4911040ab46729c3f1c7", func := "tabulary/tabularylaw17.AccessPrunes", spec := "accessPrunes", unfollowed := true, recurses := true, loops := true, apart := false }
def AccessPrunesSaid : Prop := accessPrunesRow.holds Try.pinned (OpenSpec.ofChange accessPrunesSpec)

/-- ITS FALSE NEIGHBOUR: 'it returns false'. Refute it at one input. -/
def accessPrunesWrong : ChangeSpec := { name := "accessPrunes", fn := fun _ => fun
  | [d1, d2, d3] => { results := [.lit (.bool false)], args := [d1, d2, d3] }
  | _ => none }
def AccessPrunesWrongFalsely : Prop := accessPrunesRow.holds Try.pinned (OpenSpec.ofChange accessPrunesWrong)

/-- 'tabularylaw17.AccessFirst': WHATEVER THE INPUT: true; the input reads as it did. -/
def accessFirstSpec : ChangeSpec := { name := "accessFirst", fn := fun _ => fun
  | [d1, d2, d3] => { results := [.lit (.bool true)], args := [d1, d2, d3] }
  | _ => none }
def accessFirstRow : OpenClaim := { program := "ytgpadcipdbifkaa", sum := "c659155dff5c3c65d0af1673a2d6f11fc533b8d02bdd4911040ab46729c3f1c7", func := "tabulary/tabularylaw17.AccessFirst", spec := "accessFirst", recurses := true, apart := false }
def AccessFirstSaid : Prop := accessFirstRow.holds Try.pinned (OpenSpec.ofChange accessFirstSpec)

/-- ITS FALSE NEIGHBOUR: 'it returns false'. Refute it at one input. -/
def accessFirstWrong : ChangeSpec := { name := "accessFirst", fn := fun _ => fun
  | [d1, d2, d3] => { results := [.lit (.bool false)], args := [d1, d2, d3] }
  | _ => none }
def AccessFirstWrongFalsely : Prop := accessFirstRow.holds Try.pinned (OpenSpec.ofChange accessFirstWrong)

/-- 'tabularylaw17.AccessHides': WHATEVER THE INPUT: true; the input reads as it did. -/
def accessHidesSpec : ChangeSpec := { name := "accessHides", fn := fun _ => fun
  | [d1, d2, d3] => { results := [.lit (.bool true)], args := [d1, d2, d3] }
  | _ => none }
def accessHidesRow : OpenClaim := { program := "ytgpadcipdbifkaa", sum := "c659155dff5c3c65d0af1673a2d6f11fc533b8d02bdd4911040ab46729c3f1c7", func := "tabulary/tabularylaw17.AccessHides", spec := "accessHides", unfollowed := true, recurses := true, loops := true, apart := false }
def AccessHidesSaid : Prop := accessHidesRow.holds Try.pinned (OpenSpec.ofChange accessHidesSpec)

/-- ITS FALSE NEIGHBOUR: 'it returns false'. Refute it at one input. -/
def accessHidesWrong : ChangeSpec := { name := "accessHides", fn := fun _ => fun
  | [d1, d2, d3] => { results := [.lit (.bool false)], args := [d1, d2, d3] }
  | _ => none }
def AccessHidesWrongFalsely : Prop := accessHidesRow.holds Try.pinned (OpenSpec.ofChange accessHidesWrong)

/-- 'tabularylaw16.SieveFilters': WHATEVER THE INPUT: true; the input reads as it did. -/
def sieveFiltersSpec : ChangeSpec := { name := "sieveFilters", fn := fun _ => fun
  | [d1, d2] => { results := [.lit (.bool true)], args := [d1, d2] }
  | _ => none }
def sieveFiltersRow : OpenClaim := { program := "ytgpadcipdbifkaa", sum := "c659155dff5c3c65d0af1673a2d6f11fc533b8d02bdd4911040ab46729c3f1c7", func := "tabulary/tabularylaw16.SieveFilters", spec := "sieveFilters", unfollowed := true, recurses := true, loops := true, apart := false }
def SieveFiltersSaid : Prop := sieveFiltersRow.holds Try.pinned (OpenSpec.ofChange sieveFiltersSpec)

/-- ITS FALSE NEIGHBOUR: 'it returns false'. Refute it at one input. -/
def sieveFiltersWrong : ChangeSpec := { name := "sieveFilters", fn := fun _ => fun
  | [d1, d2] => { results := [.lit (.bool false)], args := [d1, d2] }
  | _ => none }
def SieveFiltersWrongFalsely : Prop := sieveFiltersRow.holds Try.pinned (OpenSpec.ofChange sieveFiltersWrong)

/-- 'tabularylaw17.AccessChanges': WHATEVER THE INPUT: true; the input reads as it did. -/
def accessChangesSpec : ChangeSpec := { name := "accessChanges", fn := fun _ => fun
  | [d1, d2, d3] => { results := [.lit (.bool true)], args := [d1, d2, d3] }
  | _ => none }
def accessChangesRow : OpenClaim := { program := "ytgpadcipdbifkaa", sum := "c659155dff5c3c65d0af1673a2d6f11fc533b8d02bdd4911040ab46729c3f1c7", func := "tabulary/tabularylaw17.AccessChanges", spec := "accessChanges", unfollowed := true, recurses := true, loops := true, apart := false }
def AccessChangesSaid : Prop := accessChangesRow.holds Try.pinned (OpenSpec.ofChange accessChangesSpec)

/-- ITS FALSE NEIGHBOUR: 'it returns false'. Refute it at one input. -/
def accessChangesWrong : ChangeSpec := { name := "accessChanges", fn := fun _ => fun
  | [d1, d2, d3] => { results := [.lit (.bool false)], args := [d1, d2, d3] }
  | _ => none }
def AccessChangesWrongFalsely : Prop := accessChangesRow.holds Try.pinned (OpenSpec.ofChange accessChangesWrong)

/-- 'tabularylaw16.SieveAll': WHATEVER THE INPUT: true; the input reads as it did. -/
def sieveAllSpec : ChangeSpec := { name := "sieveAll", fn := fun _ => fun
  | [d1, d2] => { results := [.lit (.bool true)], args := [d1, d2] }
  | _ => none }
def sieveAllRow : OpenClaim := { program := "ytgpadcipdbifkaa", sum := "c659155dff5c3c65d0af1673a2d6f11fc533b8d02bdd4911040ab46729c3f1c7", func := "tabulary/tabularylaw16.SieveAll", spec := "sieveAll", unfollowed := true, recurses := true, loops := true, apart := false }
def SieveAllSaid : Prop := sieveAllRow.holds Try.pinned (OpenSpec.ofChange sieveAllSpec)

/-- ITS FALSE NEIGHBOUR: 'it returns false'. Refute it at one input. -/
def sieveAllWrong : ChangeSpec := { name := "sieveAll", fn := fun _ => fun
  | [d1, d2] => { results := [.lit (.bool false)], args := [d1, d2] }
  | _ => none }
def SieveAllWrongFalsely : Prop := sieveAllRow.holds Try.pinned (OpenSpec.ofChange sieveAllWrong)

/-- 'tabularylaw17.AccessPlain': WHATEVER THE INPUT: true; the input reads as it did. -/
def accessPlainSpec : ChangeSpec := { name := "accessPlain", fn := fun _ => fun
  | [d1, d2, d3] => { results := [.lit (.bool true)], args := [d1, d2, d3] }
  | _ => none }
def accessPlainRow : OpenClaim := { program := "ytgpadcipdbifkaa", sum := "c659155dff5c3c65d0af1673a2d6f11fc533b8d02bdd4911040ab46729c3f1c7", func := "tabulary/tabularylaw17.AccessPlain", spec := "accessPlain", unfollowed := true, recurses := true, loops := true, apart := false }
def AccessPlainSaid : Prop := accessPlainRow.holds Try.pinned (OpenSpec.ofChange accessPlainSpec)

/-- ITS FALSE NEIGHBOUR: 'it returns false'. Refute it at one input. -/
def accessPlainWrong : ChangeSpec := { name := "accessPlain", fn := fun _ => fun
  | [d1, d2, d3] => { results := [.lit (.bool false)], args := [d1, d2, d3] }
  | _ => none }
def AccessPlainWrongFalsely : Prop := accessPlainRow.holds Try.pinned (OpenSpec.ofChange accessPlainWrong)

/-- 'tabularylaw16.SieveKeys': WHATEVER THE INPUT: true; the input reads as it did. -/
def sieveKeysSpec : ChangeSpec := { name := "sieveKeys", fn := fun _ => fun
  | [d1, d2] => { results := [.lit (.bool true)], args := [d1, d2] }
  | _ => none }
def sieveKeysRow : OpenClaim := { program := "ytgpadcipdbifkaa", sum := "c659155dff5c3c65d0af1673a2d6f11fc533b8d02bdd4911040ab46729c3f1c7", func := "tabulary/tabularylaw16.SieveKeys", spec := "sieveKeys", unfollowed := true, recurses := true, loops := true, apart := false }
def SieveKeysSaid : Prop := sieveKeysRow.holds Try.pinned (OpenSpec.ofChange sieveKeysSpec)

/-- ITS FALSE NEIGHBOUR: 'it returns false'. Refute it at one input. -/
def sieveKeysWrong : ChangeSpec := { name := "sieveKeys", fn := fun _ => fun
  | [d1, d2] => { results := [.lit (.bool false)], args := [d1, d2] }
  | _ => none }
def SieveKeysWrongFalsely : Prop := sieveKeysRow.holds Try.pinned (OpenSpec.ofChange sieveKeysWrong)

/-- 'tabularylaw16.SieveJoins': WHATEVER THE INPUT: true; the input reads as it did. -/
def sieveJoinsSpec : ChangeSpec := { name := "sieveJoins", fn := fun _ => fun
  | [d1, d2, d3] => { results := [.lit (.bool true)], args := [d1, d2, d3] }
  | _ => none }
def sieveJoinsRow : OpenClaim := { program := "ytgpadcipdbifkaa", sum := "c659155dff5c3c65d0af1673a2d6f11fc533b8d02bdd4911040ab46729c3f1c7", func := "tabulary/tabularylaw16.SieveJoins", spec := "sieveJoins", unfollowed := true, recurses := true, loops := true, apart := false }
def SieveJoinsSaid : Prop := sieveJoinsRow.holds Try.pinned (OpenSpec.ofChange sieveJoinsSpec)

/-- ITS FALSE NEIGHBOUR: 'it returns false'. Refute it at one input. -/
def sieveJoinsWrong : ChangeSpec := { name := "sieveJoins", fn := fun _ => fun
  | [d1, d2, d3] => { results := [.lit (.bool false)], args := [d1, d2, d3] }
  | _ => none }
def SieveJoinsWrongFalsely : Prop := sieveJoinsRow.holds Try.pinned (OpenSpec.ofChange sieveJoinsWrong)

/- THE SECOND FORM. 'bulk': how many values and letters a reading holds, each counted each time it is reached (what is shared counts as often as it is met; a slice's spare places count too). A statement '..UptoSaid' is the law's where the arguments, and the package variables that the reading takes, are together of bulk at most 1048576: NARROWER than '..Said'. Prove '..Said' where nothing that the law and all that it calls make is longer than what came in: it says more and counts as full. Else prove '..UptoSaid'. A law counts once. -/
mutual
def uptoBulk {H : Type} : DataW H → Nat
  | .lit (.string bytes) => bytes.length + 1
  | .lit _ => 1
  | .nil => 1
  | .ptr d => uptoBulk d + 1
  | .slice elems spare => uptoBulkAll elems + uptoBulkAll spare + 1
  | .agg parts => uptoBulkAll parts + 1
  | .iface _ d => uptoBulk d + 1
  | .map entries => uptoBulkEntries entries + 1
  | .held _ => 1
def uptoBulkAll {H : Type} : List (DataW H) → Nat
  | [] => 0
  | d :: r => uptoBulk d + uptoBulkAll r
def uptoBulkEntries {H : Type} : List (Lit × DataW H) → Nat
  | [] => 0
  | x :: r => uptoBulkEntry x + uptoBulkEntries r
def uptoBulkEntry {H : Type} : Lit × DataW H → Nat
  | (.string bytes, d) => bytes.length + uptoBulk d + 1
  | (_, d) => uptoBulk d + 1
 end
def uptoSmall : (H : Type) → List (DataW H) → Bool := fun _ ds => decide (uptoBulkAll ds ≤ 1048576)
def OpenSpec.upto (s : _root_.Go.ChangeSpec) : _root_.Go.OpenSpec := { _root_.Go.OpenSpec.ofChange s with cond := some uptoSmall }

/-- 'tabularylaw17.AccessPrunes', WHERE WHAT IT READS IS OF BULK AT MOST 1048576: true; the input reads as it did. -/
def accessPrunesUptoRow : OpenClaim := { program := "ytgpadcipdbifkaa", sum := "c659155dff5c3c65d0af1673a2d6f11fc533b8d02bdd4911040ab46729c3f1c7", func := "tabulary/tabularylaw17.AccessPrunes", spec := "accessPrunes", unfollowed := true, recurses := true, loops := true, apart := false, narrowed := true }
def AccessPrunesUptoSaid : Prop := accessPrunesUptoRow.holds Try.pinned (OpenSpec.upto accessPrunesSpec)

/-- 'tabularylaw17.AccessFirst', WHERE WHAT IT READS IS OF BULK AT MOST 1048576: true; the input reads as it did. -/
def accessFirstUptoRow : OpenClaim := { program := "ytgpadcipdbifkaa", sum := "c659155dff5c3c65d0af1673a2d6f11fc533b8d02bdd4911040ab46729c3f1c7", func := "tabulary/tabularylaw17.AccessFirst", spec := "accessFirst", recurses := true, apart := false, narrowed := true }
def AccessFirstUptoSaid : Prop := accessFirstUptoRow.holds Try.pinned (OpenSpec.upto accessFirstSpec)

/-- 'tabularylaw17.AccessHides', WHERE WHAT IT READS IS OF BULK AT MOST 1048576: true; the input reads as it did. -/
def accessHidesUptoRow : OpenClaim := { program := "ytgpadcipdbifkaa", sum := "c659155dff5c3c65d0af1673a2d6f11fc533b8d02bdd4911040ab46729c3f1c7", func := "tabulary/tabularylaw17.AccessHides", spec := "accessHides", unfollowed := true, recurses := true, loops := true, apart := false, narrowed := true }
def AccessHidesUptoSaid : Prop := accessHidesUptoRow.holds Try.pinned (OpenSpec.upto accessHidesSpec)

/-- 'tabularylaw16.SieveFilters', WHERE WHAT IT READS IS OF BULK AT MOST 1048576: true; the input reads as it did. -/
def sieveFiltersUptoRow : OpenClaim := { program := "ytgpadcipdbifkaa", sum := "c659155dff5c3c65d0af1673a2d6f11fc533b8d02bdd4911040ab46729c3f1c7", func := "tabulary/tabularylaw16.SieveFilters", spec := "sieveFilters", unfollowed := true, recurses := true, loops := true, apart := false, narrowed := true }
def SieveFiltersUptoSaid : Prop := sieveFiltersUptoRow.holds Try.pinned (OpenSpec.upto sieveFiltersSpec)

/-- 'tabularylaw17.AccessChanges', WHERE WHAT IT READS IS OF BULK AT MOST 1048576: true; the input reads as it did. -/
def accessChangesUptoRow : OpenClaim := { program := "ytgpadcipdbifkaa", sum := "c659155dff5c3c65d0af1673a2d6f11fc533b8d02bdd4911040ab46729c3f1c7", func := "tabulary/tabularylaw17.AccessChanges", spec := "accessChanges", unfollowed := true, recurses := true, loops := true, apart := false, narrowed := true }
def AccessChangesUptoSaid : Prop := accessChangesUptoRow.holds Try.pinned (OpenSpec.upto accessChangesSpec)

/-- 'tabularylaw16.SieveAll', WHERE WHAT IT READS IS OF BULK AT MOST 1048576: true; the input reads as it did. -/
def sieveAllUptoRow : OpenClaim := { program := "ytgpadcipdbifkaa", sum := "c659155dff5c3c65d0af1673a2d6f11fc533b8d02bdd4911040ab46729c3f1c7", func := "tabulary/tabularylaw16.SieveAll", spec := "sieveAll", unfollowed := true, recurses := true, loops := true, apart := false, narrowed := true }
def SieveAllUptoSaid : Prop := sieveAllUptoRow.holds Try.pinned (OpenSpec.upto sieveAllSpec)

/-- 'tabularylaw17.AccessPlain', WHERE WHAT IT READS IS OF BULK AT MOST 1048576: true; the input reads as it did. -/
def accessPlainUptoRow : OpenClaim := { program := "ytgpadcipdbifkaa", sum := "c659155dff5c3c65d0af1673a2d6f11fc533b8d02bdd4911040ab46729c3f1c7", func := "tabulary/tabularylaw17.AccessPlain", spec := "accessPlain", unfollowed := true, recurses := true, loops := true, apart := false, narrowed := true }
def AccessPlainUptoSaid : Prop := accessPlainUptoRow.holds Try.pinned (OpenSpec.upto accessPlainSpec)

/-- 'tabularylaw16.SieveKeys', WHERE WHAT IT READS IS OF BULK AT MOST 1048576: true; the input reads as it did. -/
def sieveKeysUptoRow : OpenClaim := { program := "ytgpadcipdbifkaa", sum := "c659155dff5c3c65d0af1673a2d6f11fc533b8d02bdd4911040ab46729c3f1c7", func := "tabulary/tabularylaw16.SieveKeys", spec := "sieveKeys", unfollowed := true, recurses := true, loops := true, apart := false, narrowed := true }
def SieveKeysUptoSaid : Prop := sieveKeysUptoRow.holds Try.pinned (OpenSpec.upto sieveKeysSpec)

/-- 'tabularylaw16.SieveJoins', WHERE WHAT IT READS IS OF BULK AT MOST 1048576: true; the input reads as it did. -/
def sieveJoinsUptoRow : OpenClaim := { program := "ytgpadcipdbifkaa", sum := "c659155dff5c3c65d0af1673a2d6f11fc533b8d02bdd4911040ab46729c3f1c7", func := "tabulary/tabularylaw16.SieveJoins", spec := "sieveJoins", unfollowed := true, recurses := true, loops := true, apart := false, narrowed := true }
def SieveJoinsUptoSaid : Prop := sieveJoinsUptoRow.holds Try.pinned (OpenSpec.upto sieveJoinsSpec)

end Rows
end Go.Proofs.Ytgpadcipdbifkaa
