/-
  DERIVED. GIVEN WITH THE SEED: THE CARDS: each row of YtmjhgjgfinhiaaaDoorRows.lean that lists a variable, with what it lists TIED to the program's text (the seventh form; the later family's looks); each row that meets fmt, with fmt's text TOLD by the authors' own Lean function (tested against real Go, not proved from fmt's source: count such statements apart). THE CARD IS WHAT COUNTS. Prove the row's statement (the work); the ties are given (YtmjhgjgfinhiaaaDoorTie.lean); close each card by the builder's one call (the guide's Derived/Test/ToyasCard.lean, 'card_holds'). Laid BY PROGRAM, IN A SANDBOX (cutbox-door.mjs). By AI agents, Wed Nov 11 2026. No macro, syntax, notation, axiom, sorry.
-/
import Derived.Test.YtmjhgjgfinhiaaaDoorRows
import GoSem.ClaimSeven
namespace Go.Proofs.YtmjhgjgfinhiaaaDoor
namespace Rows

/-- THE TIED CARD OF 'tabularylaw15.ChangeTrees'. -/
def changeTreesCard : Claim7 := { stood := { row := changeTreesRow, standIns := [], harness := (true, "2b58e62eb9eff1c94bb01a0f91642e557ca42d8f785a5aa1d1cadc19b143b9ed"), looks := false }, kinds := [], alts := [], laidByText := true, laidKinds := [.data, .pinned], laidTests := true, laidLooks := .later }
def ChangeTreesCardSaid : Prop := Claim7.holds Tryd.pinned (.plain (OpenSpec.ofChange changeTreesSpec)) changeTreesCard

/-- THE TIED CARD OF 'tabularylaw15.ChangeMerges'. -/
def changeMergesCard : Claim7 := { stood := { row := changeMergesRow, standIns := [], harness := (true, "2b58e62eb9eff1c94bb01a0f91642e557ca42d8f785a5aa1d1cadc19b143b9ed"), looks := false }, kinds := [], alts := [], laidByText := true, laidKinds := [.data, .pinned], laidTests := true, laidLooks := .later }
def ChangeMergesCardSaid : Prop := Claim7.holds Tryd.pinned (.plain (OpenSpec.ofChange changeMergesSpec)) changeMergesCard

/-- THE TIED CARD OF 'tabularylaw15.ChangeRemoves'. -/
def changeRemovesCard : Claim7 := { stood := { row := changeRemovesRow, standIns := [], harness := (true, "2b58e62eb9eff1c94bb01a0f91642e557ca42d8f785a5aa1d1cadc19b143b9ed"), looks := false }, kinds := [], alts := [], laidByText := true, laidKinds := [.data, .pinned], laidTests := true, laidLooks := .later }
def ChangeRemovesCardSaid : Prop := Claim7.holds Tryd.pinned (.plain (OpenSpec.ofChange changeRemovesSpec)) changeRemovesCard

/-- THE TIED CARD OF 'tabularylaw15.ChangeNones'. -/
def changeNonesCard : Claim7 := { stood := { row := changeNonesRow, standIns := [], harness := (true, "2b58e62eb9eff1c94bb01a0f91642e557ca42d8f785a5aa1d1cadc19b143b9ed"), looks := false }, kinds := [], alts := [], laidByText := true, laidKinds := [.data, .pinned], laidTests := true, laidLooks := .later }
def ChangeNonesCardSaid : Prop := Claim7.holds Tryd.pinned (.plain (OpenSpec.ofChange changeNonesSpec)) changeNonesCard

/-- THE SECOND FORM's CARD OF 'tabularylaw15.ChangeTrees'. -/
def changeTreesUptoCard : Claim7 := { stood := { row := changeTreesUptoRow, standIns := [], harness := (true, "2b58e62eb9eff1c94bb01a0f91642e557ca42d8f785a5aa1d1cadc19b143b9ed"), looks := false }, kinds := [], alts := [], laidByText := true, laidKinds := [.data, .pinned], laidTests := true, laidLooks := .later }
def ChangeTreesUptoCardSaid : Prop := Claim7.holds Tryd.pinned (.plain (OpenSpec.upto changeTreesSpec)) changeTreesUptoCard

/-- THE SECOND FORM's CARD OF 'tabularylaw15.ChangeMerges'. -/
def changeMergesUptoCard : Claim7 := { stood := { row := changeMergesUptoRow, standIns := [], harness := (true, "2b58e62eb9eff1c94bb01a0f91642e557ca42d8f785a5aa1d1cadc19b143b9ed"), looks := false }, kinds := [], alts := [], laidByText := true, laidKinds := [.data, .pinned], laidTests := true, laidLooks := .later }
def ChangeMergesUptoCardSaid : Prop := Claim7.holds Tryd.pinned (.plain (OpenSpec.upto changeMergesSpec)) changeMergesUptoCard

/-- THE SECOND FORM's CARD OF 'tabularylaw15.ChangeRemoves'. -/
def changeRemovesUptoCard : Claim7 := { stood := { row := changeRemovesUptoRow, standIns := [], harness := (true, "2b58e62eb9eff1c94bb01a0f91642e557ca42d8f785a5aa1d1cadc19b143b9ed"), looks := false }, kinds := [], alts := [], laidByText := true, laidKinds := [.data, .pinned], laidTests := true, laidLooks := .later }
def ChangeRemovesUptoCardSaid : Prop := Claim7.holds Tryd.pinned (.plain (OpenSpec.upto changeRemovesSpec)) changeRemovesUptoCard

/-- THE SECOND FORM's CARD OF 'tabularylaw15.ChangeNones'. -/
def changeNonesUptoCard : Claim7 := { stood := { row := changeNonesUptoRow, standIns := [], harness := (true, "2b58e62eb9eff1c94bb01a0f91642e557ca42d8f785a5aa1d1cadc19b143b9ed"), looks := false }, kinds := [], alts := [], laidByText := true, laidKinds := [.data, .pinned], laidTests := true, laidLooks := .later }
def ChangeNonesUptoCardSaid : Prop := Claim7.holds Tryd.pinned (.plain (OpenSpec.upto changeNonesSpec)) changeNonesUptoCard
end Rows
end Go.Proofs.YtmjhgjgfinhiaaaDoor
