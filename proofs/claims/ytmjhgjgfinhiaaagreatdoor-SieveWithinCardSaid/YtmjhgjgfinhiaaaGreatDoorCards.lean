/-
  DERIVED. GIVEN WITH THE SEED: THE CARDS: each row of YtmjhgjgfinhiaaaGreatDoorRows.lean that lists a variable, with what it lists TIED to the program's text (the seventh form; the later family's looks); each row that meets fmt, with fmt's text TOLD by the authors' own Lean function (tested against real Go, not proved from fmt's source: count such statements apart). THE CARD IS WHAT COUNTS. Prove the row's statement (the work); the ties are given (YtmjhgjgfinhiaaaGreatDoorTie.lean); close each card by the builder's one call (the guide's Derived/Test/ToyasCard.lean, 'card_holds'). Laid BY PROGRAM, IN A SANDBOX (cutbox-door.mjs). By AI agents, Wed Nov 11 2026. No macro, syntax, notation, axiom, sorry.
-/
import Derived.Test.YtmjhgjgfinhiaaaGreatDoorRows
import GoSem.ClaimSeven
namespace Go.Proofs.YtmjhgjgfinhiaaaGreatDoor
namespace Rows

/-- THE TIED CARD OF 'tabularylaw19.SpeechReplies'. -/
def speechRepliesCard : Claim7 := { stood := { row := speechRepliesRow, standIns := [], harness := (true, "d8b006524ac8167d60c29230288fcf81ab867e82d00f367002f078325c31f419"), looks := true }, kinds := [], alts := [], laidByText := true, laidKinds := [.data, .data, .data, .data, .sentinel, .sentinel, .listed, .data, .pinned], laidTests := true, laidLooks := .later }
def SpeechRepliesCardSaid : Prop := Claim7.holds Tryz.pinned (.plain (OpenSpec.ofChange speechRepliesSpec)) speechRepliesCard

/-- THE TIED CARD OF 'tabularylaw19.SpeechParses'. -/
def speechParsesCard : Claim7 := { stood := { row := speechParsesRow, standIns := [], harness := (true, "d8b006524ac8167d60c29230288fcf81ab867e82d00f367002f078325c31f419"), looks := true }, kinds := [], alts := [], laidByText := true, laidKinds := [.data, .data, .data, .data, .sentinel, .sentinel, .listed, .data, .pinned], laidTests := true, laidLooks := .later }
def SpeechParsesCardSaid : Prop := Claim7.holds Tryz.pinned (.plain (OpenSpec.ofChange speechParsesSpec)) speechParsesCard

/-- THE TIED CARD OF 'tabularylaw16.SieveWithin'. -/
def sieveWithinCard : Claim7 := { stood := { row := sieveWithinRow, standIns := [], harness := (true, "d8b006524ac8167d60c29230288fcf81ab867e82d00f367002f078325c31f419"), looks := true }, kinds := [], alts := [], laidByText := true, laidKinds := [.data, .pinned], laidTests := true, laidLooks := .later }
def SieveWithinCardSaid : Prop := Claim7.holds Tryz.pinned (.plain (OpenSpec.ofChange sieveWithinSpec)) sieveWithinCard

/-- THE TIED CARD OF 'tabularylaw15.ChangeApplies'. -/
def changeAppliesCard : Claim7 := { stood := { row := changeAppliesRow, standIns := [], harness := (true, "d8b006524ac8167d60c29230288fcf81ab867e82d00f367002f078325c31f419"), looks := true }, kinds := [], alts := [], laidByText := true, laidKinds := [.data, .pinned], laidTests := true, laidLooks := .later }
def ChangeAppliesCardSaid : Prop := Claim7.holds Tryz.pinned (.plain (OpenSpec.ofChange changeAppliesSpec)) changeAppliesCard

/-- THE TIED CARD OF 'tabularylaw13.XmlWrites'. -/
def xmlWritesCard : Claim7 := { stood := { row := xmlWritesRow, standIns := [], harness := (true, "d8b006524ac8167d60c29230288fcf81ab867e82d00f367002f078325c31f419"), looks := true }, kinds := [], alts := [], laidByText := true, laidKinds := [.data, .pinned], laidTests := true, laidLooks := .later }
def XmlWritesCardSaid : Prop := Claim7.holds Tryz.pinned (.plain (OpenSpec.ofChange xmlWritesSpec)) xmlWritesCard

/-- THE TIED CARD OF 'tabularylaw13.XmlDeep'. -/
def xmlDeepCard : Claim7 := { stood := { row := xmlDeepRow, standIns := [], harness := (true, "d8b006524ac8167d60c29230288fcf81ab867e82d00f367002f078325c31f419"), looks := true }, kinds := [], alts := [], laidByText := true, laidKinds := [.data, .pinned], laidTests := true, laidLooks := .later }
def XmlDeepCardSaid : Prop := Claim7.holds Tryz.pinned (.plain (OpenSpec.ofChange xmlDeepSpec)) xmlDeepCard

/-- THE TIED CARD OF 'tabularylaw13.XmlSpaces'. -/
def xmlSpacesCard : Claim7 := { stood := { row := xmlSpacesRow, standIns := [], harness := (true, "d8b006524ac8167d60c29230288fcf81ab867e82d00f367002f078325c31f419"), looks := true }, kinds := [], alts := [], laidByText := true, laidKinds := [.data, .pinned], laidTests := true, laidLooks := .later }
def XmlSpacesCardSaid : Prop := Claim7.holds Tryz.pinned (.plain (OpenSpec.ofChange xmlSpacesSpec)) xmlSpacesCard

/-- THE TIED CARD OF 'tabularylaw14.ModelRights'. -/
def modelRightsCard : Claim7 := { stood := { row := modelRightsRow, standIns := [], harness := (true, "d8b006524ac8167d60c29230288fcf81ab867e82d00f367002f078325c31f419"), looks := true }, kinds := [], alts := [], laidByText := true, laidKinds := [.data, .pinned], laidTests := true, laidLooks := .later }
def ModelRightsCardSaid : Prop := Claim7.holds Tryz.pinned (.plain (OpenSpec.ofChange modelRightsSpec)) modelRightsCard

/-- THE TIED CARD OF 'tabularylaw14.ModelReads'. -/
def modelReadsCard : Claim7 := { stood := { row := modelReadsRow, standIns := [], harness := (true, "d8b006524ac8167d60c29230288fcf81ab867e82d00f367002f078325c31f419"), looks := true }, kinds := [], alts := [], laidByText := true, laidKinds := [.data, .pinned], laidTests := true, laidLooks := .later }
def ModelReadsCardSaid : Prop := Claim7.holds Tryz.pinned (.plain (OpenSpec.ofChange modelReadsSpec)) modelReadsCard

/-- THE TIED CARD OF 'tabularylaw14.ModelChecks'. -/
def modelChecksCard : Claim7 := { stood := { row := modelChecksRow, standIns := [], harness := (true, "d8b006524ac8167d60c29230288fcf81ab867e82d00f367002f078325c31f419"), looks := true }, kinds := [], alts := [], laidByText := true, laidKinds := [.data, .pinned], laidTests := true, laidLooks := .later }
def ModelChecksCardSaid : Prop := Claim7.holds Tryz.pinned (.plain (OpenSpec.ofChange modelChecksSpec)) modelChecksCard

/-- THE TIED CARD OF 'tabularylaw14.ModelSame'. -/
def modelSameCard : Claim7 := { stood := { row := modelSameRow, standIns := [], harness := (true, "d8b006524ac8167d60c29230288fcf81ab867e82d00f367002f078325c31f419"), looks := true }, kinds := [], alts := [], laidByText := true, laidKinds := [.data, .pinned], laidTests := true, laidLooks := .later }
def ModelSameCardSaid : Prop := Claim7.holds Tryz.pinned (.plain (OpenSpec.ofChange modelSameSpec)) modelSameCard

/-- THE TIED CARD OF 'tabularylaw14.ModelBack'. -/
def modelBackCard : Claim7 := { stood := { row := modelBackRow, standIns := [], harness := (true, "d8b006524ac8167d60c29230288fcf81ab867e82d00f367002f078325c31f419"), looks := true }, kinds := [], alts := [], laidByText := true, laidKinds := [.data, .pinned], laidTests := true, laidLooks := .later }
def ModelBackCardSaid : Prop := Claim7.holds Tryz.pinned (.plain (OpenSpec.ofChange modelBackSpec)) modelBackCard

/-- THE TIED CARD OF 'tabularylaw19.SpeechOnce'. -/
def speechOnceCard : Claim7 := { stood := { row := speechOnceRow, standIns := [], harness := (true, "d8b006524ac8167d60c29230288fcf81ab867e82d00f367002f078325c31f419"), looks := true }, kinds := [], alts := [], laidByText := true, laidKinds := [.data, .data, .data, .data, .sentinel, .sentinel, .listed, .data, .pinned], laidTests := true, laidLooks := .later }
def SpeechOnceCardSaid : Prop := Claim7.holds Tryz.pinned (.plain (OpenSpec.ofChange speechOnceSpec)) speechOnceCard

/-- THE TIED CARD OF 'tabularylaw19.SpeechNumbers'. -/
def speechNumbersCard : Claim7 := { stood := { row := speechNumbersRow, standIns := [], harness := (true, "d8b006524ac8167d60c29230288fcf81ab867e82d00f367002f078325c31f419"), looks := true }, kinds := [], alts := [], laidByText := true, laidKinds := [.data, .data, .data, .data, .sentinel, .sentinel, .listed, .data, .pinned], laidTests := true, laidLooks := .later }
def SpeechNumbersCardSaid : Prop := Claim7.holds Tryz.pinned (.plain (OpenSpec.ofChange speechNumbersSpec)) speechNumbersCard

/-- THE TIED CARD OF 'tabularylaw19.SpeechTags'. -/
def speechTagsCard : Claim7 := { stood := { row := speechTagsRow, standIns := [], harness := (true, "d8b006524ac8167d60c29230288fcf81ab867e82d00f367002f078325c31f419"), looks := true }, kinds := [], alts := [], laidByText := true, laidKinds := [.data, .data, .data, .data, .sentinel, .sentinel, .listed, .data, .pinned], laidTests := true, laidLooks := .later }
def SpeechTagsCardSaid : Prop := Claim7.holds Tryz.pinned (.plain (OpenSpec.ofChange speechTagsSpec)) speechTagsCard

/-- THE TIED CARD OF 'tabularylaw19.SpeechHellos'. -/
def speechHellosCard : Claim7 := { stood := { row := speechHellosRow, standIns := [], harness := (true, "d8b006524ac8167d60c29230288fcf81ab867e82d00f367002f078325c31f419"), looks := true }, kinds := [], alts := [], laidByText := true, laidKinds := [.data, .data, .data, .data, .sentinel, .sentinel, .listed, .data, .pinned], laidTests := true, laidLooks := .later }
def SpeechHellosCardSaid : Prop := Claim7.holds Tryz.pinned (.plain (OpenSpec.ofChange speechHellosSpec)) speechHellosCard

/-- THE SECOND FORM's CARD OF 'tabularylaw19.SpeechReplies'. -/
def speechRepliesUptoCard : Claim7 := { stood := { row := speechRepliesUptoRow, standIns := [], harness := (true, "d8b006524ac8167d60c29230288fcf81ab867e82d00f367002f078325c31f419"), looks := true }, kinds := [], alts := [], laidByText := true, laidKinds := [.data, .data, .data, .data, .sentinel, .sentinel, .listed, .data, .pinned], laidTests := true, laidLooks := .later }
def SpeechRepliesUptoCardSaid : Prop := Claim7.holds Tryz.pinned (.plain (OpenSpec.upto speechRepliesSpec)) speechRepliesUptoCard

/-- THE SECOND FORM's CARD OF 'tabularylaw19.SpeechParses'. -/
def speechParsesUptoCard : Claim7 := { stood := { row := speechParsesUptoRow, standIns := [], harness := (true, "d8b006524ac8167d60c29230288fcf81ab867e82d00f367002f078325c31f419"), looks := true }, kinds := [], alts := [], laidByText := true, laidKinds := [.data, .data, .data, .data, .sentinel, .sentinel, .listed, .data, .pinned], laidTests := true, laidLooks := .later }
def SpeechParsesUptoCardSaid : Prop := Claim7.holds Tryz.pinned (.plain (OpenSpec.upto speechParsesSpec)) speechParsesUptoCard

/-- THE SECOND FORM's CARD OF 'tabularylaw16.SieveWithin'. -/
def sieveWithinUptoCard : Claim7 := { stood := { row := sieveWithinUptoRow, standIns := [], harness := (true, "d8b006524ac8167d60c29230288fcf81ab867e82d00f367002f078325c31f419"), looks := true }, kinds := [], alts := [], laidByText := true, laidKinds := [.data, .pinned], laidTests := true, laidLooks := .later }
def SieveWithinUptoCardSaid : Prop := Claim7.holds Tryz.pinned (.plain (OpenSpec.upto sieveWithinSpec)) sieveWithinUptoCard

/-- THE SECOND FORM's CARD OF 'tabularylaw15.ChangeApplies'. -/
def changeAppliesUptoCard : Claim7 := { stood := { row := changeAppliesUptoRow, standIns := [], harness := (true, "d8b006524ac8167d60c29230288fcf81ab867e82d00f367002f078325c31f419"), looks := true }, kinds := [], alts := [], laidByText := true, laidKinds := [.data, .pinned], laidTests := true, laidLooks := .later }
def ChangeAppliesUptoCardSaid : Prop := Claim7.holds Tryz.pinned (.plain (OpenSpec.upto changeAppliesSpec)) changeAppliesUptoCard

/-- THE SECOND FORM's CARD OF 'tabularylaw13.XmlWrites'. -/
def xmlWritesUptoCard : Claim7 := { stood := { row := xmlWritesUptoRow, standIns := [], harness := (true, "d8b006524ac8167d60c29230288fcf81ab867e82d00f367002f078325c31f419"), looks := true }, kinds := [], alts := [], laidByText := true, laidKinds := [.data, .pinned], laidTests := true, laidLooks := .later }
def XmlWritesUptoCardSaid : Prop := Claim7.holds Tryz.pinned (.plain (OpenSpec.upto xmlWritesSpec)) xmlWritesUptoCard

/-- THE SECOND FORM's CARD OF 'tabularylaw13.XmlDeep'. -/
def xmlDeepUptoCard : Claim7 := { stood := { row := xmlDeepUptoRow, standIns := [], harness := (true, "d8b006524ac8167d60c29230288fcf81ab867e82d00f367002f078325c31f419"), looks := true }, kinds := [], alts := [], laidByText := true, laidKinds := [.data, .pinned], laidTests := true, laidLooks := .later }
def XmlDeepUptoCardSaid : Prop := Claim7.holds Tryz.pinned (.plain (OpenSpec.upto xmlDeepSpec)) xmlDeepUptoCard

/-- THE SECOND FORM's CARD OF 'tabularylaw13.XmlSpaces'. -/
def xmlSpacesUptoCard : Claim7 := { stood := { row := xmlSpacesUptoRow, standIns := [], harness := (true, "d8b006524ac8167d60c29230288fcf81ab867e82d00f367002f078325c31f419"), looks := true }, kinds := [], alts := [], laidByText := true, laidKinds := [.data, .pinned], laidTests := true, laidLooks := .later }
def XmlSpacesUptoCardSaid : Prop := Claim7.holds Tryz.pinned (.plain (OpenSpec.upto xmlSpacesSpec)) xmlSpacesUptoCard

/-- THE SECOND FORM's CARD OF 'tabularylaw14.ModelRights'. -/
def modelRightsUptoCard : Claim7 := { stood := { row := modelRightsUptoRow, standIns := [], harness := (true, "d8b006524ac8167d60c29230288fcf81ab867e82d00f367002f078325c31f419"), looks := true }, kinds := [], alts := [], laidByText := true, laidKinds := [.data, .pinned], laidTests := true, laidLooks := .later }
def ModelRightsUptoCardSaid : Prop := Claim7.holds Tryz.pinned (.plain (OpenSpec.upto modelRightsSpec)) modelRightsUptoCard

/-- THE SECOND FORM's CARD OF 'tabularylaw14.ModelReads'. -/
def modelReadsUptoCard : Claim7 := { stood := { row := modelReadsUptoRow, standIns := [], harness := (true, "d8b006524ac8167d60c29230288fcf81ab867e82d00f367002f078325c31f419"), looks := true }, kinds := [], alts := [], laidByText := true, laidKinds := [.data, .pinned], laidTests := true, laidLooks := .later }
def ModelReadsUptoCardSaid : Prop := Claim7.holds Tryz.pinned (.plain (OpenSpec.upto modelReadsSpec)) modelReadsUptoCard

/-- THE SECOND FORM's CARD OF 'tabularylaw14.ModelChecks'. -/
def modelChecksUptoCard : Claim7 := { stood := { row := modelChecksUptoRow, standIns := [], harness := (true, "d8b006524ac8167d60c29230288fcf81ab867e82d00f367002f078325c31f419"), looks := true }, kinds := [], alts := [], laidByText := true, laidKinds := [.data, .pinned], laidTests := true, laidLooks := .later }
def ModelChecksUptoCardSaid : Prop := Claim7.holds Tryz.pinned (.plain (OpenSpec.upto modelChecksSpec)) modelChecksUptoCard

/-- THE SECOND FORM's CARD OF 'tabularylaw14.ModelSame'. -/
def modelSameUptoCard : Claim7 := { stood := { row := modelSameUptoRow, standIns := [], harness := (true, "d8b006524ac8167d60c29230288fcf81ab867e82d00f367002f078325c31f419"), looks := true }, kinds := [], alts := [], laidByText := true, laidKinds := [.data, .pinned], laidTests := true, laidLooks := .later }
def ModelSameUptoCardSaid : Prop := Claim7.holds Tryz.pinned (.plain (OpenSpec.upto modelSameSpec)) modelSameUptoCard

/-- THE SECOND FORM's CARD OF 'tabularylaw14.ModelBack'. -/
def modelBackUptoCard : Claim7 := { stood := { row := modelBackUptoRow, standIns := [], harness := (true, "d8b006524ac8167d60c29230288fcf81ab867e82d00f367002f078325c31f419"), looks := true }, kinds := [], alts := [], laidByText := true, laidKinds := [.data, .pinned], laidTests := true, laidLooks := .later }
def ModelBackUptoCardSaid : Prop := Claim7.holds Tryz.pinned (.plain (OpenSpec.upto modelBackSpec)) modelBackUptoCard

/-- THE SECOND FORM's CARD OF 'tabularylaw19.SpeechOnce'. -/
def speechOnceUptoCard : Claim7 := { stood := { row := speechOnceUptoRow, standIns := [], harness := (true, "d8b006524ac8167d60c29230288fcf81ab867e82d00f367002f078325c31f419"), looks := true }, kinds := [], alts := [], laidByText := true, laidKinds := [.data, .data, .data, .data, .sentinel, .sentinel, .listed, .data, .pinned], laidTests := true, laidLooks := .later }
def SpeechOnceUptoCardSaid : Prop := Claim7.holds Tryz.pinned (.plain (OpenSpec.upto speechOnceSpec)) speechOnceUptoCard

/-- THE SECOND FORM's CARD OF 'tabularylaw19.SpeechNumbers'. -/
def speechNumbersUptoCard : Claim7 := { stood := { row := speechNumbersUptoRow, standIns := [], harness := (true, "d8b006524ac8167d60c29230288fcf81ab867e82d00f367002f078325c31f419"), looks := true }, kinds := [], alts := [], laidByText := true, laidKinds := [.data, .data, .data, .data, .sentinel, .sentinel, .listed, .data, .pinned], laidTests := true, laidLooks := .later }
def SpeechNumbersUptoCardSaid : Prop := Claim7.holds Tryz.pinned (.plain (OpenSpec.upto speechNumbersSpec)) speechNumbersUptoCard

/-- THE SECOND FORM's CARD OF 'tabularylaw19.SpeechTags'. -/
def speechTagsUptoCard : Claim7 := { stood := { row := speechTagsUptoRow, standIns := [], harness := (true, "d8b006524ac8167d60c29230288fcf81ab867e82d00f367002f078325c31f419"), looks := true }, kinds := [], alts := [], laidByText := true, laidKinds := [.data, .data, .data, .data, .sentinel, .sentinel, .listed, .data, .pinned], laidTests := true, laidLooks := .later }
def SpeechTagsUptoCardSaid : Prop := Claim7.holds Tryz.pinned (.plain (OpenSpec.upto speechTagsSpec)) speechTagsUptoCard

/-- THE SECOND FORM's CARD OF 'tabularylaw19.SpeechHellos'. -/
def speechHellosUptoCard : Claim7 := { stood := { row := speechHellosUptoRow, standIns := [], harness := (true, "d8b006524ac8167d60c29230288fcf81ab867e82d00f367002f078325c31f419"), looks := true }, kinds := [], alts := [], laidByText := true, laidKinds := [.data, .data, .data, .data, .sentinel, .sentinel, .listed, .data, .pinned], laidTests := true, laidLooks := .later }
def SpeechHellosUptoCardSaid : Prop := Claim7.holds Tryz.pinned (.plain (OpenSpec.upto speechHellosSpec)) speechHellosUptoCard
end Rows
end Go.Proofs.YtmjhgjgfinhiaaaGreatDoor
