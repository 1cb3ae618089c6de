/-
  DERIVED. GIVEN WITH THE SEED: THE CARDS: each row of YtjngofngjbjpbaaGreatDoorRows.lean that lists a variable, with what it lists TIED to the program's text (the seventh form; the later family's looks); each row that meets fmt, with fmt's text TOLD by the authors' own Lean function (tested against real Go, not proved from fmt's source: count such statements apart). THE CARD IS WHAT COUNTS. Prove the row's statement (the work); the ties are given (YtjngofngjbjpbaaGreatDoorTie.lean); close each card by the builder's one call (the guide's Derived/Test/ToyasCard.lean, 'card_holds'). Laid BY PROGRAM, IN A SANDBOX (cutbox-door.mjs). By AI agents, Wed Nov 11 2026. No macro, syntax, notation, axiom, sorry.
-/
import Derived.Test.YtjngofngjbjpbaaGreatDoorRows
import GoSem.ClaimSeven
namespace Go.Proofs.YtjngofngjbjpbaaGreatDoor
namespace Rows

/-- THE TIED CARD OF 'abacuslaw09.ExactTexts'. -/
def exactTextsCard : Claim7 := { stood := { row := exactTextsRow, standIns := [], harness := (true, "b01538e41de788e6a242715209788624f24c289c2e52d049f7e3f5341a1e4eba"), looks := true }, kinds := [], alts := [], laidByText := true, laidKinds := [.data, .data, .data, .data, .sentinel, .sentinel, .pinned], laidTests := true, laidLooks := .later }
def ExactTextsCardSaid : Prop := Claim7.holds Tryz.pinned (.plain (OpenSpec.ofChange exactTextsSpec)) exactTextsCard

/-- THE TIED CARD OF 'abacuslaw20.StoreJoined'. -/
def storeJoinedCard : Claim7 := { stood := { row := storeJoinedRow, standIns := [], harness := (true, "b01538e41de788e6a242715209788624f24c289c2e52d049f7e3f5341a1e4eba"), looks := true }, kinds := [], alts := [], laidByText := true, laidKinds := [.data, .data, .data, .data, .sentinel, .sentinel, .pinned], laidTests := true, laidLooks := .later }
def StoreJoinedCardSaid : Prop := Claim7.holds Tryz.pinned (.plain (OpenSpec.ofChange storeJoinedSpec)) storeJoinedCard

/-- THE TIED CARD OF 'abacustop.TopStored'. -/
def topStoredCard : Claim7 := { stood := { row := topStoredRow, standIns := [], harness := (true, "b01538e41de788e6a242715209788624f24c289c2e52d049f7e3f5341a1e4eba"), looks := true }, kinds := [], alts := [], laidByText := true, laidKinds := [.data, .data, .data, .data, .sentinel, .sentinel, .data, .pinned], laidTests := true, laidLooks := .later }
def TopStoredCardSaid : Prop := Claim7.holds Tryz.pinned (.plain (OpenSpec.ofChange topStoredSpec)) topStoredCard

/-- THE TIED CARD OF 'abacuslaw20.StoreBoth'. -/
def storeBothCard : Claim7 := { stood := { row := storeBothRow, standIns := [], harness := (true, "b01538e41de788e6a242715209788624f24c289c2e52d049f7e3f5341a1e4eba"), looks := true }, kinds := [], alts := [], laidByText := true, laidKinds := [.data, .data, .data, .data, .sentinel, .sentinel, .pinned], laidTests := true, laidLooks := .later }
def StoreBothCardSaid : Prop := Claim7.holds Tryz.pinned (.plain (OpenSpec.ofChange storeBothSpec)) storeBothCard

/-- THE TIED CARD OF 'abacuslaw20.StoreParts'. -/
def storePartsCard : Claim7 := { stood := { row := storePartsRow, standIns := [], harness := (true, "b01538e41de788e6a242715209788624f24c289c2e52d049f7e3f5341a1e4eba"), looks := true }, kinds := [], alts := [], laidByText := true, laidKinds := [.data, .data, .data, .data, .sentinel, .sentinel, .pinned], laidTests := true, laidLooks := .later }
def StorePartsCardSaid : Prop := Claim7.holds Tryz.pinned (.plain (OpenSpec.ofChange storePartsSpec)) storePartsCard

/-- THE TIED CARD OF 'abacuslaw20.StoreCoarse'. -/
def storeCoarseCard : Claim7 := { stood := { row := storeCoarseRow, standIns := [], harness := (true, "b01538e41de788e6a242715209788624f24c289c2e52d049f7e3f5341a1e4eba"), looks := true }, kinds := [], alts := [], laidByText := true, laidKinds := [.data, .data, .data, .data, .sentinel, .sentinel, .pinned], laidTests := true, laidLooks := .later }
def StoreCoarseCardSaid : Prop := Claim7.holds Tryz.pinned (.plain (OpenSpec.ofChange storeCoarseSpec)) storeCoarseCard

/-- THE TIED CARD OF 'abacuslaw20.StoreNil'. -/
def storeNilCard : Claim7 := { stood := { row := storeNilRow, standIns := [], harness := (true, "b01538e41de788e6a242715209788624f24c289c2e52d049f7e3f5341a1e4eba"), looks := true }, kinds := [], alts := [], laidByText := true, laidKinds := [.data, .data, .data, .data, .sentinel, .sentinel, .pinned], laidTests := true, laidLooks := .later }
def StoreNilCardSaid : Prop := Claim7.holds Tryz.pinned (.plain (OpenSpec.ofChange storeNilSpec)) storeNilCard

/-- THE TIED CARD OF 'abacuslaw20.StoreTrims'. -/
def storeTrimsCard : Claim7 := { stood := { row := storeTrimsRow, standIns := [], harness := (true, "b01538e41de788e6a242715209788624f24c289c2e52d049f7e3f5341a1e4eba"), looks := true }, kinds := [], alts := [], laidByText := true, laidKinds := [.data, .data, .data, .data, .sentinel, .sentinel, .pinned], laidTests := true, laidLooks := .later }
def StoreTrimsCardSaid : Prop := Claim7.holds Tryz.pinned (.plain (OpenSpec.ofChange storeTrimsSpec)) storeTrimsCard

/-- THE TIED CARD OF 'abacuslaw20.StoreOwn'. -/
def storeOwnCard : Claim7 := { stood := { row := storeOwnRow, standIns := [], harness := (true, "b01538e41de788e6a242715209788624f24c289c2e52d049f7e3f5341a1e4eba"), looks := true }, kinds := [], alts := [], laidByText := true, laidKinds := [.data, .data, .data, .data, .sentinel, .sentinel, .pinned], laidTests := true, laidLooks := .later }
def StoreOwnCardSaid : Prop := Claim7.holds Tryz.pinned (.plain (OpenSpec.ofChange storeOwnSpec)) storeOwnCard

/-- THE TIED CARD OF 'abacuslaw20.StoreDoes'. -/
def storeDoesCard : Claim7 := { stood := { row := storeDoesRow, standIns := [], harness := (true, "b01538e41de788e6a242715209788624f24c289c2e52d049f7e3f5341a1e4eba"), looks := true }, kinds := [], alts := [], laidByText := true, laidKinds := [.data, .data, .data, .data, .sentinel, .sentinel, .pinned], laidTests := true, laidLooks := .later }
def StoreDoesCardSaid : Prop := Claim7.holds Tryz.pinned (.plain (OpenSpec.ofChange storeDoesSpec)) storeDoesCard

/-- THE SECOND FORM's CARD OF 'abacuslaw09.ExactTexts'. -/
def exactTextsUptoCard : Claim7 := { stood := { row := exactTextsUptoRow, standIns := [], harness := (true, "b01538e41de788e6a242715209788624f24c289c2e52d049f7e3f5341a1e4eba"), looks := true }, kinds := [], alts := [], laidByText := true, laidKinds := [.data, .data, .data, .data, .sentinel, .sentinel, .pinned], laidTests := true, laidLooks := .later }
def ExactTextsUptoCardSaid : Prop := Claim7.holds Tryz.pinned (.plain (OpenSpec.upto exactTextsSpec)) exactTextsUptoCard

/-- THE SECOND FORM's CARD OF 'abacuslaw20.StoreJoined'. -/
def storeJoinedUptoCard : Claim7 := { stood := { row := storeJoinedUptoRow, standIns := [], harness := (true, "b01538e41de788e6a242715209788624f24c289c2e52d049f7e3f5341a1e4eba"), looks := true }, kinds := [], alts := [], laidByText := true, laidKinds := [.data, .data, .data, .data, .sentinel, .sentinel, .pinned], laidTests := true, laidLooks := .later }
def StoreJoinedUptoCardSaid : Prop := Claim7.holds Tryz.pinned (.plain (OpenSpec.upto storeJoinedSpec)) storeJoinedUptoCard

/-- THE SECOND FORM's CARD OF 'abacustop.TopStored'. -/
def topStoredUptoCard : Claim7 := { stood := { row := topStoredUptoRow, standIns := [], harness := (true, "b01538e41de788e6a242715209788624f24c289c2e52d049f7e3f5341a1e4eba"), looks := true }, kinds := [], alts := [], laidByText := true, laidKinds := [.data, .data, .data, .data, .sentinel, .sentinel, .data, .pinned], laidTests := true, laidLooks := .later }
def TopStoredUptoCardSaid : Prop := Claim7.holds Tryz.pinned (.plain (OpenSpec.upto topStoredSpec)) topStoredUptoCard

/-- THE SECOND FORM's CARD OF 'abacuslaw20.StoreBoth'. -/
def storeBothUptoCard : Claim7 := { stood := { row := storeBothUptoRow, standIns := [], harness := (true, "b01538e41de788e6a242715209788624f24c289c2e52d049f7e3f5341a1e4eba"), looks := true }, kinds := [], alts := [], laidByText := true, laidKinds := [.data, .data, .data, .data, .sentinel, .sentinel, .pinned], laidTests := true, laidLooks := .later }
def StoreBothUptoCardSaid : Prop := Claim7.holds Tryz.pinned (.plain (OpenSpec.upto storeBothSpec)) storeBothUptoCard

/-- THE SECOND FORM's CARD OF 'abacuslaw20.StoreParts'. -/
def storePartsUptoCard : Claim7 := { stood := { row := storePartsUptoRow, standIns := [], harness := (true, "b01538e41de788e6a242715209788624f24c289c2e52d049f7e3f5341a1e4eba"), looks := true }, kinds := [], alts := [], laidByText := true, laidKinds := [.data, .data, .data, .data, .sentinel, .sentinel, .pinned], laidTests := true, laidLooks := .later }
def StorePartsUptoCardSaid : Prop := Claim7.holds Tryz.pinned (.plain (OpenSpec.upto storePartsSpec)) storePartsUptoCard

/-- THE SECOND FORM's CARD OF 'abacuslaw20.StoreCoarse'. -/
def storeCoarseUptoCard : Claim7 := { stood := { row := storeCoarseUptoRow, standIns := [], harness := (true, "b01538e41de788e6a242715209788624f24c289c2e52d049f7e3f5341a1e4eba"), looks := true }, kinds := [], alts := [], laidByText := true, laidKinds := [.data, .data, .data, .data, .sentinel, .sentinel, .pinned], laidTests := true, laidLooks := .later }
def StoreCoarseUptoCardSaid : Prop := Claim7.holds Tryz.pinned (.plain (OpenSpec.upto storeCoarseSpec)) storeCoarseUptoCard

/-- THE SECOND FORM's CARD OF 'abacuslaw20.StoreNil'. -/
def storeNilUptoCard : Claim7 := { stood := { row := storeNilUptoRow, standIns := [], harness := (true, "b01538e41de788e6a242715209788624f24c289c2e52d049f7e3f5341a1e4eba"), looks := true }, kinds := [], alts := [], laidByText := true, laidKinds := [.data, .data, .data, .data, .sentinel, .sentinel, .pinned], laidTests := true, laidLooks := .later }
def StoreNilUptoCardSaid : Prop := Claim7.holds Tryz.pinned (.plain (OpenSpec.upto storeNilSpec)) storeNilUptoCard

/-- THE SECOND FORM's CARD OF 'abacuslaw20.StoreTrims'. -/
def storeTrimsUptoCard : Claim7 := { stood := { row := storeTrimsUptoRow, standIns := [], harness := (true, "b01538e41de788e6a242715209788624f24c289c2e52d049f7e3f5341a1e4eba"), looks := true }, kinds := [], alts := [], laidByText := true, laidKinds := [.data, .data, .data, .data, .sentinel, .sentinel, .pinned], laidTests := true, laidLooks := .later }
def StoreTrimsUptoCardSaid : Prop := Claim7.holds Tryz.pinned (.plain (OpenSpec.upto storeTrimsSpec)) storeTrimsUptoCard

/-- THE SECOND FORM's CARD OF 'abacuslaw20.StoreOwn'. -/
def storeOwnUptoCard : Claim7 := { stood := { row := storeOwnUptoRow, standIns := [], harness := (true, "b01538e41de788e6a242715209788624f24c289c2e52d049f7e3f5341a1e4eba"), looks := true }, kinds := [], alts := [], laidByText := true, laidKinds := [.data, .data, .data, .data, .sentinel, .sentinel, .pinned], laidTests := true, laidLooks := .later }
def StoreOwnUptoCardSaid : Prop := Claim7.holds Tryz.pinned (.plain (OpenSpec.upto storeOwnSpec)) storeOwnUptoCard

/-- THE SECOND FORM's CARD OF 'abacuslaw20.StoreDoes'. -/
def storeDoesUptoCard : Claim7 := { stood := { row := storeDoesUptoRow, standIns := [], harness := (true, "b01538e41de788e6a242715209788624f24c289c2e52d049f7e3f5341a1e4eba"), looks := true }, kinds := [], alts := [], laidByText := true, laidKinds := [.data, .data, .data, .data, .sentinel, .sentinel, .pinned], laidTests := true, laidLooks := .later }
def StoreDoesUptoCardSaid : Prop := Claim7.holds Tryz.pinned (.plain (OpenSpec.upto storeDoesSpec)) storeDoesUptoCard
end Rows
end Go.Proofs.YtjngofngjbjpbaaGreatDoor
