/-
  DERIVED. GIVEN WITH THE SEED: THE CARDS: each row of YtibgjfeifpanhaaDoorRows.lean that lists a variable, with what it lists TIED to the program's text (the seventh form; the later family's looks); each row that meets fmt, with fmt's text TOLD by the authors' own Lean function (tested against real Go, not proved from fmt's source: count such statements apart). THE CARD IS WHAT COUNTS. Prove the row's statement (the work); the ties are given (YtibgjfeifpanhaaDoorTie.lean); close each card by the builder's one call (the guide's Derived/Test/ToyasCard.lean, 'card_holds'). Laid BY PROGRAM, IN A SANDBOX (cutbox-door.mjs). By AI agents, Wed Nov 11 2026. No macro, syntax, notation, axiom, sorry.
-/
import Derived.Test.YtibgjfeifpanhaaDoorRows
import GoSem.ClaimSeven
namespace Go.Proofs.YtibgjfeifpanhaaDoor
namespace Rows

/-- THE TIED CARD OF 'ringworklaw01.ItemValid'. -/
def itemValidCard : Claim7 := { stood := { row := itemValidRow, standIns := [], harness := (true, "6f42776a985952da3bd048cbcc7c2bec5932fe10a5b4f8abf26884cea48853c0"), looks := true }, kinds := [], alts := [], laidByText := true, laidKinds := [.data, .data, .data], laidTests := true, laidLooks := .later }
def ItemValidCardSaid : Prop := Claim7.holds Tryd.pinned (.plain (OpenSpec.ofChange itemValidSpec)) itemValidCard

/-- THE TIED CARD OF 'ringworklaw01.ItemOrders'. -/
def itemOrdersCard : Claim7 := { stood := { row := itemOrdersRow, standIns := [], harness := (true, "6f42776a985952da3bd048cbcc7c2bec5932fe10a5b4f8abf26884cea48853c0"), looks := true }, kinds := [], alts := [], laidByText := true, laidKinds := [.data, .data, .data], laidTests := true, laidLooks := .later }
def ItemOrdersCardSaid : Prop := Claim7.holds Tryd.pinned (.plain (OpenSpec.ofChange itemOrdersSpec)) itemOrdersCard

/-- THE TIED CARD OF 'ringworklaw01.ItemNarrows'. -/
def itemNarrowsCard : Claim7 := { stood := { row := itemNarrowsRow, standIns := [], harness := (true, "6f42776a985952da3bd048cbcc7c2bec5932fe10a5b4f8abf26884cea48853c0"), looks := true }, kinds := [], alts := [], laidByText := true, laidKinds := [.data, .data, .data], laidTests := true, laidLooks := .later }
def ItemNarrowsCardSaid : Prop := Claim7.holds Tryd.pinned (.plain (OpenSpec.ofChange itemNarrowsSpec)) itemNarrowsCard

/-- THE TIED CARD OF 'ringworklaw01.ItemPicks'. -/
def itemPicksCard : Claim7 := { stood := { row := itemPicksRow, standIns := [], harness := (true, "6f42776a985952da3bd048cbcc7c2bec5932fe10a5b4f8abf26884cea48853c0"), looks := true }, kinds := [], alts := [], laidByText := true, laidKinds := [.data, .data, .data], laidTests := true, laidLooks := .later }
def ItemPicksCardSaid : Prop := Claim7.holds Tryd.pinned (.plain (OpenSpec.ofChange itemPicksSpec)) itemPicksCard

/-- THE TIED CARD OF 'ringworklaw01.ItemTexts'. -/
def itemTextsCard : Claim7 := { stood := { row := itemTextsRow, standIns := [], harness := (true, "6f42776a985952da3bd048cbcc7c2bec5932fe10a5b4f8abf26884cea48853c0"), looks := true }, kinds := [], alts := [], laidByText := true, laidKinds := [.data, .data, .data, .sentinel, .sentinel], laidTests := true, laidLooks := .later }
def ItemTextsCardSaid : Prop := Claim7.holds Tryd.pinned (.plain (OpenSpec.ofChange itemTextsSpec)) itemTextsCard

/-- THE TIED CARD OF 'ringworklaw01.ItemFormats'. -/
def itemFormatsCard : Claim7 := { stood := { row := itemFormatsRow, standIns := [], harness := (true, "6f42776a985952da3bd048cbcc7c2bec5932fe10a5b4f8abf26884cea48853c0"), looks := true }, kinds := [], alts := [], laidByText := true, laidKinds := [.data, .data, .data, .data, .sentinel, .sentinel, .pinned], laidTests := true, laidLooks := .later }
def ItemFormatsCardSaid : Prop := Claim7.holds Tryd.pinned (.plain (OpenSpec.ofChange itemFormatsSpec)) itemFormatsCard

/-- THE SECOND FORM's CARD OF 'ringworklaw01.ItemValid'. -/
def itemValidUptoCard : Claim7 := { stood := { row := itemValidUptoRow, standIns := [], harness := (true, "6f42776a985952da3bd048cbcc7c2bec5932fe10a5b4f8abf26884cea48853c0"), looks := true }, kinds := [], alts := [], laidByText := true, laidKinds := [.data, .data, .data], laidTests := true, laidLooks := .later }
def ItemValidUptoCardSaid : Prop := Claim7.holds Tryd.pinned (.plain (OpenSpec.upto itemValidSpec)) itemValidUptoCard

/-- THE SECOND FORM's CARD OF 'ringworklaw01.ItemOrders'. -/
def itemOrdersUptoCard : Claim7 := { stood := { row := itemOrdersUptoRow, standIns := [], harness := (true, "6f42776a985952da3bd048cbcc7c2bec5932fe10a5b4f8abf26884cea48853c0"), looks := true }, kinds := [], alts := [], laidByText := true, laidKinds := [.data, .data, .data], laidTests := true, laidLooks := .later }
def ItemOrdersUptoCardSaid : Prop := Claim7.holds Tryd.pinned (.plain (OpenSpec.upto itemOrdersSpec)) itemOrdersUptoCard

/-- THE SECOND FORM's CARD OF 'ringworklaw01.ItemNarrows'. -/
def itemNarrowsUptoCard : Claim7 := { stood := { row := itemNarrowsUptoRow, standIns := [], harness := (true, "6f42776a985952da3bd048cbcc7c2bec5932fe10a5b4f8abf26884cea48853c0"), looks := true }, kinds := [], alts := [], laidByText := true, laidKinds := [.data, .data, .data], laidTests := true, laidLooks := .later }
def ItemNarrowsUptoCardSaid : Prop := Claim7.holds Tryd.pinned (.plain (OpenSpec.upto itemNarrowsSpec)) itemNarrowsUptoCard

/-- THE SECOND FORM's CARD OF 'ringworklaw01.ItemPicks'. -/
def itemPicksUptoCard : Claim7 := { stood := { row := itemPicksUptoRow, standIns := [], harness := (true, "6f42776a985952da3bd048cbcc7c2bec5932fe10a5b4f8abf26884cea48853c0"), looks := true }, kinds := [], alts := [], laidByText := true, laidKinds := [.data, .data, .data], laidTests := true, laidLooks := .later }
def ItemPicksUptoCardSaid : Prop := Claim7.holds Tryd.pinned (.plain (OpenSpec.upto itemPicksSpec)) itemPicksUptoCard

/-- THE SECOND FORM's CARD OF 'ringworklaw01.ItemTexts'. -/
def itemTextsUptoCard : Claim7 := { stood := { row := itemTextsUptoRow, standIns := [], harness := (true, "6f42776a985952da3bd048cbcc7c2bec5932fe10a5b4f8abf26884cea48853c0"), looks := true }, kinds := [], alts := [], laidByText := true, laidKinds := [.data, .data, .data, .sentinel, .sentinel], laidTests := true, laidLooks := .later }
def ItemTextsUptoCardSaid : Prop := Claim7.holds Tryd.pinned (.plain (OpenSpec.upto itemTextsSpec)) itemTextsUptoCard

/-- THE SECOND FORM's CARD OF 'ringworklaw01.ItemFormats'. -/
def itemFormatsUptoCard : Claim7 := { stood := { row := itemFormatsUptoRow, standIns := [], harness := (true, "6f42776a985952da3bd048cbcc7c2bec5932fe10a5b4f8abf26884cea48853c0"), looks := true }, kinds := [], alts := [], laidByText := true, laidKinds := [.data, .data, .data, .data, .sentinel, .sentinel, .pinned], laidTests := true, laidLooks := .later }
def ItemFormatsUptoCardSaid : Prop := Claim7.holds Tryd.pinned (.plain (OpenSpec.upto itemFormatsSpec)) itemFormatsUptoCard
end Rows
end Go.Proofs.YtibgjfeifpanhaaDoor
