/-
  DERIVED. GIVEN WITH THE SEED: THE CARDS: each row of YtgipaccfnlklcaaGreatDoorRows.lean that lists a variable, with what it lists TIED to the program's text (the seventh form; the later family's looks); each row that meets fmt, with fmt's text TOLD by the authors' own Lean function (tested against real Go, not proved from fmt's source: count such statements apart). THE CARD IS WHAT COUNTS. Prove the row's statement (the work); the ties are given (YtgipaccfnlklcaaGreatDoorTie.lean); close each card by the builder's one call (the guide's Derived/Test/ToyasCard.lean, 'card_holds'). Laid BY PROGRAM, IN A SANDBOX (cutbox-door.mjs). By AI agents, Wed Nov 11 2026. No macro, syntax, notation, axiom, sorry.
-/
import Derived.Test.YtgipaccfnlklcaaGreatDoorRows
import GoSem.ClaimSeven
namespace Go.Proofs.YtgipaccfnlklcaaGreatDoor
namespace Rows

/-- THE TIED CARD OF 'carousellaw29.InfoNobody'. -/
def infoNobodyCard : Claim7 := { stood := { row := infoNobodyRow, standIns := [], harness := (true, "4134e172acee4b0d1e53fcba021d622684cbdf80d4acd9c32d1920829b30cc4a"), looks := false }, kinds := [], alts := [], laidByText := true, laidKinds := [.data, .data, .data], laidTests := true, laidLooks := .later }
def InfoNobodyCardSaid : Prop := Claim7.holds Tryz.pinned (.plain (OpenSpec.ofChange infoNobodySpec)) infoNobodyCard

/-- THE SECOND FORM's CARD OF 'carousellaw29.InfoNobody'. -/
def infoNobodyUptoCard : Claim7 := { stood := { row := infoNobodyUptoRow, standIns := [], harness := (true, "4134e172acee4b0d1e53fcba021d622684cbdf80d4acd9c32d1920829b30cc4a"), looks := false }, kinds := [], alts := [], laidByText := true, laidKinds := [.data, .data, .data], laidTests := true, laidLooks := .later }
def InfoNobodyUptoCardSaid : Prop := Claim7.holds Tryz.pinned (.plain (OpenSpec.upto infoNobodySpec)) infoNobodyUptoCard
end Rows
end Go.Proofs.YtgipaccfnlklcaaGreatDoor
