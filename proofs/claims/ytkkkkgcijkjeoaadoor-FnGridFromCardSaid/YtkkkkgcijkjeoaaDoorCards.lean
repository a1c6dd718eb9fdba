/-
  DERIVED. GIVEN WITH THE SEED: THE CARDS: each row of YtkkkkgcijkjeoaaDoorRows.lean that lists a variable, with what it lists TIED to the program's text (the seventh form; the later family's looks); each row that meets fmt, with fmt's text TOLD by the authors' own Lean function (tested against real Go, not proved from fmt's source: count such statements apart). THE CARD IS WHAT COUNTS. Prove the row's statement (the work); the ties are given (YtkkkkgcijkjeoaaDoorTie.lean); close each card by the builder's one call (the guide's Derived/Test/ToyasCard.lean, 'card_holds'). Laid BY PROGRAM, IN A SANDBOX (cutbox-door.mjs). By AI agents, Wed Nov 11 2026. No macro, syntax, notation, axiom, sorry.
-/
import Derived.Test.YtkkkkgcijkjeoaaDoorRows
import GoSem.ClaimSeven
namespace Go.Proofs.YtkkkkgcijkjeoaaDoor
namespace Rows

/-- THE TIED CARD OF 'laws.FnGridText'. -/
def fnGridTextCard : Claim7 := { stood := { row := fnGridTextRow, standIns := [], harness := (true, "29c10555f6312c5c08fffd8f92e8b67e35205df05b1d244dcdfcfc2bf7504e51"), looks := false }, kinds := [], alts := [], laidByText := true, laidKinds := [.data, .pinned], laidTests := true, laidLooks := .later }
def FnGridTextCardSaid : Prop := Claim7.holds Tryd.pinned (.plain (OpenSpec.ofChange fnGridTextSpec)) fnGridTextCard

/-- THE TIED CARD OF 'laws.FnGridFrom'. -/
def fnGridFromCard : Claim7 := { stood := { row := fnGridFromRow, standIns := [], harness := (true, "29c10555f6312c5c08fffd8f92e8b67e35205df05b1d244dcdfcfc2bf7504e51"), looks := false }, kinds := [], alts := [], laidByText := true, laidKinds := [.data, .pinned], laidTests := true, laidLooks := .later }
def FnGridFromCardSaid : Prop := Claim7.holds Tryd.pinned (.plain (OpenSpec.ofChange fnGridFromSpec)) fnGridFromCard

/-- THE TIED CARD OF 'laws.FnExactGridFrom'. -/
def fnExactGridFromCard : Claim7 := { stood := { row := fnExactGridFromRow, standIns := [], harness := (true, "29c10555f6312c5c08fffd8f92e8b67e35205df05b1d244dcdfcfc2bf7504e51"), looks := false }, kinds := [], alts := [], laidByText := true, laidKinds := [.data, .pinned], laidTests := true, laidLooks := .later }
def FnExactGridFromCardSaid : Prop := Claim7.holds Tryd.pinned (.plain (OpenSpec.ofChange fnExactGridFromSpec)) fnExactGridFromCard

/-- THE SECOND FORM's CARD OF 'laws.FnGridText'. -/
def fnGridTextUptoCard : Claim7 := { stood := { row := fnGridTextUptoRow, standIns := [], harness := (true, "29c10555f6312c5c08fffd8f92e8b67e35205df05b1d244dcdfcfc2bf7504e51"), looks := false }, kinds := [], alts := [], laidByText := true, laidKinds := [.data, .pinned], laidTests := true, laidLooks := .later }
def FnGridTextUptoCardSaid : Prop := Claim7.holds Tryd.pinned (.plain (OpenSpec.upto fnGridTextSpec)) fnGridTextUptoCard

/-- THE SECOND FORM's CARD OF 'laws.FnGridFrom'. -/
def fnGridFromUptoCard : Claim7 := { stood := { row := fnGridFromUptoRow, standIns := [], harness := (true, "29c10555f6312c5c08fffd8f92e8b67e35205df05b1d244dcdfcfc2bf7504e51"), looks := false }, kinds := [], alts := [], laidByText := true, laidKinds := [.data, .pinned], laidTests := true, laidLooks := .later }
def FnGridFromUptoCardSaid : Prop := Claim7.holds Tryd.pinned (.plain (OpenSpec.upto fnGridFromSpec)) fnGridFromUptoCard

/-- THE SECOND FORM's CARD OF 'laws.FnExactGridFrom'. -/
def fnExactGridFromUptoCard : Claim7 := { stood := { row := fnExactGridFromUptoRow, standIns := [], harness := (true, "29c10555f6312c5c08fffd8f92e8b67e35205df05b1d244dcdfcfc2bf7504e51"), looks := false }, kinds := [], alts := [], laidByText := true, laidKinds := [.data, .pinned], laidTests := true, laidLooks := .later }
def FnExactGridFromUptoCardSaid : Prop := Claim7.holds Tryd.pinned (.plain (OpenSpec.upto fnExactGridFromSpec)) fnExactGridFromUptoCard
end Rows
end Go.Proofs.YtkkkkgcijkjeoaaDoor
