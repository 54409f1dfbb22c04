/-
  DERIVED. GIVEN WITH THE SEED: THE CARDS: each row of YtpjiiipabbchiaaDoorRows.lean that lists a variable, with what it lists TIED to the program's text (the seventh form; the later family's looks); each row that meets fmt, with fmt's text TOLD by the authors' own Lean function (tested against real Go, not proved from fmt's source: count such statements apart). THE CARD IS WHAT COUNTS. Prove the row's statement (the work); the ties are given (YtpjiiipabbchiaaDoorTie.lean); close each card by the builder's one call (the guide's Derived/Test/ToyasCard.lean, 'card_holds'). Laid BY PROGRAM, IN A SANDBOX (cutbox-door.mjs). By AI agents, Wed Nov 11 2026. No macro, syntax, notation, axiom, sorry.
-/
import Derived.Test.YtpjiiipabbchiaaDoorRows
import GoSem.ClaimSeven
namespace Go.Proofs.YtpjiiipabbchiaaDoor
namespace Rows

/-- THE TIED CARD OF 'postroomkeep.TokenBack'. -/
def tokenBackCard : Claim7 := { stood := { row := tokenBackRow, standIns := [], harness := (true, "b8fd7a234c59cc9e1f0b86f1a2f8fc62f0e41ab3b15ea3466f2c1f646830588b"), looks := true }, kinds := [], alts := [], laidByText := true, laidKinds := [.data, .data, .data, .data, .sentinel, .sentinel, .pinned], laidTests := true, laidLooks := .later }
def TokenBackCardSaid : Prop := Claim7.holds Tryd.pinned (.plain (OpenSpec.ofChange tokenBackSpec)) tokenBackCard

/-- THE TIED CARD OF 'postroomkeep.TokenBlanks'. -/
def tokenBlanksCard : Claim7 := { stood := { row := tokenBlanksRow, standIns := [], harness := (true, "b8fd7a234c59cc9e1f0b86f1a2f8fc62f0e41ab3b15ea3466f2c1f646830588b"), looks := true }, kinds := [], alts := [], laidByText := true, laidKinds := [.data, .data, .data, .data, .sentinel, .sentinel, .pinned], laidTests := true, laidLooks := .later }
def TokenBlanksCardSaid : Prop := Claim7.holds Tryd.pinned (.plain (OpenSpec.ofChange tokenBlanksSpec)) tokenBlanksCard

/-- THE TIED CARD OF 'postroomkeep.TokenTimes'. -/
def tokenTimesCard : Claim7 := { stood := { row := tokenTimesRow, standIns := [], harness := (true, "b8fd7a234c59cc9e1f0b86f1a2f8fc62f0e41ab3b15ea3466f2c1f646830588b"), looks := true }, kinds := [], alts := [], laidByText := true, laidKinds := [.data, .data, .data, .data, .sentinel, .sentinel, .pinned], laidTests := true, laidLooks := .later }
def TokenTimesCardSaid : Prop := Claim7.holds Tryd.pinned (.plain (OpenSpec.ofChange tokenTimesSpec)) tokenTimesCard

/-- THE TIED CARD OF 'postroomkeep.TokenPlace'. -/
def tokenPlaceCard : Claim7 := { stood := { row := tokenPlaceRow, standIns := [], harness := (true, "b8fd7a234c59cc9e1f0b86f1a2f8fc62f0e41ab3b15ea3466f2c1f646830588b"), looks := true }, kinds := [], alts := [], laidByText := true, laidKinds := [.data, .data, .data, .data, .sentinel, .sentinel, .pinned], laidTests := true, laidLooks := .later }
def TokenPlaceCardSaid : Prop := Claim7.holds Tryd.pinned (.plain (OpenSpec.ofChange tokenPlaceSpec)) tokenPlaceCard

/-- THE TIED CARD OF 'postroomkeep.TokenMany'. -/
def tokenManyCard : Claim7 := { stood := { row := tokenManyRow, standIns := [], harness := (true, "b8fd7a234c59cc9e1f0b86f1a2f8fc62f0e41ab3b15ea3466f2c1f646830588b"), looks := true }, kinds := [], alts := [], laidByText := true, laidKinds := [.data, .data, .data, .data, .sentinel, .sentinel, .pinned], laidTests := true, laidLooks := .later }
def TokenManyCardSaid : Prop := Claim7.holds Tryd.pinned (.plain (OpenSpec.ofChange tokenManySpec)) tokenManyCard

/-- THE SECOND FORM's CARD OF 'postroomkeep.TokenBack'. -/
def tokenBackUptoCard : Claim7 := { stood := { row := tokenBackUptoRow, standIns := [], harness := (true, "b8fd7a234c59cc9e1f0b86f1a2f8fc62f0e41ab3b15ea3466f2c1f646830588b"), looks := true }, kinds := [], alts := [], laidByText := true, laidKinds := [.data, .data, .data, .data, .sentinel, .sentinel, .pinned], laidTests := true, laidLooks := .later }
def TokenBackUptoCardSaid : Prop := Claim7.holds Tryd.pinned (.plain (OpenSpec.upto tokenBackSpec)) tokenBackUptoCard

/-- THE SECOND FORM's CARD OF 'postroomkeep.TokenBlanks'. -/
def tokenBlanksUptoCard : Claim7 := { stood := { row := tokenBlanksUptoRow, standIns := [], harness := (true, "b8fd7a234c59cc9e1f0b86f1a2f8fc62f0e41ab3b15ea3466f2c1f646830588b"), looks := true }, kinds := [], alts := [], laidByText := true, laidKinds := [.data, .data, .data, .data, .sentinel, .sentinel, .pinned], laidTests := true, laidLooks := .later }
def TokenBlanksUptoCardSaid : Prop := Claim7.holds Tryd.pinned (.plain (OpenSpec.upto tokenBlanksSpec)) tokenBlanksUptoCard

/-- THE SECOND FORM's CARD OF 'postroomkeep.TokenTimes'. -/
def tokenTimesUptoCard : Claim7 := { stood := { row := tokenTimesUptoRow, standIns := [], harness := (true, "b8fd7a234c59cc9e1f0b86f1a2f8fc62f0e41ab3b15ea3466f2c1f646830588b"), looks := true }, kinds := [], alts := [], laidByText := true, laidKinds := [.data, .data, .data, .data, .sentinel, .sentinel, .pinned], laidTests := true, laidLooks := .later }
def TokenTimesUptoCardSaid : Prop := Claim7.holds Tryd.pinned (.plain (OpenSpec.upto tokenTimesSpec)) tokenTimesUptoCard

/-- THE SECOND FORM's CARD OF 'postroomkeep.TokenPlace'. -/
def tokenPlaceUptoCard : Claim7 := { stood := { row := tokenPlaceUptoRow, standIns := [], harness := (true, "b8fd7a234c59cc9e1f0b86f1a2f8fc62f0e41ab3b15ea3466f2c1f646830588b"), looks := true }, kinds := [], alts := [], laidByText := true, laidKinds := [.data, .data, .data, .data, .sentinel, .sentinel, .pinned], laidTests := true, laidLooks := .later }
def TokenPlaceUptoCardSaid : Prop := Claim7.holds Tryd.pinned (.plain (OpenSpec.upto tokenPlaceSpec)) tokenPlaceUptoCard

/-- THE SECOND FORM's CARD OF 'postroomkeep.TokenMany'. -/
def tokenManyUptoCard : Claim7 := { stood := { row := tokenManyUptoRow, standIns := [], harness := (true, "b8fd7a234c59cc9e1f0b86f1a2f8fc62f0e41ab3b15ea3466f2c1f646830588b"), looks := true }, kinds := [], alts := [], laidByText := true, laidKinds := [.data, .data, .data, .data, .sentinel, .sentinel, .pinned], laidTests := true, laidLooks := .later }
def TokenManyUptoCardSaid : Prop := Claim7.holds Tryd.pinned (.plain (OpenSpec.upto tokenManySpec)) tokenManyUptoCard
end Rows
end Go.Proofs.YtpjiiipabbchiaaDoor
