/-
  DERIVED. GIVEN WITH THE SEED: THE CARDS: each row of YtdpbobkcbakpfaaGreatDoorRows.lean that lists a variable, with what it lists TIED to the program's text (the seventh form; the later family's looks); each row that meets fmt, with fmt's text TOLD by the authors' own Lean function (tested against real Go, not proved from fmt's source: count such statements apart). THE CARD IS WHAT COUNTS. Prove the row's statement (the work); the ties are given (YtdpbobkcbakpfaaGreatDoorTie.lean); close each card by the builder's one call (the guide's Derived/Test/ToyasCard.lean, 'card_holds'). Laid BY PROGRAM, IN A SANDBOX (cutbox-door.mjs). By AI agents, Wed Nov 11 2026. No macro, syntax, notation, axiom, sorry.
-/
import Derived.Test.YtdpbobkcbakpfaaGreatDoorRows
import GoSem.ClaimSeven
namespace Go.Proofs.YtdpbobkcbakpfaaGreatDoor
namespace Rows

/-- THE TIED CARD OF 'examinerlaw04.LimitsChecks'. -/
def limitsChecksCard : Claim7 := { stood := { row := limitsChecksRow, standIns := [], harness := (true, "c005f1d2173b0f72290ffc2b0878e9cb7308b5435d4639f0e68b40856d0b03db"), looks := false }, kinds := [], alts := [], laidByText := true, laidKinds := [.data, .pinned], laidTests := true, laidLooks := .later }
def LimitsChecksCardSaid : Prop := Claim7.holds Tryz.pinned (.plain (OpenSpec.ofChange limitsChecksSpec)) limitsChecksCard

/-- THE TIED CARD OF 'examinerlaw04.LimitsPermits'. -/
def limitsPermitsCard : Claim7 := { stood := { row := limitsPermitsRow, standIns := [], harness := (true, "c005f1d2173b0f72290ffc2b0878e9cb7308b5435d4639f0e68b40856d0b03db"), looks := false }, kinds := [], alts := [], laidByText := true, laidKinds := [.data, .pinned], laidTests := true, laidLooks := .later }
def LimitsPermitsCardSaid : Prop := Claim7.holds Tryz.pinned (.plain (OpenSpec.ofChange limitsPermitsSpec)) limitsPermitsCard

/-- THE TIED CARD OF 'examinerlaw04.LimitsSets'. -/
def limitsSetsCard : Claim7 := { stood := { row := limitsSetsRow, standIns := [], harness := (true, "c005f1d2173b0f72290ffc2b0878e9cb7308b5435d4639f0e68b40856d0b03db"), looks := false }, kinds := [], alts := [], laidByText := true, laidKinds := [.data, .pinned], laidTests := true, laidLooks := .later }
def LimitsSetsCardSaid : Prop := Claim7.holds Tryz.pinned (.plain (OpenSpec.ofChange limitsSetsSpec)) limitsSetsCard

/-- THE TIED CARD OF 'examinerlaw04.LimitsSpans'. -/
def limitsSpansCard : Claim7 := { stood := { row := limitsSpansRow, standIns := [], harness := (true, "c005f1d2173b0f72290ffc2b0878e9cb7308b5435d4639f0e68b40856d0b03db"), looks := false }, kinds := [], alts := [], laidByText := true, laidKinds := [.data, .pinned], laidTests := true, laidLooks := .later }
def LimitsSpansCardSaid : Prop := Claim7.holds Tryz.pinned (.plain (OpenSpec.ofChange limitsSpansSpec)) limitsSpansCard

/-- THE TIED CARD OF 'examinerlaw04.LimitsAlgebra'. -/
def limitsAlgebraCard : Claim7 := { stood := { row := limitsAlgebraRow, standIns := [], harness := (true, "c005f1d2173b0f72290ffc2b0878e9cb7308b5435d4639f0e68b40856d0b03db"), looks := false }, kinds := [], alts := [], laidByText := true, laidKinds := [.data, .pinned], laidTests := true, laidLooks := .later }
def LimitsAlgebraCardSaid : Prop := Claim7.holds Tryz.pinned (.plain (OpenSpec.ofChange limitsAlgebraSpec)) limitsAlgebraCard

/-- THE TIED CARD OF 'examinerlaw04.LimitsSeen'. -/
def limitsSeenCard : Claim7 := { stood := { row := limitsSeenRow, standIns := [], harness := (true, "c005f1d2173b0f72290ffc2b0878e9cb7308b5435d4639f0e68b40856d0b03db"), looks := false }, kinds := [], alts := [], laidByText := true, laidKinds := [.data, .pinned], laidTests := true, laidLooks := .later }
def LimitsSeenCardSaid : Prop := Claim7.holds Tryz.pinned (.plain (OpenSpec.ofChange limitsSeenSpec)) limitsSeenCard

/-- THE TIED CARD OF 'examinerlaw04.LimitsShown'. -/
def limitsShownCard : Claim7 := { stood := { row := limitsShownRow, standIns := [], harness := (true, "c005f1d2173b0f72290ffc2b0878e9cb7308b5435d4639f0e68b40856d0b03db"), looks := false }, kinds := [], alts := [], laidByText := true, laidKinds := [.data, .pinned], laidTests := true, laidLooks := .later }
def LimitsShownCardSaid : Prop := Claim7.holds Tryz.pinned (.plain (OpenSpec.ofChange limitsShownSpec)) limitsShownCard

/-- THE TIED CARD OF 'examinerlaw04.LimitsLeast'. -/
def limitsLeastCard : Claim7 := { stood := { row := limitsLeastRow, standIns := [], harness := (true, "c005f1d2173b0f72290ffc2b0878e9cb7308b5435d4639f0e68b40856d0b03db"), looks := false }, kinds := [], alts := [], laidByText := true, laidKinds := [.data, .pinned], laidTests := true, laidLooks := .later }
def LimitsLeastCardSaid : Prop := Claim7.holds Tryz.pinned (.plain (OpenSpec.ofChange limitsLeastSpec)) limitsLeastCard

/-- THE TIED CARD OF 'examinerlaw04.LimitsWitnesses'. -/
def limitsWitnessesCard : Claim7 := { stood := { row := limitsWitnessesRow, standIns := [], harness := (true, "c005f1d2173b0f72290ffc2b0878e9cb7308b5435d4639f0e68b40856d0b03db"), looks := false }, kinds := [], alts := [], laidByText := true, laidKinds := [.data, .pinned], laidTests := true, laidLooks := .later }
def LimitsWitnessesCardSaid : Prop := Claim7.holds Tryz.pinned (.plain (OpenSpec.ofChange limitsWitnessesSpec)) limitsWitnessesCard

/-- THE SECOND FORM's CARD OF 'examinerlaw04.LimitsChecks'. -/
def limitsChecksUptoCard : Claim7 := { stood := { row := limitsChecksUptoRow, standIns := [], harness := (true, "c005f1d2173b0f72290ffc2b0878e9cb7308b5435d4639f0e68b40856d0b03db"), looks := false }, kinds := [], alts := [], laidByText := true, laidKinds := [.data, .pinned], laidTests := true, laidLooks := .later }
def LimitsChecksUptoCardSaid : Prop := Claim7.holds Tryz.pinned (.plain (OpenSpec.upto limitsChecksSpec)) limitsChecksUptoCard

/-- THE SECOND FORM's CARD OF 'examinerlaw04.LimitsPermits'. -/
def limitsPermitsUptoCard : Claim7 := { stood := { row := limitsPermitsUptoRow, standIns := [], harness := (true, "c005f1d2173b0f72290ffc2b0878e9cb7308b5435d4639f0e68b40856d0b03db"), looks := false }, kinds := [], alts := [], laidByText := true, laidKinds := [.data, .pinned], laidTests := true, laidLooks := .later }
def LimitsPermitsUptoCardSaid : Prop := Claim7.holds Tryz.pinned (.plain (OpenSpec.upto limitsPermitsSpec)) limitsPermitsUptoCard

/-- THE SECOND FORM's CARD OF 'examinerlaw04.LimitsSets'. -/
def limitsSetsUptoCard : Claim7 := { stood := { row := limitsSetsUptoRow, standIns := [], harness := (true, "c005f1d2173b0f72290ffc2b0878e9cb7308b5435d4639f0e68b40856d0b03db"), looks := false }, kinds := [], alts := [], laidByText := true, laidKinds := [.data, .pinned], laidTests := true, laidLooks := .later }
def LimitsSetsUptoCardSaid : Prop := Claim7.holds Tryz.pinned (.plain (OpenSpec.upto limitsSetsSpec)) limitsSetsUptoCard

/-- THE SECOND FORM's CARD OF 'examinerlaw04.LimitsSpans'. -/
def limitsSpansUptoCard : Claim7 := { stood := { row := limitsSpansUptoRow, standIns := [], harness := (true, "c005f1d2173b0f72290ffc2b0878e9cb7308b5435d4639f0e68b40856d0b03db"), looks := false }, kinds := [], alts := [], laidByText := true, laidKinds := [.data, .pinned], laidTests := true, laidLooks := .later }
def LimitsSpansUptoCardSaid : Prop := Claim7.holds Tryz.pinned (.plain (OpenSpec.upto limitsSpansSpec)) limitsSpansUptoCard

/-- THE SECOND FORM's CARD OF 'examinerlaw04.LimitsAlgebra'. -/
def limitsAlgebraUptoCard : Claim7 := { stood := { row := limitsAlgebraUptoRow, standIns := [], harness := (true, "c005f1d2173b0f72290ffc2b0878e9cb7308b5435d4639f0e68b40856d0b03db"), looks := false }, kinds := [], alts := [], laidByText := true, laidKinds := [.data, .pinned], laidTests := true, laidLooks := .later }
def LimitsAlgebraUptoCardSaid : Prop := Claim7.holds Tryz.pinned (.plain (OpenSpec.upto limitsAlgebraSpec)) limitsAlgebraUptoCard

/-- THE SECOND FORM's CARD OF 'examinerlaw04.LimitsSeen'. -/
def limitsSeenUptoCard : Claim7 := { stood := { row := limitsSeenUptoRow, standIns := [], harness := (true, "c005f1d2173b0f72290ffc2b0878e9cb7308b5435d4639f0e68b40856d0b03db"), looks := false }, kinds := [], alts := [], laidByText := true, laidKinds := [.data, .pinned], laidTests := true, laidLooks := .later }
def LimitsSeenUptoCardSaid : Prop := Claim7.holds Tryz.pinned (.plain (OpenSpec.upto limitsSeenSpec)) limitsSeenUptoCard

/-- THE SECOND FORM's CARD OF 'examinerlaw04.LimitsShown'. -/
def limitsShownUptoCard : Claim7 := { stood := { row := limitsShownUptoRow, standIns := [], harness := (true, "c005f1d2173b0f72290ffc2b0878e9cb7308b5435d4639f0e68b40856d0b03db"), looks := false }, kinds := [], alts := [], laidByText := true, laidKinds := [.data, .pinned], laidTests := true, laidLooks := .later }
def LimitsShownUptoCardSaid : Prop := Claim7.holds Tryz.pinned (.plain (OpenSpec.upto limitsShownSpec)) limitsShownUptoCard

/-- THE SECOND FORM's CARD OF 'examinerlaw04.LimitsLeast'. -/
def limitsLeastUptoCard : Claim7 := { stood := { row := limitsLeastUptoRow, standIns := [], harness := (true, "c005f1d2173b0f72290ffc2b0878e9cb7308b5435d4639f0e68b40856d0b03db"), looks := false }, kinds := [], alts := [], laidByText := true, laidKinds := [.data, .pinned], laidTests := true, laidLooks := .later }
def LimitsLeastUptoCardSaid : Prop := Claim7.holds Tryz.pinned (.plain (OpenSpec.upto limitsLeastSpec)) limitsLeastUptoCard

/-- THE SECOND FORM's CARD OF 'examinerlaw04.LimitsWitnesses'. -/
def limitsWitnessesUptoCard : Claim7 := { stood := { row := limitsWitnessesUptoRow, standIns := [], harness := (true, "c005f1d2173b0f72290ffc2b0878e9cb7308b5435d4639f0e68b40856d0b03db"), looks := false }, kinds := [], alts := [], laidByText := true, laidKinds := [.data, .pinned], laidTests := true, laidLooks := .later }
def LimitsWitnessesUptoCardSaid : Prop := Claim7.holds Tryz.pinned (.plain (OpenSpec.upto limitsWitnessesSpec)) limitsWitnessesUptoCard
end Rows
end Go.Proofs.YtdpbobkcbakpfaaGreatDoor
