/-
  DERIVED. GIVEN WITH THE SEED: THE CARDS: each row of YtlmfpkiaikjlbaaDoorRows.lean that lists a variable, with what it lists TIED to the program's text (the seventh form; the later family's looks); each row that meets fmt, with fmt's text TOLD by the authors' own Lean function (tested against real Go, not proved from fmt's source: count such statements apart). THE CARD IS WHAT COUNTS. Prove the row's statement (the work); the ties are given (YtlmfpkiaikjlbaaDoorTie.lean); close each card by the builder's one call (the guide's Derived/Test/ToyasCard.lean, 'card_holds'). Laid BY PROGRAM, IN A SANDBOX (cutbox-door.mjs). By AI agents, Wed Nov 11 2026. No macro, syntax, notation, axiom, sorry.
-/
import Derived.Test.YtlmfpkiaikjlbaaDoorRows
import GoSem.ClaimSeven
namespace Go.Proofs.YtlmfpkiaikjlbaaDoor
namespace Rows

/-- THE TIED CARD OF 'laws.FnExactParseNames'. -/
def fnExactParseNamesCard : Claim7 := { stood := { row := fnExactParseNamesRow, standIns := [], harness := (true, "7095e5fc029961c5c6fbc018285e85df402e2da676bd878a03c046e1ee4a0d38"), looks := false }, kinds := [], alts := [], laidByText := true, laidKinds := [.data, .pinned], laidTests := true, laidLooks := .later }
def FnExactParseNamesCardSaid : Prop := Claim7.holds Tryd.pinned (.plain (OpenSpec.ofChange fnExactParseNamesSpec)) fnExactParseNamesCard

/-- THE TIED CARD OF 'laws.FnExactParseRanking'. -/
def fnExactParseRankingCard : Claim7 := { stood := { row := fnExactParseRankingRow, standIns := [], harness := (true, "7095e5fc029961c5c6fbc018285e85df402e2da676bd878a03c046e1ee4a0d38"), looks := false }, kinds := [], alts := [], laidByText := true, laidKinds := [.data, .pinned], laidTests := true, laidLooks := .later }
def FnExactParseRankingCardSaid : Prop := Claim7.holds Tryd.pinned (.plain (OpenSpec.ofChange fnExactParseRankingSpec)) fnExactParseRankingCard

/-- THE SECOND FORM's CARD OF 'laws.FnExactParseNames'. -/
def fnExactParseNamesUptoCard : Claim7 := { stood := { row := fnExactParseNamesUptoRow, standIns := [], harness := (true, "7095e5fc029961c5c6fbc018285e85df402e2da676bd878a03c046e1ee4a0d38"), looks := false }, kinds := [], alts := [], laidByText := true, laidKinds := [.data, .pinned], laidTests := true, laidLooks := .later }
def FnExactParseNamesUptoCardSaid : Prop := Claim7.holds Tryd.pinned (.plain (OpenSpec.upto fnExactParseNamesSpec)) fnExactParseNamesUptoCard

/-- THE SECOND FORM's CARD OF 'laws.FnExactParseRanking'. -/
def fnExactParseRankingUptoCard : Claim7 := { stood := { row := fnExactParseRankingUptoRow, standIns := [], harness := (true, "7095e5fc029961c5c6fbc018285e85df402e2da676bd878a03c046e1ee4a0d38"), looks := false }, kinds := [], alts := [], laidByText := true, laidKinds := [.data, .pinned], laidTests := true, laidLooks := .later }
def FnExactParseRankingUptoCardSaid : Prop := Claim7.holds Tryd.pinned (.plain (OpenSpec.upto fnExactParseRankingSpec)) fnExactParseRankingUptoCard
end Rows
end Go.Proofs.YtlmfpkiaikjlbaaDoor
