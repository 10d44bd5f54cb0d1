/-
  DERIVED. GIVEN WITH THE SEED: THE CARDS: each row of YtjoinlfkebgfkaaDoorRows.lean that lists a variable, with what it lists TIED to the program's text (the seventh form; the later family's looks); each row that meets fmt, with fmt's text TOLD by the authors' own Lean function (tested against real Go, not proved from fmt's source: count such statements apart). THE CARD IS WHAT COUNTS. Prove the row's statement (the work); the ties are given (YtjoinlfkebgfkaaDoorTie.lean); close each card by the builder's one call (the guide's Derived/Test/ToyasCard.lean, 'card_holds'). Laid BY PROGRAM, IN A SANDBOX (cutbox-door.mjs). By AI agents, Wed Nov 11 2026. No macro, syntax, notation, axiom, sorry.
-/
import Derived.Test.YtjoinlfkebgfkaaDoorRows
import GoSem.ClaimSeven
namespace Go.Proofs.YtjoinlfkebgfkaaDoor
namespace Rows

/-- THE TIED CARD OF 'tapestrylaw07.NormUnlike'. -/
def normUnlikeCard : Claim7 := { stood := { row := normUnlikeRow, standIns := [], harness := (true, "011c370dd1ed9d1ab846b0ae243991a5c9ff4edad89fd4d97ccad34113261f5d"), looks := false }, kinds := [], alts := [], laidByText := true, laidKinds := [.data, .data, .data], laidTests := true, laidLooks := .later }
def NormUnlikeCardSaid : Prop := Claim7.holds Tryd.pinned (.plain (OpenSpec.ofChange normUnlikeSpec)) normUnlikeCard

/-- THE TIED CARD OF 'tapestrylaw07.NormLists'. -/
def normListsCard : Claim7 := { stood := { row := normListsRow, standIns := [], harness := (true, "011c370dd1ed9d1ab846b0ae243991a5c9ff4edad89fd4d97ccad34113261f5d"), looks := false }, kinds := [], alts := [], laidByText := true, laidKinds := [.data, .data, .data], laidTests := true, laidLooks := .later }
def NormListsCardSaid : Prop := Claim7.holds Tryd.pinned (.plain (OpenSpec.ofChange normListsSpec)) normListsCard

/-- THE TIED CARD OF 'tapestrylaw07.NormKinds'. -/
def normKindsCard : Claim7 := { stood := { row := normKindsRow, standIns := [], harness := (true, "011c370dd1ed9d1ab846b0ae243991a5c9ff4edad89fd4d97ccad34113261f5d"), looks := false }, kinds := [], alts := [], laidByText := true, laidKinds := [.data, .data, .data], laidTests := true, laidLooks := .later }
def NormKindsCardSaid : Prop := Claim7.holds Tryd.pinned (.plain (OpenSpec.ofChange normKindsSpec)) normKindsCard

/-- THE SECOND FORM's CARD OF 'tapestrylaw07.NormUnlike'. -/
def normUnlikeUptoCard : Claim7 := { stood := { row := normUnlikeUptoRow, standIns := [], harness := (true, "011c370dd1ed9d1ab846b0ae243991a5c9ff4edad89fd4d97ccad34113261f5d"), looks := false }, kinds := [], alts := [], laidByText := true, laidKinds := [.data, .data, .data], laidTests := true, laidLooks := .later }
def NormUnlikeUptoCardSaid : Prop := Claim7.holds Tryd.pinned (.plain (OpenSpec.upto normUnlikeSpec)) normUnlikeUptoCard

/-- THE SECOND FORM's CARD OF 'tapestrylaw07.NormLists'. -/
def normListsUptoCard : Claim7 := { stood := { row := normListsUptoRow, standIns := [], harness := (true, "011c370dd1ed9d1ab846b0ae243991a5c9ff4edad89fd4d97ccad34113261f5d"), looks := false }, kinds := [], alts := [], laidByText := true, laidKinds := [.data, .data, .data], laidTests := true, laidLooks := .later }
def NormListsUptoCardSaid : Prop := Claim7.holds Tryd.pinned (.plain (OpenSpec.upto normListsSpec)) normListsUptoCard

/-- THE SECOND FORM's CARD OF 'tapestrylaw07.NormKinds'. -/
def normKindsUptoCard : Claim7 := { stood := { row := normKindsUptoRow, standIns := [], harness := (true, "011c370dd1ed9d1ab846b0ae243991a5c9ff4edad89fd4d97ccad34113261f5d"), looks := false }, kinds := [], alts := [], laidByText := true, laidKinds := [.data, .data, .data], laidTests := true, laidLooks := .later }
def NormKindsUptoCardSaid : Prop := Claim7.holds Tryd.pinned (.plain (OpenSpec.upto normKindsSpec)) normKindsUptoCard
end Rows
end Go.Proofs.YtjoinlfkebgfkaaDoor
