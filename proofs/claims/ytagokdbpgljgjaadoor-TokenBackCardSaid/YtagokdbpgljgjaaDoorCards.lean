/-
  DERIVED. GIVEN WITH THE SEED: THE CARDS: each row of YtagokdbpgljgjaaDoorRows.lean that lists a variable, with what it lists TIED to the program's text (the seventh form; the later family's looks); each row that meets fmt, with fmt's text TOLD by the authors' own Lean function (tested against real Go, not proved from fmt's source: count such statements apart). THE CARD IS WHAT COUNTS. Prove the row's statement (the work); the ties are given (YtagokdbpgljgjaaDoorTie.lean); close each card by the builder's one call (the guide's Derived/Test/ToyasCard.lean, 'card_holds'). Laid BY PROGRAM, IN A SANDBOX (cutbox-door.mjs). By AI agents, Wed Nov 11 2026. No macro, syntax, notation, axiom, sorry.
-/
import Derived.Test.YtagokdbpgljgjaaDoorRows
import GoSem.ClaimSeven
namespace Go.Proofs.YtagokdbpgljgjaaDoor
namespace Rows

/-- THE TIED CARD OF 'quoinlaw07.TokenChecks'. -/
def tokenChecksCard : Claim7 := { stood := { row := tokenChecksRow, standIns := [], harness := (true, "b7befbc4ef0b1d24a836531935e45bebe6d5ffecbeb44dc856926e65f0402099"), looks := true }, kinds := [], alts := [], laidByText := true, laidKinds := [.data, .data, .data, .data, .sentinel, .sentinel, .pinned], laidTests := true, laidLooks := .later }
def TokenChecksCardSaid : Prop := Claim7.holds Tryd.pinned (.plain (OpenSpec.ofChange tokenChecksSpec)) tokenChecksCard

/-- THE TIED CARD OF 'quoinlaw07.TokenWrites'. -/
def tokenWritesCard : Claim7 := { stood := { row := tokenWritesRow, standIns := [], harness := (true, "b7befbc4ef0b1d24a836531935e45bebe6d5ffecbeb44dc856926e65f0402099"), looks := true }, kinds := [], alts := [], laidByText := true, laidKinds := [.data, .data, .data, .data, .sentinel, .sentinel, .pinned], laidTests := true, laidLooks := .later }
def TokenWritesCardSaid : Prop := Claim7.holds Tryd.pinned (.plain (OpenSpec.ofChange tokenWritesSpec)) tokenWritesCard

/-- THE TIED CARD OF 'quoinlaw07.TokenReads'. -/
def tokenReadsCard : Claim7 := { stood := { row := tokenReadsRow, standIns := [], harness := (true, "b7befbc4ef0b1d24a836531935e45bebe6d5ffecbeb44dc856926e65f0402099"), looks := true }, kinds := [], alts := [], laidByText := true, laidKinds := [.data, .data, .data, .data, .sentinel, .sentinel, .pinned], laidTests := true, laidLooks := .later }
def TokenReadsCardSaid : Prop := Claim7.holds Tryd.pinned (.plain (OpenSpec.ofChange tokenReadsSpec)) tokenReadsCard

/-- THE TIED CARD OF 'quoinlaw07.TokenBack'. -/
def tokenBackCard : Claim7 := { stood := { row := tokenBackRow, standIns := [], harness := (true, "b7befbc4ef0b1d24a836531935e45bebe6d5ffecbeb44dc856926e65f0402099"), looks := true }, kinds := [], alts := [], laidByText := true, laidKinds := [.data, .data, .data, .data, .sentinel, .sentinel, .pinned], laidTests := true, laidLooks := .later }
def TokenBackCardSaid : Prop := Claim7.holds Tryd.pinned (.plain (OpenSpec.ofChange tokenBackSpec)) tokenBackCard

/-- THE TIED CARD OF 'quoinlaw07.TokenPicks'. -/
def tokenPicksCard : Claim7 := { stood := { row := tokenPicksRow, standIns := [], harness := (true, "b7befbc4ef0b1d24a836531935e45bebe6d5ffecbeb44dc856926e65f0402099"), looks := true }, kinds := [], alts := [], laidByText := true, laidKinds := [.data, .data, .data, .data, .sentinel, .sentinel, .pinned], laidTests := true, laidLooks := .later }
def TokenPicksCardSaid : Prop := Claim7.holds Tryd.pinned (.plain (OpenSpec.ofChange tokenPicksSpec)) tokenPicksCard

/-- THE TIED CARD OF 'quoinlaw07.TokenTells'. -/
def tokenTellsCard : Claim7 := { stood := { row := tokenTellsRow, standIns := [], harness := (true, "b7befbc4ef0b1d24a836531935e45bebe6d5ffecbeb44dc856926e65f0402099"), looks := true }, kinds := [], alts := [], laidByText := true, laidKinds := [.data, .data, .data, .data, .sentinel, .sentinel, .pinned], laidTests := true, laidLooks := .later }
def TokenTellsCardSaid : Prop := Claim7.holds Tryd.pinned (.plain (OpenSpec.ofChange tokenTellsSpec)) tokenTellsCard

/-- THE TIED CARD OF 'quoinlaw07.TokenCursors'. -/
def tokenCursorsCard : Claim7 := { stood := { row := tokenCursorsRow, standIns := [], harness := (true, "b7befbc4ef0b1d24a836531935e45bebe6d5ffecbeb44dc856926e65f0402099"), looks := true }, kinds := [], alts := [], laidByText := true, laidKinds := [.data, .data, .data, .data, .sentinel, .sentinel, .pinned], laidTests := true, laidLooks := .later }
def TokenCursorsCardSaid : Prop := Claim7.holds Tryd.pinned (.plain (OpenSpec.ofChange tokenCursorsSpec)) tokenCursorsCard

/-- THE TIED CARD OF 'quoinlaw07.TokenOwn'. -/
def tokenOwnCard : Claim7 := { stood := { row := tokenOwnRow, standIns := [], harness := (true, "b7befbc4ef0b1d24a836531935e45bebe6d5ffecbeb44dc856926e65f0402099"), looks := true }, kinds := [], alts := [], laidByText := true, laidKinds := [.data, .data, .data, .data, .sentinel, .sentinel, .pinned], laidTests := true, laidLooks := .later }
def TokenOwnCardSaid : Prop := Claim7.holds Tryd.pinned (.plain (OpenSpec.ofChange tokenOwnSpec)) tokenOwnCard

/-- THE SECOND FORM's CARD OF 'quoinlaw07.TokenChecks'. -/
def tokenChecksUptoCard : Claim7 := { stood := { row := tokenChecksUptoRow, standIns := [], harness := (true, "b7befbc4ef0b1d24a836531935e45bebe6d5ffecbeb44dc856926e65f0402099"), looks := true }, kinds := [], alts := [], laidByText := true, laidKinds := [.data, .data, .data, .data, .sentinel, .sentinel, .pinned], laidTests := true, laidLooks := .later }
def TokenChecksUptoCardSaid : Prop := Claim7.holds Tryd.pinned (.plain (OpenSpec.upto tokenChecksSpec)) tokenChecksUptoCard

/-- THE SECOND FORM's CARD OF 'quoinlaw07.TokenWrites'. -/
def tokenWritesUptoCard : Claim7 := { stood := { row := tokenWritesUptoRow, standIns := [], harness := (true, "b7befbc4ef0b1d24a836531935e45bebe6d5ffecbeb44dc856926e65f0402099"), looks := true }, kinds := [], alts := [], laidByText := true, laidKinds := [.data, .data, .data, .data, .sentinel, .sentinel, .pinned], laidTests := true, laidLooks := .later }
def TokenWritesUptoCardSaid : Prop := Claim7.holds Tryd.pinned (.plain (OpenSpec.upto tokenWritesSpec)) tokenWritesUptoCard

/-- THE SECOND FORM's CARD OF 'quoinlaw07.TokenReads'. -/
def tokenReadsUptoCard : Claim7 := { stood := { row := tokenReadsUptoRow, standIns := [], harness := (true, "b7befbc4ef0b1d24a836531935e45bebe6d5ffecbeb44dc856926e65f0402099"), looks := true }, kinds := [], alts := [], laidByText := true, laidKinds := [.data, .data, .data, .data, .sentinel, .sentinel, .pinned], laidTests := true, laidLooks := .later }
def TokenReadsUptoCardSaid : Prop := Claim7.holds Tryd.pinned (.plain (OpenSpec.upto tokenReadsSpec)) tokenReadsUptoCard

/-- THE SECOND FORM's CARD OF 'quoinlaw07.TokenBack'. -/
def tokenBackUptoCard : Claim7 := { stood := { row := tokenBackUptoRow, standIns := [], harness := (true, "b7befbc4ef0b1d24a836531935e45bebe6d5ffecbeb44dc856926e65f0402099"), looks := true }, kinds := [], alts := [], laidByText := true, laidKinds := [.data, .data, .data, .data, .sentinel, .sentinel, .pinned], laidTests := true, laidLooks := .later }
def TokenBackUptoCardSaid : Prop := Claim7.holds Tryd.pinned (.plain (OpenSpec.upto tokenBackSpec)) tokenBackUptoCard

/-- THE SECOND FORM's CARD OF 'quoinlaw07.TokenPicks'. -/
def tokenPicksUptoCard : Claim7 := { stood := { row := tokenPicksUptoRow, standIns := [], harness := (true, "b7befbc4ef0b1d24a836531935e45bebe6d5ffecbeb44dc856926e65f0402099"), looks := true }, kinds := [], alts := [], laidByText := true, laidKinds := [.data, .data, .data, .data, .sentinel, .sentinel, .pinned], laidTests := true, laidLooks := .later }
def TokenPicksUptoCardSaid : Prop := Claim7.holds Tryd.pinned (.plain (OpenSpec.upto tokenPicksSpec)) tokenPicksUptoCard

/-- THE SECOND FORM's CARD OF 'quoinlaw07.TokenTells'. -/
def tokenTellsUptoCard : Claim7 := { stood := { row := tokenTellsUptoRow, standIns := [], harness := (true, "b7befbc4ef0b1d24a836531935e45bebe6d5ffecbeb44dc856926e65f0402099"), looks := true }, kinds := [], alts := [], laidByText := true, laidKinds := [.data, .data, .data, .data, .sentinel, .sentinel, .pinned], laidTests := true, laidLooks := .later }
def TokenTellsUptoCardSaid : Prop := Claim7.holds Tryd.pinned (.plain (OpenSpec.upto tokenTellsSpec)) tokenTellsUptoCard

/-- THE SECOND FORM's CARD OF 'quoinlaw07.TokenCursors'. -/
def tokenCursorsUptoCard : Claim7 := { stood := { row := tokenCursorsUptoRow, standIns := [], harness := (true, "b7befbc4ef0b1d24a836531935e45bebe6d5ffecbeb44dc856926e65f0402099"), looks := true }, kinds := [], alts := [], laidByText := true, laidKinds := [.data, .data, .data, .data, .sentinel, .sentinel, .pinned], laidTests := true, laidLooks := .later }
def TokenCursorsUptoCardSaid : Prop := Claim7.holds Tryd.pinned (.plain (OpenSpec.upto tokenCursorsSpec)) tokenCursorsUptoCard

/-- THE SECOND FORM's CARD OF 'quoinlaw07.TokenOwn'. -/
def tokenOwnUptoCard : Claim7 := { stood := { row := tokenOwnUptoRow, standIns := [], harness := (true, "b7befbc4ef0b1d24a836531935e45bebe6d5ffecbeb44dc856926e65f0402099"), looks := true }, kinds := [], alts := [], laidByText := true, laidKinds := [.data, .data, .data, .data, .sentinel, .sentinel, .pinned], laidTests := true, laidLooks := .later }
def TokenOwnUptoCardSaid : Prop := Claim7.holds Tryd.pinned (.plain (OpenSpec.upto tokenOwnSpec)) tokenOwnUptoCard
end Rows
end Go.Proofs.YtagokdbpgljgjaaDoor
