/-
  DERIVED. GIVEN WITH THE SEED: THE CARDS: each row of YtaaffebnajjfhaaGreatDoorRows.lean that lists a variable, with what it lists TIED to the program's text (the seventh form; the later family's looks); each row that meets fmt, with fmt's text TOLD by the authors' own Lean function (tested against real Go, not proved from fmt's source: count such statements apart). THE CARD IS WHAT COUNTS. Prove the row's statement (the work); the ties are given (YtaaffebnajjfhaaGreatDoorTie.lean); close each card by the builder's one call (the guide's Derived/Test/ToyasCard.lean, 'card_holds'). Laid BY PROGRAM, IN A SANDBOX (cutbox-door.mjs). By AI agents, Wed Nov 11 2026. No macro, syntax, notation, axiom, sorry.
-/
import Derived.Test.YtaaffebnajjfhaaGreatDoorRows
import GoSem.ClaimSeven
namespace Go.Proofs.YtaaffebnajjfhaaGreatDoor
namespace Rows

/-- THE TIED CARD OF 'switchyardtop.TopPrefix'. -/
def topPrefixCard : Claim7 := { stood := { row := topPrefixRow, standIns := [], harness := (true, "d58e5fbec7495d81ec631b5170f147c3ef5f8e3c4902ec1d23cac40ac342ed3d"), looks := true }, kinds := [], alts := [], laidByText := true, laidKinds := [.data, .data], laidTests := true, laidLooks := .later }
def TopPrefixCardSaid : Prop := Claim7.holds Tryz.pinned (.plain (OpenSpec.ofChange topPrefixSpec)) topPrefixCard

/-- THE TIED CARD OF 'switchyardtop.TopHead'. -/
def topHeadCard : Claim7 := { stood := { row := topHeadRow, standIns := [], harness := (true, "d58e5fbec7495d81ec631b5170f147c3ef5f8e3c4902ec1d23cac40ac342ed3d"), looks := true }, kinds := [], alts := [], laidByText := true, laidKinds := [.data, .data], laidTests := true, laidLooks := .later }
def TopHeadCardSaid : Prop := Claim7.holds Tryz.pinned (.plain (OpenSpec.ofChange topHeadSpec)) topHeadCard

/-- THE SECOND FORM's CARD OF 'switchyardtop.TopPrefix'. -/
def topPrefixUptoCard : Claim7 := { stood := { row := topPrefixUptoRow, standIns := [], harness := (true, "d58e5fbec7495d81ec631b5170f147c3ef5f8e3c4902ec1d23cac40ac342ed3d"), looks := true }, kinds := [], alts := [], laidByText := true, laidKinds := [.data, .data], laidTests := true, laidLooks := .later }
def TopPrefixUptoCardSaid : Prop := Claim7.holds Tryz.pinned (.plain (OpenSpec.upto topPrefixSpec)) topPrefixUptoCard

/-- THE SECOND FORM's CARD OF 'switchyardtop.TopHead'. -/
def topHeadUptoCard : Claim7 := { stood := { row := topHeadUptoRow, standIns := [], harness := (true, "d58e5fbec7495d81ec631b5170f147c3ef5f8e3c4902ec1d23cac40ac342ed3d"), looks := true }, kinds := [], alts := [], laidByText := true, laidKinds := [.data, .data], laidTests := true, laidLooks := .later }
def TopHeadUptoCardSaid : Prop := Claim7.holds Tryz.pinned (.plain (OpenSpec.upto topHeadSpec)) topHeadUptoCard
end Rows
end Go.Proofs.YtaaffebnajjfhaaGreatDoor
