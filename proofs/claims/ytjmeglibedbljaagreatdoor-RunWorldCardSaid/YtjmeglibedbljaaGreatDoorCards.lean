/-
  DERIVED. GIVEN WITH THE SEED: THE CARDS: each row of YtjmeglibedbljaaGreatDoorRows.lean that lists a variable, with what it lists TIED to the program's text (the seventh form; the later family's looks); each row that meets fmt, with fmt's text TOLD by the authors' own Lean function (tested against real Go, not proved from fmt's source: count such statements apart). THE CARD IS WHAT COUNTS. Prove the row's statement (the work); the ties are given (YtjmeglibedbljaaGreatDoorTie.lean); close each card by the builder's one call (the guide's Derived/Test/ToyasCard.lean, 'card_holds'). Laid BY PROGRAM, IN A SANDBOX (cutbox-door.mjs). By AI agents, Wed Nov 11 2026. No macro, syntax, notation, axiom, sorry.
-/
import Derived.Test.YtjmeglibedbljaaGreatDoorRows
import GoSem.ClaimSeven
namespace Go.Proofs.YtjmeglibedbljaaGreatDoor
namespace Rows

/-- THE TIED CARD OF 'diapauselaw15.RunWorld'. -/
def runWorldCard : Claim7 := { stood := { row := runWorldRow, standIns := [], harness := (true, "5d9cd3054e3ee8d98aa07dc96793f11bac7d60906ee1067e913bf692bf95ebfd"), looks := false }, kinds := [], alts := [], laidByText := true, laidKinds := [.data], laidTests := true, laidLooks := .later }
def RunWorldCardSaid : Prop := Claim7.holds Tryz.pinned (.plain (OpenSpec.ofChange runWorldSpec)) runWorldCard

/-- THE TIED CARD OF 'diapauselaw15.RunNone'. -/
def runNoneCard : Claim7 := { stood := { row := runNoneRow, standIns := [], harness := (true, "5d9cd3054e3ee8d98aa07dc96793f11bac7d60906ee1067e913bf692bf95ebfd"), looks := false }, kinds := [], alts := [], laidByText := true, laidKinds := [.data], laidTests := true, laidLooks := .later }
def RunNoneCardSaid : Prop := Claim7.holds Tryz.pinned (.plain (OpenSpec.ofChange runNoneSpec)) runNoneCard

/-- THE SECOND FORM's CARD OF 'diapauselaw15.RunWorld'. -/
def runWorldUptoCard : Claim7 := { stood := { row := runWorldUptoRow, standIns := [], harness := (true, "5d9cd3054e3ee8d98aa07dc96793f11bac7d60906ee1067e913bf692bf95ebfd"), looks := false }, kinds := [], alts := [], laidByText := true, laidKinds := [.data], laidTests := true, laidLooks := .later }
def RunWorldUptoCardSaid : Prop := Claim7.holds Tryz.pinned (.plain (OpenSpec.upto runWorldSpec)) runWorldUptoCard

/-- THE SECOND FORM's CARD OF 'diapauselaw15.RunNone'. -/
def runNoneUptoCard : Claim7 := { stood := { row := runNoneUptoRow, standIns := [], harness := (true, "5d9cd3054e3ee8d98aa07dc96793f11bac7d60906ee1067e913bf692bf95ebfd"), looks := false }, kinds := [], alts := [], laidByText := true, laidKinds := [.data], laidTests := true, laidLooks := .later }
def RunNoneUptoCardSaid : Prop := Claim7.holds Tryz.pinned (.plain (OpenSpec.upto runNoneSpec)) runNoneUptoCard
end Rows
end Go.Proofs.YtjmeglibedbljaaGreatDoor
