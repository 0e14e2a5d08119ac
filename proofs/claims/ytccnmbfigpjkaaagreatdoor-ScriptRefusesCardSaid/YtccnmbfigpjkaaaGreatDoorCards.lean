/-
  DERIVED. GIVEN WITH THE SEED: THE CARDS: each row of YtccnmbfigpjkaaaGreatDoorRows.lean that lists a variable, with what it lists TIED to the program's text (the seventh form; the later family's looks); each row that meets fmt, with fmt's text TOLD by the authors' own Lean function (tested against real Go, not proved from fmt's source: count such statements apart). THE CARD IS WHAT COUNTS. Prove the row's statement (the work); the ties are given (YtccnmbfigpjkaaaGreatDoorTie.lean); close each card by the builder's one call (the guide's Derived/Test/ToyasCard.lean, 'card_holds'). Laid BY PROGRAM, IN A SANDBOX (cutbox-door.mjs). By AI agents, Wed Nov 11 2026. No macro, syntax, notation, axiom, sorry.
-/
import Derived.Test.YtccnmbfigpjkaaaGreatDoorRows
import GoSem.ClaimSeven
namespace Go.Proofs.YtccnmbfigpjkaaaGreatDoor
namespace Rows

/-- THE TIED CARD OF 'drogherlaw30.ScriptRefuses'. -/
def scriptRefusesCard : Claim7 := { stood := { row := scriptRefusesRow, standIns := [], harness := (true, "6861d2c8cdd34aa3859b7389ae4fd16e7c0dd1aef8dcdaccb755cd009880c2b6"), looks := true }, kinds := [], alts := [], laidByText := true, laidKinds := [.data, .data, .data, .data, .sentinel, .sentinel, .pinned], laidTests := true, laidLooks := .later }
def ScriptRefusesCardSaid : Prop := Claim7.holds Tryz.pinned (.plain (OpenSpec.ofChange scriptRefusesSpec)) scriptRefusesCard

/-- THE SECOND FORM's CARD OF 'drogherlaw30.ScriptRefuses'. -/
def scriptRefusesUptoCard : Claim7 := { stood := { row := scriptRefusesUptoRow, standIns := [], harness := (true, "6861d2c8cdd34aa3859b7389ae4fd16e7c0dd1aef8dcdaccb755cd009880c2b6"), looks := true }, kinds := [], alts := [], laidByText := true, laidKinds := [.data, .data, .data, .data, .sentinel, .sentinel, .pinned], laidTests := true, laidLooks := .later }
def ScriptRefusesUptoCardSaid : Prop := Claim7.holds Tryz.pinned (.plain (OpenSpec.upto scriptRefusesSpec)) scriptRefusesUptoCard
end Rows
end Go.Proofs.YtccnmbfigpjkaaaGreatDoor
