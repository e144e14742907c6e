/-
  DERIVED. GIVEN WITH THE SEED: THE CARDS: each row of YtecibefflhomdaaGreatDoorRows.lean that lists a variable, with what it lists TIED to the program's text (the seventh form; the later family's looks); each row that meets fmt, with fmt's text TOLD by the authors' own Lean function (tested against real Go, not proved from fmt's source: count such statements apart). THE CARD IS WHAT COUNTS. Prove the row's statement (the work); the ties are given (YtecibefflhomdaaGreatDoorTie.lean); close each card by the builder's one call (the guide's Derived/Test/ToyasCard.lean, 'card_holds'). Laid BY PROGRAM, IN A SANDBOX (cutbox-door.mjs). By AI agents, Wed Nov 11 2026. No macro, syntax, notation, axiom, sorry.
-/
import Derived.Test.YtecibefflhomdaaGreatDoorRows
import GoSem.ClaimSeven
namespace Go.Proofs.YtecibefflhomdaaGreatDoor
namespace Rows

/-- THE TIED CARD OF 'levelslaw.Flips'. -/
def flipsCard : Claim7 := { stood := { row := flipsRow, standIns := [], harness := (true, "da76dc427efea9ecdd91f64731b3a6296de2e5d5a0d5786268f9ef255ae13608"), looks := true }, kinds := [], alts := [], goes := true, laidByText := true, laidKinds := [.data, .data, .data, .handle], laidTests := true, laidLooks := .later }
def FlipsCardSaid : Prop := Claim7.holds Tryz.pinned (.plain (OpenSpec.ofChange flipsSpec)) flipsCard

/-- THE TIED CARD OF 'levelslaw.Crashes'. -/
def crashesCard : Claim7 := { stood := { row := crashesRow, standIns := [], harness := (true, "da76dc427efea9ecdd91f64731b3a6296de2e5d5a0d5786268f9ef255ae13608"), looks := true }, kinds := [], alts := [], goes := true, laidByText := true, laidKinds := [.data, .data, .data, .handle], laidTests := true, laidLooks := .later }
def CrashesCardSaid : Prop := Claim7.holds Tryz.pinned (.plain (OpenSpec.ofChange crashesSpec)) crashesCard

/-- THE TIED CARD OF 'levelslaw.Fails'. -/
def failsCard : Claim7 := { stood := { row := failsRow, standIns := [], harness := (true, "da76dc427efea9ecdd91f64731b3a6296de2e5d5a0d5786268f9ef255ae13608"), looks := true }, kinds := [], alts := [], goes := true, laidByText := true, laidKinds := [.data, .data, .data, .handle], laidTests := true, laidLooks := .later }
def FailsCardSaid : Prop := Claim7.holds Tryz.pinned (.plain (OpenSpec.ofChange failsSpec)) failsCard

/-- THE TIED CARD OF 'levelslaw.Contents'. -/
def contentsCard : Claim7 := { stood := { row := contentsRow, standIns := [], harness := (true, "da76dc427efea9ecdd91f64731b3a6296de2e5d5a0d5786268f9ef255ae13608"), looks := true }, kinds := [], alts := [], goes := true, laidByText := true, laidKinds := [.data, .data, .data, .handle], laidTests := true, laidLooks := .later }
def ContentsCardSaid : Prop := Claim7.holds Tryz.pinned (.plain (OpenSpec.ofChange contentsSpec)) contentsCard

/-- THE TIED CARD OF 'levelslaw.Snaps'. -/
def snapsCard : Claim7 := { stood := { row := snapsRow, standIns := [], harness := (true, "da76dc427efea9ecdd91f64731b3a6296de2e5d5a0d5786268f9ef255ae13608"), looks := true }, kinds := [], alts := [], goes := true, laidByText := true, laidKinds := [.data, .data, .data, .handle], laidTests := true, laidLooks := .later }
def SnapsCardSaid : Prop := Claim7.holds Tryz.pinned (.plain (OpenSpec.ofChange snapsSpec)) snapsCard

/-- THE TIED CARD OF 'levelslaw.All'. -/
def allCard : Claim7 := { stood := { row := allRow, standIns := [], harness := (true, "da76dc427efea9ecdd91f64731b3a6296de2e5d5a0d5786268f9ef255ae13608"), looks := true }, kinds := [], alts := [], goes := true, laidByText := true, laidKinds := [.data, .data, .data, .handle], laidTests := true, laidLooks := .later }
def AllCardSaid : Prop := Claim7.holds Tryz.pinned (.plain (OpenSpec.ofChange allSpec)) allCard

/-- THE TIED CARD OF 'levelslaw.Together'. -/
def togetherCard : Claim7 := { stood := { row := togetherRow, standIns := [], harness := (true, "da76dc427efea9ecdd91f64731b3a6296de2e5d5a0d5786268f9ef255ae13608"), looks := true }, kinds := [], alts := [], goes := true, laidByText := true, laidKinds := [.data, .data, .data, .handle], laidTests := true, laidLooks := .later }
def TogetherCardSaid : Prop := Claim7.holds Tryz.pinned (.plain (OpenSpec.ofChange togetherSpec)) togetherCard

/-- THE TIED CARD OF 'levelslaw.Shaped'. -/
def shapedCard : Claim7 := { stood := { row := shapedRow, standIns := [], harness := (true, "da76dc427efea9ecdd91f64731b3a6296de2e5d5a0d5786268f9ef255ae13608"), looks := true }, kinds := [], alts := [], goes := true, laidByText := true, laidKinds := [.data, .data, .data, .handle], laidTests := true, laidLooks := .later }
def ShapedCardSaid : Prop := Claim7.holds Tryz.pinned (.plain (OpenSpec.ofChange shapedSpec)) shapedCard

/-- THE TIED CARD OF 'levelslaw.Garbage'. -/
def garbageCard : Claim7 := { stood := { row := garbageRow, standIns := [], harness := (true, "da76dc427efea9ecdd91f64731b3a6296de2e5d5a0d5786268f9ef255ae13608"), looks := true }, kinds := [], alts := [], goes := true, laidByText := true, laidKinds := [.data, .data, .data, .handle], laidTests := true, laidLooks := .later }
def GarbageCardSaid : Prop := Claim7.holds Tryz.pinned (.plain (OpenSpec.ofChange garbageSpec)) garbageCard
end Rows
end Go.Proofs.YtecibefflhomdaaGreatDoor
