/-
  DERIVED. GIVEN WITH THE SEED: THE CARDS: each row of YtppablpbpimloaaDoorRows.lean that lists a variable, with what it lists TIED to the program's text (the seventh form; the later family's looks); each row that meets fmt, with fmt's text TOLD by the authors' own Lean function (tested against real Go, not proved from fmt's source: count such statements apart). THE CARD IS WHAT COUNTS. Prove the row's statement (the work); the ties are given (YtppablpbpimloaaDoorTie.lean); close each card by the builder's one call (the guide's Derived/Test/ToyasCard.lean, 'card_holds'). Laid BY PROGRAM, IN A SANDBOX (cutbox-door.mjs). By AI agents, Wed Nov 11 2026. No macro, syntax, notation, axiom, sorry.
-/
import Derived.Test.YtppablpbpimloaaDoorRows
import GoSem.ClaimSeven
namespace Go.Proofs.YtppablpbpimloaaDoor
namespace Rows

/-- THE TIED CARD OF 'cartridgelaw7.FaultTells'. -/
def faultTellsCard : Claim7 := { stood := { row := faultTellsRow, standIns := [], harness := (true, "807ff2a5e8286d9cdd29e6e4fae11996f065c23a3849f16e5479fc504d08b7b7"), looks := true }, kinds := [], alts := [], laidByText := true, laidKinds := [.handle], laidTests := true, laidLooks := .later }
def FaultTellsCardSaid : Prop := Claim7.holds Tryd.pinned (.plain (OpenSpec.ofChange faultTellsSpec)) faultTellsCard

/-- THE TIED CARD OF 'cartridgelaw7.FaultOther'. -/
def faultOtherCard : Claim7 := { stood := { row := faultOtherRow, standIns := [], harness := (true, "807ff2a5e8286d9cdd29e6e4fae11996f065c23a3849f16e5479fc504d08b7b7"), looks := true }, kinds := [], alts := [], laidByText := true, laidKinds := [.handle], laidTests := true, laidLooks := .later }
def FaultOtherCardSaid : Prop := Claim7.holds Tryd.pinned (.plain (OpenSpec.ofChange faultOtherSpec)) faultOtherCard

/-- THE TIED CARD OF 'cartridgelaw7.FaultIs'. -/
def faultIsCard : Claim7 := { stood := { row := faultIsRow, standIns := [], harness := (true, "807ff2a5e8286d9cdd29e6e4fae11996f065c23a3849f16e5479fc504d08b7b7"), looks := true }, kinds := [], alts := [], laidByText := true, laidKinds := [.handle], laidTests := true, laidLooks := .later }
def FaultIsCardSaid : Prop := Claim7.holds Tryd.pinned (.plain (OpenSpec.ofChange faultIsSpec)) faultIsCard

/-- THE TIED CARD OF 'cartridgelaw7.FaultDeep'. -/
def faultDeepCard : Claim7 := { stood := { row := faultDeepRow, standIns := [], harness := (true, "807ff2a5e8286d9cdd29e6e4fae11996f065c23a3849f16e5479fc504d08b7b7"), looks := true }, kinds := [], alts := [], laidByText := true, laidKinds := [.handle], laidTests := true, laidLooks := .later }
def FaultDeepCardSaid : Prop := Claim7.holds Tryd.pinned (.plain (OpenSpec.ofChange faultDeepSpec)) faultDeepCard

/-- THE SECOND FORM's CARD OF 'cartridgelaw7.FaultTells'. -/
def faultTellsUptoCard : Claim7 := { stood := { row := faultTellsUptoRow, standIns := [], harness := (true, "807ff2a5e8286d9cdd29e6e4fae11996f065c23a3849f16e5479fc504d08b7b7"), looks := true }, kinds := [], alts := [], laidByText := true, laidKinds := [.handle], laidTests := true, laidLooks := .later }
def FaultTellsUptoCardSaid : Prop := Claim7.holds Tryd.pinned (.plain (OpenSpec.upto faultTellsSpec)) faultTellsUptoCard

/-- THE SECOND FORM's CARD OF 'cartridgelaw7.FaultOther'. -/
def faultOtherUptoCard : Claim7 := { stood := { row := faultOtherUptoRow, standIns := [], harness := (true, "807ff2a5e8286d9cdd29e6e4fae11996f065c23a3849f16e5479fc504d08b7b7"), looks := true }, kinds := [], alts := [], laidByText := true, laidKinds := [.handle], laidTests := true, laidLooks := .later }
def FaultOtherUptoCardSaid : Prop := Claim7.holds Tryd.pinned (.plain (OpenSpec.upto faultOtherSpec)) faultOtherUptoCard

/-- THE SECOND FORM's CARD OF 'cartridgelaw7.FaultIs'. -/
def faultIsUptoCard : Claim7 := { stood := { row := faultIsUptoRow, standIns := [], harness := (true, "807ff2a5e8286d9cdd29e6e4fae11996f065c23a3849f16e5479fc504d08b7b7"), looks := true }, kinds := [], alts := [], laidByText := true, laidKinds := [.handle], laidTests := true, laidLooks := .later }
def FaultIsUptoCardSaid : Prop := Claim7.holds Tryd.pinned (.plain (OpenSpec.upto faultIsSpec)) faultIsUptoCard

/-- THE SECOND FORM's CARD OF 'cartridgelaw7.FaultDeep'. -/
def faultDeepUptoCard : Claim7 := { stood := { row := faultDeepUptoRow, standIns := [], harness := (true, "807ff2a5e8286d9cdd29e6e4fae11996f065c23a3849f16e5479fc504d08b7b7"), looks := true }, kinds := [], alts := [], laidByText := true, laidKinds := [.handle], laidTests := true, laidLooks := .later }
def FaultDeepUptoCardSaid : Prop := Claim7.holds Tryd.pinned (.plain (OpenSpec.upto faultDeepSpec)) faultDeepUptoCard
end Rows
end Go.Proofs.YtppablpbpimloaaDoor
