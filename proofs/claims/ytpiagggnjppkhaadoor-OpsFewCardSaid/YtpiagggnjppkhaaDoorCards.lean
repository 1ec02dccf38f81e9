/-
  DERIVED. GIVEN WITH THE SEED: THE CARDS: each row of YtpiagggnjppkhaaDoorRows.lean that lists a variable, with what it lists TIED to the program's text (the seventh form; the later family's looks); each row that meets fmt, with fmt's text TOLD by the authors' own Lean function (tested against real Go, not proved from fmt's source: count such statements apart). THE CARD IS WHAT COUNTS. Prove the row's statement (the work); the ties are given (YtpiagggnjppkhaaDoorTie.lean); close each card by the builder's one call (the guide's Derived/Test/ToyasCard.lean, 'card_holds'). Laid BY PROGRAM, IN A SANDBOX (cutbox-door.mjs). By AI agents, Wed Nov 11 2026. No macro, syntax, notation, axiom, sorry.
-/
import Derived.Test.YtpiagggnjppkhaaDoorRows
import GoSem.ClaimSeven
namespace Go.Proofs.YtpiagggnjppkhaaDoor
namespace Rows

/-- THE TIED CARD OF 'hayloftlaw03.OpsReckon'. -/
def opsReckonCard : Claim7 := { stood := { row := opsReckonRow, standIns := [], harness := (true, "188d3637dfa274b567041696d7f8b91aab030c717557f05f1bef5f650aabaaf3"), looks := false }, kinds := [], alts := [], laidByText := true, laidKinds := [.data, .data, .data], laidTests := true, laidLooks := .later }
def OpsReckonCardSaid : Prop := Claim7.holds Tryd.pinned (.plain (OpenSpec.ofChange opsReckonSpec)) opsReckonCard

/-- THE TIED CARD OF 'hayloftlaw03.OpsSum'. -/
def opsSumCard : Claim7 := { stood := { row := opsSumRow, standIns := [], harness := (true, "188d3637dfa274b567041696d7f8b91aab030c717557f05f1bef5f650aabaaf3"), looks := false }, kinds := [], alts := [], laidByText := true, laidKinds := [.data, .data, .data], laidTests := true, laidLooks := .later }
def OpsSumCardSaid : Prop := Claim7.holds Tryd.pinned (.plain (OpenSpec.ofChange opsSumSpec)) opsSumCard

/-- THE TIED CARD OF 'hayloftlaw03.OpsFew'. -/
def opsFewCard : Claim7 := { stood := { row := opsFewRow, standIns := [], harness := (true, "188d3637dfa274b567041696d7f8b91aab030c717557f05f1bef5f650aabaaf3"), looks := false }, kinds := [], alts := [], laidByText := true, laidKinds := [.data, .data, .data], laidTests := true, laidLooks := .later }
def OpsFewCardSaid : Prop := Claim7.holds Tryd.pinned (.plain (OpenSpec.ofChange opsFewSpec)) opsFewCard

/-- THE TIED CARD OF 'hayloftlaw03.OpsTell'. -/
def opsTellCard : Claim7 := { stood := { row := opsTellRow, standIns := [], harness := (true, "188d3637dfa274b567041696d7f8b91aab030c717557f05f1bef5f650aabaaf3"), looks := false }, kinds := [], alts := [], laidByText := true, laidKinds := [.data, .data, .data], laidTests := true, laidLooks := .later }
def OpsTellCardSaid : Prop := Claim7.holds Tryd.pinned (.plain (OpenSpec.ofChange opsTellSpec)) opsTellCard

/-- THE SECOND FORM's CARD OF 'hayloftlaw03.OpsReckon'. -/
def opsReckonUptoCard : Claim7 := { stood := { row := opsReckonUptoRow, standIns := [], harness := (true, "188d3637dfa274b567041696d7f8b91aab030c717557f05f1bef5f650aabaaf3"), looks := false }, kinds := [], alts := [], laidByText := true, laidKinds := [.data, .data, .data], laidTests := true, laidLooks := .later }
def OpsReckonUptoCardSaid : Prop := Claim7.holds Tryd.pinned (.plain (OpenSpec.upto opsReckonSpec)) opsReckonUptoCard

/-- THE SECOND FORM's CARD OF 'hayloftlaw03.OpsSum'. -/
def opsSumUptoCard : Claim7 := { stood := { row := opsSumUptoRow, standIns := [], harness := (true, "188d3637dfa274b567041696d7f8b91aab030c717557f05f1bef5f650aabaaf3"), looks := false }, kinds := [], alts := [], laidByText := true, laidKinds := [.data, .data, .data], laidTests := true, laidLooks := .later }
def OpsSumUptoCardSaid : Prop := Claim7.holds Tryd.pinned (.plain (OpenSpec.upto opsSumSpec)) opsSumUptoCard

/-- THE SECOND FORM's CARD OF 'hayloftlaw03.OpsFew'. -/
def opsFewUptoCard : Claim7 := { stood := { row := opsFewUptoRow, standIns := [], harness := (true, "188d3637dfa274b567041696d7f8b91aab030c717557f05f1bef5f650aabaaf3"), looks := false }, kinds := [], alts := [], laidByText := true, laidKinds := [.data, .data, .data], laidTests := true, laidLooks := .later }
def OpsFewUptoCardSaid : Prop := Claim7.holds Tryd.pinned (.plain (OpenSpec.upto opsFewSpec)) opsFewUptoCard

/-- THE SECOND FORM's CARD OF 'hayloftlaw03.OpsTell'. -/
def opsTellUptoCard : Claim7 := { stood := { row := opsTellUptoRow, standIns := [], harness := (true, "188d3637dfa274b567041696d7f8b91aab030c717557f05f1bef5f650aabaaf3"), looks := false }, kinds := [], alts := [], laidByText := true, laidKinds := [.data, .data, .data], laidTests := true, laidLooks := .later }
def OpsTellUptoCardSaid : Prop := Claim7.holds Tryd.pinned (.plain (OpenSpec.upto opsTellSpec)) opsTellUptoCard
end Rows
end Go.Proofs.YtpiagggnjppkhaaDoor
