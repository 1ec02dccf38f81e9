/-
  No cell of these rows narrows 'for every input' (looked for: loops, veiled, ifaces, maps, wideKeys, modest, calm, conditions, laid).
  DERIVED. THE GIVEN ROWS OF THIS SEAT. 9 by the template 'for every input the law returns true; each argument reads behind the call as it read before'; 0 by the template 'total and deterministic' (their statements: YtpiagggnjppkhaaTotals.lean).
  GIVEN WITH THE SEED: the statements are not yours to turn. If you find one false, say at which input.
  Laid BY PROGRAM, IN A SANDBOX (cutbox-rows.mjs): the forced cells as the released guide's own fill.sh prints them over the translation e4f53a45142dbca9… (all of the seat's roots in one cut). By AI agents, Wed Nov 11 2026. No macro, syntax, notation, axiom, sorry.
-/
import Derived.Test.YtpiagggnjppkhaaChecked
import GoSem.Claim
import GoSem.ClaimJoined
import GoSem.ClaimMapViews
import Derived.JoinedTies
import Derived.KernelRfl
namespace Go.Proofs.Ytpiagggnjppkhaa
/- THE CELL 'sum', in the pinned program and in every row, IS THE sha256 OF THE DUMP (.gsa) THAT YtpiagggnjppkhaaProg.lean LOADS. Nothing in Lean hashes anything: it is a label: what it is worth is what the hold of that sum in a sandbox is worth. -/
noncomputable def Try.pinned : Pinned := { name := "ytpiagggnjppkhaa", sum := "e4f53a45142dbca9f36ad3101c7113d5ee47d170ebebe8421634263b06fbc093", checked := Try.checked }
namespace Rows
def none {H : Type} : Left H := { results := [], args := [] }

/-- 'hayloftlaw09.SerialRuns': WHATEVER THE INPUT: true; the input reads as it did. -/
def serialRunsSpec : ChangeSpec := { name := "serialRuns", fn := fun _ => fun
  | [d1, d2, d3] => { results := [.lit (.bool true)], args := [d1, d2, d3] }
  | _ => none }
def serialRunsRow : OpenClaim := { program := "ytpiagggnjppkhaa", sum := "e4f53a45142dbca9f36ad3101c7113d5ee47d170ebebe8421634263b06fbc093", func := "hayloft/hayloftlaw09.SerialRuns", spec := "serialRuns", unfollowed := true, recurses := true, apart := false }
def SerialRunsSaid : Prop := serialRunsRow.holds Try.pinned (OpenSpec.ofChange serialRunsSpec)

/-- ITS FALSE NEIGHBOUR: 'it returns false'. Refute it at one input. -/
def serialRunsWrong : ChangeSpec := { name := "serialRuns", fn := fun _ => fun
  | [d1, d2, d3] => { results := [.lit (.bool false)], args := [d1, d2, d3] }
  | _ => none }
def SerialRunsWrongFalsely : Prop := serialRunsRow.holds Try.pinned (OpenSpec.ofChange serialRunsWrong)

/-- 'hayloftlaw09.SerialNil': WHATEVER THE INPUT: true; the input reads as it did. -/
def serialNilSpec : ChangeSpec := { name := "serialNil", fn := fun _ => fun
  | [d] => { results := [.lit (.bool true)], args := [d] }
  | _ => none }
def serialNilRow : OpenClaim := { program := "ytpiagggnjppkhaa", sum := "e4f53a45142dbca9f36ad3101c7113d5ee47d170ebebe8421634263b06fbc093", func := "hayloft/hayloftlaw09.SerialNil", spec := "serialNil", unfollowed := true, recurses := true, apart := false }
def SerialNilSaid : Prop := serialNilRow.holds Try.pinned (OpenSpec.ofChange serialNilSpec)

/-- ITS FALSE NEIGHBOUR: 'it returns false'. Refute it at one input. -/
def serialNilWrong : ChangeSpec := { name := "serialNil", fn := fun _ => fun
  | [d] => { results := [.lit (.bool false)], args := [d] }
  | _ => none }
def SerialNilWrongFalsely : Prop := serialNilRow.holds Try.pinned (OpenSpec.ofChange serialNilWrong)

/-- 'hayloftlaw09.SerialKeeps': WHATEVER THE INPUT: true; the input reads as it did. -/
def serialKeepsSpec : ChangeSpec := { name := "serialKeeps", fn := fun _ => fun
  | [d1, d2, d3] => { results := [.lit (.bool true)], args := [d1, d2, d3] }
  | _ => none }
def serialKeepsRow : OpenClaim := { program := "ytpiagggnjppkhaa", sum := "e4f53a45142dbca9f36ad3101c7113d5ee47d170ebebe8421634263b06fbc093", func := "hayloft/hayloftlaw09.SerialKeeps", spec := "serialKeeps", unfollowed := true, recurses := true, apart := false }
def SerialKeepsSaid : Prop := serialKeepsRow.holds Try.pinned (OpenSpec.ofChange serialKeepsSpec)

/-- ITS FALSE NEIGHBOUR: 'it returns false'. Refute it at one input. -/
def serialKeepsWrong : ChangeSpec := { name := "serialKeeps", fn := fun _ => fun
  | [d1, d2, d3] => { results := [.lit (.bool false)], args := [d1, d2, d3] }
  | _ => none }
def SerialKeepsWrongFalsely : Prop := serialKeepsRow.holds Try.pinned (OpenSpec.ofChange serialKeepsWrong)

/-- 'hayloftlaw09.SerialTrail': WHATEVER THE INPUT: true; the input reads as it did. -/
def serialTrailSpec : ChangeSpec := { name := "serialTrail", fn := fun _ => fun
  | [d1, d2, d3] => { results := [.lit (.bool true)], args := [d1, d2, d3] }
  | _ => none }
def serialTrailRow : OpenClaim := { program := "ytpiagggnjppkhaa", sum := "e4f53a45142dbca9f36ad3101c7113d5ee47d170ebebe8421634263b06fbc093", func := "hayloft/hayloftlaw09.SerialTrail", spec := "serialTrail", unfollowed := true, recurses := true, apart := false }
def SerialTrailSaid : Prop := serialTrailRow.holds Try.pinned (OpenSpec.ofChange serialTrailSpec)

/-- ITS FALSE NEIGHBOUR: 'it returns false'. Refute it at one input. -/
def serialTrailWrong : ChangeSpec := { name := "serialTrail", fn := fun _ => fun
  | [d1, d2, d3] => { results := [.lit (.bool false)], args := [d1, d2, d3] }
  | _ => none }
def SerialTrailWrongFalsely : Prop := serialTrailRow.holds Try.pinned (OpenSpec.ofChange serialTrailWrong)

/-- 'hayloftlaw09.SerialDealt': WHATEVER THE INPUT: true; the input reads as it did. -/
def serialDealtSpec : ChangeSpec := { name := "serialDealt", fn := fun _ => fun
  | [d1, d2, d3, d4] => { results := [.lit (.bool true)], args := [d1, d2, d3, d4] }
  | _ => none }
def serialDealtRow : OpenClaim := { program := "ytpiagggnjppkhaa", sum := "e4f53a45142dbca9f36ad3101c7113d5ee47d170ebebe8421634263b06fbc093", func := "hayloft/hayloftlaw09.SerialDealt", spec := "serialDealt", unfollowed := true, recurses := true, apart := false }
def SerialDealtSaid : Prop := serialDealtRow.holds Try.pinned (OpenSpec.ofChange serialDealtSpec)

/-- ITS FALSE NEIGHBOUR: 'it returns false'. Refute it at one input. -/
def serialDealtWrong : ChangeSpec := { name := "serialDealt", fn := fun _ => fun
  | [d1, d2, d3, d4] => { results := [.lit (.bool false)], args := [d1, d2, d3, d4] }
  | _ => none }
def SerialDealtWrongFalsely : Prop := serialDealtRow.holds Try.pinned (OpenSpec.ofChange serialDealtWrong)

/-- 'hayloftlaw22.PipePlays': WHATEVER THE INPUT: true; the input reads as it did. -/
def pipePlaysSpec : ChangeSpec := { name := "pipePlays", fn := fun _ => fun
  | [d1, d2, d3, d4] => { results := [.lit (.bool true)], args := [d1, d2, d3, d4] }
  | _ => none }
def pipePlaysRow : OpenClaim := { program := "ytpiagggnjppkhaa", sum := "e4f53a45142dbca9f36ad3101c7113d5ee47d170ebebe8421634263b06fbc093", func := "hayloft/hayloftlaw22.PipePlays", spec := "pipePlays", unfollowed := true, recurses := true, apart := false }
def PipePlaysSaid : Prop := pipePlaysRow.holds Try.pinned (OpenSpec.ofChange pipePlaysSpec)

/-- ITS FALSE NEIGHBOUR: 'it returns false'. Refute it at one input. -/
def pipePlaysWrong : ChangeSpec := { name := "pipePlays", fn := fun _ => fun
  | [d1, d2, d3, d4] => { results := [.lit (.bool false)], args := [d1, d2, d3, d4] }
  | _ => none }
def PipePlaysWrongFalsely : Prop := pipePlaysRow.holds Try.pinned (OpenSpec.ofChange pipePlaysWrong)

/-- 'hayloftlaw22.PipeParts': WHATEVER THE INPUT: true; the input reads as it did. -/
def pipePartsSpec : ChangeSpec := { name := "pipeParts", fn := fun _ => fun
  | [d1, d2, d3, d4, d5] => { results := [.lit (.bool true)], args := [d1, d2, d3, d4, d5] }
  | _ => none }
def pipePartsRow : OpenClaim := { program := "ytpiagggnjppkhaa", sum := "e4f53a45142dbca9f36ad3101c7113d5ee47d170ebebe8421634263b06fbc093", func := "hayloft/hayloftlaw22.PipeParts", spec := "pipeParts", unfollowed := true, recurses := true, apart := false }
def PipePartsSaid : Prop := pipePartsRow.holds Try.pinned (OpenSpec.ofChange pipePartsSpec)

/-- ITS FALSE NEIGHBOUR: 'it returns false'. Refute it at one input. -/
def pipePartsWrong : ChangeSpec := { name := "pipeParts", fn := fun _ => fun
  | [d1, d2, d3, d4, d5] => { results := [.lit (.bool false)], args := [d1, d2, d3, d4, d5] }
  | _ => none }
def PipePartsWrongFalsely : Prop := pipePartsRow.holds Try.pinned (OpenSpec.ofChange pipePartsWrong)

/-- 'hayloftlaw22.PipeNil': WHATEVER THE INPUT: true; the input reads as it did. -/
def pipeNilSpec : ChangeSpec := { name := "pipeNil", fn := fun _ => fun
  | [d] => { results := [.lit (.bool true)], args := [d] }
  | _ => none }
def pipeNilRow : OpenClaim := { program := "ytpiagggnjppkhaa", sum := "e4f53a45142dbca9f36ad3101c7113d5ee47d170ebebe8421634263b06fbc093", func := "hayloft/hayloftlaw22.PipeNil", spec := "pipeNil", unfollowed := true, recurses := true, apart := false }
def PipeNilSaid : Prop := pipeNilRow.holds Try.pinned (OpenSpec.ofChange pipeNilSpec)

/-- ITS FALSE NEIGHBOUR: 'it returns false'. Refute it at one input. -/
def pipeNilWrong : ChangeSpec := { name := "pipeNil", fn := fun _ => fun
  | [d] => { results := [.lit (.bool false)], args := [d] }
  | _ => none }
def PipeNilWrongFalsely : Prop := pipeNilRow.holds Try.pinned (OpenSpec.ofChange pipeNilWrong)

/-- 'hayloftlaw22.PipeLands': WHATEVER THE INPUT: true; the input reads as it did. -/
def pipeLandsSpec : ChangeSpec := { name := "pipeLands", fn := fun _ => fun
  | [d1, d2, d3] => { results := [.lit (.bool true)], args := [d1, d2, d3] }
  | _ => none }
def pipeLandsRow : OpenClaim := { program := "ytpiagggnjppkhaa", sum := "e4f53a45142dbca9f36ad3101c7113d5ee47d170ebebe8421634263b06fbc093", func := "hayloft/hayloftlaw22.PipeLands", spec := "pipeLands", unfollowed := true, recurses := true, apart := false }
def PipeLandsSaid : Prop := pipeLandsRow.holds Try.pinned (OpenSpec.ofChange pipeLandsSpec)

/-- ITS FALSE NEIGHBOUR: 'it returns false'. Refute it at one input. -/
def pipeLandsWrong : ChangeSpec := { name := "pipeLands", fn := fun _ => fun
  | [d1, d2, d3] => { results := [.lit (.bool false)], args := [d1, d2, d3] }
  | _ => none }
def PipeLandsWrongFalsely : Prop := pipeLandsRow.holds Try.pinned (OpenSpec.ofChange pipeLandsWrong)

/- THE SECOND FORM. 'bulk': how many values and letters a reading holds, each counted each time it is reached (what is shared counts as often as it is met; a slice's spare places count too). A statement '..UptoSaid' is the law's where the arguments, and the package variables that the reading takes, are together of bulk at most 1048576: NARROWER than '..Said'. Prove '..Said' where nothing that the law and all that it calls make is longer than what came in: it says more and counts as full. Else prove '..UptoSaid'. A law counts once. -/
mutual
def uptoBulk {H : Type} : DataW H → Nat
  | .lit (.string bytes) => bytes.length + 1
  | .lit _ => 1
  | .nil => 1
  | .ptr d => uptoBulk d + 1
  | .slice elems spare => uptoBulkAll elems + uptoBulkAll spare + 1
  | .agg parts => uptoBulkAll parts + 1
  | .iface _ d => uptoBulk d + 1
  | .map entries => uptoBulkEntries entries + 1
  | .held _ => 1
def uptoBulkAll {H : Type} : List (DataW H) → Nat
  | [] => 0
  | d :: r => uptoBulk d + uptoBulkAll r
def uptoBulkEntries {H : Type} : List (Lit × DataW H) → Nat
  | [] => 0
  | x :: r => uptoBulkEntry x + uptoBulkEntries r
def uptoBulkEntry {H : Type} : Lit × DataW H → Nat
  | (.string bytes, d) => bytes.length + uptoBulk d + 1
  | (_, d) => uptoBulk d + 1
 end
def uptoSmall : (H : Type) → List (DataW H) → Bool := fun _ ds => decide (uptoBulkAll ds ≤ 1048576)
def OpenSpec.upto (s : _root_.Go.ChangeSpec) : _root_.Go.OpenSpec := { _root_.Go.OpenSpec.ofChange s with cond := some uptoSmall }

/-- 'hayloftlaw09.SerialRuns', WHERE WHAT IT READS IS OF BULK AT MOST 1048576: true; the input reads as it did. -/
def serialRunsUptoRow : OpenClaim := { program := "ytpiagggnjppkhaa", sum := "e4f53a45142dbca9f36ad3101c7113d5ee47d170ebebe8421634263b06fbc093", func := "hayloft/hayloftlaw09.SerialRuns", spec := "serialRuns", unfollowed := true, recurses := true, apart := false, narrowed := true }
def SerialRunsUptoSaid : Prop := serialRunsUptoRow.holds Try.pinned (OpenSpec.upto serialRunsSpec)

/-- 'hayloftlaw09.SerialNil', WHERE WHAT IT READS IS OF BULK AT MOST 1048576: true; the input reads as it did. -/
def serialNilUptoRow : OpenClaim := { program := "ytpiagggnjppkhaa", sum := "e4f53a45142dbca9f36ad3101c7113d5ee47d170ebebe8421634263b06fbc093", func := "hayloft/hayloftlaw09.SerialNil", spec := "serialNil", unfollowed := true, recurses := true, apart := false, narrowed := true }
def SerialNilUptoSaid : Prop := serialNilUptoRow.holds Try.pinned (OpenSpec.upto serialNilSpec)

/-- 'hayloftlaw09.SerialKeeps', WHERE WHAT IT READS IS OF BULK AT MOST 1048576: true; the input reads as it did. -/
def serialKeepsUptoRow : OpenClaim := { program := "ytpiagggnjppkhaa", sum := "e4f53a45142dbca9f36ad3101c7113d5ee47d170ebebe8421634263b06fbc093", func := "hayloft/hayloftlaw09.SerialKeeps", spec := "serialKeeps", unfollowed := true, recurses := true, apart := false, narrowed := true }
def SerialKeepsUptoSaid : Prop := serialKeepsUptoRow.holds Try.pinned (OpenSpec.upto serialKeepsSpec)

/-- 'hayloftlaw09.SerialTrail', WHERE WHAT IT READS IS OF BULK AT MOST 1048576: true; the input reads as it did. -/
def serialTrailUptoRow : OpenClaim := { program := "ytpiagggnjppkhaa", sum := "e4f53a45142dbca9f36ad3101c7113d5ee47d170ebebe8421634263b06fbc093", func := "hayloft/hayloftlaw09.SerialTrail", spec := "serialTrail", unfollowed := true, recurses := true, apart := false, narrowed := true }
def SerialTrailUptoSaid : Prop := serialTrailUptoRow.holds Try.pinned (OpenSpec.upto serialTrailSpec)

/-- 'hayloftlaw09.SerialDealt', WHERE WHAT IT READS IS OF BULK AT MOST 1048576: true; the input reads as it did. -/
def serialDealtUptoRow : OpenClaim := { program := "ytpiagggnjppkhaa", sum := "e4f53a45142dbca9f36ad3101c7113d5ee47d170ebebe8421634263b06fbc093", func := "hayloft/hayloftlaw09.SerialDealt", spec := "serialDealt", unfollowed := true, recurses := true, apart := false, narrowed := true }
def SerialDealtUptoSaid : Prop := serialDealtUptoRow.holds Try.pinned (OpenSpec.upto serialDealtSpec)

/-- 'hayloftlaw22.PipePlays', WHERE WHAT IT READS IS OF BULK AT MOST 1048576: true; the input reads as it did. -/
def pipePlaysUptoRow : OpenClaim := { program := "ytpiagggnjppkhaa", sum := "e4f53a45142dbca9f36ad3101c7113d5ee47d170ebebe8421634263b06fbc093", func := "hayloft/hayloftlaw22.PipePlays", spec := "pipePlays", unfollowed := true, recurses := true, apart := false, narrowed := true }
def PipePlaysUptoSaid : Prop := pipePlaysUptoRow.holds Try.pinned (OpenSpec.upto pipePlaysSpec)

/-- 'hayloftlaw22.PipeParts', WHERE WHAT IT READS IS OF BULK AT MOST 1048576: true; the input reads as it did. -/
def pipePartsUptoRow : OpenClaim := { program := "ytpiagggnjppkhaa", sum := "e4f53a45142dbca9f36ad3101c7113d5ee47d170ebebe8421634263b06fbc093", func := "hayloft/hayloftlaw22.PipeParts", spec := "pipeParts", unfollowed := true, recurses := true, apart := false, narrowed := true }
def PipePartsUptoSaid : Prop := pipePartsUptoRow.holds Try.pinned (OpenSpec.upto pipePartsSpec)

/-- 'hayloftlaw22.PipeNil', WHERE WHAT IT READS IS OF BULK AT MOST 1048576: true; the input reads as it did. -/
def pipeNilUptoRow : OpenClaim := { program := "ytpiagggnjppkhaa", sum := "e4f53a45142dbca9f36ad3101c7113d5ee47d170ebebe8421634263b06fbc093", func := "hayloft/hayloftlaw22.PipeNil", spec := "pipeNil", unfollowed := true, recurses := true, apart := false, narrowed := true }
def PipeNilUptoSaid : Prop := pipeNilUptoRow.holds Try.pinned (OpenSpec.upto pipeNilSpec)

/-- 'hayloftlaw22.PipeLands', WHERE WHAT IT READS IS OF BULK AT MOST 1048576: true; the input reads as it did. -/
def pipeLandsUptoRow : OpenClaim := { program := "ytpiagggnjppkhaa", sum := "e4f53a45142dbca9f36ad3101c7113d5ee47d170ebebe8421634263b06fbc093", func := "hayloft/hayloftlaw22.PipeLands", spec := "pipeLands", unfollowed := true, recurses := true, apart := false, narrowed := true }
def PipeLandsUptoSaid : Prop := pipeLandsUptoRow.holds Try.pinned (OpenSpec.upto pipeLandsSpec)

end Rows
end Go.Proofs.Ytpiagggnjppkhaa
