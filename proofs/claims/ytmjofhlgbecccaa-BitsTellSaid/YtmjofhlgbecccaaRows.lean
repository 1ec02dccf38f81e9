/-
  No cell of these rows narrows 'for every input' (looked for: loops, veiled, ifaces, maps, wideKeys, modest, calm, conditions, laid).
  DERIVED. THE GIVEN ROWS OF THIS SEAT. 6 by the template 'for every input the law returns true; each argument reads behind the call as it read before'; 0 by the template 'total and deterministic' (their statements: YtmjofhlgbecccaaTotals.lean).
  GIVEN WITH THE SEED: the statements are not yours to turn. If you find one false, say at which input.
  Laid BY PROGRAM, IN A SANDBOX (cutbox-rows.mjs): the forced cells as the released guide's own fill.sh prints them over the translation a68630bc812ee7b5… (all of the seat's roots in one cut). By AI agents, Wed Nov 11 2026. No macro, syntax, notation, axiom, sorry.
-/
import Derived.Test.YtmjofhlgbecccaaChecked
import GoSem.Claim
import GoSem.ClaimJoined
import GoSem.ClaimMapViews
import Derived.JoinedTies
import Derived.KernelRfl
namespace Go.Proofs.Ytmjofhlgbecccaa
/- THE CELL 'sum', in the pinned program and in every row, IS THE sha256 OF THE DUMP (.gsa) THAT YtmjofhlgbecccaaProg.lean LOADS. Nothing in Lean hashes anything: it is a label: what it is worth is what the hold of that sum in a sandbox is worth. -/
noncomputable def Try.pinned : Pinned := { name := "ytmjofhlgbecccaa", sum := "a68630bc812ee7b54f332d31f39d5bbd7ffce27dd5957c2fd200cd2ef4b4846f", checked := Try.checked }
namespace Rows
def none {H : Type} : Left H := { results := [], args := [] }

/-- 'hayloftlaw01.BitsTell': WHATEVER THE INPUT: true; the input reads as it did. -/
def bitsTellSpec : ChangeSpec := { name := "bitsTell", fn := fun _ => fun
  | [d1, d2, d3, d4] => { results := [.lit (.bool true)], args := [d1, d2, d3, d4] }
  | _ => none }
def bitsTellRow : OpenClaim := { program := "ytmjofhlgbecccaa", sum := "a68630bc812ee7b54f332d31f39d5bbd7ffce27dd5957c2fd200cd2ef4b4846f", func := "hayloft/hayloftlaw01.BitsTell", spec := "bitsTell", plainKeys := false, apart := false }
def BitsTellSaid : Prop := bitsTellRow.holds Try.pinned (OpenSpec.ofChange bitsTellSpec)

/-- ITS FALSE NEIGHBOUR: 'it returns false'. Refute it at one input. -/
def bitsTellWrong : ChangeSpec := { name := "bitsTell", fn := fun _ => fun
  | [d1, d2, d3, d4] => { results := [.lit (.bool false)], args := [d1, d2, d3, d4] }
  | _ => none }
def BitsTellWrongFalsely : Prop := bitsTellRow.holds Try.pinned (OpenSpec.ofChange bitsTellWrong)

/-- 'hayloftlaw01.BitsBack': WHATEVER THE INPUT: true; the input reads as it did. -/
def bitsBackSpec : ChangeSpec := { name := "bitsBack", fn := fun _ => fun
  | [d1, d2, d3, d4, d5, d6, d7] => { results := [.lit (.bool true)], args := [d1, d2, d3, d4, d5, d6, d7] }
  | _ => none }
def bitsBackRow : OpenClaim := { program := "ytmjofhlgbecccaa", sum := "a68630bc812ee7b54f332d31f39d5bbd7ffce27dd5957c2fd200cd2ef4b4846f", func := "hayloft/hayloftlaw01.BitsBack", spec := "bitsBack", plainKeys := false, apart := false }
def BitsBackSaid : Prop := bitsBackRow.holds Try.pinned (OpenSpec.ofChange bitsBackSpec)

/-- ITS FALSE NEIGHBOUR: 'it returns false'. Refute it at one input. -/
def bitsBackWrong : ChangeSpec := { name := "bitsBack", fn := fun _ => fun
  | [d1, d2, d3, d4, d5, d6, d7] => { results := [.lit (.bool false)], args := [d1, d2, d3, d4, d5, d6, d7] }
  | _ => none }
def BitsBackWrongFalsely : Prop := bitsBackRow.holds Try.pinned (OpenSpec.ofChange bitsBackWrong)

/-- 'hayloftlaw01.BitsSigned': WHATEVER THE INPUT: true; the input reads as it did. -/
def bitsSignedSpec : ChangeSpec := { name := "bitsSigned", fn := fun _ => fun
  | [d1, d2, d3] => { results := [.lit (.bool true)], args := [d1, d2, d3] }
  | _ => none }
def bitsSignedRow : OpenClaim := { program := "ytmjofhlgbecccaa", sum := "a68630bc812ee7b54f332d31f39d5bbd7ffce27dd5957c2fd200cd2ef4b4846f", func := "hayloft/hayloftlaw01.BitsSigned", spec := "bitsSigned", plainKeys := false, apart := false }
def BitsSignedSaid : Prop := bitsSignedRow.holds Try.pinned (OpenSpec.ofChange bitsSignedSpec)

/-- ITS FALSE NEIGHBOUR: 'it returns false'. Refute it at one input. -/
def bitsSignedWrong : ChangeSpec := { name := "bitsSigned", fn := fun _ => fun
  | [d1, d2, d3] => { results := [.lit (.bool false)], args := [d1, d2, d3] }
  | _ => none }
def BitsSignedWrongFalsely : Prop := bitsSignedRow.holds Try.pinned (OpenSpec.ofChange bitsSignedWrong)

/-- 'hayloftlaw13.ReserveNil': WHATEVER THE INPUT: true; the input reads as it did. -/
def reserveNilSpec : ChangeSpec := { name := "reserveNil", fn := fun _ => fun
  | [d1, d2] => { results := [.lit (.bool true)], args := [d1, d2] }
  | _ => none }
def reserveNilRow : OpenClaim := { program := "ytmjofhlgbecccaa", sum := "a68630bc812ee7b54f332d31f39d5bbd7ffce27dd5957c2fd200cd2ef4b4846f", func := "hayloft/hayloftlaw13.ReserveNil", spec := "reserveNil", unfollowed := true, recurses := true, plainKeys := false, apart := false }
def ReserveNilSaid : Prop := reserveNilRow.holds Try.pinned (OpenSpec.ofChange reserveNilSpec)

/-- ITS FALSE NEIGHBOUR: 'it returns false'. Refute it at one input. -/
def reserveNilWrong : ChangeSpec := { name := "reserveNil", fn := fun _ => fun
  | [d1, d2] => { results := [.lit (.bool false)], args := [d1, d2] }
  | _ => none }
def ReserveNilWrongFalsely : Prop := reserveNilRow.holds Try.pinned (OpenSpec.ofChange reserveNilWrong)

/-- 'hayloftlaw13.ReserveCounts': WHATEVER THE INPUT: true; the input reads as it did. -/
def reserveCountsSpec : ChangeSpec := { name := "reserveCounts", fn := fun _ => fun
  | [d1, d2, d3] => { results := [.lit (.bool true)], args := [d1, d2, d3] }
  | _ => none }
def reserveCountsRow : OpenClaim := { program := "ytmjofhlgbecccaa", sum := "a68630bc812ee7b54f332d31f39d5bbd7ffce27dd5957c2fd200cd2ef4b4846f", func := "hayloft/hayloftlaw13.ReserveCounts", spec := "reserveCounts", unfollowed := true, recurses := true, plainKeys := false, apart := false }
def ReserveCountsSaid : Prop := reserveCountsRow.holds Try.pinned (OpenSpec.ofChange reserveCountsSpec)

/-- ITS FALSE NEIGHBOUR: 'it returns false'. Refute it at one input. -/
def reserveCountsWrong : ChangeSpec := { name := "reserveCounts", fn := fun _ => fun
  | [d1, d2, d3] => { results := [.lit (.bool false)], args := [d1, d2, d3] }
  | _ => none }
def ReserveCountsWrongFalsely : Prop := reserveCountsRow.holds Try.pinned (OpenSpec.ofChange reserveCountsWrong)

/-- 'hayloftlaw13.ReserveWide': WHATEVER THE INPUT: true; the input reads as it did. -/
def reserveWideSpec : ChangeSpec := { name := "reserveWide", fn := fun _ => fun
  | [d1, d2] => { results := [.lit (.bool true)], args := [d1, d2] }
  | _ => none }
def reserveWideRow : OpenClaim := { program := "ytmjofhlgbecccaa", sum := "a68630bc812ee7b54f332d31f39d5bbd7ffce27dd5957c2fd200cd2ef4b4846f", func := "hayloft/hayloftlaw13.ReserveWide", spec := "reserveWide", unfollowed := true, recurses := true, plainKeys := false, apart := false }
def ReserveWideSaid : Prop := reserveWideRow.holds Try.pinned (OpenSpec.ofChange reserveWideSpec)

/-- ITS FALSE NEIGHBOUR: 'it returns false'. Refute it at one input. -/
def reserveWideWrong : ChangeSpec := { name := "reserveWide", fn := fun _ => fun
  | [d1, d2] => { results := [.lit (.bool false)], args := [d1, d2] }
  | _ => none }
def ReserveWideWrongFalsely : Prop := reserveWideRow.holds Try.pinned (OpenSpec.ofChange reserveWideWrong)

/- THE SECOND FORM. 'bulk': how many values and letters a reading holds, each counted each time it is reached (what is shared counts as often as it is met; a slice's spare places count too). A statement '..UptoSaid' is the law's where the arguments, and the package variables that the reading takes, are together of bulk at most 1048576: NARROWER than '..Said'. Prove '..Said' where nothing that the law and all that it calls make is longer than what came in: it says more and counts as full. Else prove '..UptoSaid'. A law counts once. -/
mutual
def uptoBulk {H : Type} : DataW H → Nat
  | .lit (.string bytes) => bytes.length + 1
  | .lit _ => 1
  | .nil => 1
  | .ptr d => uptoBulk d + 1
  | .slice elems spare => uptoBulkAll elems + uptoBulkAll spare + 1
  | .agg parts => uptoBulkAll parts + 1
  | .iface _ d => uptoBulk d + 1
  | .map entries => uptoBulkEntries entries + 1
  | .held _ => 1
def uptoBulkAll {H : Type} : List (DataW H) → Nat
  | [] => 0
  | d :: r => uptoBulk d + uptoBulkAll r
def uptoBulkEntries {H : Type} : List (Lit × DataW H) → Nat
  | [] => 0
  | x :: r => uptoBulkEntry x + uptoBulkEntries r
def uptoBulkEntry {H : Type} : Lit × DataW H → Nat
  | (.string bytes, d) => bytes.length + uptoBulk d + 1
  | (_, d) => uptoBulk d + 1
 end
def uptoSmall : (H : Type) → List (DataW H) → Bool := fun _ ds => decide (uptoBulkAll ds ≤ 1048576)
def OpenSpec.upto (s : _root_.Go.ChangeSpec) : _root_.Go.OpenSpec := { _root_.Go.OpenSpec.ofChange s with cond := some uptoSmall }

/-- 'hayloftlaw01.BitsTell', WHERE WHAT IT READS IS OF BULK AT MOST 1048576: true; the input reads as it did. -/
def bitsTellUptoRow : OpenClaim := { program := "ytmjofhlgbecccaa", sum := "a68630bc812ee7b54f332d31f39d5bbd7ffce27dd5957c2fd200cd2ef4b4846f", func := "hayloft/hayloftlaw01.BitsTell", spec := "bitsTell", plainKeys := false, apart := false, narrowed := true }
def BitsTellUptoSaid : Prop := bitsTellUptoRow.holds Try.pinned (OpenSpec.upto bitsTellSpec)

/-- 'hayloftlaw01.BitsBack', WHERE WHAT IT READS IS OF BULK AT MOST 1048576: true; the input reads as it did. -/
def bitsBackUptoRow : OpenClaim := { program := "ytmjofhlgbecccaa", sum := "a68630bc812ee7b54f332d31f39d5bbd7ffce27dd5957c2fd200cd2ef4b4846f", func := "hayloft/hayloftlaw01.BitsBack", spec := "bitsBack", plainKeys := false, apart := false, narrowed := true }
def BitsBackUptoSaid : Prop := bitsBackUptoRow.holds Try.pinned (OpenSpec.upto bitsBackSpec)

/-- 'hayloftlaw01.BitsSigned', WHERE WHAT IT READS IS OF BULK AT MOST 1048576: true; the input reads as it did. -/
def bitsSignedUptoRow : OpenClaim := { program := "ytmjofhlgbecccaa", sum := "a68630bc812ee7b54f332d31f39d5bbd7ffce27dd5957c2fd200cd2ef4b4846f", func := "hayloft/hayloftlaw01.BitsSigned", spec := "bitsSigned", plainKeys := false, apart := false, narrowed := true }
def BitsSignedUptoSaid : Prop := bitsSignedUptoRow.holds Try.pinned (OpenSpec.upto bitsSignedSpec)

/-- 'hayloftlaw13.ReserveNil', WHERE WHAT IT READS IS OF BULK AT MOST 1048576: true; the input reads as it did. -/
def reserveNilUptoRow : OpenClaim := { program := "ytmjofhlgbecccaa", sum := "a68630bc812ee7b54f332d31f39d5bbd7ffce27dd5957c2fd200cd2ef4b4846f", func := "hayloft/hayloftlaw13.ReserveNil", spec := "reserveNil", unfollowed := true, recurses := true, plainKeys := false, apart := false, narrowed := true }
def ReserveNilUptoSaid : Prop := reserveNilUptoRow.holds Try.pinned (OpenSpec.upto reserveNilSpec)

/-- 'hayloftlaw13.ReserveCounts', WHERE WHAT IT READS IS OF BULK AT MOST 1048576: true; the input reads as it did. -/
def reserveCountsUptoRow : OpenClaim := { program := "ytmjofhlgbecccaa", sum := "a68630bc812ee7b54f332d31f39d5bbd7ffce27dd5957c2fd200cd2ef4b4846f", func := "hayloft/hayloftlaw13.ReserveCounts", spec := "reserveCounts", unfollowed := true, recurses := true, plainKeys := false, apart := false, narrowed := true }
def ReserveCountsUptoSaid : Prop := reserveCountsUptoRow.holds Try.pinned (OpenSpec.upto reserveCountsSpec)

/-- 'hayloftlaw13.ReserveWide', WHERE WHAT IT READS IS OF BULK AT MOST 1048576: true; the input reads as it did. -/
def reserveWideUptoRow : OpenClaim := { program := "ytmjofhlgbecccaa", sum := "a68630bc812ee7b54f332d31f39d5bbd7ffce27dd5957c2fd200cd2ef4b4846f", func := "hayloft/hayloftlaw13.ReserveWide", spec := "reserveWide", unfollowed := true, recurses := true, plainKeys := false, apart := false, narrowed := true }
def ReserveWideUptoSaid : Prop := reserveWideUptoRow.holds Try.pinned (OpenSpec.upto reserveWideSpec)

end Rows
end Go.Proofs.Ytmjofhlgbecccaa
