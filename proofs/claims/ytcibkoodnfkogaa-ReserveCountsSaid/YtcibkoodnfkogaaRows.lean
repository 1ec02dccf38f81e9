/-
  No cell of these rows narrows 'for every input' (looked for: loops, veiled, ifaces, maps, wideKeys, modest, calm, conditions, laid).
  DERIVED. THE GIVEN ROWS OF THIS SEAT. 16 by the template 'for every input the law returns true; each argument reads behind the call as it read before'; 0 by the template 'total and deterministic' (their statements: YtcibkoodnfkogaaTotals.lean).
  GIVEN WITH THE SEED: the statements are not yours to turn. If you find one false, say at which input.
  Laid BY PROGRAM, IN A SANDBOX (cutbox-rows.mjs): the forced cells as the released guide's own fill.sh prints them over the translation 9a34859061d0066c… (all of the seat's roots in one cut). By AI agents, Wed Nov 11 2026. No macro, syntax, notation, axiom, sorry.
-/
import Derived.Test.YtcibkoodnfkogaaChecked
import GoSem.Claim
import GoSem.ClaimJoined
import GoSem.ClaimMapViews
import Derived.JoinedTies
import Derived.KernelRfl
namespace Go.Proofs.Ytcibkoodnfkogaa
/- THE CELL 'sum', in the pinned program and in every row, IS THE sha256 OF THE DUMP (.gsa) THAT YtcibkoodnfkogaaProg.lean LOADS. Nothing in Lean hashes anything: it is a label: what it is worth is what the hold of that sum in a sandbox is worth. -/
noncomputable def Try.pinned : Pinned := { name := "ytcibkoodnfkogaa", sum := "9a34859061d0066c6f12e88b6629427c23a6c38896d7720d96e55b92fa7b25fa", checked := Try.checked }
namespace Rows
def none {H : Type} : Left H := { results := [], args := [] }

/-- 'hayloftlaw13.ReserveNil': WHATEVER THE INPUT: true; the input reads as it did. -/
def reserveNilSpec : ChangeSpec := { name := "reserveNil", fn := fun _ => fun
  | [d1, d2] => { results := [.lit (.bool true)], args := [d1, d2] }
  | _ => none }
def reserveNilRow : OpenClaim := { program := "ytcibkoodnfkogaa", sum := "9a34859061d0066c6f12e88b6629427c23a6c38896d7720d96e55b92fa7b25fa", func := "hayloft/hayloftlaw13.ReserveNil", spec := "reserveNil", unfollowed := true, recurses := true, plainKeys := false, apart := false }
def ReserveNilSaid : Prop := reserveNilRow.holds Try.pinned (OpenSpec.ofChange reserveNilSpec)

/-- ITS FALSE NEIGHBOUR: 'it returns false'. Refute it at one input. -/
def reserveNilWrong : ChangeSpec := { name := "reserveNil", fn := fun _ => fun
  | [d1, d2] => { results := [.lit (.bool false)], args := [d1, d2] }
  | _ => none }
def ReserveNilWrongFalsely : Prop := reserveNilRow.holds Try.pinned (OpenSpec.ofChange reserveNilWrong)

/-- 'hayloftlaw13.ReserveCounts': WHATEVER THE INPUT: true; the input reads as it did. -/
def reserveCountsSpec : ChangeSpec := { name := "reserveCounts", fn := fun _ => fun
  | [d1, d2, d3] => { results := [.lit (.bool true)], args := [d1, d2, d3] }
  | _ => none }
def reserveCountsRow : OpenClaim := { program := "ytcibkoodnfkogaa", sum := "9a34859061d0066c6f12e88b6629427c23a6c38896d7720d96e55b92fa7b25fa", func := "hayloft/hayloftlaw13.ReserveCounts", spec := "reserveCounts", unfollowed := true, recurses := true, plainKeys := false, apart := false }
def ReserveCountsSaid : Prop := reserveCountsRow.holds Try.pinned (OpenSpec.ofChange reserveCountsSpec)

/-- ITS FALSE NEIGHBOUR: 'it returns false'. Refute it at one input. -/
def reserveCountsWrong : ChangeSpec := { name := "reserveCounts", fn := fun _ => fun
  | [d1, d2, d3] => { results := [.lit (.bool false)], args := [d1, d2, d3] }
  | _ => none }
def ReserveCountsWrongFalsely : Prop := reserveCountsRow.holds Try.pinned (OpenSpec.ofChange reserveCountsWrong)

/-- 'hayloftlaw13.ReserveWide': WHATEVER THE INPUT: true; the input reads as it did. -/
def reserveWideSpec : ChangeSpec := { name := "reserveWide", fn := fun _ => fun
  | [d1, d2] => { results := [.lit (.bool true)], args := [d1, d2] }
  | _ => none }
def reserveWideRow : OpenClaim := { program := "ytcibkoodnfkogaa", sum := "9a34859061d0066c6f12e88b6629427c23a6c38896d7720d96e55b92fa7b25fa", func := "hayloft/hayloftlaw13.ReserveWide", spec := "reserveWide", unfollowed := true, recurses := true, plainKeys := false, apart := false }
def ReserveWideSaid : Prop := reserveWideRow.holds Try.pinned (OpenSpec.ofChange reserveWideSpec)

/-- ITS FALSE NEIGHBOUR: 'it returns false'. Refute it at one input. -/
def reserveWideWrong : ChangeSpec := { name := "reserveWide", fn := fun _ => fun
  | [d1, d2] => { results := [.lit (.bool false)], args := [d1, d2] }
  | _ => none }
def ReserveWideWrongFalsely : Prop := reserveWideRow.holds Try.pinned (OpenSpec.ofChange reserveWideWrong)

/-- 'hayloftlaw10.AliasTells': WHATEVER THE INPUT: true; the input reads as it did. -/
def aliasTellsSpec : ChangeSpec := { name := "aliasTells", fn := fun _ => fun
  | [d1, d2, d3] => { results := [.lit (.bool true)], args := [d1, d2, d3] }
  | _ => none }
def aliasTellsRow : OpenClaim := { program := "ytcibkoodnfkogaa", sum := "9a34859061d0066c6f12e88b6629427c23a6c38896d7720d96e55b92fa7b25fa", func := "hayloft/hayloftlaw10.AliasTells", spec := "aliasTells", unfollowed := true, recurses := true, plainKeys := false, apart := false }
def AliasTellsSaid : Prop := aliasTellsRow.holds Try.pinned (OpenSpec.ofChange aliasTellsSpec)

/-- ITS FALSE NEIGHBOUR: 'it returns false'. Refute it at one input. -/
def aliasTellsWrong : ChangeSpec := { name := "aliasTells", fn := fun _ => fun
  | [d1, d2, d3] => { results := [.lit (.bool false)], args := [d1, d2, d3] }
  | _ => none }
def AliasTellsWrongFalsely : Prop := aliasTellsRow.holds Try.pinned (OpenSpec.ofChange aliasTellsWrong)

/-- 'hayloftlaw10.AliasRounds': WHATEVER THE INPUT: true; the input reads as it did. -/
def aliasRoundsSpec : ChangeSpec := { name := "aliasRounds", fn := fun _ => fun
  | [d1, d2, d3] => { results := [.lit (.bool true)], args := [d1, d2, d3] }
  | _ => none }
def aliasRoundsRow : OpenClaim := { program := "ytcibkoodnfkogaa", sum := "9a34859061d0066c6f12e88b6629427c23a6c38896d7720d96e55b92fa7b25fa", func := "hayloft/hayloftlaw10.AliasRounds", spec := "aliasRounds", unfollowed := true, recurses := true, plainKeys := false, apart := false }
def AliasRoundsSaid : Prop := aliasRoundsRow.holds Try.pinned (OpenSpec.ofChange aliasRoundsSpec)

/-- ITS FALSE NEIGHBOUR: 'it returns false'. Refute it at one input. -/
def aliasRoundsWrong : ChangeSpec := { name := "aliasRounds", fn := fun _ => fun
  | [d1, d2, d3] => { results := [.lit (.bool false)], args := [d1, d2, d3] }
  | _ => none }
def AliasRoundsWrongFalsely : Prop := aliasRoundsRow.holds Try.pinned (OpenSpec.ofChange aliasRoundsWrong)

/-- 'hayloftlaw10.AliasSafe': WHATEVER THE INPUT: true; the input reads as it did. -/
def aliasSafeSpec : ChangeSpec := { name := "aliasSafe", fn := fun _ => fun
  | [d1, d2, d3] => { results := [.lit (.bool true)], args := [d1, d2, d3] }
  | _ => none }
def aliasSafeRow : OpenClaim := { program := "ytcibkoodnfkogaa", sum := "9a34859061d0066c6f12e88b6629427c23a6c38896d7720d96e55b92fa7b25fa", func := "hayloft/hayloftlaw10.AliasSafe", spec := "aliasSafe", unfollowed := true, recurses := true, plainKeys := false, apart := false }
def AliasSafeSaid : Prop := aliasSafeRow.holds Try.pinned (OpenSpec.ofChange aliasSafeSpec)

/-- ITS FALSE NEIGHBOUR: 'it returns false'. Refute it at one input. -/
def aliasSafeWrong : ChangeSpec := { name := "aliasSafe", fn := fun _ => fun
  | [d1, d2, d3] => { results := [.lit (.bool false)], args := [d1, d2, d3] }
  | _ => none }
def AliasSafeWrongFalsely : Prop := aliasSafeRow.holds Try.pinned (OpenSpec.ofChange aliasSafeWrong)

/-- 'hayloftlaw04.ProgramTells': WHATEVER THE INPUT: true; the input reads as it did. -/
def programTellsSpec : ChangeSpec := { name := "programTells", fn := fun _ => fun
  | [d1, d2] => { results := [.lit (.bool true)], args := [d1, d2] }
  | _ => none }
def programTellsRow : OpenClaim := { program := "ytcibkoodnfkogaa", sum := "9a34859061d0066c6f12e88b6629427c23a6c38896d7720d96e55b92fa7b25fa", func := "hayloft/hayloftlaw04.ProgramTells", spec := "programTells", unfollowed := true, recurses := true, plainKeys := false, apart := false }
def ProgramTellsSaid : Prop := programTellsRow.holds Try.pinned (OpenSpec.ofChange programTellsSpec)

/-- ITS FALSE NEIGHBOUR: 'it returns false'. Refute it at one input. -/
def programTellsWrong : ChangeSpec := { name := "programTells", fn := fun _ => fun
  | [d1, d2] => { results := [.lit (.bool false)], args := [d1, d2] }
  | _ => none }
def ProgramTellsWrongFalsely : Prop := programTellsRow.holds Try.pinned (OpenSpec.ofChange programTellsWrong)

/-- 'hayloftlaw04.ProgramCut': WHATEVER THE INPUT: true; the input reads as it did. -/
def programCutSpec : ChangeSpec := { name := "programCut", fn := fun _ => fun
  | [d1, d2] => { results := [.lit (.bool true)], args := [d1, d2] }
  | _ => none }
def programCutRow : OpenClaim := { program := "ytcibkoodnfkogaa", sum := "9a34859061d0066c6f12e88b6629427c23a6c38896d7720d96e55b92fa7b25fa", func := "hayloft/hayloftlaw04.ProgramCut", spec := "programCut", unfollowed := true, recurses := true, plainKeys := false, apart := false }
def ProgramCutSaid : Prop := programCutRow.holds Try.pinned (OpenSpec.ofChange programCutSpec)

/-- ITS FALSE NEIGHBOUR: 'it returns false'. Refute it at one input. -/
def programCutWrong : ChangeSpec := { name := "programCut", fn := fun _ => fun
  | [d1, d2] => { results := [.lit (.bool false)], args := [d1, d2] }
  | _ => none }
def ProgramCutWrongFalsely : Prop := programCutRow.holds Try.pinned (OpenSpec.ofChange programCutWrong)

/-- 'hayloftlaw04.ProgramNeeds': WHATEVER THE INPUT: true; the input reads as it did. -/
def programNeedsSpec : ChangeSpec := { name := "programNeeds", fn := fun _ => fun
  | [d1, d2, d3] => { results := [.lit (.bool true)], args := [d1, d2, d3] }
  | _ => none }
def programNeedsRow : OpenClaim := { program := "ytcibkoodnfkogaa", sum := "9a34859061d0066c6f12e88b6629427c23a6c38896d7720d96e55b92fa7b25fa", func := "hayloft/hayloftlaw04.ProgramNeeds", spec := "programNeeds", unfollowed := true, recurses := true, plainKeys := false, apart := false }
def ProgramNeedsSaid : Prop := programNeedsRow.holds Try.pinned (OpenSpec.ofChange programNeedsSpec)

/-- ITS FALSE NEIGHBOUR: 'it returns false'. Refute it at one input. -/
def programNeedsWrong : ChangeSpec := { name := "programNeeds", fn := fun _ => fun
  | [d1, d2, d3] => { results := [.lit (.bool false)], args := [d1, d2, d3] }
  | _ => none }
def ProgramNeedsWrongFalsely : Prop := programNeedsRow.holds Try.pinned (OpenSpec.ofChange programNeedsWrong)

/-- 'hayloftlaw19.BundleBack': WHATEVER THE INPUT: true; the input reads as it did. -/
def bundleBackSpec : ChangeSpec := { name := "bundleBack", fn := fun _ => fun
  | [d1, d2] => { results := [.lit (.bool true)], args := [d1, d2] }
  | _ => none }
def bundleBackRow : OpenClaim := { program := "ytcibkoodnfkogaa", sum := "9a34859061d0066c6f12e88b6629427c23a6c38896d7720d96e55b92fa7b25fa", func := "hayloft/hayloftlaw19.BundleBack", spec := "bundleBack", unfollowed := true, recurses := true, plainKeys := false, apart := false }
def BundleBackSaid : Prop := bundleBackRow.holds Try.pinned (OpenSpec.ofChange bundleBackSpec)

/-- ITS FALSE NEIGHBOUR: 'it returns false'. Refute it at one input. -/
def bundleBackWrong : ChangeSpec := { name := "bundleBack", fn := fun _ => fun
  | [d1, d2] => { results := [.lit (.bool false)], args := [d1, d2] }
  | _ => none }
def BundleBackWrongFalsely : Prop := bundleBackRow.holds Try.pinned (OpenSpec.ofChange bundleBackWrong)

/-- 'hayloftlaw19.BundleJust': WHATEVER THE INPUT: true; the input reads as it did. -/
def bundleJustSpec : ChangeSpec := { name := "bundleJust", fn := fun _ => fun
  | [d1, d2] => { results := [.lit (.bool true)], args := [d1, d2] }
  | _ => none }
def bundleJustRow : OpenClaim := { program := "ytcibkoodnfkogaa", sum := "9a34859061d0066c6f12e88b6629427c23a6c38896d7720d96e55b92fa7b25fa", func := "hayloft/hayloftlaw19.BundleJust", spec := "bundleJust", unfollowed := true, recurses := true, plainKeys := false, apart := false }
def BundleJustSaid : Prop := bundleJustRow.holds Try.pinned (OpenSpec.ofChange bundleJustSpec)

/-- ITS FALSE NEIGHBOUR: 'it returns false'. Refute it at one input. -/
def bundleJustWrong : ChangeSpec := { name := "bundleJust", fn := fun _ => fun
  | [d1, d2] => { results := [.lit (.bool false)], args := [d1, d2] }
  | _ => none }
def BundleJustWrongFalsely : Prop := bundleJustRow.holds Try.pinned (OpenSpec.ofChange bundleJustWrong)

/-- 'hayloftlaw19.BundleBit': WHATEVER THE INPUT: true; the input reads as it did. -/
def bundleBitSpec : ChangeSpec := { name := "bundleBit", fn := fun _ => fun
  | [d1, d2, d3, d4] => { results := [.lit (.bool true)], args := [d1, d2, d3, d4] }
  | _ => none }
def bundleBitRow : OpenClaim := { program := "ytcibkoodnfkogaa", sum := "9a34859061d0066c6f12e88b6629427c23a6c38896d7720d96e55b92fa7b25fa", func := "hayloft/hayloftlaw19.BundleBit", spec := "bundleBit", unfollowed := true, recurses := true, plainKeys := false, apart := false }
def BundleBitSaid : Prop := bundleBitRow.holds Try.pinned (OpenSpec.ofChange bundleBitSpec)

/-- ITS FALSE NEIGHBOUR: 'it returns false'. Refute it at one input. -/
def bundleBitWrong : ChangeSpec := { name := "bundleBit", fn := fun _ => fun
  | [d1, d2, d3, d4] => { results := [.lit (.bool false)], args := [d1, d2, d3, d4] }
  | _ => none }
def BundleBitWrongFalsely : Prop := bundleBitRow.holds Try.pinned (OpenSpec.ofChange bundleBitWrong)

/-- 'hayloftlaw19.BundleTells': WHATEVER THE INPUT: true; the input reads as it did. -/
def bundleTellsSpec : ChangeSpec := { name := "bundleTells", fn := fun _ => fun
  | [d1, d2, d3] => { results := [.lit (.bool true)], args := [d1, d2, d3] }
  | _ => none }
def bundleTellsRow : OpenClaim := { program := "ytcibkoodnfkogaa", sum := "9a34859061d0066c6f12e88b6629427c23a6c38896d7720d96e55b92fa7b25fa", func := "hayloft/hayloftlaw19.BundleTells", spec := "bundleTells", unfollowed := true, recurses := true, plainKeys := false, apart := false }
def BundleTellsSaid : Prop := bundleTellsRow.holds Try.pinned (OpenSpec.ofChange bundleTellsSpec)

/-- ITS FALSE NEIGHBOUR: 'it returns false'. Refute it at one input. -/
def bundleTellsWrong : ChangeSpec := { name := "bundleTells", fn := fun _ => fun
  | [d1, d2, d3] => { results := [.lit (.bool false)], args := [d1, d2, d3] }
  | _ => none }
def BundleTellsWrongFalsely : Prop := bundleTellsRow.holds Try.pinned (OpenSpec.ofChange bundleTellsWrong)

/-- 'hayloftlaw11.DepsTell': WHATEVER THE INPUT: true; the input reads as it did. -/
def depsTellSpec : ChangeSpec := { name := "depsTell", fn := fun _ => fun
  | [d1, d2] => { results := [.lit (.bool true)], args := [d1, d2] }
  | _ => none }
def depsTellRow : OpenClaim := { program := "ytcibkoodnfkogaa", sum := "9a34859061d0066c6f12e88b6629427c23a6c38896d7720d96e55b92fa7b25fa", func := "hayloft/hayloftlaw11.DepsTell", spec := "depsTell", unfollowed := true, recurses := true, plainKeys := false, apart := false }
def DepsTellSaid : Prop := depsTellRow.holds Try.pinned (OpenSpec.ofChange depsTellSpec)

/-- ITS FALSE NEIGHBOUR: 'it returns false'. Refute it at one input. -/
def depsTellWrong : ChangeSpec := { name := "depsTell", fn := fun _ => fun
  | [d1, d2] => { results := [.lit (.bool false)], args := [d1, d2] }
  | _ => none }
def DepsTellWrongFalsely : Prop := depsTellRow.holds Try.pinned (OpenSpec.ofChange depsTellWrong)

/-- 'hayloftlaw11.DepsLater': WHATEVER THE INPUT: true; the input reads as it did. -/
def depsLaterSpec : ChangeSpec := { name := "depsLater", fn := fun _ => fun
  | [d1, d2, d3] => { results := [.lit (.bool true)], args := [d1, d2, d3] }
  | _ => none }
def depsLaterRow : OpenClaim := { program := "ytcibkoodnfkogaa", sum := "9a34859061d0066c6f12e88b6629427c23a6c38896d7720d96e55b92fa7b25fa", func := "hayloft/hayloftlaw11.DepsLater", spec := "depsLater", unfollowed := true, recurses := true, plainKeys := false, apart := false }
def DepsLaterSaid : Prop := depsLaterRow.holds Try.pinned (OpenSpec.ofChange depsLaterSpec)

/-- ITS FALSE NEIGHBOUR: 'it returns false'. Refute it at one input. -/
def depsLaterWrong : ChangeSpec := { name := "depsLater", fn := fun _ => fun
  | [d1, d2, d3] => { results := [.lit (.bool false)], args := [d1, d2, d3] }
  | _ => none }
def DepsLaterWrongFalsely : Prop := depsLaterRow.holds Try.pinned (OpenSpec.ofChange depsLaterWrong)

/-- 'hayloftlaw11.DepsSwap': WHATEVER THE INPUT: true; the input reads as it did. -/
def depsSwapSpec : ChangeSpec := { name := "depsSwap", fn := fun _ => fun
  | [d1, d2, d3, d4] => { results := [.lit (.bool true)], args := [d1, d2, d3, d4] }
  | _ => none }
def depsSwapRow : OpenClaim := { program := "ytcibkoodnfkogaa", sum := "9a34859061d0066c6f12e88b6629427c23a6c38896d7720d96e55b92fa7b25fa", func := "hayloft/hayloftlaw11.DepsSwap", spec := "depsSwap", unfollowed := true, recurses := true, plainKeys := false, apart := false }
def DepsSwapSaid : Prop := depsSwapRow.holds Try.pinned (OpenSpec.ofChange depsSwapSpec)

/-- ITS FALSE NEIGHBOUR: 'it returns false'. Refute it at one input. -/
def depsSwapWrong : ChangeSpec := { name := "depsSwap", fn := fun _ => fun
  | [d1, d2, d3, d4] => { results := [.lit (.bool false)], args := [d1, d2, d3, d4] }
  | _ => none }
def DepsSwapWrongFalsely : Prop := depsSwapRow.holds Try.pinned (OpenSpec.ofChange depsSwapWrong)

/- THE SECOND FORM. 'bulk': how many values and letters a reading holds, each counted each time it is reached (what is shared counts as often as it is met; a slice's spare places count too). A statement '..UptoSaid' is the law's where the arguments, and the package variables that the reading takes, are together of bulk at most 1048576: NARROWER than '..Said'. Prove '..Said' where nothing that the law and all that it calls make is longer than what came in: it says more and counts as full. Else prove '..UptoSaid'. A law counts once. -/
mutual
def uptoBulk {H : Type} : DataW H → Nat
  | .lit (.string bytes) => bytes.length + 1
  | .lit _ => 1
  | .nil => 1
  | .ptr d => uptoBulk d + 1
  | .slice elems spare => uptoBulkAll elems + uptoBulkAll spare + 1
  | .agg parts => uptoBulkAll parts + 1
  | .iface _ d => uptoBulk d + 1
  | .map entries => uptoBulkEntries entries + 1
  | .held _ => 1
def uptoBulkAll {H : Type} : List (DataW H) → Nat
  | [] => 0
  | d :: r => uptoBulk d + uptoBulkAll r
def uptoBulkEntries {H : Type} : List (Lit × DataW H) → Nat
  | [] => 0
  | x :: r => uptoBulkEntry x + uptoBulkEntries r
def uptoBulkEntry {H : Type} : Lit × DataW H → Nat
  | (.string bytes, d) => bytes.length + uptoBulk d + 1
  | (_, d) => uptoBulk d + 1
 end
def uptoSmall : (H : Type) → List (DataW H) → Bool := fun _ ds => decide (uptoBulkAll ds ≤ 1048576)
def OpenSpec.upto (s : _root_.Go.ChangeSpec) : _root_.Go.OpenSpec := { _root_.Go.OpenSpec.ofChange s with cond := some uptoSmall }

/-- 'hayloftlaw13.ReserveNil', WHERE WHAT IT READS IS OF BULK AT MOST 1048576: true; the input reads as it did. -/
def reserveNilUptoRow : OpenClaim := { program := "ytcibkoodnfkogaa", sum := "9a34859061d0066c6f12e88b6629427c23a6c38896d7720d96e55b92fa7b25fa", func := "hayloft/hayloftlaw13.ReserveNil", spec := "reserveNil", unfollowed := true, recurses := true, plainKeys := false, apart := false, narrowed := true }
def ReserveNilUptoSaid : Prop := reserveNilUptoRow.holds Try.pinned (OpenSpec.upto reserveNilSpec)

/-- 'hayloftlaw13.ReserveCounts', WHERE WHAT IT READS IS OF BULK AT MOST 1048576: true; the input reads as it did. -/
def reserveCountsUptoRow : OpenClaim := { program := "ytcibkoodnfkogaa", sum := "9a34859061d0066c6f12e88b6629427c23a6c38896d7720d96e55b92fa7b25fa", func := "hayloft/hayloftlaw13.ReserveCounts", spec := "reserveCounts", unfollowed := true, recurses := true, plainKeys := false, apart := false, narrowed := true }
def ReserveCountsUptoSaid : Prop := reserveCountsUptoRow.holds Try.pinned (OpenSpec.upto reserveCountsSpec)

/-- 'hayloftlaw13.ReserveWide', WHERE WHAT IT READS IS OF BULK AT MOST 1048576: true; the input reads as it did. -/
def reserveWideUptoRow : OpenClaim := { program := "ytcibkoodnfkogaa", sum := "9a34859061d0066c6f12e88b6629427c23a6c38896d7720d96e55b92fa7b25fa", func := "hayloft/hayloftlaw13.ReserveWide", spec := "reserveWide", unfollowed := true, recurses := true, plainKeys := false, apart := false, narrowed := true }
def ReserveWideUptoSaid : Prop := reserveWideUptoRow.holds Try.pinned (OpenSpec.upto reserveWideSpec)

/-- 'hayloftlaw10.AliasTells', WHERE WHAT IT READS IS OF BULK AT MOST 1048576: true; the input reads as it did. -/
def aliasTellsUptoRow : OpenClaim := { program := "ytcibkoodnfkogaa", sum := "9a34859061d0066c6f12e88b6629427c23a6c38896d7720d96e55b92fa7b25fa", func := "hayloft/hayloftlaw10.AliasTells", spec := "aliasTells", unfollowed := true, recurses := true, plainKeys := false, apart := false, narrowed := true }
def AliasTellsUptoSaid : Prop := aliasTellsUptoRow.holds Try.pinned (OpenSpec.upto aliasTellsSpec)

/-- 'hayloftlaw10.AliasRounds', WHERE WHAT IT READS IS OF BULK AT MOST 1048576: true; the input reads as it did. -/
def aliasRoundsUptoRow : OpenClaim := { program := "ytcibkoodnfkogaa", sum := "9a34859061d0066c6f12e88b6629427c23a6c38896d7720d96e55b92fa7b25fa", func := "hayloft/hayloftlaw10.AliasRounds", spec := "aliasRounds", unfollowed := true, recurses := true, plainKeys := false, apart := false, narrowed := true }
def AliasRoundsUptoSaid : Prop := aliasRoundsUptoRow.holds Try.pinned (OpenSpec.upto aliasRoundsSpec)

/-- 'hayloftlaw10.AliasSafe', WHERE WHAT IT READS IS OF BULK AT MOST 1048576: true; the input reads as it did. -/
def aliasSafeUptoRow : OpenClaim := { program := "ytcibkoodnfkogaa", sum := "9a34859061d0066c6f12e88b6629427c23a6c38896d7720d96e55b92fa7b25fa", func := "hayloft/hayloftlaw10.AliasSafe", spec := "aliasSafe", unfollowed := true, recurses := true, plainKeys := false, apart := false, narrowed := true }
def AliasSafeUptoSaid : Prop := aliasSafeUptoRow.holds Try.pinned (OpenSpec.upto aliasSafeSpec)

/-- 'hayloftlaw04.ProgramTells', WHERE WHAT IT READS IS OF BULK AT MOST 1048576: true; the input reads as it did. -/
def programTellsUptoRow : OpenClaim := { program := "ytcibkoodnfkogaa", sum := "9a34859061d0066c6f12e88b6629427c23a6c38896d7720d96e55b92fa7b25fa", func := "hayloft/hayloftlaw04.ProgramTells", spec := "programTells", unfollowed := true, recurses := true, plainKeys := false, apart := false, narrowed := true }
def ProgramTellsUptoSaid : Prop := programTellsUptoRow.holds Try.pinned (OpenSpec.upto programTellsSpec)

/-- 'hayloftlaw04.ProgramCut', WHERE WHAT IT READS IS OF BULK AT MOST 1048576: true; the input reads as it did. -/
def programCutUptoRow : OpenClaim := { program := "ytcibkoodnfkogaa", sum := "9a34859061d0066c6f12e88b6629427c23a6c38896d7720d96e55b92fa7b25fa", func := "hayloft/hayloftlaw04.ProgramCut", spec := "programCut", unfollowed := true, recurses := true, plainKeys := false, apart := false, narrowed := true }
def ProgramCutUptoSaid : Prop := programCutUptoRow.holds Try.pinned (OpenSpec.upto programCutSpec)

/-- 'hayloftlaw04.ProgramNeeds', WHERE WHAT IT READS IS OF BULK AT MOST 1048576: true; the input reads as it did. -/
def programNeedsUptoRow : OpenClaim := { program := "ytcibkoodnfkogaa", sum := "9a34859061d0066c6f12e88b6629427c23a6c38896d7720d96e55b92fa7b25fa", func := "hayloft/hayloftlaw04.ProgramNeeds", spec := "programNeeds", unfollowed := true, recurses := true, plainKeys := false, apart := false, narrowed := true }
def ProgramNeedsUptoSaid : Prop := programNeedsUptoRow.holds Try.pinned (OpenSpec.upto programNeedsSpec)

/-- 'hayloftlaw19.BundleBack', WHERE WHAT IT READS IS OF BULK AT MOST 1048576: true; the input reads as it did. -/
def bundleBackUptoRow : OpenClaim := { program := "ytcibkoodnfkogaa", sum := "9a34859061d0066c6f12e88b6629427c23a6c38896d7720d96e55b92fa7b25fa", func := "hayloft/hayloftlaw19.BundleBack", spec := "bundleBack", unfollowed := true, recurses := true, plainKeys := false, apart := false, narrowed := true }
def BundleBackUptoSaid : Prop := bundleBackUptoRow.holds Try.pinned (OpenSpec.upto bundleBackSpec)

/-- 'hayloftlaw19.BundleJust', WHERE WHAT IT READS IS OF BULK AT MOST 1048576: true; the input reads as it did. -/
def bundleJustUptoRow : OpenClaim := { program := "ytcibkoodnfkogaa", sum := "9a34859061d0066c6f12e88b6629427c23a6c38896d7720d96e55b92fa7b25fa", func := "hayloft/hayloftlaw19.BundleJust", spec := "bundleJust", unfollowed := true, recurses := true, plainKeys := false, apart := false, narrowed := true }
def BundleJustUptoSaid : Prop := bundleJustUptoRow.holds Try.pinned (OpenSpec.upto bundleJustSpec)

/-- 'hayloftlaw19.BundleBit', WHERE WHAT IT READS IS OF BULK AT MOST 1048576: true; the input reads as it did. -/
def bundleBitUptoRow : OpenClaim := { program := "ytcibkoodnfkogaa", sum := "9a34859061d0066c6f12e88b6629427c23a6c38896d7720d96e55b92fa7b25fa", func := "hayloft/hayloftlaw19.BundleBit", spec := "bundleBit", unfollowed := true, recurses := true, plainKeys := false, apart := false, narrowed := true }
def BundleBitUptoSaid : Prop := bundleBitUptoRow.holds Try.pinned (OpenSpec.upto bundleBitSpec)

/-- 'hayloftlaw19.BundleTells', WHERE WHAT IT READS IS OF BULK AT MOST 1048576: true; the input reads as it did. -/
def bundleTellsUptoRow : OpenClaim := { program := "ytcibkoodnfkogaa", sum := "9a34859061d0066c6f12e88b6629427c23a6c38896d7720d96e55b92fa7b25fa", func := "hayloft/hayloftlaw19.BundleTells", spec := "bundleTells", unfollowed := true, recurses := true, plainKeys := false, apart := false, narrowed := true }
def BundleTellsUptoSaid : Prop := bundleTellsUptoRow.holds Try.pinned (OpenSpec.upto bundleTellsSpec)

/-- 'hayloftlaw11.DepsTell', WHERE WHAT IT READS IS OF BULK AT MOST 1048576: true; the input reads as it did. -/
def depsTellUptoRow : OpenClaim := { program := "ytcibkoodnfkogaa", sum := "9a34859061d0066c6f12e88b6629427c23a6c38896d7720d96e55b92fa7b25fa", func := "hayloft/hayloftlaw11.DepsTell", spec := "depsTell", unfollowed := true, recurses := true, plainKeys := false, apart := false, narrowed := true }
def DepsTellUptoSaid : Prop := depsTellUptoRow.holds Try.pinned (OpenSpec.upto depsTellSpec)

/-- 'hayloftlaw11.DepsLater', WHERE WHAT IT READS IS OF BULK AT MOST 1048576: true; the input reads as it did. -/
def depsLaterUptoRow : OpenClaim := { program := "ytcibkoodnfkogaa", sum := "9a34859061d0066c6f12e88b6629427c23a6c38896d7720d96e55b92fa7b25fa", func := "hayloft/hayloftlaw11.DepsLater", spec := "depsLater", unfollowed := true, recurses := true, plainKeys := false, apart := false, narrowed := true }
def DepsLaterUptoSaid : Prop := depsLaterUptoRow.holds Try.pinned (OpenSpec.upto depsLaterSpec)

/-- 'hayloftlaw11.DepsSwap', WHERE WHAT IT READS IS OF BULK AT MOST 1048576: true; the input reads as it did. -/
def depsSwapUptoRow : OpenClaim := { program := "ytcibkoodnfkogaa", sum := "9a34859061d0066c6f12e88b6629427c23a6c38896d7720d96e55b92fa7b25fa", func := "hayloft/hayloftlaw11.DepsSwap", spec := "depsSwap", unfollowed := true, recurses := true, plainKeys := false, apart := false, narrowed := true }
def DepsSwapUptoSaid : Prop := depsSwapUptoRow.holds Try.pinned (OpenSpec.upto depsSwapSpec)

end Rows
end Go.Proofs.Ytcibkoodnfkogaa
