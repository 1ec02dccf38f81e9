/- The room of a list of asks. -/
import Derived.Test.YtcibkoodnfkogaaRV9
import Derived.Test.YtcibkoodnfkogaaOpen2
namespace Go.Proofs.Ytcibkoodnfkogaa
open Go.RowKit Go.ChangeShapes Go.WideShapes Go.Deep
set_option linter.unusedVariables false
set_option linter.unusedSimpArgs false
variable {H : Type} {enc : TypeId × Value → H} {w : World}
theorem bytes_ask : Try.prog.bytesOf 34 = 24 := by kernel_rfl
theorem asks_reach {fuel : Nat} {cs : List Value} {x : DataW H × List MemPlace} (h : DataW.trod enc Try.prog w 0 (fun _ => true) true fuel 29 cs = some x) (hz : Light 29 x.1) {A : Option Addr} {len cap : Nat} (hc : cs = [.slice A len cap]) : cap ≤ 8796093022208 := by
  rcases open_slice Try.underlying29 h with ⟨rfl, _⟩ | ⟨a, len', cap', m, n, D, Pl, rfl, _, hl, hm, hmm, hx, _⟩
  · injection hc with hc _
    injection hc with _ _ hc
    omega
  · simp only [if_true] at hmm
    subst hmm
    injection hc with hc _
    injection hc with _ _ hc
    subst hc
    rw [hx] at hz
    unfold Light at hz
    rw [weights_slice Try.underlying29] at hz
    simp only [List.all_cons, Bool.and_eq_true, decide_eq_true_eq, bytes_ask, List.length_map, List.length_range] at hz
    have := hz.1
    unfold reachBytes at this
    omega
end Go.Proofs.Ytcibkoodnfkogaa
