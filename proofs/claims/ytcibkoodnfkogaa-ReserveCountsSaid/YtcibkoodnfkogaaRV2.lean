/- Turns of cycles; what an operation takes more. -/
import Derived.Test.YtcibkoodnfkogaaRV1
import Derived.BigQuiet
namespace Go.Proofs.Ytcibkoodnfkogaa
open Go.RowKit Go.Maps
set_option linter.unusedVariables false
set_option linter.unusedSimpArgs false
def inC (x : Int) : Prop := -2199023255552 ≤ x ∧ x ≤ 2199023255552
theorem inC_ok {x : Int} (h : inC x) : okI x := by unfold inC at h; unfold okI; omega
/-- A turn of cycles as a function value. -/
structure Turns (F : FuncId) (rcv : Value) (tn : Int → Int) : Prop where
  call : ∀ (args : Array Value) (w : World), (callFunc F args).run Try.prog w = .ok (.enter F args) w
  turn : ∀ x w, okI x → Calls Try.prog F #[rcv, .int .i64 x] w fun e w' => e = .returned (.int .i64 (tn x)) ∧ Below w.heap.size w w'
  bd : ∀ x, inC x → inC (tn x)
set_option maxHeartbeats 4000000 in
set_option maxRecDepth 100000 in
theorem straight_turn : Turns 68 (.agg #[]) (fun x => x) := by
  refine ⟨fun args w => by go_simp, fun x w hx => ?_, fun x h => h⟩
  go_enter Try.func68, Try.ntmps68
  go_wp2
  go_ret
  exact ⟨rfl, by ((with_reducible (repeat (first | assumption | exact Below.refl _ _ | refine bset ?_ (Nat.le_refl _) _ | refine balloc ?_ _ | refine bdrew ?_ | refine bdrewN ?_ _))); done)⟩
def ringT (e x : Int) : Int := (x.tmod e + e).tmod e
theorem tmod_bd (x e : Int) (he : 0 < e) : -e < x.tmod e ∧ x.tmod e < e := by
  constructor
  · by_cases h : 0 ≤ x
    · have := Int.tmod_nonneg e h; omega
    · have h1 : (-x).tmod e = -(x.tmod e) := Int.neg_tmod _ _
      have h2 := Int.tmod_lt_of_pos (-x) he
      omega
  · exact Int.tmod_lt_of_pos x he
theorem ringT_eq (e x : Int) (he : 0 < e) : ringT e x = x % e := by
  unfold ringT
  have h := tmod_bd x e he
  rw [Int.tmod_eq_emod_of_nonneg (by omega)]
  rw [Int.add_emod_right]
  rw [Int.tmod_eq_emod]
  split
  · simp
  · have : (e.natAbs : Int) = e := by omega
    rw [this, Int.sub_emod]
    simp
theorem ring_turn (ev : Int) (h1 : 1 ≤ ev) (h2 : ev ≤ 65536) : Turns 66 (.agg #[.int .i64 ev]) (ringT ev) := by
  refine ⟨fun args w => by go_simp, fun x w hx => ?_, fun x h => ?_⟩
  · have hb := tmod_bd x ev (by omega)
    have hw0 : IntKind.i64.wrap (x.tmod ev) = x.tmod ev := by rw [IntKind.wrap_i64]; omega
    have hw1 : IntKind.i64.wrap (x.tmod ev + ev) = x.tmod ev + ev := by rw [IntKind.wrap_i64]; omega
    have hb2 := tmod_bd (x.tmod ev + ev) ev (by omega)
    have e := hid (show ringT ev x = (x.tmod ev + ev) % ev from Int.tmod_eq_emod_of_nonneg (by omega))
    have hw2 : IntKind.i64.wrap ((x.tmod ev + ev) % ev) = (x.tmod ev + ev) % ev := by
      rw [← e.out]
      unfold ringT
      rw [IntKind.wrap_i64]
      omega
    have hne : ev ≠ 0 := by omega
    have hne2 : (ev == 0) = false := by simp [hne]
    go_enter Try.func66, Try.ntmps66
    go_wp2
    go_quiet (fail)
    go_wp2
    go_ret
    exact ⟨by rw [e.out]; rfl, by ((with_reducible (repeat (first | assumption | exact Below.refl _ _ | refine bset ?_ (Nat.le_refl _) _ | refine balloc ?_ _ | refine bdrew ?_ | refine bdrewN ?_ _))); done)⟩
  · rw [ringT_eq _ _ (by omega)]
    have := Int.emod_nonneg x (show ev ≠ 0 by omega)
    have := Int.emod_lt_of_pos x (show 0 < ev by omega)
    unfold inC
    omega
end Go.Proofs.Ytcibkoodnfkogaa
