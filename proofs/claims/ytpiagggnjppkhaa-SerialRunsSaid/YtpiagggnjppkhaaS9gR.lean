/- A program runs one operation after the other as the document says, however the steps are dealt out, for every program, every state and every dealing; no condition. -/
import Derived.Test.YtpiagggnjppkhaaS9g
import Derived.Test.YtpiagggnjppkhaaZ32
import Derived.Test.YtpiagggnjppkhaaZ31
import Derived.Test.YtpiagggnjppkhaaRows
import Derived.ChangeOld
import Derived.SizedLaws
namespace Go.Proofs.Ytpiagggnjppkhaa
open Go.RowKit
set_option linter.unusedVariables false
set_option linter.unusedSimpArgs false
namespace serialRuns
open Go.ChangeShapes Go.WideShapes Go.ChangeAt
theorem own : ownKnob Try.prog.godebug = none := by kernel_rfl
theorem laidOut : laidOutB Try.prog = true := by kernel_rfl
set_option maxRecDepth 100000 in
theorem lifted (os : Os) (started : os.Started) (H : Type) (enc : TypeId × Value → H) :
    ReturnsInHanded {} Try.checked os 3 .any (Rows.serialRunsSpec.pre6 enc Try.prog Try.f3 Rows.serialRunsRow.domain false) (Rows.serialRunsSpec.post enc Try.prog Try.f3 false true false false) := by
  refine returnsInHanded_of_change_sized (C := Try.checked) own started (by kernel_rfl) Try.func3
    (ChangeSpec.witness6 (enc := enc) (C := Try.checked) false ⟨#[], #[.agg #[.slice none 0 0], .agg #[.slice none 0 0, .slice none 0 0], .slice none 0 0], []⟩ 8 (by kernel_rfl) (by kernel_rfl) (by kernel_rfl) (by kernel_rfl)) ?_
  intro W base args ds gs before hval0 hW hcnd hsz0 _
  have hval : ∀ (j : Nat) t v, Try.f3.params[j]? = some t → args[j]? = some v → Value.okWide Try.prog W .any base t v := hval0
  have hW' := hW
  obtain ⟨p, q, hA0, hV, rfl, hfz, hnd⟩ := hW
  have hA : DataW.TrodAll enc Try.prog W 0 (fun _ => true) true Try.f3.params.toList args.toList ds p := hA0
  rw [Try.params3] at hA hval
  have hsz := hsz0
  rw [Try.params3] at hsz
  obtain ⟨v0, vs0, d0, ds0, p0, q0, hargs, rfl, rfl, h0, r0⟩ := trodAll_cons hA
  obtain ⟨v1, vs1, d1, ds1, p1, q1, rfl, rfl, rfl, h1, r1⟩ := trodAll_cons r0
  obtain ⟨v2, vs2, d2, ds2, p2, q2, rfl, rfl, rfl, h2, r2⟩ := trodAll_cons r1
  obtain ⟨rfl, rfl, rfl⟩ := trodAll_nil r2
  obtain rfl : args = #[v0, v1, v2] := by cases args; simp_all
  obtain ⟨rfl, rfl⟩ := trodVars_none hV
  obtain ⟨z0, y0⟩ := light_each hsz
  obtain ⟨z1, y1⟩ := light_each y0
  obtain ⟨z2, y2⟩ := light_each y1
  have k0 := h0
  have lt0 : ∀ x ∈ p0, x.block < W.heap.size := by obtain ⟨m, hm⟩ := k0; exact DataW.trod_lt m _ _ _ hm
  obtain ⟨cs0, rfl, _⟩ := okWide_struct Try.underlying24 (hval 0 24 v0 rfl rfl)
  obtain ⟨A0, c0, l0, hv0, hc0, hmx0, hl0, hw0, hn0⟩ : ∃ (A : Option Addr) (cap : Nat) (l : List Blk), cs0.toList = [.slice A l.length cap] ∧ l.length ≤ cap ∧ cap ≤ 1954687340000 ∧ BlksIn W A l ∧ (∀ b ∈ l, b.wf) ∧ (A = none → cap = 0) := by
    obtain ⟨fuel, hf⟩ := h0
    exact open_prog hf z0
  obtain rfl : cs0 = #[.slice A0 l0.length c0] := by apply Array.ext'; rw [hv0]
  have k1 := h1
  have lt1 : ∀ x ∈ p1, x.block < W.heap.size := by obtain ⟨m, hm⟩ := k1; exact DataW.trod_lt m _ _ _ hm
  obtain ⟨cs1, rfl, _⟩ := okWide_struct Try.underlying27 (hval 1 27 v1 rfl rfl)
  obtain ⟨A1, c1, l1, B1, b1, m1, hv1, ⟨hc1, hx1, hl1, hw1, _⟩, ⟨gc1, gx1, gl1, gw1, _⟩⟩ : ∃ (A1 : Option Addr) (c1 : Nat) (l1 : List Int) (A2 : Option Addr) (c2 : Nat) (l2 : List Int), cs1.toList = [.slice A1 l1.length c1, .slice A2 l2.length c2] ∧ (l1.length ≤ c1 ∧ c1 ≤ 17592186043904 ∧ NumsIn W A1 l1 ∧ I64s l1 ∧ (A1 = none → c1 = 0)) ∧ (l2.length ≤ c2 ∧ c2 ≤ 17592186043904 ∧ NumsIn W A2 l2 ∧ I64s l2 ∧ (A2 = none → c2 = 0)) := by
    obtain ⟨fuel, hf⟩ := h1
    exact open_state hf z1
  obtain rfl : cs1 = #[.slice A1 l1.length c1, .slice B1 m1.length b1] := by apply Array.ext'; rw [hv1]
  have k2 := h2
  have lt2 : ∀ x ∈ p2, x.block < W.heap.size := by obtain ⟨m, hm⟩ := k2; exact DataW.trod_lt m _ _ _ hm
  obtain ⟨a2, len2, cap2, rfl⟩ := okWide_slice Try.underlying28 (hval 2 28 v2 rfl rfl)
  obtain ⟨A2, c2, l2, hv2, hc2, hmx2, hl2, hw2, _⟩ : ∃ (A : Option Addr) (cap : Nat) (l : List Int), [Value.slice a2 len2 cap2] = [.slice A l.length cap] ∧ l.length ≤ cap ∧ cap ≤ 17592186043904 ∧ NumsIn W A l ∧ I64s l ∧ (A = none → cap = 0) := by
    obtain ⟨fuel, hf⟩ := h2
    exact open_ints hf z2
  injection hv2 with hv2 _
  injection hv2 with e1 e2 e3
  subst e1 e2 e3
  clear hA0 hval0 hsz0
  refine (SerialRuns_walk A0 l0 c0 A1 l1 c1 B1 m1 b1 a2 l2 cap2 W hl0 hw0 hc0 hmx0 hl1 hw1 hc1 hx1 gl1 gw1 gc1 gx1 hl2 hw2 hc2 hmx2).mono fun e W' ⟨he, bel⟩ => ?_
  subst he
  exact ⟨_, rfl, _, _, _, [], _, [], hW', trodAll_mk1 (shut_bool Try.underlying4 _), (trodAll_cons_mk (Below.trod laidOut (by kernel_rfl) (of_decide_eq_true (by kernel_rfl)) k0 bel lt0) (trodAll_cons_mk (Below.trod laidOut (by kernel_rfl) (of_decide_eq_true (by kernel_rfl)) k1 bel lt1) (trodAll_cons_mk (Below.trod laidOut (by kernel_rfl) (of_decide_eq_true (by kernel_rfl)) k2 bel lt2) trodAll_mk0))), rfl, bel.frame _, fun h => by cases h⟩
theorem over : Rows.serialRunsRow.holds Try.pinned (OpenSpec.ofChange Rows.serialRunsSpec) :=
  OpenClaim.holds_of_wide 3 Try.f3 rfl rfl rfl rfl rfl rfl rfl ⟨rfl, rfl, rfl, rfl, rfl⟩ rfl rfl rfl rfl rfl (by kernel_rfl) Try.func3 (by kernel_rfl)
    (of_decide_eq_true (by kernel_rfl)) (by unfold Func.isWrapper; first | (rw [if_pos (by decide +kernel)]; kernel_rfl) | (rw [if_neg (by decide +kernel)]; exact ⟨rfl, rfl⟩))
    (fun os started H enc _ => lifted os started H enc)
end serialRuns
theorem serialRuns_holds : Rows.SerialRunsSaid := serialRuns.over
end Go.Proofs.Ytpiagggnjppkhaa
