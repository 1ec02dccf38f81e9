/- Two operations side by side that do not depend on one another can change places, for every list, every table, every state and every place; no condition. -/
import Derived.Test.YtcibkoodnfkogaaSW3
import Derived.Test.YtcibkoodnfkogaaY32
import Derived.Test.YtcibkoodnfkogaaRows
import Derived.ChangeOld
import Derived.SizedLaws
namespace Go.Proofs.Ytcibkoodnfkogaa
open Go.RowKit
set_option linter.unusedVariables false
set_option linter.unusedSimpArgs false
namespace depsSwap
open Go.ChangeShapes Go.WideShapes Go.ChangeAt
theorem own : ownKnob Try.prog.godebug = none := by kernel_rfl
theorem laidOut : laidOutB Try.prog = true := by kernel_rfl
set_option maxRecDepth 100000 in
theorem lifted (os : Os) (started : os.Started) (H : Type) (enc : TypeId × Value → H) :
    ReturnsInHanded {} Try.checked os 18 .any (Rows.depsSwapSpec.pre6 enc Try.prog Try.f18 Rows.depsSwapRow.domain false) (Rows.depsSwapSpec.post enc Try.prog Try.f18 false true false false) := by
  refine returnsInHanded_of_change_sized (C := Try.checked) own started (by kernel_rfl) Try.func18
    (ChangeSpec.witness6 (enc := enc) (C := Try.checked) false ⟨#[], #[.slice none 0 0, .agg #[.int .i64 0, .int .i64 0, .int .i64 0, .int .i64 0, .int .i64 0, .int .i64 0, .int .i64 0, .int .i64 0, .int .i64 0, .int .i64 0, .int .i64 0, .int .i64 0, .int .i64 0], .agg #[.slice none 0 0, .slice none 0 0], .int .i64 0], []⟩ 8 (by kernel_rfl) (by kernel_rfl) (by kernel_rfl) (by kernel_rfl)) ?_
  intro W base args ds gs before hval0 hW hcnd hsz0 _
  have hval : ∀ (j : Nat) t v, Try.f18.params[j]? = some t → args[j]? = some v → Value.okWide Try.prog W .any base t v := hval0
  have hW' := hW
  obtain ⟨p, q, hA0, hV, rfl, hfz, hnd⟩ := hW
  have hA : DataW.TrodAll enc Try.prog W 0 (fun _ => true) true Try.f18.params.toList args.toList ds p := hA0
  rw [Try.params18] at hA hval
  have hsz := hsz0
  rw [Try.params18] at hsz
  obtain ⟨v0, vs0, d0, ds0, p0, q0, hargs, rfl, rfl, h0, r0⟩ := trodAll_cons hA
  obtain ⟨v1, vs1, d1, ds1, p1, q1, rfl, rfl, rfl, h1, r1⟩ := trodAll_cons r0
  obtain ⟨v2, vs2, d2, ds2, p2, q2, rfl, rfl, rfl, h2, r2⟩ := trodAll_cons r1
  obtain ⟨v3, vs3, d3, ds3, p3, q3, rfl, rfl, rfl, h3, r3⟩ := trodAll_cons r2
  obtain ⟨rfl, rfl, rfl⟩ := trodAll_nil r3
  obtain rfl : args = #[v0, v1, v2, v3] := by cases args; simp_all
  obtain ⟨rfl, rfl⟩ := trodVars_none hV
  obtain ⟨z0, y0⟩ := light_each hsz
  obtain ⟨z1, y1⟩ := light_each y0
  obtain ⟨z2, y2⟩ := light_each y1
  obtain ⟨z3, y3⟩ := light_each y2
  have k0 := h0
  have lt0 : ∀ x ∈ p0, x.block < W.heap.size := by obtain ⟨m, hm⟩ := k0; exact DataW.trod_lt m _ _ _ hm
  obtain ⟨a0, len0, cap0, rfl⟩ := okWide_slice Try.underlying38 (hval 0 38 v0 rfl rfl)
  obtain ⟨A0, c0, l0, hv0, hc0, hmx0, hl0, hw0, hn0⟩ : ∃ (A : Option Addr) (cap : Nat) (l : List Op), [Value.slice a0 len0 cap0] = [.slice A l.length cap] ∧ l.length ≤ cap ∧ cap ≤ maxLen ∧ OpsIn W A l ∧ (∀ o ∈ l, o.wf) ∧ (A = none → cap = 0) := by
    obtain ⟨fuel, hf⟩ := h0
    exact open_ops hf
  injection hv0 with hv0 _
  injection hv0 with e1 e2 e3
  subst e1 e2 e3
  have hr0 : cap0 ≤ 8796093022208 := by obtain ⟨fuel, hf⟩ := h0; exact ops_reach hf z0 rfl
  have k1 := h1
  have lt1 : ∀ x ∈ p1, x.block < W.heap.size := by obtain ⟨m, hm⟩ := k1; exact DataW.trod_lt m _ _ _ hm
  obtain ⟨cs1, rfl, _⟩ := okWide_struct Try.underlying28 (hval 1 28 v1 rfl rfl)
  obtain ⟨t1, ht1, hv1, hw1⟩ : ∃ t : List Int, t.length = 13 ∧ cs1.toList = t.map (Value.int .i64) ∧ ∀ n ∈ t, -9223372036854775808 ≤ n ∧ n ≤ 9223372036854775807 := by
    obtain ⟨fuel, hf⟩ := h1
    exact open_tab hf
  obtain rfl : cs1 = (t1.map (Value.int .i64)).toArray := by rw [← hv1]
  have k2 := h2
  have lt2 : ∀ x ∈ p2, x.block < W.heap.size := by obtain ⟨m, hm⟩ := k2; exact DataW.trod_lt m _ _ _ hm
  obtain ⟨cs2, rfl, _⟩ := okWide_struct Try.underlying44 (hval 2 44 v2 rfl rfl)
  obtain ⟨A2, c2, l2, B2, b2, m2, hv2, ⟨hc2, hx2, hl2, hw2, _⟩, ⟨gc2, gx2, gl2, gw2, _⟩⟩ : ∃ (A1 : Option Addr) (c1 : Nat) (l1 : List Int) (A2 : Option Addr) (c2 : Nat) (l2 : List Int), cs2.toList = [.slice A1 l1.length c1, .slice A2 l2.length c2] ∧ (l1.length ≤ c1 ∧ c1 ≤ 17592186043904 ∧ NumsIn W A1 l1 ∧ I64s l1 ∧ (A1 = none → c1 = 0)) ∧ (l2.length ≤ c2 ∧ c2 ≤ 17592186043904 ∧ NumsIn W A2 l2 ∧ I64s l2 ∧ (A2 = none → c2 = 0)) := by
    obtain ⟨fuel, hf⟩ := h2
    exact open_state hf z2
  obtain rfl : cs2 = #[.slice A2 l2.length c2, .slice B2 m2.length b2] := by apply Array.ext'; rw [hv2]
  obtain ⟨n3, rfl, rfl, rfl, w3⟩ := open_int Try.underlying3 (hval 3 3 v3 rfl rfl) h3
  clear hA0 hval0 hsz0
  refine (DepsSwap_walk a0 l0 cap0 t1 A2 l2 c2 B2 m2 b2 n3 W hl0 hw0 hc0 hr0 ht1 hw1 hl2 hw2 hc2 hx2 gl2 gw2 gc2 gx2 (wf_i64 w3)).mono fun e W' ⟨he, bel⟩ => ?_
  subst he
  exact ⟨_, rfl, _, _, _, [], _, [], hW', trodAll_mk1 (shut_bool Try.underlying4 _), (trodAll_cons_mk (Below.trod laidOut (by kernel_rfl) (of_decide_eq_true (by kernel_rfl)) k0 bel lt0) (trodAll_cons_mk (Below.trod laidOut (by kernel_rfl) (of_decide_eq_true (by kernel_rfl)) k1 bel lt1) (trodAll_cons_mk (Below.trod laidOut (by kernel_rfl) (of_decide_eq_true (by kernel_rfl)) k2 bel lt2) (trodAll_cons_mk (shut_int Try.underlying3 w3) trodAll_mk0)))), rfl, bel.frame _, fun h => by cases h⟩
theorem over : Rows.depsSwapRow.holds Try.pinned (OpenSpec.ofChange Rows.depsSwapSpec) :=
  OpenClaim.holds_of_wide 18 Try.f18 rfl rfl rfl rfl rfl rfl rfl ⟨rfl, rfl, rfl, rfl, rfl⟩ rfl rfl rfl rfl rfl (by kernel_rfl) Try.func18 (by kernel_rfl)
    (of_decide_eq_true (by kernel_rfl)) (by unfold Func.isWrapper; first | (rw [if_pos (by decide +kernel)]; kernel_rfl) | (rw [if_neg (by decide +kernel)]; exact ⟨rfl, rfl⟩))
    (fun os started H enc _ => lifted os started H enc)
end depsSwap
theorem depsSwap_holds : Rows.DepsSwapSaid := depsSwap.over
end Go.Proofs.Ytcibkoodnfkogaa
