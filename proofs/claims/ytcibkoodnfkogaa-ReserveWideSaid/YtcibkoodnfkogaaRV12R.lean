/- The statement ReserveWide holds: at every table and list of asks the call returns true. -/
import Derived.Test.YtcibkoodnfkogaaRV12
import Derived.Test.YtcibkoodnfkogaaRVO
import Derived.Test.YtcibkoodnfkogaaOpen2
import Derived.Test.YtcibkoodnfkogaaRows
import Derived.ChangeOld
import Derived.SizedLaws
namespace Go.Proofs.Ytcibkoodnfkogaa
open Go.RowKit
set_option linter.unusedVariables false
set_option linter.unusedSimpArgs false
namespace reserveWide
open Go.ChangeShapes Go.WideShapes Go.ChangeAt
theorem own : ownKnob Try.prog.godebug = none := by kernel_rfl
theorem laidOut : laidOutB Try.prog = true := by kernel_rfl
set_option maxRecDepth 100000 in
theorem lifted (os : Os) (started : os.Started) (H : Type) (enc : TypeId × Value → H) :
    ReturnsInHanded {} Try.checked os 5 .any (Rows.reserveWideSpec.pre6 enc Try.prog Try.f5 Rows.reserveWideRow.domain false) (Rows.reserveWideSpec.post enc Try.prog Try.f5 false true false false) := by
  refine returnsInHanded_of_change_sized (C := Try.checked) own started (by kernel_rfl) Try.func5
    (ChangeSpec.witness6 (enc := enc) (C := Try.checked) false ⟨#[], #[.agg #[.int .i64 0, .int .i64 0, .int .i64 0, .int .i64 0, .int .i64 0, .int .i64 0, .int .i64 0, .int .i64 0, .int .i64 0, .int .i64 0, .int .i64 0, .int .i64 0, .int .i64 0], .slice none 0 0], []⟩ 8 (by kernel_rfl) (by kernel_rfl) (by kernel_rfl) (by kernel_rfl)) ?_
  intro W base args ds gs before hval0 hW hcnd hsz0 _
  have hval : ∀ (j : Nat) t v, Try.f5.params[j]? = some t → args[j]? = some v → Value.okWide Try.prog W .any base t v := hval0
  have hW' := hW
  obtain ⟨p, q, hA0, hV, rfl, hfz, hnd⟩ := hW
  have hA : DataW.TrodAll enc Try.prog W 0 (fun _ => true) true Try.f5.params.toList args.toList ds p := hA0
  rw [Try.params5] at hA hval
  have hsz := hsz0
  rw [Try.params5] at hsz
  obtain ⟨v0, vs0, d0, ds0, p0, q0, hargs, rfl, rfl, h0, r0⟩ := trodAll_cons hA
  obtain ⟨v1, vs1, d1, ds1, p1, q1, rfl, rfl, rfl, h1, r1⟩ := trodAll_cons r0
  obtain ⟨rfl, rfl, rfl⟩ := trodAll_nil r1
  obtain rfl : args = #[v0, v1] := by cases args; simp_all
  obtain ⟨rfl, rfl⟩ := trodVars_none hV
  obtain ⟨z0, y0⟩ := light_each hsz
  obtain ⟨z1, y1⟩ := light_each y0
  have k0 := h0
  have lt0 : ∀ x ∈ p0, x.block < W.heap.size := by obtain ⟨m, hm⟩ := k0; exact DataW.trod_lt m _ _ _ hm
  obtain ⟨cs0, rfl, _⟩ := okWide_struct Try.underlying28 (hval 0 28 v0 rfl rfl)
  obtain ⟨t0, ht0, hv0, hw0⟩ : ∃ t : List Int, t.length = 13 ∧ cs0.toList = t.map (Value.int .i64) ∧ ∀ n ∈ t, -9223372036854775808 ≤ n ∧ n ≤ 9223372036854775807 := by
    obtain ⟨fuel, hf⟩ := h0
    exact open_tab hf
  obtain rfl : cs0 = (t0.map (Value.int .i64)).toArray := by rw [← hv0]
  have k1 := h1
  have lt1 : ∀ x ∈ p1, x.block < W.heap.size := by obtain ⟨m, hm⟩ := k1; exact DataW.trod_lt m _ _ _ hm
  obtain ⟨a1, len1, cap1, rfl⟩ := okWide_slice Try.underlying29 (hval 1 29 v1 rfl rfl)
  obtain ⟨A1, c1, l1, hv1, hc1, hmx1, hl1, hw1, hn1⟩ : ∃ (A : Option Addr) (cap : Nat) (l : List Ask), [Value.slice a1 len1 cap1] = [.slice A l.length cap] ∧ l.length ≤ cap ∧ cap ≤ maxLen ∧ AsksIn W A l ∧ (∀ o ∈ l, o.wf) ∧ (A = none → cap = 0) := by
    obtain ⟨fuel, hf⟩ := h1
    exact open_asks hf
  injection hv1 with hv1 _
  injection hv1 with e1 e2 e3
  subst e1 e2 e3
  have hr1 : cap1 ≤ 8796093022208 := by obtain ⟨fuel, hf⟩ := h1; exact asks_reach hf z1 rfl
  clear hA0 hval0 hsz0
  refine (ReserveWide_walk t0 a1 l1 cap1 W ht0 hw0 hl1 hw1 hc1 hr1).mono fun e W' ⟨he, bel⟩ => ?_
  subst he
  exact ⟨_, rfl, _, _, _, [], _, [], hW', trodAll_mk1 (shut_bool Try.underlying4 _), (trodAll_cons_mk (Below.trod laidOut (by kernel_rfl) (of_decide_eq_true (by kernel_rfl)) k0 bel lt0) (trodAll_cons_mk (Below.trod laidOut (by kernel_rfl) (of_decide_eq_true (by kernel_rfl)) k1 bel lt1) trodAll_mk0)), rfl, bel.frame _, fun h => by cases h⟩
theorem over : Rows.reserveWideRow.holds Try.pinned (OpenSpec.ofChange Rows.reserveWideSpec) :=
  OpenClaim.holds_of_wide 5 Try.f5 rfl rfl rfl rfl rfl rfl rfl ⟨rfl, rfl, rfl, rfl, rfl⟩ rfl rfl rfl rfl rfl (by kernel_rfl) Try.func5 (by kernel_rfl)
    (of_decide_eq_true (by kernel_rfl)) (by unfold Func.isWrapper; first | (rw [if_pos (by decide +kernel)]; kernel_rfl) | (rw [if_neg (by decide +kernel)]; exact ⟨rfl, rfl⟩))
    (fun os started H enc _ => lifted os started H enc)
end reserveWide
theorem reserveWide_holds : Rows.ReserveWideSaid := reserveWide.over
end Go.Proofs.Ytcibkoodnfkogaa
