/- The statement ReserveCounts holds: at every table, ring and list of asks the call returns true. -/
import Derived.Test.YtcibkoodnfkogaaRV16
import Derived.Test.YtcibkoodnfkogaaRVO
import Derived.Test.YtcibkoodnfkogaaOpen2
import Derived.Test.YtcibkoodnfkogaaRows
import Derived.ChangeOld
import Derived.SizedLaws
namespace Go.Proofs.Ytcibkoodnfkogaa
open Go.RowKit
set_option linter.unusedVariables false
set_option linter.unusedSimpArgs false
namespace reserveCounts
open Go.ChangeShapes Go.WideShapes Go.ChangeAt
theorem own : ownKnob Try.prog.godebug = none := by kernel_rfl
theorem laidOut : laidOutB Try.prog = true := by kernel_rfl
set_option maxRecDepth 100000 in
theorem lifted (os : Os) (started : os.Started) (H : Type) (enc : TypeId × Value → H) :
    ReturnsInHanded {} Try.checked os 4 .any (Rows.reserveCountsSpec.pre6 enc Try.prog Try.f4 Rows.reserveCountsRow.domain false) (Rows.reserveCountsSpec.post enc Try.prog Try.f4 false true false false) := by
  refine returnsInHanded_of_change_sized (C := Try.checked) own started (by kernel_rfl) Try.func4
    (ChangeSpec.witness6 (enc := enc) (C := Try.checked) false ⟨#[], #[.agg #[.int .i64 0, .int .i64 0, .int .i64 0, .int .i64 0, .int .i64 0, .int .i64 0, .int .i64 0, .int .i64 0, .int .i64 0, .int .i64 0, .int .i64 0, .int .i64 0, .int .i64 0], .int .i64 0, .slice none 0 0], []⟩ 8 (by kernel_rfl) (by kernel_rfl) (by kernel_rfl) (by kernel_rfl)) ?_
  intro W base args ds gs before hval0 hW hcnd hsz0 _
  have hval : ∀ (j : Nat) t v, Try.f4.params[j]? = some t → args[j]? = some v → Value.okWide Try.prog W .any base t v := hval0
  have hW' := hW
  obtain ⟨p, q, hA0, hV, rfl, hfz, hnd⟩ := hW
  have hA : DataW.TrodAll enc Try.prog W 0 (fun _ => true) true Try.f4.params.toList args.toList ds p := hA0
  rw [Try.params4] at hA hval
  have hsz := hsz0
  rw [Try.params4] at hsz
  obtain ⟨v0, vs0, d0, ds0, p0, q0, hargs, rfl, rfl, h0, r0⟩ := trodAll_cons hA
  obtain ⟨v1, vs1, d1, ds1, p1, q1, rfl, rfl, rfl, h1, r1⟩ := trodAll_cons r0
  obtain ⟨v2, vs2, d2, ds2, p2, q2, rfl, rfl, rfl, h2, r2⟩ := trodAll_cons r1
  obtain ⟨rfl, rfl, rfl⟩ := trodAll_nil r2
  obtain rfl : args = #[v0, v1, v2] := by cases args; simp_all
  obtain ⟨rfl, rfl⟩ := trodVars_none hV
  obtain ⟨z0, y0⟩ := light_each hsz
  obtain ⟨z1, y1⟩ := light_each y0
  obtain ⟨z2, y2⟩ := light_each y1
  have k0 := h0
  have lt0 : ∀ x ∈ p0, x.block < W.heap.size := by obtain ⟨m, hm⟩ := k0; exact DataW.trod_lt m _ _ _ hm
  obtain ⟨cs0, rfl, _⟩ := okWide_struct Try.underlying28 (hval 0 28 v0 rfl rfl)
  obtain ⟨t0, ht0, hv0, hw0⟩ : ∃ t : List Int, t.length = 13 ∧ cs0.toList = t.map (Value.int .i64) ∧ ∀ n ∈ t, -9223372036854775808 ≤ n ∧ n ≤ 9223372036854775807 := by
    obtain ⟨fuel, hf⟩ := h0
    exact open_tab hf
  obtain rfl : cs0 = (t0.map (Value.int .i64)).toArray := by rw [← hv0]
  obtain ⟨n1, rfl, rfl, rfl, w1⟩ := open_int Try.underlying3 (hval 1 3 v1 rfl rfl) h1
  have k2 := h2
  have lt2 : ∀ x ∈ p2, x.block < W.heap.size := by obtain ⟨m, hm⟩ := k2; exact DataW.trod_lt m _ _ _ hm
  obtain ⟨a2, len2, cap2, rfl⟩ := okWide_slice Try.underlying29 (hval 2 29 v2 rfl rfl)
  obtain ⟨A2, c2, l2, hv2, hc2, hmx2, hl2, hw2, hn2⟩ : ∃ (A : Option Addr) (cap : Nat) (l : List Ask), [Value.slice a2 len2 cap2] = [.slice A l.length cap] ∧ l.length ≤ cap ∧ cap ≤ maxLen ∧ AsksIn W A l ∧ (∀ o ∈ l, o.wf) ∧ (A = none → cap = 0) := by
    obtain ⟨fuel, hf⟩ := h2
    exact open_asks hf
  injection hv2 with hv2 _
  injection hv2 with e1 e2 e3
  subst e1 e2 e3
  have hr2 : cap2 ≤ 8796093022208 := by obtain ⟨fuel, hf⟩ := h2; exact asks_reach hf z2 rfl
  clear hA0 hval0 hsz0
  refine (ReserveCounts_walk t0 n1 a2 l2 cap2 W ht0 hw0 hl2 hw2 hc2 hr2).mono fun e W' ⟨he, bel⟩ => ?_
  subst he
  exact ⟨_, rfl, _, _, _, [], _, [], hW', trodAll_mk1 (shut_bool Try.underlying4 _), (trodAll_cons_mk (Below.trod laidOut (by kernel_rfl) (of_decide_eq_true (by kernel_rfl)) k0 bel lt0) (trodAll_cons_mk (shut_int Try.underlying3 w1) (trodAll_cons_mk (Below.trod laidOut (by kernel_rfl) (of_decide_eq_true (by kernel_rfl)) k2 bel lt2) trodAll_mk0))), rfl, bel.frame _, fun h => by cases h⟩
theorem over : Rows.reserveCountsRow.holds Try.pinned (OpenSpec.ofChange Rows.reserveCountsSpec) :=
  OpenClaim.holds_of_wide 4 Try.f4 rfl rfl rfl rfl rfl rfl rfl ⟨rfl, rfl, rfl, rfl, rfl⟩ rfl rfl rfl rfl rfl (by kernel_rfl) Try.func4 (by kernel_rfl)
    (of_decide_eq_true (by kernel_rfl)) (by unfold Func.isWrapper; first | (rw [if_pos (by decide +kernel)]; kernel_rfl) | (rw [if_neg (by decide +kernel)]; exact ⟨rfl, rfl⟩))
    (fun os started H enc _ => lifted os started H enc)
end reserveCounts
theorem reserveCounts_holds : Rows.ReserveCountsSaid := reserveCounts.over
end Go.Proofs.Ytcibkoodnfkogaa
