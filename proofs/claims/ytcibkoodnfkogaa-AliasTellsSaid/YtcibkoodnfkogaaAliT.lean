/- Two operations on memory may meet unless they have one base that is not written between, and cells that are unlike: as the document says, for every list and all places; the list stays as it was; no condition. -/
import Derived.Test.YtcibkoodnfkogaaAliW
import Derived.Test.YtcibkoodnfkogaaR10b
import Derived.Test.YtcibkoodnfkogaaLike
import Derived.Test.YtcibkoodnfkogaaOpen
import Derived.Test.YtcibkoodnfkogaaRows
import Derived.ChangeOld
import Derived.SizedLaws
namespace Go.Proofs.Ytcibkoodnfkogaa
open Go.RowKit
set_option linter.unusedVariables false
set_option linter.unusedSimpArgs false
set_option maxHeartbeats 4000000 in
set_option maxRecDepth 100000 in
theorem AliasTells_walk (A : Option Addr) (l : List Op) (cap : Nat) (i j : Int) (w : World) (hl : OpsIn w A l) (hw : ∀ o ∈ l, o.wf) (hc : l.length ≤ cap) (hA : A = none → cap = 0) :
    Calls Try.prog 6 #[.slice A l.length cap, .int .i64 i, .int .i64 j] w fun e w' => e = .returned (.bool true) ∧ Below w.heap.size w w' := by
  by_cases hm : (8192 : Nat) < l.length
  · clear hl hw hA
    have hm' : (8192 : Int) < l.length := by omega
    go_enter Try.func6, Try.ntmps6
    go_wp2_with (go_at_call 25; refine (wakes10_any _).mono ?_; rintro e w' ⟨rfl, hb⟩)
    go_ret
    exact ⟨rfl, hb⟩
  · have hle : (l.length : Int) ≤ 8192 := by omega
    have c1 : ∀ (A' : Option Addr) (cap' : Nat) (w' : World), OpsIn w' A' l → l.length ≤ cap' → Calls Try.prog 27 #[.slice A' l.length cap', .int .i64 i, .int .i64 j] w' fun e w'' => e = .returned (.bool (meetL l i j)) ∧ Below w'.heap.size w' w'' := fun A' cap' w' h hc => Meet_any A' l cap' i j w' h hw (by omega) hc
    have c2 : ∀ w' : World, OpsIn w' A l → Calls Try.prog 28 #[.slice A l.length cap, .int .i64 i, .int .i64 j] w' fun e w'' => e = .returned (.bool (meetL l i j)) ∧ Below w'.heap.size w' w'' := fun w' h => by
      rw [← meet_alike]
      exact RMeet_any A l cap i j w' h (by omega)
    have c3 : ∀ (A' : Option Addr) (cap' : Nat) (w' : World), OpsIn w' A' l → Calls Try.prog 29 #[.slice A' l.length cap', .int .i64 i, .int .i64 j] w' fun e w'' => e = .returned (.bool (roundL l i j)) ∧ Below w'.heap.size w' w'' := fun A' cap' w' h => Round_any A' l cap' i j w' h hw (by omega)
    have c4 : ∀ w' : World, OpsIn w' A l → Calls Try.prog 30 #[.slice A l.length cap, .int .i64 i, .int .i64 j] w' fun e w'' => e = .returned (.bool (roundL l i j)) ∧ Below w'.heap.size w' w'' := fun w' h => by
      rw [← round_alike]
      exact RRound_any A l cap i j w' h (by omega)
    have c5 := copied_any A l cap w hl hA (by omega)
    have hm2 : l.length ≤ 1000000000000000000 := by omega
    generalize meetL l i j = r at c1 c2
    generalize roundL l i j = q at c3 c4
    have H0 := hid hl
    replace c1 := hid c1
    replace c2 := hid c2
    replace c3 := hid c3
    replace c4 := hid c4
    replace c5 := hid c5
    clear hl hm hw hA
    go_enter Try.func6, Try.ntmps6
    go_wp2_with fail
    refine c5.out.mono ?_
    rintro e w1 ⟨g, c, rfl, hgc, ho, _, hb⟩
    have B1 := hid hb
    have H1 := hid (H0.out.keep hb)
    have M1 := hid ho
    clear hb ho
    go_wp2_with fail
    refine (c1.out _ _ _ M1.out hgc).mono ?_
    rintro e w2 ⟨rfl, hb⟩
    have B2 := hid (btrans B1.out hb)
    have H2 := hid (H1.out.keep hb)
    have M2 := hid (M1.out.keep hb)
    clear hb
    go_wp2_with fail
    refine (c2.out _ H2.out).mono ?_
    rintro e w3 ⟨rfl, hb⟩
    have B3 := hid (btrans B2.out hb)
    have H3 := hid (H2.out.keep hb)
    have M3 := hid (M2.out.keep hb)
    clear hb
    go_wp2_with fail
    refine (c3.out _ _ _ M3.out).mono ?_
    rintro e w4 ⟨rfl, hb⟩
    have B4 := hid (btrans B3.out hb)
    have H4 := hid (H3.out.keep hb)
    have M4 := hid (M3.out.keep hb)
    clear hb
    go_wp2_with fail
    refine (c4.out _ H4.out).mono ?_
    rintro e w5 ⟨rfl, hb⟩
    have B5 := hid (btrans B4.out hb)
    have H5 := hid (H4.out.keep hb)
    have M5 := hid (M4.out.keep hb)
    clear hb
    go_wp2_with fail
    refine (like_any _ _ l _ _ _ M5.out H5.out hm2).mono ?_
    rintro e w6 ⟨rfl, nn, rfl⟩
    have B6 := hid (bdrewN B5.out nn)
    go_wp2_with fail
    refine (wakes10_any _).mono ?_
    rintro e w7 ⟨rfl, hb⟩
    have B7 := hid (btrans B6.out hb)
    clear hb
    go_wp2_with fail
    go_ret
    exact ⟨rfl, B7.out⟩
namespace aliasTells
open Go.ChangeShapes Go.WideShapes Go.ChangeAt
theorem own : ownKnob Try.prog.godebug = none := by kernel_rfl
theorem laidOut : laidOutB Try.prog = true := by kernel_rfl
set_option maxRecDepth 100000 in
theorem lifted (os : Os) (started : os.Started) (H : Type) (enc : TypeId × Value → H) :
    ReturnsInHanded {} Try.checked os 6 .any (Rows.aliasTellsSpec.pre6 enc Try.prog Try.f6 Rows.aliasTellsRow.domain false) (Rows.aliasTellsSpec.post enc Try.prog Try.f6 false true false false) := by
  refine returnsInHanded_of_change_sized (C := Try.checked) own started (by kernel_rfl) Try.func6
    (ChangeSpec.witness6 (enc := enc) (C := Try.checked) false ⟨#[], #[.slice none 0 0, .int .i64 0, .int .i64 0], []⟩ 8 (by kernel_rfl) (by kernel_rfl) (by kernel_rfl) (by kernel_rfl)) ?_
  intro W base args ds gs before hval0 hW hcnd hsz0 _
  have hval : ∀ (j : Nat) t v, Try.f6.params[j]? = some t → args[j]? = some v → Value.okWide Try.prog W .any base t v := hval0
  have hW' := hW
  obtain ⟨p, q, hA0, hV, rfl, hfz, hnd⟩ := hW
  have hA : DataW.TrodAll enc Try.prog W 0 (fun _ => true) true Try.f6.params.toList args.toList ds p := hA0
  rw [Try.params6] at hA hval
  obtain ⟨v0, vs0, d0, ds0, p0, q0, hargs, rfl, rfl, h0, r0⟩ := trodAll_cons hA
  obtain ⟨v1, vs1, d1, ds1, p1, q1, rfl, rfl, rfl, h1, r1⟩ := trodAll_cons r0
  obtain ⟨v2, vs2, d2, ds2, p2, q2, rfl, rfl, rfl, h2, r2⟩ := trodAll_cons r1
  obtain ⟨rfl, rfl, rfl⟩ := trodAll_nil r2
  obtain rfl : args = #[v0, v1, v2] := by cases args; simp_all
  obtain ⟨rfl, rfl⟩ := trodVars_none hV
  have k0 := h0
  have lt0 : ∀ x ∈ p0, x.block < W.heap.size := by obtain ⟨m, hm⟩ := k0; exact DataW.trod_lt m _ _ _ hm
  obtain ⟨a0, len0, cap0, rfl⟩ := okWide_slice Try.underlying38 (hval 0 38 v0 rfl rfl)
  obtain ⟨A0, c0, l0, hv0, hc0, hmx0, hl0, hw0, hn0⟩ : ∃ (A : Option Addr) (cap : Nat) (l : List Op), [Value.slice a0 len0 cap0] = [.slice A l.length cap] ∧ l.length ≤ cap ∧ cap ≤ maxLen ∧ OpsIn W A l ∧ (∀ o ∈ l, o.wf) ∧ (A = none → cap = 0) := by
    obtain ⟨fuel, hf⟩ := h0
    exact open_ops hf
  injection hv0 with hv0 _
  injection hv0 with e1 e2 e3
  subst e1 e2 e3
  obtain ⟨n1, rfl, rfl, rfl, w1⟩ := open_int Try.underlying3 (hval 1 3 v1 rfl rfl) h1
  obtain ⟨n2, rfl, rfl, rfl, w2⟩ := open_int Try.underlying3 (hval 2 3 v2 rfl rfl) h2
  clear hA0 hval0 hsz0
  refine (AliasTells_walk a0 l0 cap0 n1 n2 W hl0 hw0 hc0 hn0).mono fun e W' ⟨he, bel⟩ => ?_
  subst he
  exact ⟨_, rfl, _, _, _, [], _, [], hW', trodAll_mk1 (shut_bool Try.underlying4 _), (trodAll_cons_mk (Below.trod laidOut (by kernel_rfl) (of_decide_eq_true (by kernel_rfl)) k0 bel lt0) (trodAll_cons_mk (shut_int Try.underlying3 w1) (trodAll_cons_mk (shut_int Try.underlying3 w2) trodAll_mk0))), rfl, bel.frame _, fun h => by cases h⟩
theorem over : Rows.aliasTellsRow.holds Try.pinned (OpenSpec.ofChange Rows.aliasTellsSpec) :=
  OpenClaim.holds_of_wide 6 Try.f6 rfl rfl rfl rfl rfl rfl rfl ⟨rfl, rfl, rfl, rfl, rfl⟩ rfl rfl rfl rfl rfl (by kernel_rfl) Try.func6 (by kernel_rfl)
    (of_decide_eq_true (by kernel_rfl)) (by unfold Func.isWrapper; first | (rw [if_pos (by decide +kernel)]; kernel_rfl) | (rw [if_neg (by decide +kernel)]; exact ⟨rfl, rfl⟩))
    (fun os started H enc _ => lifted os started H enc)
end aliasTells
theorem aliasTells_holds : Rows.AliasTellsSaid := aliasTells.over
end Go.Proofs.Ytcibkoodnfkogaa
