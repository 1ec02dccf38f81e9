/- Whether two operations may meet from round to round goes both ways, and is never less than within one round: for every list of operations and all places; no condition. -/
import Derived.Test.YtcibkoodnfkogaaAliW
import Derived.Test.YtcibkoodnfkogaaOpen
import Derived.Test.YtcibkoodnfkogaaRows
import Derived.ChangeOld
import Derived.SizedLaws
namespace Go.Proofs.Ytcibkoodnfkogaa
open Go.RowKit
set_option linter.unusedVariables false
set_option linter.unusedSimpArgs false
theorem meetB_swap (a b : Op) (st : List Op) : meetB a b st = meetB b a st := by
  unfold meetB
  by_cases h : a.a = b.a
  · rw [h]
    cases memB a <;> cases memB b <;> cases (a.k == 15) <;> cases (b.k == 15) <;> simp [Bool.beq_comm]
    all_goals rw [eq_comm]
  · have h1 : (a.a != b.a) = true := by simpa using h
    have h2 : (b.a != a.a) = true := by simpa using fun e => h e.symm
    rw [h1, h2]
    cases memB a <;> cases memB b <;> cases (a.k == 15) <;> cases (b.k == 15) <;> rfl
theorem roundL_swap (l : List Op) (i j : Int) : roundL l i j = roundL l j i := by
  unfold roundL
  by_cases h : 0 ≤ i ∧ 0 ≤ j ∧ i < l.length ∧ j < l.length
  · rw [dif_pos h, dif_pos ⟨h.2.1, h.1, h.2.2.2, h.2.2.1⟩, meetB_swap]
  · rw [dif_neg h, dif_neg (fun k => h ⟨k.2.1, k.1, k.2.2.2, k.2.2.1⟩)]
theorem meetB_more (a b : Op) (st l : List Op) (hs : ∀ o ∈ st, o ∈ l) (h : meetB a b st = true) : meetB a b l = true := by
  unfold meetB at h ⊢
  have hw : written st a.a = true → written l a.a = true := fun hw => by
    obtain ⟨o, hm, ho⟩ := List.any_eq_true.1 hw
    exact List.any_eq_true.2 ⟨o, hs o hm, ho⟩
  simp only [Bool.and_eq_true, Bool.or_eq_true] at h ⊢
  refine ⟨h.1, ?_⟩
  rcases h.2 with h2 | h2
  · exact .inl h2
  · exact .inr (hw h2)
theorem meetL_round (l : List Op) (i j : Int) (h : roundL l i j = false) : meetL l i j = false := by
  cases hm : meetL l i j with
  | false => rfl
  | true =>
    unfold meetL at hm
    split at hm
    · next k =>
      have := meetB_more _ _ _ l (fun o ho => cut_mem ho) hm
      unfold roundL at h
      rw [dif_pos ⟨k.1, by omega, by omega, k.2.2⟩, this] at h
      cases h
    · cases hm
set_option maxHeartbeats 4000000 in
set_option maxRecDepth 100000 in
theorem AliasRounds_walk (A : Option Addr) (l : List Op) (cap : Nat) (i j : Int) (w : World) (hl : OpsIn w A l) (hw : ∀ o ∈ l, o.wf) (hc : l.length ≤ cap) :
    Calls Try.prog 7 #[.slice A l.length cap, .int .i64 i, .int .i64 j] w fun e w' => e = .returned (.bool true) ∧ Below w.heap.size w w' := by
  by_cases hm : (8192 : Nat) < l.length
  · clear hl hw
    have hm' : (8192 : Int) < l.length := by omega
    go_enter Try.func7, Try.ntmps7
    go_wp2_with (go_at_call 25; refine (wakes10_any _).mono ?_; rintro e w' ⟨rfl, hb⟩)
    go_ret
    exact ⟨rfl, hb⟩
  · have hle : (l.length : Int) ≤ 8192 := by omega
    have c1 : ∀ w' : World, OpsIn w' A l → Calls Try.prog 29 #[.slice A l.length cap, .int .i64 i, .int .i64 j] w' fun e w'' => e = .returned (.bool (roundL l i j)) ∧ Below w'.heap.size w' w'' := fun w' h => Round_any A l cap i j w' h hw (by omega)
    have c2 : ∀ w' : World, OpsIn w' A l → Calls Try.prog 29 #[.slice A l.length cap, .int .i64 j, .int .i64 i] w' fun e w'' => e = .returned (.bool (roundL l i j)) ∧ Below w'.heap.size w' w'' := fun w' h => by
      rw [roundL_swap]
      exact Round_any A l cap j i w' h hw (by omega)
    have c3 : ∀ w' : World, OpsIn w' A l → Calls Try.prog 27 #[.slice A l.length cap, .int .i64 i, .int .i64 j] w' fun e w'' => e = .returned (.bool (meetL l i j)) ∧ Below w'.heap.size w' w'' := fun w' h => Meet_any A l cap i j w' h hw (by omega) hc
    have H0 := hid hl
    clear hl hm hw
    cases hr : roundL l i j
    · have hml := meetL_round l i j hr
      rw [hr] at c1 c2
      rw [hml] at c3
      replace c1 := hid c1
      replace c2 := hid c2
      replace c3 := hid c3
      clear hr hml
      go_enter Try.func7, Try.ntmps7
      go_wp2_with fail
      refine (c1.out _ H0.out).mono ?_
      rintro e w1 ⟨rfl, hb⟩
      have B1 := hid hb
      have H1 := hid (H0.out.keep hb)
      clear hb
      go_wp2_with fail
      refine (c2.out _ H1.out).mono ?_
      rintro e w2 ⟨rfl, hb⟩
      have B2 := hid (btrans B1.out hb)
      have H2 := hid (H1.out.keep hb)
      clear hb
      go_wp2_with fail
      refine (c1.out _ H2.out).mono ?_
      rintro e w3 ⟨rfl, hb⟩
      have B3 := hid (btrans B2.out hb)
      have H3 := hid (H2.out.keep hb)
      clear hb
      go_wp2_with fail
      refine (c3.out _ H3.out).mono ?_
      rintro e w4 ⟨rfl, hb⟩
      have B4 := hid (btrans B3.out hb)
      clear hb
      go_wp2_with fail
      refine (wakes10_any _).mono ?_
      rintro e w5 ⟨rfl, hb⟩
      have B5 := hid (btrans B4.out hb)
      clear hb
      go_wp2_with fail
      go_ret
      exact ⟨rfl, B5.out⟩
    · rw [hr] at c1 c2
      replace c1 := hid c1
      replace c2 := hid c2
      clear hr c3
      go_enter Try.func7, Try.ntmps7
      go_wp2_with fail
      refine (c1.out _ H0.out).mono ?_
      rintro e w1 ⟨rfl, hb⟩
      have B1 := hid hb
      have H1 := hid (H0.out.keep hb)
      clear hb
      go_wp2_with fail
      refine (c2.out _ H1.out).mono ?_
      rintro e w2 ⟨rfl, hb⟩
      have B2 := hid (btrans B1.out hb)
      have H2 := hid (H1.out.keep hb)
      clear hb
      go_wp2_with fail
      refine (c1.out _ H2.out).mono ?_
      rintro e w3 ⟨rfl, hb⟩
      have B3 := hid (btrans B2.out hb)
      clear hb
      go_wp2_with fail
      refine (wakes10_any _).mono ?_
      rintro e w4 ⟨rfl, hb⟩
      have B4 := hid (btrans B3.out hb)
      clear hb
      go_wp2_with fail
      go_ret
      exact ⟨rfl, B4.out⟩
namespace aliasRounds
open Go.ChangeShapes Go.WideShapes Go.ChangeAt
theorem own : ownKnob Try.prog.godebug = none := by kernel_rfl
theorem laidOut : laidOutB Try.prog = true := by kernel_rfl
set_option maxRecDepth 100000 in
theorem lifted (os : Os) (started : os.Started) (H : Type) (enc : TypeId × Value → H) :
    ReturnsInHanded {} Try.checked os 7 .any (Rows.aliasRoundsSpec.pre6 enc Try.prog Try.f7 Rows.aliasRoundsRow.domain false) (Rows.aliasRoundsSpec.post enc Try.prog Try.f7 false true false false) := by
  refine returnsInHanded_of_change_sized (C := Try.checked) own started (by kernel_rfl) Try.func7
    (ChangeSpec.witness6 (enc := enc) (C := Try.checked) false ⟨#[], #[.slice none 0 0, .int .i64 0, .int .i64 0], []⟩ 8 (by kernel_rfl) (by kernel_rfl) (by kernel_rfl) (by kernel_rfl)) ?_
  intro W base args ds gs before hval0 hW hcnd hsz0 _
  have hval : ∀ (j : Nat) t v, Try.f7.params[j]? = some t → args[j]? = some v → Value.okWide Try.prog W .any base t v := hval0
  have hW' := hW
  obtain ⟨p, q, hA0, hV, rfl, hfz, hnd⟩ := hW
  have hA : DataW.TrodAll enc Try.prog W 0 (fun _ => true) true Try.f7.params.toList args.toList ds p := hA0
  rw [Try.params7] at hA hval
  obtain ⟨v0, vs0, d0, ds0, p0, q0, hargs, rfl, rfl, h0, r0⟩ := trodAll_cons hA
  obtain ⟨v1, vs1, d1, ds1, p1, q1, rfl, rfl, rfl, h1, r1⟩ := trodAll_cons r0
  obtain ⟨v2, vs2, d2, ds2, p2, q2, rfl, rfl, rfl, h2, r2⟩ := trodAll_cons r1
  obtain ⟨rfl, rfl, rfl⟩ := trodAll_nil r2
  obtain rfl : args = #[v0, v1, v2] := by cases args; simp_all
  obtain ⟨rfl, rfl⟩ := trodVars_none hV
  have k0 := h0
  have lt0 : ∀ x ∈ p0, x.block < W.heap.size := by obtain ⟨m, hm⟩ := k0; exact DataW.trod_lt m _ _ _ hm
  obtain ⟨a0, len0, cap0, rfl⟩ := okWide_slice Try.underlying38 (hval 0 38 v0 rfl rfl)
  obtain ⟨A, cap, l, hv0, hc, hmx, hl, hw⟩ : ∃ (A : Option Addr) (cap : Nat) (l : List Op), [Value.slice a0 len0 cap0] = [.slice A l.length cap] ∧ l.length ≤ cap ∧ cap ≤ maxLen ∧ OpsIn W A l ∧ ∀ o ∈ l, o.wf := by
    obtain ⟨fuel, hf⟩ := h0
    exact open_ops hf
  injection hv0 with hv0 _
  injection hv0 with e1 e2 e3
  subst e1 e2 e3
  obtain ⟨i, rfl, rfl, rfl, w1⟩ := open_int Try.underlying3 (hval 1 3 v1 rfl rfl) h1
  obtain ⟨j, rfl, rfl, rfl, w2⟩ := open_int Try.underlying3 (hval 2 3 v2 rfl rfl) h2
  clear hA0 hval0 hsz0
  refine (AliasRounds_walk a0 l cap0 i j W hl hw hc).mono fun e W' ⟨he, bel⟩ => ?_
  subst he
  exact ⟨_, rfl, _, _, _, [], _, [], hW', trodAll_mk1 (shut_bool Try.underlying4 _), (trodAll_cons_mk (Below.trod laidOut (by kernel_rfl) (of_decide_eq_true (by kernel_rfl)) k0 bel lt0) (trodAll_cons_mk (shut_int Try.underlying3 w1) (trodAll_cons_mk (shut_int Try.underlying3 w2) trodAll_mk0))), rfl, bel.frame _, fun h => by cases h⟩
theorem over : Rows.aliasRoundsRow.holds Try.pinned (OpenSpec.ofChange Rows.aliasRoundsSpec) :=
  OpenClaim.holds_of_wide 7 Try.f7 rfl rfl rfl rfl rfl rfl rfl ⟨rfl, rfl, rfl, rfl, rfl⟩ rfl rfl rfl rfl rfl (by kernel_rfl) Try.func7 (by kernel_rfl)
    (of_decide_eq_true (by kernel_rfl)) (by unfold Func.isWrapper; first | (rw [if_pos (by decide +kernel)]; kernel_rfl) | (rw [if_neg (by decide +kernel)]; exact ⟨rfl, rfl⟩))
    (fun os started H enc _ => lifted os started H enc)
end aliasRounds
theorem aliasRounds_holds : Rows.AliasRoundsSaid := aliasRounds.over
end Go.Proofs.Ytcibkoodnfkogaa
