/- deps.Right, deps.Of, deps.Loop. -/
import Derived.Test.YtcibkoodnfkogaaD8
namespace Go.Proofs.Ytcibkoodnfkogaa
open Go.RowKit
set_option linter.unusedVariables false
set_option linter.unusedSimpArgs false
theorem depOk_no {l : List Op} {i : Nat} (hi : i < l.length) (h : depOk l[i] = false) : l.all depOk = false := by
  rw [Bool.eq_false_iff]
  intro e
  have := List.all_eq_true.1 e l[i] (List.getElem_mem hi)
  rw [h] at this
  cases this
set_option maxHeartbeats 4000000 in
set_option maxRecDepth 100000 in
theorem right_any (A : Option Addr) (l : List Op) (cap : Nat) (t : List Int) (w : World) (HL : OpsIn w A l) (hwf : ∀ o ∈ l, o.wf) (hm : l.length ≤ 1000000000000000000) (ht : t.length = 13) :
    Calls Try.prog 89 #[.slice A l.length cap, tabV t] w fun e w' => e = .returned (.int .i64 (depE l t)) ∧ Below w.heap.size w w' := by
  have CC := hid (fun (w : World) (o : Op) (ho : o ∈ l) => check_any o w (hwf o ho))
  have HL' := hid HL
  clear HL hwf
  obtain ⟨t0, t1, t2, t3, t4, t5, t6, t7, t8, t9, t10, t11, t12, rfl⟩ := tab13 ht
  have CT : Hid (∀ w : World, Calls Try.prog 67 #[.agg #[.int .i64 t0, .int .i64 t1, .int .i64 t2, .int .i64 t3, .int .i64 t4, .int .i64 t5, .int .i64 t6, .int .i64 t7, .int .i64 t8, .int .i64 t9, .int .i64 t10, .int .i64 t11, .int .i64 t12]] w fun e w' => e = .returned (.int .i64 (tabE [t0, t1, t2, t3, t4, t5, t6, t7, t8, t9, t10, t11, t12])) ∧ Below w.heap.size w w') := hid fun w => tcheck_any _ w rfl
  show Calls _ _ #[.slice A l.length cap, .agg #[.int .i64 t0, .int .i64 t1, .int .i64 t2, .int .i64 t3, .int .i64 t4, .int .i64 t5, .int .i64 t6, .int .i64 t7, .int .i64 t8, .int .i64 t9, .int .i64 t10, .int .i64 t11, .int .i64 t12]] w _
  generalize [t0, t1, t2, t3, t4, t5, t6, t7, t8, t9, t10, t11, t12] = t at CT ⊢
  clear ht
  cases htk : tabOk t with
  | false =>
    have e1 : tabE t = 20 := by unfold tabE; rw [htk]; rfl
    have e2 : depE l t = 20 := by unfold depE; rw [htk]; rfl
    rw [e1] at CT
    rw [e2]
    clear e1 e2 htk
    go_enter Try.func89, Try.ntmps89
    go_wp2_with fail
    with_reducible refine (CT.out _).mono ?_
    rintro e w1 ⟨rfl, hb⟩
    have B1 := hid (btrans (a := w) (by ((with_reducible (repeat (first | assumption | exact Below.refl _ _ | refine bset ?_ (Nat.le_refl _) _ | refine balloc ?_ _ | refine bdrew ?_ | refine bdrewN ?_ _))); done)) hb)
    clear hb
    go_wp2
    go_ret
    exact ⟨rfl, B1.out⟩
  | true =>
    have e1 : tabE t = 0 := by unfold tabE; rw [htk]; rfl
    rw [e1] at CT
    clear e1
    by_cases h1 : 1024 < l.length
    · have e2 : depE l t = 3 := by unfold depE; rw [htk, if_pos rfl, if_pos h1]
      rw [e2]
      clear e2 htk
      have h1i : (1024 : Int) < (l.length : Int) := by omega
      go_enter Try.func89, Try.ntmps89
      go_wp2_with fail
      with_reducible refine (CT.out _).mono ?_
      rintro e w1 ⟨rfl, hb⟩
      have B1 := hid (btrans (a := w) (by ((with_reducible (repeat (first | assumption | exact Below.refl _ _ | refine bset ?_ (Nat.le_refl _) _ | refine balloc ?_ _ | refine bdrew ?_ | refine bdrewN ?_ _))); done)) hb)
      clear hb
      go_wp2
      go_ret
      exact ⟨rfl, B1.out⟩
    · have e2 : depE l t = if l.all depOk then 0 else 30 := by unfold depE; rw [htk, if_pos rfl, if_neg h1]
      rw [e2]
      generalize hR : (if l.all depOk then (0 : Int) else 30) = R
      have HR := hid hR
      clear e2 htk hR
      have h1i : ¬ (1024 : Int) < (l.length : Int) := by omega
      go_enter Try.func89, Try.ntmps89
      go_wp2_with fail
      with_reducible refine (CT.out _).mono ?_
      rintro e w1 ⟨rfl, hb⟩
      have B1 := hid (btrans (a := w) (by ((with_reducible (repeat (first | assumption | exact Below.refl _ _ | refine bset ?_ (Nat.le_refl _) _ | refine balloc ?_ _ | refine bdrew ?_ | refine bdrewN ?_ _))); done)) hb)
      clear hb
      go_wp2
      go_loopg [18] l.length (fun gk v18 wr => ∃ i : Nat, i ≤ l.length ∧ v18 = .int .i64 i ∧ Hid (gk + i = l.length) ∧ Hid (Below w.heap.size w wr) ∧ Hid (∀ k, (hk : k < l.length) → k < i → depOk l[k] = true))
      case atStart => exact ⟨0, by omega, rfl, by exact Nat.add_zero _, B1, hid (fun k _ hk => absurd hk (Nat.not_lt_zero _))⟩
      case round =>
        obtain ⟨i, hi, rfl, hgk, hbi, hall⟩ := hrel
        clear B1
        by_cases hlt : i < l.length
        · obtain ⟨go, off, rfl, hop⟩ := (HL'.out.keep hbi.out).get i hlt
          obtain ⟨p0, p1, p2, p3, p4⟩ := hop
          have hb0 := hid hbi.out
          have HALL := hall
          clear hall
          have NO : ∀ (h : depOk l[i] = false), R = 30 := fun h => by rw [← HR.out, depOk_no hlt h]; rfl
          have hck := fun w => CC.out w l[i] (List.getElem_mem hlt)
          by_cases h1 : l[i].k < 1
          · have e0 := hid (NO (by unfold depOk; rw [decide_eq_false (by omega)]; rfl))
            clear NO hck HALL
            go_wp2
            go_ret
            refine ⟨ret_int e0.out.symm, ?_⟩
            exact btrans hb0.out (by ((with_reducible (repeat (first | assumption | exact Below.refl _ _ | refine bset ?_ (Nat.le_refl _) _ | refine balloc ?_ _ | refine bdrew ?_ | refine bdrewN ?_ _))); done))
          by_cases h2 : 17 < l[i].k
          · have e0 := hid (NO (by unfold depOk; rw [decide_eq_false (show ¬ l[i].k ≤ 17 by omega), Bool.and_false]; rfl))
            clear NO hck HALL
            go_wp2
            go_ret
            refine ⟨ret_int e0.out.symm, ?_⟩
            exact btrans hb0.out (by ((with_reducible (repeat (first | assumption | exact Below.refl _ _ | refine bset ?_ (Nat.le_refl _) _ | refine balloc ?_ _ | refine bdrew ?_ | refine bdrewN ?_ _))); done))
          cases h3 : chk l[i]
          · have e0 := hid (NO (by unfold depOk; rw [h3, Bool.and_false]))
            have e1 : chkE l[i] = 30 := by unfold chkE; rw [h3]; rfl
            rw [e1] at hck
            have HC := hid hck
            clear NO hck HALL e1 h3
            go_wp2_with fail
            with_reducible refine (HC.out _).mono ?_
            rintro e w3 ⟨rfl, hb⟩
            have B3 := hid (btrans hb0.out (btrans (a := wr) (by ((with_reducible (repeat (first | assumption | exact Below.refl _ _ | refine bset ?_ (Nat.le_refl _) _ | refine balloc ?_ _ | refine bdrew ?_ | refine bdrewN ?_ _))); done)) hb))
            clear hb
            go_wp2
            go_ret
            exact ⟨ret_int e0.out.symm, B3.out⟩
          · have e0 := hid (show depOk l[i] = true by unfold depOk; rw [h3, decide_eq_true (by omega), decide_eq_true (show l[i].k ≤ 17 by omega)]; rfl)
            have e1 : chkE l[i] = 0 := by unfold chkE; rw [h3]; rfl
            rw [e1] at hck
            have HC := hid hck
            clear NO hck e1 h3
            go_wp2_with fail
            with_reducible refine (HC.out _).mono ?_
            rintro e w3 ⟨rfl, hb⟩
            have B3 := hid (btrans hb0.out (btrans (a := wr) (by ((with_reducible (repeat (first | assumption | exact Below.refl _ _ | refine bset ?_ (Nat.le_refl _) _ | refine balloc ?_ _ | refine bdrew ?_ | refine bdrewN ?_ _))); done)) hb))
            clear hb
            go_wp2
            go_roundg (l.length - (i + 1))
            case measure => have := hgk.out; omega
            case rel =>
              refine ⟨i + 1, by omega, by go_num, by show _ + _ = _; omega, B3, hid fun k hk hki => ?_⟩
              by_cases e : k < i
              · exact HALL.out k hk e
              · obtain rfl : k = i := by omega
                exact e0.out
        · obtain rfl : i = l.length := by omega
          have e : Hid (R = 0) := hid (by
            rw [← HR.out, if_pos]
            rw [List.all_eq_true]
            intro x hx
            obtain ⟨m, hm, rfl⟩ := List.getElem_of_mem hx
            exact hall.out m hm hm)
          go_wp2
          go_ret
          exact ⟨ret_int e.out.symm, hbi.out⟩
end Go.Proofs.Ytcibkoodnfkogaa
