/- Dependences: the document's small functions. -/
import Derived.Test.YtcibkoodnfkogaaD10
import Derived.Test.YtcibkoodnfkogaaRr
namespace Go.Proofs.Ytcibkoodnfkogaa
open Go.RowKit
set_option linter.unusedVariables false
set_option linter.unusedSimpArgs false
/-- Who was last to write register r ahead of place n: its place and 1, or 0. -/
def lastR (l : List Op) (n : Nat) (r : Int) : Int := (lastT l n)[r.toNat]?.getD 0
def hitB (o : Op) (r : Int) : Bool := wrB o && wrN o == r
theorem wrN_d {o : Op} (h : wrB o = true) : wrN o = o.d := by unfold wrN; rw [h]; rfl
theorem d_bd {o : Op} (hw : o.wf) (h : wrB o = true) : 0 ≤ o.d ∧ o.d ≤ 31 := ⟨hw.d0, (chk_regs (wrB_chk h)).1⟩
theorem lastR_step {l : List Op} {n : Nat} (hn : n < l.length) (hw : ∀ o ∈ l, o.wf) {r : Int} (hr0 : 0 ≤ r) (hr1 : r ≤ 31) : lastR l (n + 1) r = if hitB l[n] r then (n : Int) + 1 else lastR l n r := by
  unfold lastR hitB
  rw [lastT, List.getElem?_eq_getElem hn]
  cases h : wrB l[n] with
  | false => simp only [h, if_false, Bool.false_eq_true, Bool.false_and]
  | true =>
    obtain ⟨hd0, hd1⟩ := d_bd (hw _ (List.getElem_mem hn)) h
    rw [wrN_d h]
    simp only [h, if_true, Bool.true_and]
    by_cases e : l[n].d = r
    · rw [e, if_pos (by simp), List.getElem?_set_self (by rw [lastT_len]; omega)]
      rfl
    · rw [if_neg (by simpa using e), List.getElem?_set_ne (by omega)]
theorem lastR_zero (l : List Op) (r : Int) : lastR l 0 r = 0 := by
  unfold lastR lastT
  rw [List.getElem?_replicate]
  split <;> rfl
theorem lastR_bd {l : List Op} {n : Nat} (hn : n ≤ l.length) (r : Int) : 0 ≤ lastR l n r ∧ lastR l n r ≤ l.length := by
  unfold lastR
  cases h : (lastT l n)[r.toNat]? with
  | none => exact ⟨Int.le_refl _, by simp⟩
  | some x => exact lastT_bd l n hn x (List.mem_of_getElem? h)
theorem openT_eq {l : List Op} (hw : ∀ o ∈ l, o.wf) {r : Int} (hr0 : 0 ≤ r) (hr1 : r ≤ 31) : ∀ (j : Nat), j ≤ l.length → (openT l j)[r.toNat]?.getD 0 = if lastR l j r - 1 < 0 then lastR l l.length r else 0
  | 0, _ => by rw [lastR_zero, if_pos (by omega)]; rfl
  | j + 1, hj => by
    have hn : j < l.length := by omega
    have ih := openT_eq hw hr0 hr1 j (by omega)
    have hb := lastR_bd (l := l) (n := j) (by omega) r
    rw [openT, List.getElem?_eq_getElem hn, lastR_step hn hw hr0 hr1]
    unfold hitB
    cases h : wrB l[j] with
    | false => simp only [h, if_false, Bool.false_eq_true, Bool.false_and]; exact ih
    | true =>
      obtain ⟨hd0, hd1⟩ := d_bd (hw _ (List.getElem_mem hn)) h
      rw [wrN_d h]
      simp only [h, if_true, Bool.true_and]
      by_cases e : l[j].d = r
      · rw [e, List.getElem?_set_self (by rw [openT_len]; omega), if_pos (show (r == r) = true by simp), if_neg (by omega)]
        rfl
      · rw [List.getElem?_set_ne (by omega), if_neg (show ¬ (l[j].d == r) = true by simpa using e)]
        exact ih
set_option maxHeartbeats 4000000 in
set_option maxRecDepth 100000 in
theorem rlat_any (o : Op) (t : List Int) (w : World) (ht : t.length = 13) :
    Calls Try.prog 94 #[o.val, tabV t] w fun e w' => e = .returned (.int .i64 (latE t o)) ∧ Below w.heap.size w w' := by
  have C1 := hid (fun w => rclass_any o.k w)
  obtain ⟨c, hc, hcl⟩ := clsN_nat o.k
  have e : latE t o = t[4 + c]?.getD 0 := by unfold latE; rw [hcl]; rfl
  rw [e]
  rw [hcl] at C1
  clear e hcl
  obtain ⟨k, d, a, b, n⟩ := o
  obtain ⟨t0, t1, t2, t3, t4, t5, t6, t7, t8, t9, t10, t11, t12, rfl⟩ := tab13 ht
  show Calls _ _ #[.agg #[.int .i8 k, .int .u8 d, .int .u8 a, .int .u8 b, .int .i64 n], .agg #[.int .i64 t0, .int .i64 t1, .int .i64 t2, .int .i64 t3, .int .i64 t4, .int .i64 t5, .int .i64 t6, .int .i64 t7, .int .i64 t8, .int .i64 t9, .int .i64 t10, .int .i64 t11, .int .i64 t12]] w _
  have hq : Hid (∀ W : World, W.cell? ⟨w.heap.size + 1, 4, none⟩ = some (.int .i64 t4) → W.cell? ⟨w.heap.size + 1, 5, none⟩ = some (.int .i64 t5) → W.cell? ⟨w.heap.size + 1, 6, none⟩ = some (.int .i64 t6) → W.cell? ⟨w.heap.size + 1, 7, none⟩ = some (.int .i64 t7) → W.cell? ⟨w.heap.size + 1, 4 + c, none⟩ = some (.int .i64 ([t0, t1, t2, t3, t4, t5, t6, t7, t8, t9, t10, t11, t12][4 + c]?.getD 0))) := hid (by
    intro W h4 h5 h6 h7
    rcases (by omega : c = 0 ∨ c = 1 ∨ c = 2 ∨ c = 3) with rfl | rfl | rfl | rfl <;> assumption)
  generalize [t0, t1, t2, t3, t4, t5, t6, t7, t8, t9, t10, t11, t12][4 + c]?.getD 0 = q at *
  clear ht
  go_enter Try.func94, Try.ntmps94
  go_wp2_with fail
  with_reducible refine (C1.out _).mono ?_
  rintro e w1 ⟨rfl, hb⟩
  have B1 := hid (btrans (a := w) (by ((with_reducible (repeat (first | assumption | exact Below.refl _ _ | refine bset ?_ (Nat.le_refl _) _ | refine balloc ?_ _ | refine bdrew ?_ | refine bdrewN ?_ _))); done)) hb)
  have hz := hq.out _ (cell_keep (by simp) hb) (cell_keep (by simp) hb) (cell_keep (by simp) hb) (cell_keep (by simp) hb)
  clear hb
  go_wp2
  go_ret
  exact ⟨rfl, B1.out⟩
set_option maxHeartbeats 4000000 in
set_option maxRecDepth 100000 in
theorem rwr_any (o : Op) (r : Int) (w : World) : Calls Try.prog 123 #[o.val, .int .u8 r] w fun e w' => e = .returned (.bool (hitB o r)) ∧ Below w.heap.size w w' := by
  have C1 := hid (fun w => rwrites_any o w)
  unfold hitB
  generalize wrB o = x at *
  generalize wrN o = y at *
  obtain ⟨k, d, a, b, n⟩ := o
  cases x with
  | false =>
    go_enter Try.func123, Try.ntmps123
    go_wp2_with fail
    with_reducible refine (C1.out _).mono ?_
    rintro e w1 ⟨rfl, hb⟩
    have B1 := hid (btrans (a := w) (by ((with_reducible (repeat (first | assumption | exact Below.refl _ _ | refine bset ?_ (Nat.le_refl _) _ | refine balloc ?_ _ | refine bdrew ?_ | refine bdrewN ?_ _))); done)) hb)
    clear hb
    go_wp2
    go_ret
    exact ⟨rfl, B1.out⟩
  | true =>
    go_enter Try.func123, Try.ntmps123
    go_wp2_with fail
    with_reducible refine (C1.out _).mono ?_
    rintro e w1 ⟨rfl, hb⟩
    have B1 := hid (btrans (a := w) (by ((with_reducible (repeat (first | assumption | exact Below.refl _ _ | refine bset ?_ (Nat.le_refl _) _ | refine balloc ?_ _ | refine bdrew ?_ | refine bdrewN ?_ _))); done)) hb)
    clear hb
    go_wp2
    go_ret
    exact ⟨rfl, B1.out⟩
set_option maxHeartbeats 4000000 in
set_option maxRecDepth 100000 in
theorem reff_any (o : Op) (w : World) : Calls Try.prog 124 #[o.val] w fun e w' => e = .returned (.bool (effB o.k)) ∧ Below w.heap.size w w' := by
  obtain ⟨k, d, a, b, n⟩ := o
  show Calls _ _ _ _ fun e w' => e = .returned (.bool (effB k)) ∧ Below w.heap.size w w'
  unfold effB
  cases h1 : (k == 17) with
  | true =>
    go_enter Try.func124, Try.ntmps124
    go_wp2
    go_ret
    refine ⟨rfl, ?_⟩
    ((with_reducible (repeat (first | assumption | exact Below.refl _ _ | refine bset ?_ (Nat.le_refl _) _ | refine balloc ?_ _ | refine bdrew ?_ | refine bdrewN ?_ _))); done)
  | false =>
    cases h2 : (k == 13) with
    | true =>
      go_enter Try.func124, Try.ntmps124
      go_wp2
      go_ret
      refine ⟨rfl, ?_⟩
      ((with_reducible (repeat (first | assumption | exact Below.refl _ _ | refine bset ?_ (Nat.le_refl _) _ | refine balloc ?_ _ | refine bdrew ?_ | refine bdrewN ?_ _))); done)
    | false =>
      cases h3 : (k == 14) with
      | true =>
        go_enter Try.func124, Try.ntmps124
        go_wp2
        go_ret
        refine ⟨rfl, ?_⟩
        ((with_reducible (repeat (first | assumption | exact Below.refl _ _ | refine bset ?_ (Nat.le_refl _) _ | refine balloc ?_ _ | refine bdrew ?_ | refine bdrewN ?_ _))); done)
      | false =>
        go_enter Try.func124, Try.ntmps124
        go_wp2
        go_ret
        refine ⟨rfl, ?_⟩
        ((with_reducible (repeat (first | assumption | exact Below.refl _ _ | refine bset ?_ (Nat.le_refl _) _ | refine balloc ?_ _ | refine bdrew ?_ | refine bdrewN ?_ _))); done)
set_option maxHeartbeats 4000000 in
set_option maxRecDepth 100000 in
theorem rsays_any (o : Op) (r : Int) (w : World) : Calls Try.prog 122 #[o.val, .int .u8 r] w fun e w' => e = .returned (.bool (seesB o r)) ∧ Below w.heap.size w w' := by
  have C1 := hid (fun w => rrd_any o w)
  unfold seesB
  have hlen := rds_len o
  generalize rds o = L at *
  obtain ⟨k, d, a, b, n⟩ := o
  go_enter Try.func122, Try.ntmps122
  go_wp2_with fail
  with_reducible refine (C1.out _).mono ?_
  rintro e w1 ⟨Ai, ci, rfl, hu, hb⟩
  have B1 := hid (btrans (a := w) (by ((with_reducible (repeat (first | assumption | exact Below.refl _ _ | refine bset ?_ (Nat.le_refl _) _ | refine balloc ?_ _ | refine bdrew ?_ | refine bdrewN ?_ _))); done)) hb)
  have HU := hid hu
  clear hb hu C1
  go_wp2
  go_loopg [6] L.length (fun gk v6 wr => ∃ k : Nat, k ≤ L.length ∧ v6 = .int .i64 k ∧ Hid (gk + k = L.length) ∧ Hid (Below w1.heap.size w1 wr) ∧ Hid (∀ m x, m < k → L[m]? = some x → (x == r) = false))
  case atStart => exact ⟨0, by omega, rfl, by exact Nat.add_zero _, hid (Below.refl _ _), hid (fun m x hm => absurd hm (Nat.not_lt_zero _))⟩
  case round =>
    obtain ⟨k, hk, rfl, hgk, hbk, hall⟩ := hrel
    by_cases hk2 : k < L.length
    · obtain ⟨gi, oi, rfl, _, _, hc⟩ := HU.out (by rintro rfl; simp at hk2)
      have hx := cell_keep (hc k L[k] (List.getElem?_eq_getElem hk2)) hbk.out
      have HX := hid (List.getElem?_eq_getElem hk2)
      generalize L[k] = x at *
      clear hc
      cases hxr : (x == r) with
      | true =>
        have e : L.any (fun x => x == r) = true := List.any_eq_true.2 ⟨x, List.mem_of_getElem? HX.out, hxr⟩
        replace e := hid e
        go_wp2
        go_ret
        exact ⟨ret_bool e.out.symm, btrans B1.out hbk.out⟩
      | false =>
        go_wp2
        go_roundg (L.length - (k + 1))
        case measure => have := hgk.out; omega
        case rel =>
          refine ⟨k + 1, by omega, by go_num, by show _ + _ = _; omega, hbk, hid fun m y hm hy => ?_⟩
          by_cases hmk : m < k
          · exact hall.out m y hmk hy
          · obtain rfl : m = k := by omega
            rw [HX.out] at hy
            injection hy with hy
            subst hy
            exact hxr
    · obtain rfl : k = L.length := by omega
      have e : L.any (fun x => x == r) = false := by
        rw [List.any_eq_false]
        intro x hx
        obtain ⟨m, hm⟩ := List.getElem?_of_mem hx
        have := hall.out m x (List.getElem?_eq_some_iff.1 hm).1 hm
        simpa using this
      replace e := hid e
      go_wp2
      go_ret
      exact ⟨ret_bool e.out.symm, btrans B1.out hbk.out⟩
set_option maxHeartbeats 4000000 in
set_option maxRecDepth 100000 in
theorem rlast_any (A : Option Addr) (l : List Op) (cap : Nat) (n : Nat) (r : Int) (w : World) (HL : OpsIn w A l) (hwf : ∀ o ∈ l, o.wf) (hn : n ≤ l.length) (hm : l.length ≤ 1024) (hr0 : 0 ≤ r) (hr1 : r ≤ 31) :
    Calls Try.prog 121 #[.slice A l.length cap, .int .i64 n, .int .u8 r] w fun e w' => e = .returned (.int .i64 (lastR l n r - 1)) ∧ Below w.heap.size w w' := by
  have CW := hid (fun (w : World) (o : Op) => rwr_any o r w)
  have ST := hid (fun (n : Nat) (hn : n < l.length) => lastR_step hn hwf hr0 hr1)
  have HL' := hid HL
  clear HL hwf hr0 hr1
  go_enter Try.func121, Try.ntmps121
  go_wp2
  go_loopg [7] n (fun gk v7 wr => ∃ m : Nat, m ≤ n ∧ v7 = .int .i64 ((m : Int) - 1) ∧ Hid (gk = m) ∧ Hid (Below w.heap.size w wr) ∧ Hid (lastR l n r = lastR l m r))
  case atStart => exact ⟨n, Nat.le_refl _, rfl, hid rfl, hid (Below.refl _ _), hid rfl⟩
  case round =>
    obtain ⟨m, hmn, rfl, hgk, hbk, heq⟩ := hrel
    rcases m with _ | m
    · have e : Hid (lastR l n r - 1 = -1) := hid (by rw [heq.out, lastR_zero]; rfl)
      go_wp2
      go_ret
      exact ⟨ret_int e.out.symm, hbk.out⟩
    · have hml : m < l.length := by omega
      obtain ⟨go, off, rfl, hop⟩ := (HL'.out.keep hbk.out).get m hml
      obtain ⟨p0, p1, p2, p3, p4⟩ := hop
      have em : ((m + 1 : Nat) : Int) - 1 = (m : Int) := by omega
      rw [em]
      have STM := hid (ST.out m hml)
      cases hh : hitB l[m] r with
      | true =>
        have e : Hid (lastR l n r - 1 = (m : Int)) := hid (by rw [heq.out, STM.out, hh, if_pos rfl]; omega)
        go_wp2_with fail
        with_reducible refine (CW.out _ _).mono ?_
        rintro e w1 ⟨rfl, hb⟩
        rw [hh]
        have B1 := hid (btrans hbk.out hb)
        clear hb
        go_wp2
        go_ret
        exact ⟨ret_int e.out.symm, B1.out⟩
      | false =>
        have e : Hid (lastR l n r = lastR l m r) := hid (by rw [heq.out, STM.out, hh]; rfl)
        go_wp2_with fail
        with_reducible refine (CW.out _ _).mono ?_
        rintro e w1 ⟨rfl, hb⟩
        rw [hh]
        have B1 := hid (btrans hbk.out hb)
        clear hb
        go_wp2
        go_roundg m
        case measure => have := hgk.out; omega
        case rel => exact ⟨m, by omega, by go_num, rfl, B1, e⟩
end Go.Proofs.Ytcibkoodnfkogaa
