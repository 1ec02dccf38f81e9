/- What is written is read as it was: the walk. -/
import Derived.Test.YtcibkoodnfkogaaBuP
import Derived.Test.YtcibkoodnfkogaaBuW
namespace Go.Proofs.Ytcibkoodnfkogaa
open Go.RowKit
set_option linter.unusedVariables false
set_option linter.unusedSimpArgs false
theorem encL_bd {l : List (Nat → List Op)} {t : List Int} (hw : ∀ b ∈ l, BunWf b) (h : encE l t = 0) : ∀ x ∈ encL t l, 0 ≤ x ∧ x ≤ 18446744073709551615 := fun x hx => by
  obtain ⟨h1, h2, h3⟩ := encE_zero h
  obtain ⟨b, hb, hx⟩ := List.mem_flatMap.1 hx
  unfold rowsW at hx
  obtain ⟨j, hj, hx⟩ := List.mem_flatMap.1 hx
  have hj := List.mem_range.1 hj
  unfold rowW at hx
  rcases List.mem_append.1 hx with hx | hx
  · obtain ⟨o, ho, rfl⟩ := List.mem_map.1 hx
    have := wordN_bd ((hw b hb j hj).1 o ho) (opC_chk (right_op (h3 b hb) j hj o ho))
    omega
  · have := (List.mem_replicate.1 hx).2
    omega
theorem encL_small {l : List (Nat → List Op)} {t : List Int} (h : encE l t = 0) : (encL t l).length ≤ 2097152 := by
  have h1 := encL_length h
  obtain ⟨h2, h3, _⟩ := encE_zero h
  have h4 := sumU_bd h2 4 (by omega)
  rw [← tabW_sum h2] at h4
  have : l.length * (tabW t).toNat ≤ 65536 * 32 := Nat.mul_le_mul h3 (by omega)
  omega
set_option maxHeartbeats 4000000 in
set_option maxRecDepth 100000 in
theorem BundleBack_walk (A : Option Addr) (l : List (Nat → List Op)) (c : Nat) (t : List Int) (w : World) (hl : BunsIn w A l) (hw : ∀ b ∈ l, BunWf b) (hc : l.length ≤ c) (hmx : c ≤ 1466015503700) (ht : t.length = 13) (_ : ∀ n ∈ t, -9223372036854775808 ≤ n ∧ n ≤ 9223372036854775807) :
    Calls Try.prog 12 #[.slice A l.length c, .agg (t.map (Value.int .i64)).toArray] w fun e w' => e = .returned (.bool true) ∧ Below w.heap.size w w' := by
  have C1 := hid (fun (w : World) (h : BunsIn w A l) => encode_any A l c t w h hw ht (by omega))
  have C2 := hid (fun (w : World) => width_any t w ht)
  have CW := hid (fun w => wakes19_any w)
  have HL := hid hl
  have hV : Value.agg (t.map (Value.int .i64)).toArray = tabX (t[(0 : Nat)]?.getD 0) (t[(1 : Nat)]?.getD 0) (t[(2 : Nat)]?.getD 0) (t[(3 : Nat)]?.getD 0) (t[(4 : Nat)]?.getD 0) (t[(5 : Nat)]?.getD 0) (t[(6 : Nat)]?.getD 0) (t[(7 : Nat)]?.getD 0) (t[(8 : Nat)]?.getD 0) (t[(9 : Nat)]?.getD 0) (t[(10 : Nat)]?.getD 0) (t[(11 : Nat)]?.getD 0) (t[(12 : Nat)]?.getD 0) := tabV_X ht
  rw [tabV_X ht] at C1 C2
  rw [hV]
  clear hV
  have hbox := hid (fun w T => TabIn.boxW ht w T)
  have C3 : Hid (∀ (w : World) (A : Option Addr) (ws : List Int) (cap : Nat), WordsIn w A ws → (∀ x ∈ ws, 0 ≤ x ∧ x ≤ 18446744073709551615) → ws.length ≤ cap → cap ≤ 9223372036854775807 → Calls Try.prog 48 #[.slice A ws.length cap, tabX (t[(0 : Nat)]?.getD 0) (t[(1 : Nat)]?.getD 0) (t[(2 : Nat)]?.getD 0) (t[(3 : Nat)]?.getD 0) (t[(4 : Nat)]?.getD 0) (t[(5 : Nat)]?.getD 0) (t[(6 : Nat)]?.getD 0) (t[(7 : Nat)]?.getD 0) (t[(8 : Nat)]?.getD 0) (t[(9 : Nat)]?.getD 0) (t[(10 : Nat)]?.getD 0) (t[(11 : Nat)]?.getD 0) (t[(12 : Nat)]?.getD 0)] w (DecP t ws w)) := hid fun w A ws cap h1 h2 h3 h4 => by
    have := decode_any A ws cap t w h1 h2 h3 h4 ht
    rw [tabV_X ht] at this
    exact this
  have hlc : (l.length : Int) ≤ 1466015503700 := by omega
  by_cases hE : encE l t = 0
  case neg =>
    clear hl hw hc hmx ht
    go_enter Try.func12, Try.ntmps12
    go_wp2_with fail
    refine (C1.out _ (BunsIn.keep (w := w) HL.out ?_)).mono ?_
    · ((with_reducible (repeat (first | assumption | exact Below.refl _ _ | refine bset ?_ (Nat.le_refl _) _ | refine balloc ?_ _ | refine bdrew ?_ | refine bdrewN ?_ _))); done)
    rintro e w1 ⟨v, rfl, hb, hv, _⟩
    obtain rfl := hv hE
    have B1 := hid (btrans (a := w) (by ((with_reducible (repeat (first | assumption | exact Below.refl _ _ | refine bset ?_ (Nat.le_refl _) _ | refine balloc ?_ _ | refine bdrew ?_ | refine bdrewN ?_ _))); done)) hb)
    clear hb hv
    go_wp2_with fail
    with_reducible refine (CW.out _).mono ?_
    rintro e w2 ⟨rfl, hb⟩
    go_wp2_with fail
    go_ret
    exact ⟨rfl, btrans B1.out hb⟩
  have hbd := hid (encL_bd hw hE)
  have hsm := encL_small hE
  have hlen := encL_length hE
  have hde := hid (fun h => dec_enc hw hE h)
  have hWb := sumU_bd (encE_zero hE).1 4 (by omega)
  rw [← tabW_sum (encE_zero hE).1] at hWb
  have hww := hid (fun (x : Nat → List Op) (hx : x ∈ l) j (hj : j < 4) => (hw x hx j hj).2)
  generalize hws : encL t l = ws at hbd hsm hlen hde
  obtain ⟨W, hW⟩ : ∃ W : Nat, tabW t = W := ⟨(tabW t).toNat, by omega⟩
  rw [hW, Int.toNat_natCast] at hlen
  have hW32 : W ≤ 32 := by omega
  have l6 := (encE_zero hE).2.1
  have hlenI : (ws.length : Int) = (l.length : Int) * (W : Int) := by rw [← Int.natCast_mul, hlen]
  rw [hW] at C2
  have HW2 := hid hW
  have HWS := hid hws
  have HLEN := hid hlen
  have HLI := hid hlenI
  have hE' := hid hE
  clear hl hw hc hmx ht hW hlen hWb hws hlenI hE
  go_enter Try.func12, Try.ntmps12
  go_wp2_with fail
  refine (C1.out _ (BunsIn.keep (w := w) HL.out ?_)).mono ?_
  · ((with_reducible (repeat (first | assumption | exact Below.refl _ _ | refine bset ?_ (Nat.le_refl _) _ | refine balloc ?_ _ | refine bdrew ?_ | refine bdrewN ?_ _))); done)
  rintro e w1 ⟨v, rfl, hb, _, hown⟩
  have hown2 := hown hE'.out
  rw [HWS.out] at hown2
  rw [hE'.out]
  obtain ⟨A2, cap2, rfl, hwi, hc2, hm2, _⟩ := own_slice hown2
  have HWI := hid hwi
  have B1 := hid (btrans (a := w) (by ((with_reducible (repeat (first | assumption | exact Below.refl _ _ | refine bset ?_ (Nat.le_refl _) _ | refine balloc ?_ _ | refine bdrew ?_ | refine bdrewN ?_ _))); done)) hb)
  have TT := hid ((hbox.out w 28).keep hb)
  unfold maxLen at hm2
  clear hb hown hown2 hwi hbox
  have k0 := TT.out 0 (by omega)
  have k1 := TT.out 1 (by omega)
  have k2 := TT.out 2 (by omega)
  have k3 := TT.out 3 (by omega)
  have k4 := TT.out 4 (by omega)
  have k5 := TT.out 5 (by omega)
  have k6 := TT.out 6 (by omega)
  have k7 := TT.out 7 (by omega)
  have k8 := TT.out 8 (by omega)
  have k9 := TT.out 9 (by omega)
  have k10 := TT.out 10 (by omega)
  have k11 := TT.out 11 (by omega)
  have k12 := TT.out 12 (by omega)
  go_wp2_with fail
  with_reducible refine (C2.out _).mono ?_
  rintro e w2 ⟨rfl, hb⟩
  have B2 := hid (btrans B1.out hb)
  have T2 := hid (TT.out.keep hb)
  have W2 := hid (HWI.out.keep hb)
  clear hb k0 k1 k2 k3 k4 k5 k6 k7 k8 k9 k10 k11 k12
  by_cases hW0 : W = 0
  · have hwi : ((W : Int) == 0) = true := by rw [hW0]; rfl
    have hz : ws.length = 0 := by have := HLEN.out; rw [hW0, Nat.mul_zero] at this; exact this
    have hzi : ((ws.length : Int) == 0) = true := by rw [hz]; rfl
    clear hW0 hz
    go_wp2_with fail
    with_reducible refine (CW.out _).mono ?_
    rintro e w3 ⟨rfl, hb⟩
    go_wp2_with fail
    go_ret
    exact ⟨rfl, btrans B2.out hb⟩
  have hwi : ((W : Int) == 0) = false := by rw [Bool.eq_false_iff]; intro h; have := eq_of_beq h; omega
  have hd0 := hde.out (by rw [HW2.out]; omega)
  have HD1 := hid hd0.1
  have HD2 := hid hd0.2
  clear hd0
  have k0 := T2.out 0 (by omega)
  have k1 := T2.out 1 (by omega)
  have k2 := T2.out 2 (by omega)
  have k3 := T2.out 3 (by omega)
  have k4 := T2.out 4 (by omega)
  have k5 := T2.out 5 (by omega)
  have k6 := T2.out 6 (by omega)
  have k7 := T2.out 7 (by omega)
  have k8 := T2.out 8 (by omega)
  have k9 := T2.out 9 (by omega)
  have k10 := T2.out 10 (by omega)
  have k11 := T2.out 11 (by omega)
  have k12 := T2.out 12 (by omega)
  have hC3 := hid (C3.out w2 A2 ws cap2 W2.out hbd.out hc2 (by omega))
  go_wp2_with fail
  refine hC3.out.mono ?_
  rintro e w3 ⟨A3, n3, c3, rfl, hb, _, hdd⟩
  obtain ⟨rfl, hn3, hc65, hbin, _⟩ := hdd HD1.out
  rw [HD1.out]
  have B3 := hid (btrans B2.out hb)
  have T3 := hid (T2.out.keep hb)
  have HB := hid hbin
  have hsl := hid HD2.out.1
  have hn6 : (decL t ws).length ≤ 65536 := by omega
  have hww2 : Hid (∀ x ∈ decL t ws, ∀ j, j < 4 → (x j).length ≤ 1000000000000000000) := hid (fun x hx j hj => by
    obtain ⟨i, hi, rfl⟩ := List.getElem_of_mem hx
    have := HD2.out.2 i _ _ (List.getElem?_eq_getElem hi) (List.getElem?_eq_getElem (by have := HD2.out.1; omega)) j hj
    rw [this]
    exact Nat.le_trans (hww.out _ (List.getElem_mem _) j hj) (by decide))
  clear hb hdd hbin k0 k1 k2 k3 k4 k5 k6 k7 k8 k9 k10 k11 k12 hC3
  go_wp2_with fail
  refine (same_yes A3 A (decL t ws) l c3 c w3 HB.out (HL.out.keep B3.out) HD2.out (by omega) hww2.out).mono ?_
  rintro e w4 ⟨rfl, hb⟩
  have B4 := hid (btrans B3.out hb)
  have T4 := hid (T3.out.keep hb)
  clear hb
  have k0 := T4.out 0 (by omega)
  have k1 := T4.out 1 (by omega)
  have k2 := T4.out 2 (by omega)
  have k3 := T4.out 3 (by omega)
  have k4 := T4.out 4 (by omega)
  have k5 := T4.out 5 (by omega)
  have k6 := T4.out 6 (by omega)
  have k7 := T4.out 7 (by omega)
  have k8 := T4.out 8 (by omega)
  have k9 := T4.out 9 (by omega)
  have k10 := T4.out 10 (by omega)
  have k11 := T4.out 11 (by omega)
  have k12 := T4.out 12 (by omega)
  go_wp2_with fail
  with_reducible refine (C2.out _).mono ?_
  rintro e w5 ⟨rfl, hb⟩
  have B5 := hid (btrans B4.out hb)
  have hmul : (l.length : Int) * (W : Int) = (ws.length : Int) := HLI.out.symm
  have hws2 : (ws.length : Int) ≤ 2097152 := by omega
  clear hb k0 k1 k2 k3 k4 k5 k6 k7 k8 k9 k10 k11 k12
  go_wp2_with fail
  with_reducible refine (CW.out _).mono ?_
  rintro e w6 ⟨rfl, hb⟩
  go_wp2_with fail
  go_ret
  exact ⟨rfl, btrans B5.out hb⟩
end Go.Proofs.Ytcibkoodnfkogaa
