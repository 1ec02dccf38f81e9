/- What is read is written as it was: the walk. -/
import Derived.Test.YtcibkoodnfkogaaBuP
import Derived.Test.YtcibkoodnfkogaaBuW
namespace Go.Proofs.Ytcibkoodnfkogaa
open Go.RowKit
set_option linter.unusedVariables false
set_option linter.unusedSimpArgs false
theorem decL_wf {ws t : List Int} (hl : ws.length ≤ 17592186043904) : ∀ b ∈ decL t ws, BunWf b := fun b hb => by
  unfold decL at hb
  obtain ⟨i, hi, rfl⟩ := List.mem_map.1 hb
  intro j hj
  unfold readO
  constructor
  · intro o ho
    obtain ⟨x, hx, rfl⟩ := List.mem_map.1 ho
    exact wordO_wf x
  · have h1 := trim_le (seg t (chunk (tabW t).toNat ws i) j)
    have h2 : (seg t (chunk (tabW t).toNat ws i) j).length ≤ ws.length := by
      unfold seg chunk
      rw [List.length_take, List.length_drop, List.length_take, List.length_drop]
      omega
    rw [List.length_map]
    omega
set_option maxHeartbeats 4000000 in
set_option maxRecDepth 100000 in
theorem BundleJust_walk (A : Option Addr) (ws : List Int) (c : Nat) (t : List Int) (w : World) (hl : WordsIn w A ws) (hw : ∀ n ∈ ws, 0 ≤ n ∧ n ≤ 18446744073709551615) (hc : ws.length ≤ c) (hmx : c ≤ 17592186043904) (ht : t.length = 13) (_ : ∀ n ∈ t, -9223372036854775808 ≤ n ∧ n ≤ 9223372036854775807) :
    Calls Try.prog 13 #[.slice A ws.length c, .agg (t.map (Value.int .i64)).toArray] w fun e w' => e = .returned (.bool true) ∧ Below w.heap.size w w' := by
  have C1 := hid (fun (w : World) (h : WordsIn w A ws) => decode_any A ws c t w h hw hc (by omega) ht)
  have CW := hid (fun w => wakes19_any w)
  have HL := hid hl
  have hV : Value.agg (t.map (Value.int .i64)).toArray = tabX (t[(0 : Nat)]?.getD 0) (t[(1 : Nat)]?.getD 0) (t[(2 : Nat)]?.getD 0) (t[(3 : Nat)]?.getD 0) (t[(4 : Nat)]?.getD 0) (t[(5 : Nat)]?.getD 0) (t[(6 : Nat)]?.getD 0) (t[(7 : Nat)]?.getD 0) (t[(8 : Nat)]?.getD 0) (t[(9 : Nat)]?.getD 0) (t[(10 : Nat)]?.getD 0) (t[(11 : Nat)]?.getD 0) (t[(12 : Nat)]?.getD 0) := tabV_X ht
  rw [tabV_X ht] at C1
  rw [hV]
  clear hV
  have hbox := hid (fun w T => TabIn.boxW ht w T)
  by_cases hD : decE t ws = 0
  case neg =>
    clear hl hw hc hmx ht
    go_enter Try.func13, Try.ntmps13
    go_wp2_with fail
    refine (C1.out _ (WordsIn.keep (w := w) HL.out ?_)).mono ?_
    · ((with_reducible (repeat (first | assumption | exact Below.refl _ _ | refine bset ?_ (Nat.le_refl _) _ | refine balloc ?_ _ | refine bdrew ?_ | refine bdrewN ?_ _))); done)
    rintro e w1 ⟨A3, n3, c3, rfl, hb, hne, _⟩
    obtain ⟨rfl, rfl, rfl⟩ := hne hD
    have B1 := hid (btrans (a := w) (by ((with_reducible (repeat (first | assumption | exact Below.refl _ _ | refine bset ?_ (Nat.le_refl _) _ | refine balloc ?_ _ | refine bdrew ?_ | refine bdrewN ?_ _))); done)) hb)
    clear hb hne
    go_wp2_with fail
    with_reducible refine (CW.out _).mono ?_
    rintro e w2 ⟨rfl, hb⟩
    go_wp2_with fail
    go_ret
    exact ⟨rfl, btrans B1.out hb⟩
  have hed := enc_dec (fun x hx => (hw x hx).1) hD
  have hE := hid hed.1
  have hEL := hid hed.2
  have hwf := hid (decL_wf (t := t) (ws := ws) (by omega))
  have C2 : Hid (∀ (w : World) (A : Option Addr) (l : List (Nat → List Op)) (cap : Nat), BunsIn w A l → (∀ b ∈ l, BunWf b) → l.length ≤ 9223372036854775807 → Calls Try.prog 45 #[.slice A l.length cap, tabX (t[(0 : Nat)]?.getD 0) (t[(1 : Nat)]?.getD 0) (t[(2 : Nat)]?.getD 0) (t[(3 : Nat)]?.getD 0) (t[(4 : Nat)]?.getD 0) (t[(5 : Nat)]?.getD 0) (t[(6 : Nat)]?.getD 0) (t[(7 : Nat)]?.getD 0) (t[(8 : Nat)]?.getD 0) (t[(9 : Nat)]?.getD 0) (t[(10 : Nat)]?.getD 0) (t[(11 : Nat)]?.getD 0) (t[(12 : Nat)]?.getD 0)] w (EncP l t w)) := hid fun w A l cap h1 h2 h3 => by
    have := encode_any A l cap t w h1 h2 ht h3
    rw [tabV_X ht] at this
    exact this
  have hD' := hid hD
  have hlc : (ws.length : Int) ≤ 17592186043904 := by omega
  clear hl hw hc hmx ht hed hD
  go_enter Try.func13, Try.ntmps13
  go_wp2_with fail
  refine (C1.out _ (WordsIn.keep (w := w) HL.out ?_)).mono ?_
  · ((with_reducible (repeat (first | assumption | exact Below.refl _ _ | refine bset ?_ (Nat.le_refl _) _ | refine balloc ?_ _ | refine bdrew ?_ | refine bdrewN ?_ _))); done)
  rintro e w1 ⟨A3, n3, c3, rfl, hb, _, hdd⟩
  obtain ⟨rfl, hn3, hc65, hbin, _⟩ := hdd hD'.out
  rw [hD'.out]
  have B1 := hid (btrans (a := w) (by ((with_reducible (repeat (first | assumption | exact Below.refl _ _ | refine bset ?_ (Nat.le_refl _) _ | refine balloc ?_ _ | refine bdrew ?_ | refine bdrewN ?_ _))); done)) hb)
  have TT := hid ((hbox.out w 28).keep hb)
  have HB := hid hbin
  have hn6 : (decL t ws).length ≤ 65536 := by omega
  clear hb hdd hbin hbox
  have k0 := TT.out 0 (by omega)
  have k1 := TT.out 1 (by omega)
  have k2 := TT.out 2 (by omega)
  have k3 := TT.out 3 (by omega)
  have k4 := TT.out 4 (by omega)
  have k5 := TT.out 5 (by omega)
  have k6 := TT.out 6 (by omega)
  have k7 := TT.out 7 (by omega)
  have k8 := TT.out 8 (by omega)
  have k9 := TT.out 9 (by omega)
  have k10 := TT.out 10 (by omega)
  have k11 := TT.out 11 (by omega)
  have k12 := TT.out 12 (by omega)
  have hC2 := hid (C2.out w1 A3 (decL t ws) c3 HB.out hwf.out (by omega))
  go_wp2_with fail
  refine hC2.out.mono ?_
  rintro e w2 ⟨v, rfl, hb, _, hown⟩
  have hown2 := hown hE.out
  rw [hEL.out] at hown2
  rw [hE.out]
  obtain ⟨A2, cap2, rfl, hwi, hc2, hm2, _⟩ := own_slice hown2
  have HWI := hid hwi
  have B2 := hid (btrans B1.out hb)
  clear hb hown hown2 hwi hC2 k0 k1 k2 k3 k4 k5 k6 k7 k8 k9 k10 k11 k12
  go_wp2_with fail
  refine (words_any A2 A ws cap2 c w2 HWI.out (HL.out.keep B2.out) (by omega)).mono ?_
  rintro e w3 ⟨rfl, hb⟩
  have B3 := hid (btrans B2.out hb)
  clear hb
  go_wp2_with fail
  with_reducible refine (CW.out _).mono ?_
  rintro e w4 ⟨rfl, hb⟩
  go_wp2_with fail
  go_ret
  exact ⟨rfl, btrans B3.out hb⟩
end Go.Proofs.Ytcibkoodnfkogaa
