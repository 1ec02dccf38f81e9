/- Bundles are written as words and words read as bundles as the document says: the walk. -/
import Derived.Test.YtcibkoodnfkogaaBuB
import Derived.Test.YtcibkoodnfkogaaBuJ
import Derived.Test.YtcibkoodnfkogaaR12
import Derived.Test.YtcibkoodnfkogaaR07
import Derived.Deep.RegionHeld3
namespace Go.Proofs.Ytcibkoodnfkogaa
open Go.RowKit
set_option linter.unusedVariables false
set_option linter.unusedSimpArgs false
def wX (l : List (Nat → List Op)) (t : List Int) : List Int := if encE l t = 0 then encL t l else []
def dX (t ws : List Int) : List (Nat → List Op) := if decE t ws = 0 then decL t ws else []
theorem wX_len (l : List (Nat → List Op)) (t : List Int) : (wX l t).length ≤ 2097152 := by
  unfold wX
  split
  · exact encL_small (by assumption)
  · simp
theorem dX_len (t ws : List Int) : (dX t ws).length ≤ 65536 := by
  unfold dX
  split
  · rename_i h
    unfold decE at h
    unfold decL
    rw [List.length_map, List.length_range]
    by_cases h1 : tabE t ≠ 0
    · rw [if_pos h1] at h; exact absurd h h1
    rw [if_neg h1] at h
    by_cases h2 : ws.length = 0
    · rw [h2]; simp
    rw [if_neg h2] at h
    by_cases h3 : tabW t = 0 ∨ ws.length % (tabW t).toNat ≠ 0
    · rw [if_pos h3] at h; simp at h
    rw [if_neg h3] at h
    by_cases h4 : 65536 < ws.length / (tabW t).toNat
    · rw [if_pos h4] at h; simp at h
    · omega
  · simp
theorem enc_words {l : List (Nat → List Op)} {t : List Int} {w w' : World} {e : Ending} (h : EncP l t w e w') :
    ∃ (A : Option Addr) (c : Nat), e = .returned (.tuple #[.slice A (wX l t).length c, .int .i64 (encE l t)]) ∧ Below w.heap.size w w' ∧ WordsIn w' A (wX l t) := by
  obtain ⟨v, rfl, hb, h1, h2⟩ := h
  unfold wX
  by_cases h0 : encE l t = 0
  · obtain ⟨A, c, rfl, hw, _⟩ := own_slice (h2 h0)
    rw [if_pos h0]
    exact ⟨A, c, rfl, hb, hw⟩
  · obtain rfl := h1 h0
    rw [if_neg h0]
    exact ⟨none, 0, rfl, hb, fun h => absurd rfl h⟩
theorem dec_buns {t ws : List Int} {w w' : World} {e : Ending} (h : DecP t ws w e w') :
    ∃ (A : Option Addr) (c : Nat), e = .returned (.tuple #[.slice A (dX t ws).length c, .int .i64 (decE t ws)]) ∧ Below w.heap.size w w' ∧ BunsIn w' A (dX t ws) := by
  obtain ⟨A, n, c, rfl, hb, h1, h2⟩ := h
  unfold dX
  by_cases h0 : decE t ws = 0
  · obtain ⟨rfl, _, _, hbu, _⟩ := h2 h0
    rw [if_pos h0]
    exact ⟨A, c, rfl, hb, hbu⟩
  · obtain ⟨rfl, rfl, rfl⟩ := h1 h0
    rw [if_neg h0]
    exact ⟨none, 0, rfl, hb, fun h => absurd rfl h⟩
theorem rdec_buns {t ws : List Int} {w w' : World} {e : Ending} (h : RDecP t ws w e w') :
    ∃ (A : Option Addr) (c : Nat), e = .returned (.tuple #[.slice A (dX t ws).length c, .int .i64 (decE t ws)]) ∧ Below w.heap.size w w' ∧ BunsIn w' A (dX t ws) := by
  obtain ⟨A, n, c, rfl, hb, h1, h2⟩ := h
  unfold dX
  by_cases h0 : decE t ws = 0
  · obtain ⟨rfl, hbu⟩ := h2 h0
    rw [if_pos h0]
    exact ⟨A, c, rfl, hb, hbu⟩
  · obtain rfl := h1 h0
    rw [if_neg h0]
    exact ⟨A, c, rfl, hb, fun h => absurd rfl h⟩
theorem dX_sm {t ws : List Int} (hl : ws.length ≤ 17592186043904) : ∀ x ∈ dX t ws, ∀ j, j < 4 → (x j).length ≤ 1000000000000000000 := fun x hx j hj => by
  unfold dX at hx
  split at hx
  · have := (decL_wf hl x hx j hj).2
    omega
  · cases hx
theorem sameL_refl (a : List (Nat → List Op)) : sameL a a := ⟨rfl, fun i x y hx hy => by
  rw [hx] at hy
  injection hy with hy
  subst hy
  exact fun j hj => rfl⟩
set_option maxHeartbeats 4000000 in
set_option maxRecDepth 100000 in
theorem BundleTells_walk (A : Option Addr) (l : List (Nat → List Op)) (c : Nat) (A2 : Option Addr) (ws : List Int) (c2 : Nat) (t : List Int) (w : World) (hl : BunsIn w A l) (hw : ∀ b ∈ l, BunWf b) (hc : l.length ≤ c) (hmx : c ≤ 1466015503700)
    (hl2 : WordsIn w A2 ws) (hw2 : ∀ n ∈ ws, 0 ≤ n ∧ n ≤ 18446744073709551615) (hc2 : ws.length ≤ c2) (hmx2 : c2 ≤ 17592186043904) (ht : t.length = 13) (_ : ∀ n ∈ t, -9223372036854775808 ≤ n ∧ n ≤ 9223372036854775807) :
    Calls Try.prog 15 #[.slice A l.length c, .slice A2 ws.length c2, .agg (t.map (Value.int .i64)).toArray] w fun e w' => e = .returned (.bool true) ∧ Below w.heap.size w w' := by
  have C1 := hid (fun (w : World) (h : BunsIn w A l) => (encode_any A l c t w h hw ht (by omega)).mono fun _ _ h => enc_words h)
  have C2 := hid (fun (w : World) (h : BunsIn w A l) => (rencode_any A l c t w h hw ht (by omega)).mono fun _ _ h => enc_words h)
  have C3 := hid (fun (w : World) (h : WordsIn w A2 ws) => (decode_any A2 ws c2 t w h hw2 hc2 (by omega) ht).mono fun _ _ h => dec_buns h)
  have C4 := hid (fun (w : World) (h : WordsIn w A2 ws) => (rdecode_any A2 ws c2 t w h hw2 hc2 (by omega) ht).mono fun _ _ h => rdec_buns h)
  have C5 := hid (fun (w : World) (b : Nat → List Op) (A : Nat → Option Addr) (c : Nat → Nat) (h : BunVal w b A c) (hw : BunWf b) => bcheck_any b A c t w h hw ht)
  have C6 := hid (fun (w : World) (b : Nat → List Op) (A : Nat → Option Addr) (c : Nat → Nat) (h : BunVal w b A c) (hw : BunWf b) => rbcheck_any b A c t w h hw ht)
  have CW := hid (fun w => wakes19_any w)
  have HL := hid hl
  have HL2 := hid hl2
  have HW := hid hw
  have hV : Value.agg (t.map (Value.int .i64)).toArray = tabX (t[(0 : Nat)]?.getD 0) (t[(1 : Nat)]?.getD 0) (t[(2 : Nat)]?.getD 0) (t[(3 : Nat)]?.getD 0) (t[(4 : Nat)]?.getD 0) (t[(5 : Nat)]?.getD 0) (t[(6 : Nat)]?.getD 0) (t[(7 : Nat)]?.getD 0) (t[(8 : Nat)]?.getD 0) (t[(9 : Nat)]?.getD 0) (t[(10 : Nat)]?.getD 0) (t[(11 : Nat)]?.getD 0) (t[(12 : Nat)]?.getD 0) := tabV_X ht
  rw [tabV_X ht] at C1 C2 C3 C4 C5 C6
  rw [hV]
  clear hV
  have hbox := hid (fun w T => TabIn.boxW ht w T)
  have hX := wX_len l t
  have hD := dX_len t ws
  have hDS := hid (dX_sm (t := t) (ws := ws) (by omega))
  generalize hWX : wX l t = wx at *
  generalize hDX : dX t ws = dx at *
  generalize hE : encE l t = ee at *
  generalize hDE : decE t ws = de at *
  have hlc : (l.length : Int) ≤ 1466015503700 := by omega
  clear hl hw hc hmx ht hl2 hw2 hc2 hmx2 hWX hDX hE hDE
  go_enter Try.func15, Try.ntmps15
  go_wp2_with fail
  refine (C1.out _ (BunsIn.keep (w := w) HL.out ?_)).mono ?_
  · ((with_reducible (repeat (first | assumption | exact Below.refl _ _ | refine bset ?_ (Nat.le_refl _) _ | refine balloc ?_ _ | refine bdrew ?_ | refine bdrewN ?_ _))); done)
  rintro e w1 ⟨A3, c3, rfl, hb, hw3⟩
  have B1 := hid (btrans (a := w) (by ((with_reducible (repeat (first | assumption | exact Below.refl _ _ | refine bset ?_ (Nat.le_refl _) _ | refine balloc ?_ _ | refine bdrew ?_ | refine bdrewN ?_ _))); done)) hb)
  have T1 := hid ((hbox.out w 28).keep hb)
  have W1 := hid hw3
  clear hb hw3 hbox
  have k0 := T1.out 0 (by omega)
  have k1 := T1.out 1 (by omega)
  have k2 := T1.out 2 (by omega)
  have k3 := T1.out 3 (by omega)
  have k4 := T1.out 4 (by omega)
  have k5 := T1.out 5 (by omega)
  have k6 := T1.out 6 (by omega)
  have k7 := T1.out 7 (by omega)
  have k8 := T1.out 8 (by omega)
  have k9 := T1.out 9 (by omega)
  have k10 := T1.out 10 (by omega)
  have k11 := T1.out 11 (by omega)
  have k12 := T1.out 12 (by omega)
  go_wp2_with fail
  refine (C2.out _ (BunsIn.keep (w := w) HL.out B1.out)).mono ?_
  rintro e w2 ⟨A4, c4, rfl, hb, hw4⟩
  have B2 := hid (btrans B1.out hb)
  have T2 := hid (T1.out.keep hb)
  have W1b := hid (W1.out.keep hb)
  have W2 := hid hw4
  clear hb hw4 T1 W1 B1 k0 k1 k2 k3 k4 k5 k6 k7 k8 k9 k10 k11 k12
  have k0 := T2.out 0 (by omega)
  have k1 := T2.out 1 (by omega)
  have k2 := T2.out 2 (by omega)
  have k3 := T2.out 3 (by omega)
  have k4 := T2.out 4 (by omega)
  have k5 := T2.out 5 (by omega)
  have k6 := T2.out 6 (by omega)
  have k7 := T2.out 7 (by omega)
  have k8 := T2.out 8 (by omega)
  have k9 := T2.out 9 (by omega)
  have k10 := T2.out 10 (by omega)
  have k11 := T2.out 11 (by omega)
  have k12 := T2.out 12 (by omega)
  go_wp2_with fail
  refine (C3.out _ (HL2.out.keep B2.out)).mono ?_
  rintro e w3 ⟨A5, c5, rfl, hb, hw5⟩
  have B3 := hid (btrans B2.out hb)
  have T3 := hid (T2.out.keep hb)
  have W1c := hid (W1b.out.keep hb)
  have W2c := hid (W2.out.keep hb)
  have D3 := hid hw5
  clear hb hw5 T2 W1b W2 B2 k0 k1 k2 k3 k4 k5 k6 k7 k8 k9 k10 k11 k12
  have k0 := T3.out 0 (by omega)
  have k1 := T3.out 1 (by omega)
  have k2 := T3.out 2 (by omega)
  have k3 := T3.out 3 (by omega)
  have k4 := T3.out 4 (by omega)
  have k5 := T3.out 5 (by omega)
  have k6 := T3.out 6 (by omega)
  have k7 := T3.out 7 (by omega)
  have k8 := T3.out 8 (by omega)
  have k9 := T3.out 9 (by omega)
  have k10 := T3.out 10 (by omega)
  have k11 := T3.out 11 (by omega)
  have k12 := T3.out 12 (by omega)
  go_wp2_with fail
  refine (C4.out _ (HL2.out.keep B3.out)).mono ?_
  rintro e w4 ⟨A6, c6, rfl, hb, hw6⟩
  have B4 := hid (btrans B3.out hb)
  have T4 := hid (T3.out.keep hb)
  have W1d := hid (W1c.out.keep hb)
  have W2d := hid (W2c.out.keep hb)
  have D3b := hid (D3.out.keep hb)
  have D4 := hid hw6
  clear hb hw6 T3 W1c W2c D3 B3 k0 k1 k2 k3 k4 k5 k6 k7 k8 k9 k10 k11 k12
  have HS : Hid (∀ v : World, Below w4.heap.size w4 v → Below w.heap.size w v ∧ WordsIn v A3 wx ∧ WordsIn v A4 wx ∧ BunsIn v A5 dx ∧ BunsIn v A6 dx) := hid fun v hv => ⟨btrans B4.out hv, W1d.out.keep hv, W2d.out.keep hv, D3b.out.keep hv, D4.out.keep hv⟩
  have K0 := T4.out 0 (by omega)
  have K1 := T4.out 1 (by omega)
  have K2 := T4.out 2 (by omega)
  have K3 := T4.out 3 (by omega)
  have K4 := T4.out 4 (by omega)
  have K5 := T4.out 5 (by omega)
  have K6 := T4.out 6 (by omega)
  have K7 := T4.out 7 (by omega)
  have K8 := T4.out 8 (by omega)
  have K9 := T4.out 9 (by omega)
  have K10 := T4.out 10 (by omega)
  have K11 := T4.out 11 (by omega)
  have K12 := T4.out 12 (by omega)
  clear B4 T4 W1d W2d D3b D4
  go_upto_region 5 with (fail)
  go_cut [54] (fun v54 wy => v54 = .bool false ∧ Hid (Below w4.heap.size w4 wy))
  case first =>
    by_cases hn : l.length = 0
    · have hd : decide ((0 : Int) < (l.length : Int)) = false := by rw [hn]; rfl
      clear K0 K1 K2 K3 K4 K5 K6 K7 K8 K9 K10 K11 K12
      go_wp2
      go_quiet (fail)
      go_wp2
      go_meet
      case rel => exact ⟨rfl, hid (by ((with_reducible (repeat (first | assumption | exact Below.refl _ _ | refine bset ?_ (Nat.le_refl _) _ | refine balloc ?_ _ | refine bdrew ?_ | refine bdrewN ?_ _))); done))⟩
    · have hd : decide ((0 : Int) < (l.length : Int)) = true := by simp; omega
      have hn1 : 0 < l.length := by omega
      obtain ⟨g, off, rfl, hb0⟩ := HL.out (by rintro rfl; simp at hn1)
      obtain ⟨Ab, cb, hab⟩ := hb0 0 l[0] (List.getElem?_eq_getElem hn1)
      have HBW := hid (HW.out l[0] (List.getElem_mem hn1))
      have HBV : Hid (BunVal w l[0] Ab cb) := hid fun j hj => (hab j hj).2
      have HBB := HS.out w4 (Below.refl _ _)
      have HBV4 : Hid (BunVal w4 l[0] Ab cb) := hid fun j hj => ⟨(HBV.out j hj).1.keep HBB.1, (HBV.out j hj).2⟩
      have hx0 := cell_keep (hab 0 (by omega)).1 HBB.1
      have hx1 := cell_keep (hab 1 (by omega)).1 HBB.1
      have hx2 := cell_keep (hab 2 (by omega)).1 HBB.1
      have hx3 := cell_keep (hab 3 (by omega)).1 HBB.1
      simp only [Nat.zero_mul, Nat.add_zero] at hx0 hx1 hx2 hx3
      have HB4 : Hid (Below w4.heap.size w4 w4) := hid (Below.refl _ _)
      generalize l[0] = b0 at *
      clear hab hb0 HBB HBV
      have K5' := hid (fun (w : World) (h : BunVal w b0 Ab cb) => C5.out w b0 Ab cb h HBW.out)
      have K6' := hid (fun (w : World) (h : BunVal w b0 Ab cb) => C6.out w b0 Ab cb h HBW.out)
      have hn0 : (0 : Int) < (l.length : Int) := by omega
      generalize hbe : bunE b0 t = be at *
      replace hbe := hid hbe
      go_wp2
      go_region_held3 (fun w' => w'.cell? ⟨w.heap.size, 0, none⟩ = some (.int .i64 (t[(0 : Nat)]?.getD 0)) ∧ w'.cell? ⟨w.heap.size, 1, none⟩ = some (.int .i64 (t[(1 : Nat)]?.getD 0)) ∧ w'.cell? ⟨w.heap.size, 2, none⟩ = some (.int .i64 (t[(2 : Nat)]?.getD 0)) ∧ w'.cell? ⟨w.heap.size, 3, none⟩ = some (.int .i64 (t[(3 : Nat)]?.getD 0)) ∧ w'.cell? ⟨w.heap.size, 4, none⟩ = some (.int .i64 (t[(4 : Nat)]?.getD 0)) ∧ w'.cell? ⟨w.heap.size, 5, none⟩ = some (.int .i64 (t[(5 : Nat)]?.getD 0)) ∧ w'.cell? ⟨w.heap.size, 6, none⟩ = some (.int .i64 (t[(6 : Nat)]?.getD 0)) ∧ w'.cell? ⟨w.heap.size, 7, none⟩ = some (.int .i64 (t[(7 : Nat)]?.getD 0)) ∧ w'.cell? ⟨w.heap.size, 8, none⟩ = some (.int .i64 (t[(8 : Nat)]?.getD 0)) ∧ w'.cell? ⟨w.heap.size, 9, none⟩ = some (.int .i64 (t[(9 : Nat)]?.getD 0)) ∧ w'.cell? ⟨w.heap.size, 10, none⟩ = some (.int .i64 (t[(10 : Nat)]?.getD 0)) ∧ w'.cell? ⟨w.heap.size, 11, none⟩ = some (.int .i64 (t[(11 : Nat)]?.getD 0)) ∧ w'.cell? ⟨w.heap.size, 12, none⟩ = some (.int .i64 (t[(12 : Nat)]?.getD 0)) ∧ w'.cell? ⟨g, off, none⟩ = some (.slice (Ab 0) (b0 0).length (cb 0)) ∧ w'.cell? ⟨g, off + 1, none⟩ = some (.slice (Ab 1) (b0 1).length (cb 1)) ∧ w'.cell? ⟨g, off + 2, none⟩ = some (.slice (Ab 2) (b0 2).length (cb 2)) ∧ w'.cell? ⟨g, off + 3, none⟩ = some (.slice (Ab 3) (b0 3).length (cb 3)) ∧ Hid (BunVal w' b0 Ab cb) ∧ Hid (Below w4.heap.size w4 w')) (first | (go_split_ands; (repeat' apply And.intro) <;> (first | assumption | exact cell_keep (by assumption) hb | exact hid (fun j hj => ⟨((Hid.out (by assumption : Hid (BunVal _ b0 Ab cb))) j hj).1.keep hb, ((Hid.out (by assumption : Hid (BunVal _ b0 Ab cb))) j hj).2⟩) | exact hid (btrans (Hid.out (by assumption)) hb) | exact hid (fun j hj => ⟨(HBV4.out j hj).1.keep (bdrew (Below.refl _ _)), (HBV4.out j hj).2⟩) | exact hid (bdrew (Below.refl _ _)))) | go_keep)
        (first | ((with_reducible refine (K5'.out _ ?_).mono ?_); (next => (go_split_ands; exact Hid.out (by assumption))); rintro e w' ⟨rfl, hb⟩) | ((with_reducible refine (K6'.out _ ?_).mono ?_); (next => (go_split_ands; exact Hid.out (by assumption))); rintro e w' ⟨rfl, hb⟩))
      all_goals
        go_split_ands
        go_wp2
        go_meet
        case rel => exact ⟨by simp, by assumption⟩
  case rest =>
    obtain ⟨rfl, hb⟩ := hcut
    obtain ⟨B5, X1, X2, Y1, Y2⟩ := HS.out wc hb.out
    have B5 := hid B5
    have X1 := hid X1
    have X2 := hid X2
    have Y1 := hid Y1
    have Y2 := hid Y2
    clear hb HS K0 K1 K2 K3 K4 K5 K6 K7 K8 K9 K10 K11 K12
    go_wp2_with fail
    refine (words_any A3 A4 wx c3 c4 _ X1.out X2.out (by omega)).mono ?_
    rintro e w6 ⟨rfl, hb⟩
    have B6 := hid (btrans B5.out hb)
    have Z1 := hid (Y1.out.keep hb)
    have Z2 := hid (Y2.out.keep hb)
    clear hb X1 X2 Y1 Y2 B5
    go_wp2_with fail
    refine (same_yes A5 A6 dx dx c5 c6 _ Z1.out Z2.out (sameL_refl _) (by omega) hDS.out).mono ?_
    rintro e w7 ⟨rfl, hb⟩
    have B7 := hid (btrans B6.out hb)
    clear hb Z1 Z2 B6
    go_wp2_with fail
    with_reducible refine (CW.out _).mono ?_
    rintro e w8 ⟨rfl, hb⟩
    go_wp2_with fail
    go_ret
    exact ⟨rfl, btrans B7.out hb⟩
end Go.Proofs.Ytcibkoodnfkogaa
