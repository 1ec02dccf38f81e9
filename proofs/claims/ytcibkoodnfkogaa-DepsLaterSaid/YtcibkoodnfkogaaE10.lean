/- DepsLater: the walk. -/
import Derived.Test.YtcibkoodnfkogaaE9
import Derived.Test.YtcibkoodnfkogaaPrg11
import Derived.BigQuiet
import Derived.Deep.QuietTactic
namespace Go.Proofs.Ytcibkoodnfkogaa
open Go.RowKit
set_option linter.unusedVariables false
set_option linter.unusedSimpArgs false
theorem later_set {w : World} {g : Nat} {t : List Int} {mm : Int} {c : Nat} (ht : t.length = 13) (hc : c < 4) (h : TabIn w g (uAt t mm c)) (v : Int) (hv : v = qE (t[4 + c]?.getD 0) mm) : TabIn (w.setCell ⟨g, 4 + c, none⟩ (.int .i64 v)) g (uAt t mm (c + 1)) := fun j hj => by
  subst hv
  unfold uAt
  by_cases e : j = 4 + c
  · subst e
    rw [List.getElem?_set_self (by rw [uAt_len, ht]; omega)]
    exact World.cell?_setCell_same w _ _ (h _ hj)
  · rw [List.getElem?_set_ne (by omega)]
    exact (World.cell?_setCell_other w _ _ _ (by intro h; injection h with _ h _; exact e h.symm)).trans (h j hj)
theorem tabIn_box {t0 t1 t2 t3 t4 t5 t6 t7 t8 t9 t10 t11 t12 : Int} {w : World} {g : Nat} {T : TypeId} (h : w.heap[g]? = some (.cells #[.int .i64 t0, .int .i64 t1, .int .i64 t2, .int .i64 t3, .int .i64 t4, .int .i64 t5, .int .i64 t6, .int .i64 t7, .int .i64 t8, .int .i64 t9, .int .i64 t10, .int .i64 t11, .int .i64 t12] T)) : TabIn w g [t0, t1, t2, t3, t4, t5, t6, t7, t8, t9, t10, t11, t12] := fun j hj => by
  rw [cell_of_row _ _ _ _ _ _ h]
  rcases (by omega : j = 0 ∨ j = 1 ∨ j = 2 ∨ j = 3 ∨ j = 4 ∨ j = 5 ∨ j = 6 ∨ j = 7 ∨ j = 8 ∨ j = 9 ∨ j = 10 ∨ j = 11 ∨ j = 12) with rfl | rfl | rfl | rfl | rfl | rfl | rfl | rfl | rfl | rfl | rfl | rfl | rfl <;> rfl
set_option maxHeartbeats 4000000 in
set_option maxRecDepth 100000 in
theorem DepsLater_walk (A : Option Addr) (l : List Op) (cap : Nat) (t : List Int) (more : Int) (w : World) (hl : OpsIn w A l) (hw : ∀ o ∈ l, o.wf) (hc : l.length ≤ cap) (hmx : cap ≤ 8796093022208) (ht : t.length = 13) (_ : ∀ n ∈ t, -9223372036854775808 ≤ n ∧ n ≤ 9223372036854775807) :
    Calls Try.prog 17 #[.slice A l.length cap, tabV t, .int .i64 more] w fun e w' => e = .returned (.bool true) ∧ Below w.heap.size w w' := by
  have CW := hid (fun w => wakes11_any w)
  have CL := hid (fun (w' : World) (hb : Below w.heap.size w w') (t : List Int) (ht : t.length = 13) => loop_dep A l cap t w' (hl.keep hb) hw (by omega) hc ht)
  have HT := hid ht
  obtain ⟨t0, t1, t2, t3, t4, t5, t6, t7, t8, t9, t10, t11, t12, rfl⟩ := tab13 ht
  show Calls _ _ #[.slice A l.length cap, .agg #[.int .i64 t0, .int .i64 t1, .int .i64 t2, .int .i64 t3, .int .i64 t4, .int .i64 t5, .int .i64 t6, .int .i64 t7, .int .i64 t8, .int .i64 t9, .int .i64 t10, .int .i64 t11, .int .i64 t12], .int .i64 more] w _
  have TB := hid (fun (w : World) (g : Nat) (T : TypeId) (h : w.heap[g]? = some (.cells #[.int .i64 t0, .int .i64 t1, .int .i64 t2, .int .i64 t3, .int .i64 t4, .int .i64 t5, .int .i64 t6, .int .i64 t7, .int .i64 t8, .int .i64 t9, .int .i64 t10, .int .i64 t11, .int .i64 t12] T)) => tabIn_box h)
  generalize hT : [t0, t1, t2, t3, t4, t5, t6, t7, t8, t9, t10, t11, t12] = t at TB HT
  have HTL := hid hT
  clear hT hl hw ht
  by_cases h1 : 200 < l.length
  · have h1i : (200 : Int) < (l.length : Int) := by omega
    go_enter Try.func17, Try.ntmps17
    go_wp2_with fail
    with_reducible refine (CW.out _).mono ?_
    rintro e w1 ⟨rfl, hb⟩
    have B1 := hid (btrans (a := w) (by ((with_reducible (repeat (first | assumption | exact Below.refl _ _ | refine bset ?_ (Nat.le_refl _) _ | refine balloc ?_ _ | refine bdrew ?_ | refine bdrewN ?_ _))); done)) hb)
    clear hb
    go_wp2
    go_ret
    exact ⟨rfl, B1.out⟩
  · have h1i : ¬ (200 : Int) < (l.length : Int) := by omega
    obtain ⟨hr0, hr1⟩ : -3 ≤ more.tmod 4 ∧ more.tmod 4 ≤ 3 := by
      have h : (more.tmod 4).natAbs = more.natAbs % 4 := Int.natAbs_tmod _ _
      omega
    go_enter Try.func17, Try.ntmps17
    go_upto_region 4 with (fail)
    have HA : Hid (TabIn ((w.alloc (.cells #[.int .i64 t0, .int .i64 t1, .int .i64 t2, .int .i64 t3, .int .i64 t4, .int .i64 t5, .int .i64 t6, .int .i64 t7, .int .i64 t8, .int .i64 t9, .int .i64 t10, .int .i64 t11, .int .i64 t12] 28)).alloc (.cells #[.int .i64 t0, .int .i64 t1, .int .i64 t2, .int .i64 t3, .int .i64 t4, .int .i64 t5, .int .i64 t6, .int .i64 t7, .int .i64 t8, .int .i64 t9, .int .i64 t10, .int .i64 t11, .int .i64 t12] 28)) w.heap.size t) := hid (TB.out _ _ _ (heap_alloc2_old _ _ _))
    have HU : Hid (TabIn ((w.alloc (.cells #[.int .i64 t0, .int .i64 t1, .int .i64 t2, .int .i64 t3, .int .i64 t4, .int .i64 t5, .int .i64 t6, .int .i64 t7, .int .i64 t8, .int .i64 t9, .int .i64 t10, .int .i64 t11, .int .i64 t12] 28)).alloc (.cells #[.int .i64 t0, .int .i64 t1, .int .i64 t2, .int .i64 t3, .int .i64 t4, .int .i64 t5, .int .i64 t6, .int .i64 t7, .int .i64 t8, .int .i64 t9, .int .i64 t10, .int .i64 t11, .int .i64 t12] 28)) (w.heap.size + 1) (uAt t (max (more.tmod 4) 0) 0)) := hid (TB.out _ _ _ (heap_alloc2_new _ _ _))
    go_wp2
    go_loopg [19] 4 (fun gk v19 wr => ∃ c : Nat, c ≤ 4 ∧ v19 = .int .i64 c ∧ Hid (gk + c = 4) ∧ Hid (TabIn wr w.heap.size t) ∧ Hid (TabIn wr (w.heap.size + 1) (uAt t (max (more.tmod 4) 0) c)) ∧ Hid (Below w.heap.size w wr) ∧ Hid (w.heap.size + 1 < wr.heap.size) ∧ Hid (∀ k, wr.frozen? ⟨w.heap.size + 1, k, none⟩ = false))
    case atStart => exact ⟨0, by omega, rfl, rfl, HA, HU, hid (by ((with_reducible (repeat (first | assumption | exact Below.refl _ _ | refine bset ?_ (Nat.le_refl _) _ | refine balloc ?_ _ | refine bdrew ?_ | refine bdrewN ?_ _))); done)), hid (by simp), hid (fun k => frozen_of_row _ _ _ _ _ (heap_alloc2_new _ _ _))⟩
    case round =>
      obtain ⟨c, hc4, rfl, hgk, HA2, HU2, HB, HS, HF⟩ := hrel
      clear HA HU
      by_cases hlt : c < 4
      · have zc := HU2.out (4 + c) (by omega)
        rw [uAt_get t HT.out _ c (by omega) c hlt, if_neg (by omega)] at zc
        have fc := HF.out (4 + c)
        have hgs := HS.out
        obtain ⟨x, hx⟩ : ∃ x, t[4 + c]?.getD 0 = x := ⟨_, rfl⟩
        rw [hx] at zc
        have HX := hid hx
        clear hx
        obtain ⟨r, hr⟩ : ∃ r, more.tmod 4 = r := ⟨_, rfl⟩
        have CLOSE := hid (fun (v : Int) (hv : v = qE x (max r 0)) => later_set HT.out hlt HU2.out v (by rw [HX.out, hr]; exact hv))
        have KEEP := hid (fun (v : Value) (k : Nat) => (show TabIn (wr.setCell ⟨w.heap.size + 1, k, none⟩ v) w.heap.size t from fun j hj => (World.cell?_setCell_far _ _ _ _ (by show w.heap.size + 1 ≠ w.heap.size; omega)).trans (HA2.out j hj)))
        clear HA2 HX
        by_cases hx0 : x < 0
        · go_wp2
          all_goals
            go_roundg (4 - (c + 1))
            case measure => have := hgk.out; omega
            case rel =>
              refine ⟨c + 1, by omega, by go_num, by show _ + _ = _; have := hgk.out; omega, hid (KEEP.out _ _), hid (CLOSE.out _ ?_), hid (HB.out.setCell (by show w.heap.size ≤ w.heap.size + 1; omega) _), hid (by simpa using hgs), hid (fun k => set_frozen (HF.out k))⟩
              unfold qE
              first
                | (rw [show max x 0 = 0 by omega, show max r 0 = 0 by omega]; unfold wrap64; omega)
                | (rw [show max x 0 = 0 by omega, show max r 0 = r by omega]; unfold wrap64; omega)
        · go_wp2
          all_goals
            go_roundg (4 - (c + 1))
            case measure => have := hgk.out; omega
            case rel =>
              refine ⟨c + 1, by omega, by go_num, by show _ + _ = _; have := hgk.out; omega, hid (KEEP.out _ _), hid (CLOSE.out _ ?_), hid (HB.out.setCell (by show w.heap.size ≤ w.heap.size + 1; omega) _), hid (by simpa using hgs), hid (fun k => set_frozen (HF.out k))⟩
              unfold qE
              first
                | (rw [show max x 0 = x by omega, show max r 0 = 0 by omega, Int.add_zero]; omega)
                | (rw [show max x 0 = x by omega, show max r 0 = r by omega]; omega)
      · obtain rfl : c = 4 := by omega
        have hgs := HS.out
        have ET : tabV t = .agg #[.int .i64 t0, .int .i64 t1, .int .i64 t2, .int .i64 t3, .int .i64 t4, .int .i64 t5, .int .i64 t6, .int .i64 t7, .int .i64 t8, .int .i64 t9, .int .i64 t10, .int .i64 t11, .int .i64 t12] := by rw [← HTL.out]; rfl
        obtain ⟨u0, u1, u2, u3, u4, u5, u6, u7, u8, u9, u10, u11, u12, hu⟩ := tab13 (t := uAt t (max (more.tmod 4) 0) 4) (by rw [uAt_len]; exact HT.out)
        have EU2 : tabV (uAt t (max (more.tmod 4) 0) 4) = .agg #[.int .i64 u0, .int .i64 u1, .int .i64 u2, .int .i64 u3, .int .i64 u4, .int .i64 u5, .int .i64 u6, .int .i64 u7, .int .i64 u8, .int .i64 u9, .int .i64 u10, .int .i64 u11, .int .i64 u12] := by rw [hu]; rfl
        have C1 := hid (fun (w' : World) (hb : Below w.heap.size w w') => ET ▸ CL.out w' hb t HT.out)
        have C2 := hid (fun (w' : World) (hb : Below w.heap.size w w') => EU2 ▸ CL.out w' hb (uAt t (max (more.tmod 4) 0) 4) (by rw [uAt_len]; exact HT.out))
        have KT : Hid (∀ (W : World), TabIn W w.heap.size t → W.cell? ⟨w.heap.size, 0, none⟩ = some (.int .i64 t0) ∧ W.cell? ⟨w.heap.size, 1, none⟩ = some (.int .i64 t1) ∧ W.cell? ⟨w.heap.size, 2, none⟩ = some (.int .i64 t2) ∧ W.cell? ⟨w.heap.size, 3, none⟩ = some (.int .i64 t3) ∧ W.cell? ⟨w.heap.size, 4, none⟩ = some (.int .i64 t4) ∧ W.cell? ⟨w.heap.size, 5, none⟩ = some (.int .i64 t5) ∧ W.cell? ⟨w.heap.size, 6, none⟩ = some (.int .i64 t6) ∧ W.cell? ⟨w.heap.size, 7, none⟩ = some (.int .i64 t7) ∧ W.cell? ⟨w.heap.size, 8, none⟩ = some (.int .i64 t8) ∧ W.cell? ⟨w.heap.size, 9, none⟩ = some (.int .i64 t9) ∧ W.cell? ⟨w.heap.size, 10, none⟩ = some (.int .i64 t10) ∧ W.cell? ⟨w.heap.size, 11, none⟩ = some (.int .i64 t11) ∧ W.cell? ⟨w.heap.size, 12, none⟩ = some (.int .i64 t12)) := hid (fun W h => by
          rw [← HTL.out] at h
          exact ⟨h 0 (by omega), h 1 (by omega), h 2 (by omega), h 3 (by omega), h 4 (by omega), h 5 (by omega), h 6 (by omega), h 7 (by omega), h 8 (by omega), h 9 (by omega), h 10 (by omega), h 11 (by omega), h 12 (by omega)⟩)
        have KU : Hid (∀ (W : World), TabIn W (w.heap.size + 1) (uAt t (max (more.tmod 4) 0) 4) → W.cell? ⟨w.heap.size + 1, 0, none⟩ = some (.int .i64 u0) ∧ W.cell? ⟨w.heap.size + 1, 1, none⟩ = some (.int .i64 u1) ∧ W.cell? ⟨w.heap.size + 1, 2, none⟩ = some (.int .i64 u2) ∧ W.cell? ⟨w.heap.size + 1, 3, none⟩ = some (.int .i64 u3) ∧ W.cell? ⟨w.heap.size + 1, 4, none⟩ = some (.int .i64 u4) ∧ W.cell? ⟨w.heap.size + 1, 5, none⟩ = some (.int .i64 u5) ∧ W.cell? ⟨w.heap.size + 1, 6, none⟩ = some (.int .i64 u6) ∧ W.cell? ⟨w.heap.size + 1, 7, none⟩ = some (.int .i64 u7) ∧ W.cell? ⟨w.heap.size + 1, 8, none⟩ = some (.int .i64 u8) ∧ W.cell? ⟨w.heap.size + 1, 9, none⟩ = some (.int .i64 u9) ∧ W.cell? ⟨w.heap.size + 1, 10, none⟩ = some (.int .i64 u10) ∧ W.cell? ⟨w.heap.size + 1, 11, none⟩ = some (.int .i64 u11) ∧ W.cell? ⟨w.heap.size + 1, 12, none⟩ = some (.int .i64 u12)) := hid (fun W h => by
          rw [hu] at h
          exact ⟨h 0 (by omega), h 1 (by omega), h 2 (by omega), h 3 (by omega), h 4 (by omega), h 5 (by omega), h 6 (by omega), h 7 (by omega), h 8 (by omega), h 9 (by omega), h 10 (by omega), h 11 (by omega), h 12 (by omega)⟩)
        have LE := hid (fun (h1 : depE l t = 0) (h2 : depE l (uAt t (max (more.tmod 4) 0) 4) = 0) => later_le (l := l) HT.out (mm := max (more.tmod 4) 0) (by omega) (by omega) h1 h2)
        have N1 : (loopE l t).length ≤ 12000000 := loopE_len _ _
        clear ET EU2 hu CL HTL
        generalize uAt t (max (more.tmod 4) 0) 4 = U at *
        obtain ⟨k0, k1, k2, k3, k4, k5, k6, k7, k8, k9, k10, k11, k12⟩ := KT.out _ HA2.out
        clear hgk HF TB HA2 KT
        go_wp2_with fail
        with_reducible refine (C1.out _ HB.out).mono ?_
        rintro e w1 ⟨A1, c1, rfl, hE1, hb⟩
        have B1 := hid (btrans HB.out hb)
        have HE1 := hid hE1
        have HU3 := hid (HU2.out.keep hb)
        obtain ⟨m0, m1, m2, m3, m4, m5, m6, m7, m8, m9, m10, m11, m12⟩ := KU.out _ HU3.out
        clear hb hE1 k0 k1 k2 k3 k4 k5 k6 k7 k8 k9 k10 k11 k12 HU2 KU HB
        go_wp2_with fail
        with_reducible refine (C2.out _ B1.out).mono ?_
        rintro e w2 ⟨A2, c2, rfl, hE2, hb⟩
        have B2 := hid (btrans B1.out hb)
        have HE2 := hid hE2
        replace HE1 := hid (HE1.out.keep hb)
        clear hb hE2 m0 m1 m2 m3 m4 m5 m6 m7 m8 m9 m10 m11 m12 HU3 B1 C1 C2
        generalize loopE l t = E1 at *
        generalize loopE l U = E2 at *
        generalize depE l t = d1 at *
        generalize depE l U = d2 at *
        cases hd1 : (d1 == 0) with
        | false =>
          have hd1' : (d1 != 0) = true := by unfold bne; rw [hd1]; rfl
          go_wp2_with fail
          with_reducible refine (CW.out _).mono ?_
          rintro e w3 ⟨rfl, hb⟩
          have B3 := hid (btrans B2.out hb)
          clear hb
          go_wp2
          go_ret
          exact ⟨rfl, B3.out⟩
        | true =>
          obtain rfl : d1 = 0 := eq_of_beq hd1
          cases hd2 : (d2 == 0) with
          | false =>
            have hd2' : (d2 != 0) = true := by unfold bne; rw [hd2]; rfl
            go_wp2_with fail
            with_reducible refine (CW.out _).mono ?_
            rintro e w3 ⟨rfl, hb⟩
            have B3 := hid (btrans B2.out hb)
            clear hb
            go_wp2
            go_ret
            exact ⟨rfl, B3.out⟩
          | true =>
            obtain rfl : d2 = 0 := eq_of_beq hd2
            have HLE := hid (LE.out rfl rfl)
            have hln := HLE.out.len
            clear LE hd1 hd2
            have hlni : (E2.length : Int) = (E1.length : Int) := by omega
            go_wp2
            go_loopg [62] E1.length (fun gk v62 wr => ∃ i : Nat, i ≤ E1.length ∧ v62 = .int .i64 i ∧ Hid (gk + i = E1.length) ∧ Hid (Below w2.heap.size w2 wr))
            case atStart => exact ⟨0, by omega, rfl, by exact Nat.add_zero _, hid (Below.refl _ _)⟩
            case round =>
              obtain ⟨i, hi, rfl, hgi, hbi⟩ := hrel
              by_cases hlt : i < E1.length
              · have hlt2 : i < E2.length := by omega
                obtain ⟨g1, o1, rfl, p0, p1, p2, p3, p4⟩ := (HE1.out.keep hbi.out).get i hlt
                obtain ⟨g2, o2, rfl, q0, q1, q2, q3, q4⟩ := (HE2.out.keep hbi.out).get i hlt2
                obtain ⟨e0, e1, e2, e3, e4⟩ := HLE.out.get i hlt hlt2
                rw [← e0] at q0
                rw [← e1] at q1
                rw [← e2] at q3
                rw [← e3] at q4
                have E4 := hid e4
                clear e0 e1 e2 e3 e4
                generalize E2[i].l = yl at *
                generalize E1[i] = x1 at *
                obtain ⟨xf, xt, xl, xd, xy⟩ := x1
                dsimp only at p0 p1 p2 p3 p4 q0 q1 q3 q4
                cases hxy : (xy == 2) with
                | true =>
                  as_aux_lemma =>
                    have hxy2 : (xy != 2) = false := by unfold bne; rw [hxy]; rfl
                    clear E4
                    go_wp2
                    refine wp_region_quiet_lit (by kernel_rfl) (by kernel_rfl) ?_
                    (try simp only [List.append])
                    repeat (with_reducible refine wpQuiet_step (fun K hK => ?_); go_simp; (first | with_reducible refine hK _ ?_ | (rw [if_neg (by decide)]; with_reducible refine hK _ ?_)); clear hK K)
                    with_reducible refine wpQuiet_nil ?_
                    intro _ hw'
                    obtain ⟨nq, hw''⟩ := hw'
                    subst hw''
                    have BN := hid (bdrewN hbi.out nq)
                    go_wp2
                    go_roundg (E1.length - (i + 1))
                    case measure => have := hgi.out; omega
                    case rel => exact ⟨i + 1, by omega, by go_num, by show _ + _ = _; omega, BN⟩
                | false =>
                  as_aux_lemma =>
                    have hxy2 : (xy != 2) = true := by unfold bne; rw [hxy]; rfl
                    have hle : ¬ yl < xl := by
                      have := E4.out (by simpa using hxy)
                      dsimp only at this
                      omega
                    clear E4
                    go_wp2
                    refine wp_region_quiet_lit (by kernel_rfl) (by kernel_rfl) ?_
                    (try simp only [List.append])
                    repeat (with_reducible refine wpQuiet_step (fun K hK => ?_); go_simp; (first | with_reducible refine hK _ ?_ | (rw [if_neg (by decide)]; with_reducible refine hK _ ?_)); clear hK K)
                    with_reducible refine wpQuiet_nil ?_
                    intro _ hw'
                    obtain ⟨nq, hw''⟩ := hw'
                    subst hw''
                    have BN := hid (bdrewN hbi.out nq)
                    go_wp2
                    go_roundg (E1.length - (i + 1))
                    case measure => have := hgi.out; omega
                    case rel => exact ⟨i + 1, by omega, by go_num, by show _ + _ = _; omega, BN⟩
              · obtain rfl : i = E1.length := by omega
                go_wp2_with fail
                with_reducible refine (CW.out _).mono ?_
                rintro e w3 ⟨rfl, hb⟩
                have B3 := hid (btrans (btrans B2.out hbi.out) hb)
                clear hb
                go_wp2
                go_ret
                exact ⟨rfl, B3.out⟩
end Go.Proofs.Ytcibkoodnfkogaa
