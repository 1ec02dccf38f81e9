/- Steps dealt out in parts come to the same as all at once, for every program, every state and any two numbers of steps; no condition. -/
import Derived.Test.YtpiagggnjppkhaaW09
namespace Go.Proofs.Ytpiagggnjppkhaa
open Go.RowKit
set_option linter.unusedVariables false
set_option linter.unusedSimpArgs false
theorem trn_below {K g : Nat} {r : Option Nat} {w w' : World} (t : Trn g r w w') (hK : K ≤ w.heap.size) (hg : K ≤ g) (hr : ∀ k, r = some k → K ≤ k) : Below K w w' :=
  ⟨t.os, t.tape, t.output, t.size, fun k hk => t.block k (by omega) (by omega) (fun e => by have := hr k e.symm; omega)⟩
theorem max_nat (n : Int) : ∃ k : Nat, max n 0 = (k : Int) := ⟨(max n 0).toNat, by omega⟩
theorem NumsFrom.bel {w w' : World} {B : Nat} {A : Option Addr} {l : List Int} (h : NumsFrom w B A l) (hb : Below w.heap.size w w') : NumsFrom w' B A l := h.keep hb
theorem NumsFrom.trn {w w' : World} {B g : Nat} {r : Option Nat} {A : Option Addr} {l : List Int} (h : NumsFrom w B A l) (t : Trn g r w w') (hg : g < B) (hr : r = none) : NumsFrom w' B A l := h.turn t hg fun k e => by rw [hr] at e; cases e
set_option maxHeartbeats 4000000 in
set_option maxRecDepth 100000 in
theorem SerialDealt_walk (A : Option Addr) (l : List Blk) (c : Nat) (A1 : Option Addr) (s1 : List Int) (c1 : Nat) (A2 : Option Addr) (s2 : List Int) (c2 : Nat) (a b : Int) (w : World) (hl : BlksIn w A l) (hw : ∀ b ∈ l, b.wf) (hc : l.length ≤ c) (hmx : c ≤ 1954687340000)
    (hs1 : NumsIn w A1 s1) (hs1w : I64s s1) (hs1c : s1.length ≤ c1) (hs1m : c1 ≤ 17592186043904) (hs2 : NumsIn w A2 s2) (hs2w : I64s s2) (hs2c : s2.length ≤ c2) (hs2m : c2 ≤ 17592186043904)
    (ha : -9223372036854775808 ≤ a ∧ a ≤ 9223372036854775807) (hb : -9223372036854775808 ≤ b ∧ b ≤ 9223372036854775807) :
    Calls Try.prog 7 #[.agg #[.slice A l.length c], .agg #[.slice A1 s1.length c1, .slice A2 s2.length c2], .int .i64 a, .int .i64 b] w fun e w' => e = .returned (.bool true) ∧ Below w.heap.size w w' := by
  have CW := hid (fun w => wakes09_any w)
  have CA := hid (fun w => steps_any a w ha.1 ha.2)
  have CB := hid (fun w => steps_any b w hb.1 hb.2)
  obtain ⟨na, hna⟩ := max_nat (stepsN a)
  obtain ⟨nb, hnb⟩ := max_nat (stepsN b)
  have la : na ≤ 5000 := by have := stepsN_le a; omega
  have lb : nb ≤ 5000 := by have := stepsN_le b; omega
  generalize stepsN a = sa at *
  generalize stepsN b = sb at *
  have HL := hid hl
  have HR := hid hs1
  have HM := hid hs2
  by_cases he : newE l s1 s2 = 0
  · have hp : prgE l = 0 := by
      unfold newE at he
      by_cases h : prgE l = 0
      · exact h
      · rw [if_neg h] at he; exact he
    have hlen : s1.length ≤ 32 ∧ s2.length ≤ 256 := by
      unfold newE at he
      rw [if_pos hp] at he
      by_cases h : 32 < s1.length ∨ 256 < s2.length
      · rw [if_pos h] at he; omega
      · omega
    have hP := prgE_ok hw hp
    have ok0 := newM_ok hP hs1w hs2w hlen.1 hlen.2
    obtain ⟨m0, hm0⟩ : ∃ m0, m0 = newM s1 s2 := ⟨_, rfl⟩
    have C0 := hid (fun w hl hr hm => new_yes A l c A1 A2 s1 s2 c1 c2 w hl hw hr hm he)
    rw [← hm0] at ok0
    have st0 : m0.steps = 0 := by rw [hm0]; rfl
    obtain ⟨mA, hmA⟩ : ∃ mA, mA = runM l na m0 := ⟨_, rfl⟩
    obtain ⟨mF, hmF⟩ : ∃ mF, mF = runM l ((na + nb : Nat) : Int) m0 := ⟨_, rfl⟩
    have hAF : runM l nb mA = mF := by rw [hmA, hmF]; exact runM_parts l m0 na nb (by omega)
    have okA : mA.ok l := by rw [hmA]; exact runM_ok hP ok0 _
    have okF : mF.ok l := by rw [hmF]; exact runM_ok hP ok0 _
    have stA : mA.steps ≤ 1000000000000 := by
      have h1 := runM_le l na m0
      have h2 := clamp_small (n := na) (by omega)
      rw [← hmA] at h1
      omega
    have stF : mF.steps = (tagsS l (na + nb) m0).length := by
      have h1 := runM_steps l ((na + nb : Nat) : Int) m0
      rw [clamp_small (by omega), ← hmF, st0, Nat.zero_add] at h1
      exact h1
    have stF2 : mF.steps ≤ 10000 := by rw [stF]; have := tags_len l (na + nb) m0; omega
    have hcT : clampT ((na + nb : Nat) : Int) = na + nb := by unfold clampT; omega
    have CR1 : Hid (∀ (w' : World) (g B : Nat) (S : Nat → Prop) (A : Option Addr) (cap : Nat), Mach w' g 106 322 B S A l cap 2 (.slice none 0 0) m0 doX → Calls Try.prog 16 #[.pointer (some ⟨g, 0, none⟩), .int .i64 na] w' (RanS g B S A l cap (.slice none 0 0) mA w')) := hid fun w' g B S A cap h => by
      rw [hmA]; exact run_loop_any h hP ok0 (by omega) na (by omega) (by omega)
    have CR2 : Hid (∀ (w' : World) (g B : Nat) (S : Nat → Prop) (A : Option Addr) (cap : Nat) (pv : Value), Mach w' g 106 322 B S A l cap 2 pv mA doX → Calls Try.prog 16 #[.pointer (some ⟨g, 0, none⟩), .int .i64 nb] w' (RanS g B S A l cap pv mF w')) := hid fun w' g B S A cap pv h => by
      rw [← hAF]; exact run_loop_any h hP okA (by omega) nb (by omega) (by omega)
    have CR3 : Hid (∀ (w' : World) (g B : Nat) (S : Nat → Prop) (A : Option Addr) (cap : Nat), Mach w' g 106 322 B S A l cap 2 (.slice none 0 0) m0 doX → Calls Try.prog 16 #[.pointer (some ⟨g, 0, none⟩), .int .i64 ((na : Int) + (nb : Int))] w' (RanS g B S A l cap (.slice none 0 0) mF w')) := hid fun w' g B S A cap h => by
      rw [hmF, ← Int.natCast_add]; exact run_loop_any h hP ok0 (by omega) _ (by omega) (by omega)
    have CS : Hid (∀ (w' : World) (g B : Nat) (S : Nat → Prop) (A : Option Addr) (cap : Nat) (pv : Value), Mach w' g 106 322 B S A l cap 2 pv mF doX → Calls Try.prog 19 #[.pointer (some ⟨g, 0, none⟩)] w' (StateS mF w')) := hid fun w' g B S A cap pv h => state_any h okF.r32 okF.m256
    have CT : Hid (∀ w', BlksIn w' A l → NumsIn w' A1 s1 → NumsIn w' A2 s2 → Calls Try.prog 23 #[.agg #[.slice A l.length c], .agg #[.slice A1 s1.length c1, .slice A2 s2.length c2], .int .i64 ((na : Int) + (nb : Int))] w' fun e w'' => ∃ P cc, e = .returned (.tuple #[.slice P mF.steps cc, .int .i64 0]) ∧ Below w'.heap.size w' w'') := hid fun w' h1 h2 h3 => by
      rw [← Int.natCast_add]
      refine (trail_yes A l c A1 A2 s1 s2 c1 c2 w' h1 hw h2 h3 he hP (by rw [← hm0]; exact ok0) _).mono ?_
      rintro e w'' ⟨v, rfl, ho, hb⟩
      obtain ⟨P, cc, rfl⟩ := own_slice ho
      rw [hcT, ← hm0, ← stF]
      exact ⟨P, cc, rfl, hb⟩
    have CL := hid (fun (w' : World) (B1 B2 B3 B4 : Option Addr) (d1 d2 d3 d4 : Nat) h1 h2 h3 h4 => like_same B1 B2 B3 B4 mF.prints (outM mF) d1 d2 d3 d4 (outE mF) (outV mF) mF.steps w' h1 h2 h3 h4 (by have := okF.pl; omega) (by unfold outM; split <;> simp [okF.m256]))
    have CN1 := hid (fun (w' : World) (B1 B2 : Option Addr) (d1 d2 : Nat) h1 h2 => nums_same B1 B2 mF.R d1 d2 w' h1 h2 (by rw [okF.r32]; decide))
    have CN2 := hid (fun (w' : World) (B1 B2 : Option Addr) (d1 d2 : Nat) h1 h2 => nums_same B1 B2 mF.M d1 d2 w' h1 h2 (by rw [okF.m256]; decide))
    have hst : ((mF.steps : Int) == (mF.steps : Int)) = true := by simp
    replace hm0 := hid hm0
    clear hl hw hc hmx hs1 hs1w hs1c hs1m hs2 hs2w hs2c hs2m he hp hlen hP ok0 st0 hmA hmF hAF okA okF stA stF stF2 hcT ha hb
    go_enter Try.func7, Try.ntmps7
    go_wp2_with fail
    obtain ⟨wb, hwb⟩ : ∃ wb : World, wb = (w.alloc (.cells #[.slice A l.length c] 24)).alloc (.cells #[.slice A1 s1.length c1, .slice A2 s2.length c2] 27) := ⟨_, rfl⟩
    rw [← hwb]
    have B0 := hid (show Below w.heap.size w wb by rw [hwb]; ((with_reducible (repeat (first | assumption | exact Below.refl _ _ | refine bset ?_ (Nat.le_refl _) _ | refine balloc ?_ _ | refine bdrew ?_ | refine bdrewN ?_ _))); done))
    have hsb : wb.heap.size = w.heap.size + 2 := by rw [hwb]; simp
    have b0 : wb.cell? ⟨w.heap.size, 0, none⟩ = some (.slice A l.length c) := by rw [hwb]; go_simp
    have b1 : wb.cell? ⟨w.heap.size + 1, 0, none⟩ = some (.slice A1 s1.length c1) := by rw [hwb]; go_simp
    have b2 : wb.cell? ⟨w.heap.size + 1, 1, none⟩ = some (.slice A2 s2.length c2) := by rw [hwb]; go_simp
    have Z0 := hid b0
    have Z1 := hid b1
    have Z2 := hid b2
    have hw0 : w.heap.size < wb.heap.size := by omega
    have hw1 : w.heap.size + 1 < wb.heap.size := by omega
    replace hwb := hid hwb
    with_reducible refine (CA.out _).mono ?_
    rintro e wb ⟨rfl, rfl⟩
    go_wp2_with fail
    with_reducible refine (CB.out _).mono ?_
    rintro e wb ⟨rfl, rfl⟩
    go_wp2_with fail
    with_reducible refine (C0.out _ (HL.out.keep ?_) (HR.out.keep ?_) (HM.out.keep ?_)).mono ?_
    · exact B0.out
    · exact B0.out
    · exact B0.out
    rintro e w1 ⟨g1, Q1, cp1, rfl, hM1, hb1, hg1⟩
    rw [← hm0.out] at hM1
    have M1 := hid hM1
    have K1 := hid hb1
    have hg1s := hM1.cells.lt
    have z0 := cell_keep b0 hb1
    have z1 := cell_keep b1 hb1
    have z2 := cell_keep b2 hb1
    have hw0' : w.heap.size < w1.heap.size := by omega
    have hw1' : w.heap.size + 1 < w1.heap.size := by omega
    clear hM1 hb1 b0 b1 b2 CA CB
    go_wp2_with fail
    with_reducible refine (C0.out _ (HL.out.keep ?_) (HR.out.keep ?_) (HM.out.keep ?_)).mono ?_
    · exact btrans B0.out K1.out
    · exact btrans B0.out K1.out
    · exact btrans B0.out K1.out
    rintro e w2 ⟨g2, Q2, cp2, rfl, hM2, hb2, hg2⟩
    rw [← hm0.out] at hM2
    have hg2s := hM2.cells.lt
    obtain ⟨B, hBa, hBb⟩ : ∃ B, B ≤ w2.heap.size ∧ w2.heap.size ≤ B := ⟨_, Nat.le_refl _, Nat.le_refl _⟩
    have hs12 := hb2.size
    have M1' := hid ((M1.out.below hb2).raise (B' := B) (by omega) hBa)
    have M2 := hid (hM2.raise (B' := B) hBb hBa)
    have K2 := hid (btrans K1.out hb2)
    have hg12 : g1 ≠ g2 := by omega
    have hg1B : g1 < B := by omega
    have hg2B : g2 < B := by omega
    clear hM2 hb2 M1 z0 z1 z2 C0 K1
    go_wp2_with fail
    with_reducible refine (CR1.out _ _ _ _ _ _ M1'.out).mono ?_
    rintro e w3 ⟨pv1, A3, A4, c3, c4, rfl, hW, _, _⟩
    have W3 := hid hW
    have M2' := hid (M2.out.stay hW.trn (Ne.symm hg12) (fun k e => by cases e) (fun k e => by cases e) (fun b hb => by have := hb.1; omega))
    have K3 := hid (K2.out.trans (trn_below hW.trn (by have := K2.out.size; omega) hg1 (fun k e => by cases e)))
    have hs3 := hW.trn.size
    clear hW M1' M2 CR1 K2
    go_wp2_with fail
    with_reducible refine (CR2.out _ _ _ _ _ _ _ W3.out.mach).mono ?_
    rintro e w4 ⟨pv2, A3, A4, c3, c4, rfl, hW, hn3, hn4⟩
    have hpv := fun k e => (own_ge W3.out.mach.own k e).1
    have W4 := hid hW
    have M2 := hid (M2'.out.stay hW.trn (Ne.symm hg12) (fun k e => ⟨hpv k e, fun h => by cases h⟩) (fun k e => by cases e) (fun b hb => by have := hb.1; omega))
    have K4 := hid (K3.out.trans (trn_below hW.trn (by have := K3.out.size; omega) hg1 (fun k e => by have := hpv k e; have := K3.out.size; omega)))
    have hs4 := hW.trn.size
    clear hW M2' CR2 K3 W3 hpv
    go_wp2_with fail
    with_reducible refine (CR3.out _ _ _ _ _ _ M2.out).mono ?_
    rintro e w5 ⟨pv3, A5, A6, c5, c6, rfl, hW, hn5, hn6⟩
    have W5 := hid hW
    have M1 := hid (W4.out.mach.stay hW.trn hg12 (fun k e => by cases e) (fun k e => by have := (own_ge W4.out.mach.own k e).1; omega) (fun b hb => by have := hb.2; omega))
    have K5 := hid (K4.out.trans (trn_below hW.trn (by have := K4.out.size; omega) (by omega) (fun k e => by cases e)))
    have N3 := hid (hn3.trn hW.trn (by omega) rfl).nums
    have N4 := hid (hn4.trn hW.trn (by omega) rfl).nums
    have N5 := hid hn5.nums
    have N6 := hid hn6.nums
    have hs5 := hW.trn.size
    clear hW hn3 hn4 hn5 hn6 W4 M2 CR3 K4
    go_wp2_with fail
    obtain ⟨wc, hwc⟩ : ∃ wc : World, wc = (w5.alloc (.cells #[.int .i64 (outE mF), .int .i64 (outV mF), .slice A3 mF.prints.length c3, .slice A4 (outM mF).length c4, .int .i64 mF.steps] 39)).alloc (.cells #[.int .i64 (outE mF), .int .i64 (outV mF), .slice A5 mF.prints.length c5, .slice A6 (outM mF).length c6, .int .i64 mF.steps] 39) := ⟨_, rfl⟩
    rw [← hwc]
    have hsc : wc.heap.size = w5.heap.size + 2 := by rw [hwc]; simp
    have bc : Below w5.heap.size w5 wc := by rw [hwc]; ((with_reducible (repeat (first | assumption | exact Below.refl _ _ | refine bset ?_ (Nat.le_refl _) _ | refine balloc ?_ _ | refine bdrew ?_ | refine bdrewN ?_ _))); done)
    have x0 : wc.cell? ⟨w5.heap.size, 0, none⟩ = some (.int .i64 (outE mF)) := by rw [hwc]; go_simp
    have x1 : wc.cell? ⟨w5.heap.size, 1, none⟩ = some (.int .i64 (outV mF)) := by rw [hwc]; go_simp
    have x2 : wc.cell? ⟨w5.heap.size, 2, none⟩ = some (.slice A3 mF.prints.length c3) := by rw [hwc]; go_simp
    have x3 : wc.cell? ⟨w5.heap.size, 3, none⟩ = some (.slice A4 (outM mF).length c4) := by rw [hwc]; go_simp
    have x4 : wc.cell? ⟨w5.heap.size, 4, none⟩ = some (.int .i64 mF.steps) := by rw [hwc]; go_simp
    have y0 : wc.cell? ⟨w5.heap.size + 1, 0, none⟩ = some (.int .i64 (outE mF)) := by rw [hwc]; go_simp
    have y1 : wc.cell? ⟨w5.heap.size + 1, 1, none⟩ = some (.int .i64 (outV mF)) := by rw [hwc]; go_simp
    have y2 : wc.cell? ⟨w5.heap.size + 1, 2, none⟩ = some (.slice A5 mF.prints.length c5) := by rw [hwc]; go_simp
    have y3 : wc.cell? ⟨w5.heap.size + 1, 3, none⟩ = some (.slice A6 (outM mF).length c6) := by rw [hwc]; go_simp
    have y4 : wc.cell? ⟨w5.heap.size + 1, 4, none⟩ = some (.int .i64 mF.steps) := by rw [hwc]; go_simp
    have X := hid (And.intro x0 (And.intro x1 (And.intro x2 (And.intro x3 x4))))
    have Y := hid (And.intro y0 (And.intro y1 (And.intro y2 (And.intro y3 y4))))
    have KC := hid (btrans K5.out bc)
    replace M1 := hid (M1.out.below bc)
    have M2 := hid (W5.out.mach.below bc)
    replace N3 := hid (N3.out.keep bc)
    replace N4 := hid (N4.out.keep bc)
    replace N5 := hid (N5.out.keep bc)
    replace N6 := hid (N6.out.keep bc)
    replace hwc := hid hwc
    have hwx : w5.heap.size < wc.heap.size := by omega
    have hwy : w5.heap.size + 1 < wc.heap.size := by omega
    have hsz5 := K5.out.size
    clear x0 x1 x2 x3 x4 y0 y1 y2 y3 y4 bc K5 W5
    with_reducible refine (CS.out _ _ _ _ _ _ _ M1.out).mono ?_
    rintro e w6 ⟨A7, A8, c7, c8, rfl, hb6, hn7, hn8⟩
    have L6 := hid hb6
    have M2' := hid (M2.out.below hb6)
    have N7 := hid hn7.1
    have N8 := hid hn8.1
    clear hb6 hn7 hn8 M1 M2
    go_wp2_with fail
    with_reducible refine (CS.out _ _ _ _ _ _ _ M2'.out).mono ?_
    rintro e w7 ⟨A9, A0, c9, c0, rfl, hb7, hn9, hn0⟩
    have L7 := hid (btrans L6.out hb7)
    replace N7 := hid (N7.out.keep hb7)
    replace N8 := hid (N8.out.keep hb7)
    have N9 := hid hn9.1
    have N0 := hid hn0.1
    have k7 := btrans KC.out L7.out
    have z0 := cell_keep Z0.out k7
    have z1 := cell_keep Z1.out k7
    have z2 := cell_keep Z2.out k7
    have hw07 : w.heap.size < w7.heap.size := by have := k7.size; omega
    have hw17 : w.heap.size + 1 < w7.heap.size := by have := k7.size; omega
    have B7 := hid (btrans B0.out k7)
    clear hb7 hn9 hn0 M2' L6 CS k7
    go_wp2_with fail
    with_reducible refine (CT.out _ (HL.out.keep ?_) (HR.out.keep ?_) (HM.out.keep ?_)).mono ?_
    · exact btrans B7.out (by ((with_reducible (repeat (first | assumption | exact Below.refl _ _ | refine bset ?_ (Nat.le_refl _) _ | refine balloc ?_ _ | refine bdrew ?_ | refine bdrewN ?_ _))); done))
    · exact btrans B7.out (by ((with_reducible (repeat (first | assumption | exact Below.refl _ _ | refine bset ?_ (Nat.le_refl _) _ | refine balloc ?_ _ | refine bdrew ?_ | refine bdrewN ?_ _))); done))
    · exact btrans B7.out (by ((with_reducible (repeat (first | assumption | exact Below.refl _ _ | refine bset ?_ (Nat.le_refl _) _ | refine balloc ?_ _ | refine bdrew ?_ | refine bdrewN ?_ _))); done))
    rintro e w8 ⟨P, cc, rfl, hb8⟩
    have q0 : w8.cell? ⟨w7.heap.size, 0, none⟩ = some (.slice A7 mF.R.length c7) := cell_keep (by go_simp) hb8
    have q1 : w8.cell? ⟨w7.heap.size, 1, none⟩ = some (.slice A8 mF.M.length c8) := cell_keep (by go_simp) hb8
    have r0 : w8.cell? ⟨w7.heap.size + 1, 0, none⟩ = some (.slice A9 mF.R.length c9) := cell_keep (by go_simp) hb8
    have r1 : w8.cell? ⟨w7.heap.size + 1, 1, none⟩ = some (.slice A0 mF.M.length c0) := cell_keep (by go_simp) hb8
    have L8 := hid (btrans (show Below w7.heap.size w7 _ by ((with_reducible (repeat (first | assumption | exact Below.refl _ _ | refine bset ?_ (Nat.le_refl _) _ | refine balloc ?_ _ | refine bdrew ?_ | refine bdrewN ?_ _))); done)) hb8)
    have L78 := btrans L7.out L8.out
    have hz := hb8.size
    (try simp at hz)
    have hq0 : w7.heap.size < w8.heap.size := by omega
    have hr0 : w7.heap.size + 1 < w8.heap.size := by omega
    obtain ⟨x0, x1, x2, x3, x4⟩ := X.out
    obtain ⟨y0, y1, y2, y3, y4⟩ := Y.out
    replace x0 := cell_keep x0 L78
    replace x1 := cell_keep x1 L78
    replace x2 := cell_keep x2 L78
    replace x3 := cell_keep x3 L78
    replace x4 := cell_keep x4 L78
    replace y0 := cell_keep y0 L78
    replace y1 := cell_keep y1 L78
    replace y2 := cell_keep y2 L78
    replace y3 := cell_keep y3 L78
    replace y4 := cell_keep y4 L78
    replace N3 := hid (N3.out.keep L78)
    replace N4 := hid (N4.out.keep L78)
    replace N5 := hid (N5.out.keep L78)
    replace N6 := hid (N6.out.keep L78)
    replace N7 := hid (N7.out.keep L8.out)
    replace N8 := hid (N8.out.keep L8.out)
    replace N9 := hid (N9.out.keep L8.out)
    replace N0 := hid (N0.out.keep L8.out)
    replace hwx : w5.heap.size < w8.heap.size := by have := L78.size; omega
    replace hwy : w5.heap.size + 1 < w8.heap.size := by have := L78.size; omega
    have B8 := hid (btrans B7.out L8.out)
    clear X Y z0 z1 z2 L78 hb8 hz L7 L8 B7 KC CT HL HR HM Z0 Z1 Z2
    go_wp2_with fail
    with_reducible refine (CL.out _ _ _ _ _ _ _ _ _ N3.out N5.out N4.out N6.out).mono ?_
    rintro e w9 ⟨rfl, hb⟩
    replace B8 := hid (btrans B8.out hb)
    replace q0 := cell_keep q0 hb
    replace q1 := cell_keep q1 hb
    replace r0 := cell_keep r0 hb
    replace r1 := cell_keep r1 hb
    replace y4 := cell_keep y4 hb
    replace N7 := hid (N7.out.keep hb)
    replace N8 := hid (N8.out.keep hb)
    replace N9 := hid (N9.out.keep hb)
    replace N0 := hid (N0.out.keep hb)
    have hs9 := hb.size
    replace hq0 : w7.heap.size < w9.heap.size := by omega
    replace hr0 : w7.heap.size + 1 < w9.heap.size := by omega
    replace hwy : w5.heap.size + 1 < w9.heap.size := by omega
    clear x0 x1 x2 x3 x4 y0 y1 y2 y3 hb hs9 N3 N4 N5 N6 CL
    go_wp2_with fail
    with_reducible refine (CN1.out _ _ _ _ _ N7.out N9.out).mono ?_
    rintro e w10 ⟨rfl, hb⟩
    replace B8 := hid (btrans B8.out hb)
    replace q1 := cell_keep q1 hb
    replace r1 := cell_keep r1 hb
    replace y4 := cell_keep y4 hb
    replace N8 := hid (N8.out.keep hb)
    replace N0 := hid (N0.out.keep hb)
    have hs9 := hb.size
    replace hq0 : w7.heap.size < w10.heap.size := by omega
    replace hr0 : w7.heap.size + 1 < w10.heap.size := by omega
    replace hwy : w5.heap.size + 1 < w10.heap.size := by omega
    clear q0 r0 hb hs9 N7 N9 CN1
    go_wp2_with fail
    with_reducible refine (CN2.out _ _ _ _ _ N8.out N0.out).mono ?_
    rintro e w11 ⟨rfl, hb⟩
    replace B8 := hid (btrans B8.out hb)
    replace y4 := cell_keep y4 hb
    have hs9 := hb.size
    replace hwy : w5.heap.size + 1 < w11.heap.size := by omega
    clear q1 r1 hb hs9 N8 N0 CN2
    go_wp2_with fail
    with_reducible refine (CW.out _).mono ?_
    rintro e w12 ⟨rfl, hb⟩
    go_wp2
    go_ret
    exact ⟨rfl, btrans B8.out hb⟩
  · have C0 := hid (fun w hl => new_no A l c A1 A2 s1 s2 c1 c2 w hl hw (by omega) (by omega) (by omega) he)
    have hE : (newE l s1 s2 != 0) = true := by simpa using he
    have hE2 : (newE l s1 s2 == newE l s1 s2) = true := by simp
    generalize newE l s1 s2 = E at *
    clear hl hw hc hmx hs1 hs1w hs1c hs1m hs2 hs2w hs2c hs2m he HR HM la lb
    go_enter Try.func7, Try.ntmps7
    go_wp2_with fail
    with_reducible refine (CA.out _).mono ?_
    rintro e w9 ⟨rfl, rfl⟩
    go_wp2_with fail
    with_reducible refine (CB.out _).mono ?_
    rintro e w9 ⟨rfl, rfl⟩
    go_wp2_with fail
    with_reducible refine (C0.out _ (HL.out.keep ?_)).mono ?_
    · ((with_reducible (repeat (first | assumption | exact Below.refl _ _ | refine bset ?_ (Nat.le_refl _) _ | refine balloc ?_ _ | refine bdrew ?_ | refine bdrewN ?_ _))); done)
    rintro e w1 ⟨rfl, hb⟩
    have B1 := hid (btrans (a := w) (by ((with_reducible (repeat (first | assumption | exact Below.refl _ _ | refine bset ?_ (Nat.le_refl _) _ | refine balloc ?_ _ | refine bdrew ?_ | refine bdrewN ?_ _))); done)) hb)
    have z0 : w1.cell? ⟨w.heap.size, 0, none⟩ = some (.slice A l.length c) := cell_keep (by go_simp) hb
    have z1 : w1.cell? ⟨w.heap.size + 1, 0, none⟩ = some (.slice A1 s1.length c1) := cell_keep (by go_simp) hb
    have z2 : w1.cell? ⟨w.heap.size + 1, 1, none⟩ = some (.slice A2 s2.length c2) := cell_keep (by go_simp) hb
    have hz : w.heap.size + 1 < w1.heap.size := by have := hb.size; simp at this; omega
    have hz0 : w.heap.size < w1.heap.size := by omega
    clear hb
    go_wp2_with fail
    with_reducible refine (C0.out _ (HL.out.keep ?_)).mono ?_
    · exact B1.out
    rintro e w2 ⟨rfl, hb⟩
    have B2 := hid (btrans B1.out hb)
    clear hb z0 z1 z2
    go_wp2_with fail
    with_reducible refine (CW.out _).mono ?_
    rintro e w3 ⟨rfl, hb⟩
    go_wp2
    go_ret
    exact ⟨rfl, btrans B2.out hb⟩
end Go.Proofs.Ytpiagggnjppkhaa
