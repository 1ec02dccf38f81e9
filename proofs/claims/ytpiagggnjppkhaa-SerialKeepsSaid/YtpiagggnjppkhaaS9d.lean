/- Registers that no operation writes, and memory without stores, stay as they were, for every program, every state and every number of steps; no condition. -/
import Derived.Test.YtpiagggnjppkhaaS9c
namespace Go.Proofs.Ytpiagggnjppkhaa
open Go.RowKit
set_option linter.unusedVariables false
set_option linter.unusedSimpArgs false
set_option maxHeartbeats 4000000 in
set_option maxRecDepth 100000 in
theorem SerialKeeps_walk (A : Option Addr) (l : List Blk) (c : Nat) (A1 : Option Addr) (s1 : List Int) (c1 : Nat) (A2 : Option Addr) (s2 : List Int) (c2 : Nat) (n : Int) (w : World) (hl : BlksIn w A l) (hw : ∀ b ∈ l, b.wf) (hc : l.length ≤ c) (hmx : c ≤ 1954687340000)
    (hs1 : NumsIn w A1 s1) (hs1w : I64s s1) (hs1c : s1.length ≤ c1) (hs1m : c1 ≤ 17592186043904) (hs2 : NumsIn w A2 s2) (hs2w : I64s s2) (hs2c : s2.length ≤ c2) (hs2m : c2 ≤ 17592186043904)
    (hn : -9223372036854775808 ≤ n ∧ n ≤ 9223372036854775807) :
    Calls Try.prog 5 #[.agg #[.slice A l.length c], .agg #[.slice A1 s1.length c1, .slice A2 s2.length c2], .int .i64 n] w fun e w' => e = .returned (.bool true) ∧ Below w.heap.size w w' := by
  have CW := hid (fun w => wakes09_any w)
  have CA := hid (fun w => steps_any n w hn.1 hn.2)
  have hsn0 := stepsN_ge n hn.1
  have hsn1 := stepsN_le n
  generalize stepsN n = sn at *
  have HL := hid hl
  by_cases he : newE l s1 s2 = 0
  · have hp : prgE l = 0 := by
      unfold newE at he
      by_cases h : prgE l = 0
      · exact h
      · rw [if_neg h] at he; exact he
    have hlen : s1.length ≤ 32 ∧ s2.length ≤ 256 := by
      unfold newE at he
      rw [if_pos hp] at he
      by_cases h : 32 < s1.length ∨ 256 < s2.length
      · rw [if_pos h] at he; omega
      · omega
    have hP := prgE_ok hw hp
    have ok0 := newM_ok hP hs1w hs2w hlen.1 hlen.2
    obtain ⟨m0, hm0⟩ : ∃ m0, m0 = newM s1 s2 := ⟨_, rfl⟩
    have C0 : Hid (∀ w', Below w.heap.size w w' → Calls Try.prog 12 #[.agg #[.slice A l.length c], .agg #[.slice A1 s1.length c1, .slice A2 s2.length c2]] w' (NewS l s1 s2 w')) := hid (fun w' hb => new_yes A l c A1 A2 s1 s2 c1 c2 w' (hl.keep hb) hw (hs1.keep hb) (hs2.keep hb) he)
    rw [← hm0] at ok0
    have st0 : m0.steps = 0 := by rw [hm0]; rfl
    obtain ⟨mF, hmF⟩ : ∃ mF, mF = runM l sn m0 := ⟨_, rfl⟩
    have okF : mF.ok l := by rw [hmF]; exact runM_ok hP ok0 _
    have HKR : Hid (∀ r, r < 32 → keepsR l r → (mF.R[r]?).getD 0 = (m0.R[r]?).getD 0) := hid fun r _ h => by rw [hmF, runM_keepR hP h]
    have HKM : Hid (keepsM l → mF.M = m0.M) := hid fun h => by rw [hmF, runM_keepM h]
    have HR0 := hid ok0.r32
    have HRF := hid okF.r32
    have HM0 := hid ok0.m256
    have CR1 : Hid (∀ (w' : World) (g B : Nat) (S : Nat → Prop) (A : Option Addr) (cap : Nat), Mach w' g 106 322 B S A l cap 2 (.slice none 0 0) m0 doX → Calls Try.prog 16 #[.pointer (some ⟨g, 0, none⟩), .int .i64 sn] w' (RanS g B S A l cap (.slice none 0 0) mF w')) := hid fun w' g B S A cap h => by
      rw [hmF]; exact run_loop_any h hP ok0 (by omega) sn (by omega) (by omega)
    have CS0 : Hid (∀ (w' : World) (g B : Nat) (S : Nat → Prop) (A : Option Addr) (cap : Nat) (pv : Value), Mach w' g 106 322 B S A l cap 2 pv m0 doX → Calls Try.prog 19 #[.pointer (some ⟨g, 0, none⟩)] w' fun e w'' => ∃ A7 A8 c7 c8, e = .returned (.agg #[.slice A7 32 c7, .slice A8 m0.M.length c8]) ∧ Below w'.heap.size w' w'' ∧ (NumsIn w'' A7 m0.R ∧ ∀ a, A7 = some a → w'.heap.size ≤ a.block ∧ a.block < w''.heap.size) ∧ (NumsIn w'' A8 m0.M ∧ ∀ a, A8 = some a → w'.heap.size ≤ a.block ∧ a.block < w''.heap.size)) := hid fun w' g B S A cap pv h => by
      refine (state_any h ok0.r32 ok0.m256).mono ?_
      rintro e w'' ⟨A7, A8, c7, c8, rfl, h1, h2, h3⟩
      rw [ok0.r32]
      exact ⟨A7, A8, c7, c8, rfl, h1, h2, h3⟩
    have CSF : Hid (∀ (w' : World) (g B : Nat) (S : Nat → Prop) (A : Option Addr) (cap : Nat) (pv : Value), Mach w' g 106 322 B S A l cap 2 pv mF doX → Calls Try.prog 19 #[.pointer (some ⟨g, 0, none⟩)] w' fun e w'' => ∃ A7 A8 c7 c8, e = .returned (.agg #[.slice A7 32 c7, .slice A8 m0.M.length c8]) ∧ Below w'.heap.size w' w'' ∧ NumsIn w'' A7 mF.R ∧ NumsIn w'' A8 mF.M) := hid fun w' g B S A cap pv h => by
      refine (state_any h okF.r32 okF.m256).mono ?_
      rintro e w'' ⟨A7, A8, c7, c8, rfl, h1, h2, h3⟩
      rw [okF.r32, okF.m256, ← ok0.m256]
      exact ⟨A7, A8, c7, c8, rfl, h1, h2.1, h3.1⟩
    have CN := hid (fun (w' : World) (B1 B2 : Option Addr) (d1 d2 : Nat) h1 h2 => nums_same B1 B2 m0.M d1 d2 w' h1 h2 (by rw [ok0.m256]; decide))
    have CWr := hid (fun (o : Op) (w' : World) (ho : o.wf) => writes_any o w' ho)
    have HO : Hid (∀ b ∈ l, ∀ o, o ∈ b.ops ∨ o ∈ b.body → opOk o = true ∧ o.wf) := hid fun b hb o ho => by
      rcases ho with ho | ho
      · exact ⟨hP.ops b hb o ho, (hP.wf b hb).ops o ho⟩
      · exact ⟨hP.body b hb o ho, (hP.wf b hb).body o ho⟩
    have HLn : Hid (∀ b ∈ l, b.ops.length ≤ 1024 ∧ b.body.length ≤ 1024) := hid fun b hb => ⟨hP.m0 b hb, hP.m1 b hb⟩
    have hl128 := hP.n1
    replace hm0 := hid hm0
    clear hl hw hc hmx hs1 hs1w hs1c hs1m hs2 hs2w hs2c hs2m he hp hlen hP ok0 st0 hmF okF hn hsn0 hsn1
    go_enter Try.func5, Try.ntmps5
    go_wp2_with fail
    obtain ⟨wb, hwb⟩ : ∃ wb : World, wb = (w.alloc (.cells #[.slice A l.length c] 24)).alloc (.cells #[.slice A1 s1.length c1, .slice A2 s2.length c2] 27) := ⟨_, rfl⟩
    rw [← hwb]
    have B0 := hid (show Below w.heap.size w wb by rw [hwb]; ((with_reducible (repeat (first | assumption | exact Below.refl _ _ | refine bset ?_ (Nat.le_refl _) _ | refine balloc ?_ _ | refine bdrew ?_ | refine bdrewN ?_ _))); done))
    have hsb : wb.heap.size = w.heap.size + 2 := by rw [hwb]; simp
    have b0 : wb.cell? ⟨w.heap.size, 0, none⟩ = some (.slice A l.length c) := by rw [hwb]; go_simp
    have hw0 : w.heap.size < wb.heap.size := by omega
    replace hwb := hid hwb
    have Z0 := hid b0
    clear b0
    with_reducible refine (C0.out _ B0.out).mono ?_
    rintro e w1 ⟨g1, Q1, cp1, rfl, hM1, hb1, hg1⟩
    rw [← hm0.out] at hM1
    have M1 := hid hM1
    have K1 := hid hb1
    have hg1s := hM1.cells.lt
    clear hM1 hb1 C0
    go_wp2_with fail
    with_reducible refine (CS0.out _ _ _ _ _ _ _ M1.out).mono ?_
    rintro e w2 ⟨A7, A8, c7, c8, rfl, hb2, hn7, hn8⟩
    have K2 := hid (btrans K1.out hb2)
    have M2 := hid (M1.out.below hb2)
    have N7 := hid hn7
    have N8 := hid hn8
    have hs2 := hb2.size
    clear hb2 hn7 hn8 M1 CS0 K1
    go_wp2_with fail
    with_reducible refine (CA.out _).mono ?_
    rintro e w9 ⟨rfl, rfl⟩
    go_wp2_with fail
    obtain ⟨w3, hw3⟩ : ∃ w3 : World, w3 = w2.alloc (.cells #[.slice A7 32 c7, .slice A8 m0.M.length c8] 27) := ⟨_, rfl⟩
    rw [← hw3]
    have hb3 : Below w2.heap.size w2 w3 := by rw [hw3]; ((with_reducible (repeat (first | assumption | exact Below.refl _ _ | refine bset ?_ (Nat.le_refl _) _ | refine balloc ?_ _ | refine bdrew ?_ | refine bdrewN ?_ _))); done)
    have hs3 : w3.heap.size = w2.heap.size + 1 := by rw [hw3]; simp
    have u0 : w3.cell? ⟨w2.heap.size, 0, none⟩ = some (.slice A7 32 c7) := by rw [hw3]; go_simp
    have u1 : w3.cell? ⟨w2.heap.size, 1, none⟩ = some (.slice A8 m0.M.length c8) := by rw [hw3]; go_simp
    replace hw3 := hid hw3
    have M3 := hid (M2.out.below hb3)
    with_reducible refine (CR1.out _ _ _ _ _ _ M3.out).mono ?_
    rintro e w4 ⟨pv1, A3, A4, c3, c4, rfl, hW, _, _⟩
    have hs4 := hW.trn.size
    have u0' : w4.cell? ⟨w2.heap.size, 0, none⟩ = some (.slice A7 32 c7) := (World.cell?_of_block (hW.trn.block w2.heap.size (by omega) (by omega) (by intro e; cases e))).trans u0
    have u1' : w4.cell? ⟨w2.heap.size, 1, none⟩ = some (.slice A8 m0.M.length c8) := (World.cell?_of_block (hW.trn.block w2.heap.size (by omega) (by omega) (by intro e; cases e))).trans u1
    have N7' : Hid (NumsIn w4 A7 m0.R) := hid (nums_same_block (N7.out.1.keep hb3) fun a ha => hW.trn.block _ (by have := (N7.out.2 a ha).2; omega) (by have := (N7.out.2 a ha).1; omega) (by intro e; cases e))
    have N8' : Hid (NumsIn w4 A8 m0.M) := hid (nums_same_block (N8.out.1.keep hb3) fun a ha => hW.trn.block _ (by have := (N8.out.2 a ha).2; omega) (by have := (N8.out.2 a ha).1; omega) (by intro e; cases e))
    have K4 := hid ((btrans K2.out hb3).trans (trn_below hW.trn (by have := K2.out.size; omega) hg1 (fun k e => by cases e)))
    have M4 := hid hW.mach
    have hw24 : w2.heap.size < w4.heap.size := by omega
    clear hW u0 u1 hb3 N7 N8 M2 M3 K2 CR1
    go_wp2_with fail
    with_reducible refine (CSF.out _ _ _ _ _ _ _ M4.out).mono ?_
    rintro e w5 ⟨A9, A0, c9, c0, rfl, hb5, hn9, hn0⟩
    obtain ⟨w6, hw6⟩ : ∃ w6 : World, w6 = w5.alloc (.cells #[.slice A9 32 c9, .slice A0 m0.M.length c0] 27) := ⟨_, rfl⟩
    have hb6 : Below w5.heap.size w5 w6 := by rw [hw6]; ((with_reducible (repeat (first | assumption | exact Below.refl _ _ | refine bset ?_ (Nat.le_refl _) _ | refine balloc ?_ _ | refine bdrew ?_ | refine bdrewN ?_ _))); done)
    have hs6 : w6.heap.size = w5.heap.size + 1 := by rw [hw6]; simp
    have hb56 := btrans hb5 hb6
    have t0 := cell_keep u0' hb56
    have t1 := cell_keep u1' hb56
    have v0 : w6.cell? ⟨w5.heap.size, 0, none⟩ = some (.slice A9 32 c9) := by rw [hw6]; go_simp
    have v1 : w6.cell? ⟨w5.heap.size, 1, none⟩ = some (.slice A0 m0.M.length c0) := by rw [hw6]; go_simp
    have N7 := hid (N7'.out.keep hb56)
    have N8 := hid (N8'.out.keep hb56)
    have N9 := hid (hn9.keep hb6)
    have N0 := hid (hn0.keep hb6)
    have K6 := hid (btrans K4.out hb56)
    have hs5 := hb5.size
    have hw26 : w2.heap.size < w6.heap.size := by omega
    have hw56 : w5.heap.size < w6.heap.size := by omega
    clear hb5 hb6 hb56 hn9 hn0 u0' u1' N7' N8' M4 K4 CSF
    go_upto_region 7 with (fail)
    rw [← hw6]
    replace hw6 := hid hw6
    go_upto_region 10 with (fail)
    obtain ⟨wA, hwA⟩ : ∃ wA : World, wA = w6.alloc (.cells ((List.range 32).map (wrF (List.replicate 32 false))).toArray 46 (0, 0)) := ⟨_, rfl⟩
    have hwA2 : wA = w6.alloc (.cells #[.bool false, .bool false, .bool false, .bool false, .bool false, .bool false, .bool false, .bool false, .bool false, .bool false, .bool false, .bool false, .bool false, .bool false, .bool false, .bool false, .bool false, .bool false, .bool false, .bool false, .bool false, .bool false, .bool false, .bool false, .bool false, .bool false, .bool false, .bool false, .bool false, .bool false, .bool false, .bool false] 46 (0, 0)) := by rw [hwA]; rfl
    rw [← hwA2]
    obtain ⟨gW, hgW⟩ : ∃ gW, gW = w5.heap.size + 1 := ⟨_, rfl⟩
    have hbA : Below w6.heap.size w6 wA := by rw [hwA]; ((with_reducible (repeat (first | assumption | exact Below.refl _ _ | refine bset ?_ (Nat.le_refl _) _ | refine balloc ?_ _ | refine bdrew ?_ | refine bdrewN ?_ _))); done)
    have hsA : wA.heap.size = w6.heap.size + 1 := by rw [hwA]; simp
    have KA0 : Hid (KeepAt wA wA gW (List.replicate 32 false) false (flatO (l.take 0))) := hid ⟨by unfold FnAt; rw [hwA]; exact heap_new_at _ _ _ (by omega), Trn.refl _ _ _, KK.nil⟩
    have KA := hid (btrans K6.out hbA)
    have hw2A : w2.heap.size < wA.heap.size := by omega
    have hw5A : w5.heap.size < wA.heap.size := by omega
    have z0 := cell_keep Z0.out KA.out
    have hw0A : w.heap.size < wA.heap.size := by have := KA.out.size; omega
    have T0 := hid t0
    have T1 := hid t1
    have V0 := hid v0
    have V1 := hid v1
    have HBA := hid hbA
    have hg6W : w6.heap.size ≤ gW := by omega
    have BA := hid (btrans B0.out KA.out)
    have hgWA : gW < wA.heap.size := by omega
    have hgWw : w.heap.size ≤ gW := by have := K6.out.size; omega
    have hg2W : w2.heap.size < gW := by omega
    have hg5W : w5.heap.size < gW := by omega
    have hsK := K6.out.size
    rw [← hgW]
    clear hwA hwA2 hgW hbA K6 t0 t1 v0 v1 Z0
    go_upto_region 11 with (fail)
    have hl0 : (0 : Nat) ≤ l.length := Nat.zero_le _
    go_wp2_with fail
    go_loopg [12, 56] l.length (fun gk v12 v56 wr => ∃ (s : Bool) (i : Nat) (WL : List Bool), Value.bool s = v12 ∧ v56 = .int .i64 i ∧ i ≤ l.length ∧ Hid (gk + i = l.length) ∧ Hid (KeepAt wA wr gW WL s (flatO (l.take i))))
    case atStart => exact ⟨false, 0, List.replicate 32 false, rfl, rfl, hl0, by exact Nat.add_zero _, KA0⟩
    case round =>
      obtain ⟨s, i, WL, rfl, rfl, hi, hgk, HK⟩ := hrel
      by_cases hlt : i < l.length
      · have hij : (i : Int) < (l.length : Int) := by omega
        have hi0 : (0 : Int) ≤ (i : Int) := by omega
        have hsr := HK.out.trn.size
        have bwr : Below w.heap.size w wr := below_trn BA.out HK.out.trn (by omega) hgWw
        obtain ⟨q, off, rfl, hop⟩ := HL.out.get i hlt
        obtain ⟨Ba, ca, Bb, cb, k0, k1, k2, k3, k4, k5, o1, o2, lc, lc2, n1, n2⟩ := hop
        replace k0 := cell_keep k0 bwr
        replace k1 := cell_keep k1 bwr
        replace k2 := cell_keep k2 bwr
        replace k3 := cell_keep k3 bwr
        replace k4 := cell_keep k4 bwr
        replace k5 := cell_keep k5 bwr
        have hqs : q < wr.heap.size := World.block_lt_of_cell? wr _ k0
        have O1 := hid o1
        have O2 := hid o2
        have hlen := HLn.out _ (List.getElem_mem hlt)
        have Hmem := hid (HO.out _ (List.getElem_mem hlt))
        have hfl := hid (flat_take hlt)
        have hgr : gW < wr.heap.size := by omega
        clear o1 o2 n1 n2 lc lc2 bwr
        generalize l[i].ops = ol1 at *
        generalize l[i].body = ol2 at *
        generalize l[i].en = ben at *
        generalize l[i].a = ba at *
        generalize l[i].th = bth at *
        generalize l[i].el = bel at *
        go_upto_region 15 with (fail)
        obtain ⟨wm, hwm⟩ : ∃ wm : World, wm = (wr.alloc (.cells #[.slice Ba ol1.length ca, .int .i8 ben, .int .u8 ba, .slice Bb ol2.length cb, .int .i64 bth, .int .i64 bel] 50)).alloc (.cells #[.slice Ba ol1.length ca, .slice Bb ol2.length cb] 47) := ⟨_, rfl⟩
        rw [← hwm]
        obtain ⟨gb, hgb⟩ : ∃ gb, gb = wr.heap.size + 1 := ⟨_, rfl⟩
        have hbm : Below wr.heap.size wr wm := by rw [hwm]; ((with_reducible (repeat (first | assumption | exact Below.refl _ _ | refine bset ?_ (Nat.le_refl _) _ | refine balloc ?_ _ | refine bdrew ?_ | refine bdrewN ?_ _))); done)
        have hsm : wm.heap.size = wr.heap.size + 2 := by rw [hwm]; simp
        have d0 : wm.cell? ⟨gb, 0, none⟩ = some (.slice Ba ol1.length ca) := by rw [hwm, hgb]; go_simp
        have d1 : wm.cell? ⟨gb, 1, none⟩ = some (.slice Bb ol2.length cb) := by rw [hwm, hgb]; go_simp
        rw [← hgb]
        have HKm := hid (HK.out.below hbm)
        have D0 := hid d0
        have D1 := hid d1
        have hgbm : gb < wm.heap.size := by omega
        have hgbW : gb ≠ gW := by omega
        obtain ⟨pre, hpre⟩ : ∃ pre : Nat → List Op, pre = fun j => if j = 0 then flatO (l.take i) else if j = 1 then flatO (l.take i) ++ ol1 else flatO (l.take i) ++ ol1 ++ ol2 := ⟨_, rfl⟩
        have P0 : Hid (pre 0 = flatO (l.take i)) := hid (by rw [hpre]; rfl)
        have P1 : Hid (pre 1 = pre 0 ++ ol1) := hid (by rw [hpre]; rfl)
        have P2 : Hid (pre 2 = pre 1 ++ ol2) := hid (by rw [hpre]; rfl)
        have HKp : Hid (KeepAt wA wm gW WL s (pre 0)) := hid (by rw [P0.out]; exact HKm.out)
        replace hgb := hid hgb
        clear hwm hbm d0 d1 hpre HKm k0 k1 k2 k3 k4 k5 HK
        go_loopg [12, 66] 2 (fun gk2 v12 v66 w2r => ∃ (s : Bool) (j : Nat) (WL : List Bool), Value.bool s = v12 ∧ v66 = .int .i64 j ∧ j ≤ 2 ∧ Hid (gk2 + j = 2) ∧ Hid (KeepAt wA w2r gW WL s (pre j)) ∧ Hid (Trn gW none wm w2r))
        case atStart => exact ⟨s, 0, WL, rfl, rfl, by omega, by exact Nat.add_zero _, HKp, hid (Trn.refl _ _ _)⟩
        case round =>
          obtain ⟨s, j, WL, rfl, rfl, hj, hgk2, HK2, TT⟩ := hrel
          rename World => w2r
          have hs2r := TT.out.size
          by_cases hlt2 : j < 2
          · have hij2 : (j : Int) < 2 := by omega
            have hj0 : (0 : Int) ≤ (j : Int) := by omega
            have HD : Hid (∃ (Bk : Option Addr) (ck : Nat) (ol : List Op), w2r.cell? ⟨gb, j, none⟩ = some (.slice Bk ol.length ck) ∧ OpsIn w Bk ol ∧ pre (j + 1) = pre j ++ ol ∧ ol.length ≤ 1024 ∧ ∀ o ∈ ol, opOk o = true ∧ o.wf) := hid (by
              have bt : Below w.heap.size w w2r := below_trn BA.out HK2.out.trn (by have := BA.out.size; omega) hgWw
              have hcl : ∀ p, w2r.cell? ⟨gb, p, none⟩ = wm.cell? ⟨gb, p, none⟩ := fun p => World.cell?_of_block (TT.out.block gb hgbm hgbW (by intro e; cases e))
              obtain rfl | rfl : j = 0 ∨ j = 1 := by omega
              · exact ⟨Ba, ca, ol1, (hcl 0).trans D0.out, O1.out, P1.out, hlen.1, fun o ho => Hmem.out o (.inl ho)⟩
              · exact ⟨Bb, cb, ol2, (hcl 1).trans D1.out, O2.out, P2.out, hlen.2, fun o ho => Hmem.out o (.inr ho)⟩)
            obtain ⟨Bk, ck, ol, e0, eo, ep, el, eok⟩ := HD.out
            have EO := hid eo
            have EP := hid ep
            have EK := hid eok
            have hgb2 : gb < w2r.heap.size := by omega
            clear HD eo ep eok
            go_upto_region 18 with (fail)
            go_loopg [12, 72] ol.length (fun gk3 v12 v72 w3r => ∃ (s : Bool) (k : Nat) (WL : List Bool), Value.bool s = v12 ∧ v72 = .int .i64 k ∧ k ≤ ol.length ∧ Hid (gk3 + k = ol.length) ∧ Hid (KeepAt wA w3r gW WL s (pre j ++ ol.take k)) ∧ Hid (Trn gW none w2r w3r))
            case atStart => exact ⟨s, 0, WL, rfl, rfl, Nat.zero_le _, by exact Nat.add_zero _, hid (by rw [List.take_zero, List.append_nil]; exact HK2.out), hid (Trn.refl _ _ _)⟩
            case round =>
              obtain ⟨s, k, WL, rfl, rfl, hk, hgk3, HK3, TT3⟩ := hrel
              rename World => w3r
              have hs3r := TT3.out.size
              by_cases hlt3 : k < ol.length
              · have hij3 : (k : Int) < (ol.length : Int) := by omega
                have hk0 : (0 : Int) ≤ (k : Int) := by omega
                have bt3 : Below w.heap.size w w3r := below_trn BA.out HK3.out.trn (by have := BA.out.size; omega) hgWw
                have hmem := EK.out _ (List.getElem_mem hlt3)
                have hbd := wrN_bd hmem.1 hmem.2
                have HKN := hid (HK3.out.kk.snoc hmem.1 hmem.2)
                have hnext := hid (show pre j ++ ol.take (k + 1) = (pre j ++ ol.take k) ++ [ol[k]] by rw [List.take_succ_eq_append_getElem hlt3, List.append_assoc])
                obtain ⟨q3, off3, rfl, hop⟩ := (EO.out.keep bt3).get k hlt3
                generalize ol[k] = o at *
                obtain ⟨ok, od, oa, ob, on⟩ := o
                obtain ⟨f0, f1, f2, f3, f4⟩ := hop
                have hq3 : q3 < w3r.heap.size := World.block_lt_of_cell? w3r _ f0
                simp only at f0 f1 f2 f3 f4
                have hgW3 : gW < w3r.heap.size := by omega
                go_wp2_with fail
                with_reducible refine (CWr.out ⟨ok, od, oa, ob, on⟩ _ hmem.2).mono ?_
                rintro e w4r ⟨rfl, hb⟩
                have hbq := btrans (show Below w3r.heap.size w3r _ by ((with_reducible (repeat (first | assumption | exact Below.refl _ _ | refine bset ?_ (Nat.le_refl _) _ | refine balloc ?_ _ | refine bdrew ?_ | refine bdrewN ?_ _))); done)) hb
                have HKQ := hid (HK3.out.below hbq)
                have TTQ := hid (TT3.out.below hbq)
                have g0 : w4r.cell? ⟨w3r.heap.size, 0, none⟩ = some (.int .i8 ok) := cell_keep (by go_simp) hb
                have hz := hb.size
                (try simp at hz)
                have hz0 : w3r.heap.size < w4r.heap.size := by omega
                have hgW4 : gW < w4r.heap.size := by omega
                clear hbq hb f0 f1 f2 f3 f4 bt3 HK3 TT3
                cases hB : wrB ⟨ok, od, oa, ob, on⟩ with
                | true =>
                  obtain ⟨d, hd⟩ := Int.eq_ofNat_of_zero_le hbd.1
                  have hdl : d < 32 := by omega
                  have hdi : (d : Int) < 32 := by omega
                  have hdi0 : (0 : Int) ≤ (d : Int) := by omega
                  have hdn : (wrN ⟨ok, od, oa, ob, on⟩).toNat = d := by rw [hd]; rfl
                  have rd : w4r.cell? ⟨gW, d, none⟩ = some (.bool (WL[d]?.getD false)) := HKQ.out.arr.cell d hdl
                  have fd := HKQ.out.arr.frozen d
                  rw [hd]
                  replace hdn := hid hdn
                  replace hd := hid hd
                  cases s with
                  | true =>
                    go_wp2
                    go_roundg (ol.length - (k + 1))
                    case measure => have := hgk3.out; omega
                    case rel => exact ⟨true, k + 1, _, rfl, by go_num, by omega, by show _ + _ = _; omega, hid (by rw [hnext.out]; have h := HKQ.out.put hB HKN.out; rw [hdn.out] at h; exact h), hid (TTQ.out.set _ _)⟩
                  | false =>
                    go_wp2
                    go_roundg (ol.length - (k + 1))
                    case measure => have := hgk3.out; omega
                    case rel => exact ⟨(ok == 16), k + 1, _, rfl, by go_num, by omega, by show _ + _ = _; omega, hid (by rw [hnext.out]; have h := HKQ.out.put hB HKN.out; rw [hdn.out] at h; exact h), hid (TTQ.out.set _ _)⟩
                | false =>
                  have hWS : wrS WL ⟨ok, od, oa, ob, on⟩ = WL := by unfold wrS; rw [hB]; rfl
                  generalize wrN ⟨ok, od, oa, ob, on⟩ = wn at *
                  cases s with
                  | true =>
                    go_wp2
                    go_roundg (ol.length - (k + 1))
                    case measure => have := hgk3.out; omega
                    case rel => exact ⟨true, k + 1, _, rfl, by go_num, by omega, by show _ + _ = _; omega, hid (by rw [hnext.out]; exact HKQ.out.same hWS HKN.out), TTQ⟩
                  | false =>
                    go_wp2
                    go_roundg (ol.length - (k + 1))
                    case measure => have := hgk3.out; omega
                    case rel => exact ⟨(ok == 16), k + 1, _, rfl, by go_num, by omega, by show _ + _ = _; omega, hid (by rw [hnext.out]; exact HKQ.out.same hWS HKN.out), TTQ⟩
              · obtain rfl : k = ol.length := by omega
                rw [List.take_length] at HK3
                go_wp2
                go_roundg (2 - (j + 1))
                case measure => have := hgk2.out; omega
                case rel => exact ⟨s, j + 1, WL, rfl, by go_num, by omega, by show _ + _ = _; omega, hid (by rw [EP.out]; exact HK3.out), hid (TT.out.trans TT3.out (.inl rfl))⟩
          · obtain rfl : j = 2 := by omega
            go_wp2
            go_roundg (l.length - (i + 1))
            case measure => have := hgk.out; omega
            case rel => exact ⟨s, i + 1, WL, rfl, by go_num, by omega, by show _ + _ = _; omega, hid (by rw [hfl.out]; have h := HK2.out; rw [P2.out, P1.out, P0.out] at h; exact h)⟩
      · obtain rfl : i = l.length := by omega
        rw [List.take_length] at HK
        have BR : Hid (Below w6.heap.size w6 wr) := hid (HBA.out.trans (trn_below HK.out.trn (by omega) hg6W (fun k e => by cases e)))
        have BW : Hid (Below w.heap.size w wr) := hid (below_trn BA.out HK.out.trn (by have := BA.out.size; omega) hgWw)
        have AR := hid HK.out.arr
        have KF := hid HK.out.kk
        have hsr := HK.out.trn.size
        have N7r := hid (N7.out.keep BR.out)
        have N8r := hid (N8.out.keep BR.out)
        have N9r := hid (N9.out.keep BR.out)
        have N0r := hid (N0.out.keep BR.out)
        have t0r := hid (cell_keep T0.out BR.out)
        have t1r := hid (cell_keep T1.out BR.out)
        have v0r := hid (cell_keep V0.out BR.out)
        have v1r := hid (cell_keep V1.out BR.out)
        clear HK N7 N8 N9 N0 T0 T1 V0 V1 BR z0 CWr HO HLn CA
        go_wp2_with fail
        go_loopg [93] 32 (fun gk4 v93 wz => ∃ r : Nat, v93 = .int .i64 r ∧ r ≤ 32 ∧ Hid (gk4 + r = 32) ∧ Hid (Below wr.heap.size wr wz))
        case atStart => exact ⟨0, rfl, by omega, by exact Nat.add_zero _, hid (Below.refl _ _)⟩
        case round =>
          obtain ⟨r, rfl, hr, hgk4, BZ⟩ := hrel
          rename World => wz
          have hsz := BZ.out.size
          by_cases hlt4 : r < 32
          · have hir : (r : Int) < 32 := by omega
            have hir0 : (0 : Int) ≤ (r : Int) := by omega
            have a0 := cell_keep (AR.out.cell r hlt4) BZ.out
            unfold wrF at a0
            have t0z := cell_keep t0r.out BZ.out
            have v0z := cell_keep v0r.out BZ.out
            have hgWz : gW < wz.heap.size := by omega
            have hw2z : w2.heap.size < wz.heap.size := by omega
            have hw5z : w5.heap.size < wz.heap.size := by omega
            have hr7 : r < m0.R.length := by rw [HR0.out]; exact hlt4
            have hr9 : r < mF.R.length := by rw [HRF.out]; exact hlt4
            obtain ⟨g7, o7, rfl, e7⟩ := (N7r.out.keep BZ.out).get r hr7
            obtain ⟨g9, o9, rfl, e9⟩ := (N9r.out.keep BZ.out).get r hr9
            have hg7 : g7 < wz.heap.size := World.block_lt_of_cell? wz _ e7
            have hg9 : g9 < wz.heap.size := World.block_lt_of_cell? wz _ e9
            cases hWr : WL[r]?.getD false with
            | true =>
              rw [hWr] at a0
              clear t0z v0z e7 e9
              go_wp2
              go_quiet (fail)
              go_wp2
              go_roundg (32 - (r + 1))
              case measure => have := hgk4.out; omega
              case rel => exact ⟨r + 1, by go_num, by omega, by show _ + _ = _; omega, hid (bdrewN BZ.out _)⟩
            | false =>
              rw [hWr] at a0
              have heq : mF.R[r] = m0.R[r] := by
                have h := HKR.out r hlt4 (KF.out.keepsR hlt4 hWr)
                rwa [List.getElem?_eq_getElem hr7, List.getElem?_eq_getElem hr9] at h
              rw [heq] at e9
              generalize m0.R[r] = x at *
              clear heq
              go_wp2
              go_quiet (fail)
              go_wp2
              go_roundg (32 - (r + 1))
              case measure => have := hgk4.out; omega
              case rel => exact ⟨r + 1, by go_num, by omega, by show _ + _ = _; omega, hid (bdrewN BZ.out _)⟩
          · obtain rfl : r = 32 := by omega
            have t1z := cell_keep t1r.out BZ.out
            have v1z := cell_keep v1r.out BZ.out
            have hw2z : w2.heap.size < wz.heap.size := by omega
            have hw5z : w5.heap.size < wz.heap.size := by omega
            have BWZ := hid (btrans BW.out BZ.out)
            cases s with
            | true =>
              go_wp2_with fail
              with_reducible refine (CW.out _).mono ?_
              rintro e w8 ⟨rfl, hb⟩
              go_wp2
              go_ret
              exact ⟨rfl, btrans BWZ.out hb⟩
            | false =>
              have hM : Hid (NumsIn wz A0 m0.M) := hid (by have h := N0r.out.keep BZ.out; rw [HKM.out (KF.out.keepsM rfl)] at h; exact h)
              go_wp2_with fail
              with_reducible refine (CN.out _ _ _ _ _ (N8r.out.keep BZ.out) hM.out).mono ?_
              rintro e w8 ⟨rfl, hb⟩
              replace BWZ := hid (btrans BWZ.out hb)
              clear hb
              go_wp2_with fail
              with_reducible refine (CW.out _).mono ?_
              rintro e w9 ⟨rfl, hb⟩
              go_wp2
              go_ret
              exact ⟨rfl, btrans BWZ.out hb⟩
  · have C0 := hid (fun w hl => new_no A l c A1 A2 s1 s2 c1 c2 w hl hw (by omega) (by omega) (by omega) he)
    have hE : (newE l s1 s2 != 0) = true := by simpa using he
    generalize newE l s1 s2 = E at *
    clear hl hw hc hmx hs1 hs1w hs1c hs1m hs2 hs2w hs2c hs2m he CA hn
    go_enter Try.func5, Try.ntmps5
    go_wp2_with fail
    with_reducible refine (C0.out _ (HL.out.keep ?_)).mono ?_
    · ((with_reducible (repeat (first | assumption | exact Below.refl _ _ | refine bset ?_ (Nat.le_refl _) _ | refine balloc ?_ _ | refine bdrew ?_ | refine bdrewN ?_ _))); done)
    rintro e w1 ⟨rfl, hb⟩
    have B1 := hid (btrans (a := w) (by ((with_reducible (repeat (first | assumption | exact Below.refl _ _ | refine bset ?_ (Nat.le_refl _) _ | refine balloc ?_ _ | refine bdrew ?_ | refine bdrewN ?_ _))); done)) hb)
    clear hb
    go_wp2_with fail
    with_reducible refine (CW.out _).mono ?_
    rintro e w3 ⟨rfl, hb⟩
    go_wp2
    go_ret
    exact ⟨rfl, btrans B1.out hb⟩
end Go.Proofs.Ytpiagggnjppkhaa
