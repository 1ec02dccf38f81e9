/- A program runs one operation after the other as the document says, however the steps are dealt out, for every program, every state and every dealing; no condition. -/
import Derived.Test.YtpiagggnjppkhaaZ30
namespace Go.Proofs.Ytpiagggnjppkhaa
open Go.RowKit
set_option linter.unusedVariables false
set_option linter.unusedSimpArgs false
theorem trn_keep {K g : Nat} {r : Option Nat} {w0 w w' : World} (h : Below K w0 w) (t : Trn g r w w') (hK : K ≤ w0.heap.size) (hg : K ≤ g) (hr : ∀ k, r = some k → K ≤ k) : Below K w0 w' := h.trans (trn_below t (by have := h.size; omega) hg hr)
/-- The number of steps of a round. -/
theorem clamp_le {n : Int} (h : n ≤ 5000) : clampS n ≤ 5000 := by unfold clampS; omega
set_option maxHeartbeats 4000000 in
set_option maxRecDepth 100000 in
theorem SerialRuns_walk (A : Option Addr) (l : List Blk) (c : Nat) (A1 : Option Addr) (s1 : List Int) (c1 : Nat) (A2 : Option Addr) (s2 : List Int) (c2 : Nat) (D : Option Addr) (dl : List Int) (cd : Nat) (w : World) (hl : BlksIn w A l) (hw : ∀ b ∈ l, b.wf) (hc : l.length ≤ c) (hmx : c ≤ 1954687340000)
    (hs1 : NumsIn w A1 s1) (hs1w : I64s s1) (hs1c : s1.length ≤ c1) (hs1m : c1 ≤ 17592186043904) (hs2 : NumsIn w A2 s2) (hs2w : I64s s2) (hs2c : s2.length ≤ c2) (hs2m : c2 ≤ 17592186043904)
    (hd : NumsIn w D dl) (hdw : I64s dl) (hdc : dl.length ≤ cd) (hdm : cd ≤ 17592186043904) :
    Calls Try.prog 3 #[.agg #[.slice A l.length c], .agg #[.slice A1 s1.length c1, .slice A2 s2.length c2], .slice D dl.length cd] w fun e w' => e = .returned (.bool true) ∧ Below w.heap.size w w' := by
  have CW := hid (fun w => wakes09_any w)
  have CA := hid (fun (n : Int) (w : World) (h : -9223372036854775808 ≤ n ∧ n ≤ 9223372036854775807) => steps_any n w h.1 h.2)
  by_cases he : newE l s1 s2 = 0
  · have hp : prgE l = 0 := by
      unfold newE at he
      by_cases h : prgE l = 0
      · exact h
      · rw [if_neg h] at he; exact he
    have hlen : s1.length ≤ 32 ∧ s2.length ≤ 256 := by
      unfold newE at he
      rw [if_pos hp] at he
      by_cases h : 32 < s1.length ∨ 256 < s2.length
      · rw [if_pos h] at he; omega
      · omega
    have hP := prgE_ok hw hp
    have ok0 := newM_ok hP hs1w hs2w hlen.1 hlen.2
    obtain ⟨m0, hm0⟩ : ∃ m0, m0 = newM s1 s2 := ⟨_, rfl⟩
    rw [← hm0] at ok0
    have st0 := hid (show m0.steps = 0 by rw [hm0]; rfl)
    have C0 : Hid (∀ w', Below w.heap.size w w' → Calls Try.prog 12 #[.agg #[.slice A l.length c], .agg #[.slice A1 s1.length c1, .slice A2 s2.length c2]] w' (NewS l s1 s2 w')) := hid (fun w' hb => new_yes A l c A1 A2 s1 s2 c1 c2 w' (hl.keep hb) hw (hs1.keep hb) (hs2.keep hb) he)
    have C1 : Hid (∀ w', Below w.heap.size w w' → Calls Try.prog 13 #[.agg #[.slice A l.length c], .agg #[.slice A1 s1.length c1, .slice A2 s2.length c2]] w' (RnewS (fun b => b < w.heap.size) A l c s1 s2 w')) := hid (fun w' hb => rnew_yes (fun b => b < w.heap.size) A l c A1 A2 s1 s2 c1 c2 w' (hl.keep hb) ((blks_old hl).same fun b h => hb.block b h) (fun b h => Nat.lt_of_lt_of_le h hb.size) hw hc (hs1.keep hb) (hs2.keep hb) he)
    have CR1 : Hid (∀ (w' : World) (g B : Nat) (S : Nat → Prop) (A : Option Addr) (cap : Nat) (pv : Value) (m : Mc) (n : Int), Mach w' g 106 322 B S A l cap 2 pv m doX → m.ok l → m.steps ≤ 1000000000000 → -9223372036854775808 ≤ n → n ≤ 5000 → Calls Try.prog 16 #[.pointer (some ⟨g, 0, none⟩), .int .i64 n] w' (RanS g B S A l cap pv (runM l n m) w')) := hid fun w' g B S A cap pv m n h ho hs h0 h1 => run_loop_any h hP ho hs n h0 (by omega)
    have CR2 : Hid (∀ (w' : World) (g B : Nat) (S : Nat → Prop) (A : Option Addr) (cap : Nat) (pv : Value) (m : Mc) (x : Nat → Value) (n : Int), Mach w' g 108 302 B S A l cap 2 pv m x → m.ok l → m.steps ≤ 1000000000000 → -9223372036854775808 ≤ n → n ≤ 5000 → Calls Try.prog 18 #[.pointer (some ⟨g, 0, none⟩), .int .i64 n] w' (RranS g B S A l cap pv (runM l n m) w')) := hid fun w' g B S A cap pv m x n h ho hs h0 h1 => rrun_any h hP ho hs n h0 (by omega)
    have CS1 : Hid (∀ (w' : World) (g B : Nat) (S : Nat → Prop) (A : Option Addr) (cap : Nat) (pv : Value) (m : Mc), Mach w' g 106 322 B S A l cap 2 pv m doX → m.ok l → Calls Try.prog 19 #[.pointer (some ⟨g, 0, none⟩)] w' (StateS m w')) := hid fun w' g B S A cap pv m h ho => state_any h ho.r32 ho.m256
    have CS2 : Hid (∀ (w' : World) (g B : Nat) (S : Nat → Prop) (A : Option Addr) (cap : Nat) (pv : Value) (m : Mc) (x : Nat → Value), Mach w' g 108 302 B S A l cap 2 pv m x → m.ok l → Calls Try.prog 20 #[.pointer (some ⟨g, 0, none⟩)] w' (StateS m w')) := hid fun w' g B S A cap pv m x h ho => rstate_any h ho.r32 ho.m256
    have CL := hid (fun (m : Mc) (w' : World) (B1 B2 B3 B4 : Option Addr) (d1 d2 d3 d4 : Nat) (ho : m.ok l) (hs : m.steps ≤ 1000000000000) h1 h2 h3 h4 => like_same B1 B2 B3 B4 m.prints (outM m) d1 d2 d3 d4 (outE m) (outV m) m.steps w' h1 h2 h3 h4 (by have := ho.pl; omega) (by unfold outM; split <;> simp [ho.m256]))
    have CN1 := hid (fun (m : Mc) (w' : World) (B1 B2 : Option Addr) (d1 d2 : Nat) (ho : m.ok l) h1 h2 => nums_same B1 B2 m.R d1 d2 w' h1 h2 (by rw [ho.r32]; decide))
    have CN2 := hid (fun (m : Mc) (w' : World) (B1 B2 : Option Addr) (d1 d2 : Nat) (ho : m.ok l) h1 h2 => nums_same B1 B2 m.M d1 d2 w' h1 h2 (by rw [ho.m256]; decide))
    have HND := hid hd
    have HDW := hid hdw
    have HP := hid hP
    have HO0 := hid ok0
    have hdl : dl.length ≤ 17592186043904 := by omega
    replace hm0 := hid hm0
    clear hl hw hc hmx hs1 hs1w hs1c hs1m hs2 hs2w hs2c hs2m he hp hlen hP ok0 hd hdw hdc hdm
    go_enter Try.func3, Try.ntmps3
    go_wp2_with fail
    with_reducible refine (C0.out _ ?_).mono ?_
    · ((with_reducible (repeat (first | assumption | exact Below.refl _ _ | refine bset ?_ (Nat.le_refl _) _ | refine balloc ?_ _ | refine bdrew ?_ | refine bdrewN ?_ _))); done)
    rintro e w1 ⟨g1, Q1, cp1, rfl, hM1, hb, hg1⟩
    rw [← hm0.out] at hM1
    have B1 := hid (btrans (a := w) (by ((with_reducible (repeat (first | assumption | exact Below.refl _ _ | refine bset ?_ (Nat.le_refl _) _ | refine balloc ?_ _ | refine bdrew ?_ | refine bdrewN ?_ _))); done)) hb)
    have M1 := hid hM1
    have hg1s := hM1.cells.lt
    have z0 : w1.cell? ⟨w.heap.size, 0, none⟩ = some (.slice A l.length c) := cell_keep (by go_simp) hb
    have z1 : w1.cell? ⟨w.heap.size + 1, 0, none⟩ = some (.slice A1 s1.length c1) := cell_keep (by go_simp) hb
    have z2 : w1.cell? ⟨w.heap.size + 1, 1, none⟩ = some (.slice A2 s2.length c2) := cell_keep (by go_simp) hb
    have hz : w.heap.size + 1 < w1.heap.size := by have := hb.size; simp at this; omega
    have hz0 : w.heap.size < w1.heap.size := by omega
    have hwg1 : w.heap.size + 1 < g1 := by (try simp at hg1); omega
    clear hb hM1 hg1
    go_wp2_with fail
    with_reducible refine (C1.out _ B1.out).mono ?_
    rintro e w2 ⟨g2, rfl, hM2, hb, hg2⟩
    rw [← hm0.out] at hM2
    have hg2s := hM2.cells.lt
    have B2 := hid (btrans B1.out hb)
    obtain ⟨B, hBa, hBb⟩ : ∃ B, B ≤ w2.heap.size ∧ w2.heap.size ≤ B := ⟨_, Nat.le_refl _, Nat.le_refl _⟩
    have hs12 := hb.size
    have M1' := hid ((M1.out.below hb).raise (B' := B) (by omega) hBa)
    have M2 := hid (hM2.raise (B' := B) hBb hBa)
    have hg12 : g1 < g2 := by omega
    have hg2B : g2 < B := by omega
    obtain ⟨S1, hS1, hS1b⟩ : ∃ S1, S1 = (fun b => g1 + 1 ≤ b ∧ b < w1.heap.size) ∧ Hid (∀ b, S1 b → b ≠ g2) := ⟨_, rfl, hid fun b hb => by have := hb.2; omega⟩
    rw [← hS1] at M1'
    obtain ⟨S2, hS2, hS2b⟩ : ∃ S2, S2 = (fun b => b < w.heap.size) ∧ Hid (∀ b, S2 b → b ≠ g1) := ⟨_, rfl, hid fun b hb => by have hb : b < w.heap.size := hb; omega⟩
    rw [← hS2] at M2
    have hgw1 : w.heap.size ≤ g1 := by omega
    have hgw2 : w.heap.size ≤ g2 := by omega
    have hBw : w.heap.size ≤ B := by omega
    clear hS1 hS2 hb hM2 hg2 M1 z0 z1 z2 hz hz0 hs12 hg1s hg2s hwg1 C0 C1 B1
    go_wp2_with fail
    go_loopg [42] dl.length (fun gk v42 wr => ∃ (i : Nat) (pv1 pv2 : Value) (mi : Mc) (xi : Nat → Value), v42 = .int .i64 i ∧ i ≤ dl.length ∧ i ≤ 8 ∧ Hid (gk + i = dl.length) ∧ Hid (Mach wr g1 106 322 B S1 Q1 l cp1 2 pv1 mi doX) ∧ Hid (Mach wr g2 108 302 B S2 A l c 2 pv2 mi xi) ∧ Hid (mi.ok l) ∧ Hid (mi.steps ≤ 5000 * i) ∧ Hid (∀ k, pv1.ownBlock = some k → pv2.ownBlock ≠ some k) ∧ Hid (Below w.heap.size w wr))
    case atStart => exact ⟨0, .slice none 0 0, .slice none 0 0, m0, _, rfl, Nat.zero_le _, by omega, by exact Nat.add_zero _, M1', M2, HO0, hid (by rw [st0.out]; omega), hid (fun k e => by cases e), B2⟩
    case round =>
      obtain ⟨i, pv1, pv2, mi, xi, rfl, hi, hi8, hgk, K1, K2, hoi, hsi, hne, hb⟩ := hrel
      by_cases hlt : i < dl.length
      · have hij : (i : Int) < (dl.length : Int) := by omega
        have hi0 : (0 : Int) ≤ (i : Int) := by omega
        obtain ⟨qd, od, rfl, ed⟩ := (HND.out.keep hb.out).get i hlt
        have hqd : qd < wr.heap.size := World.block_lt_of_cell? wr _ ed
        have hbd := HDW.out _ (List.getElem_mem hlt)
        generalize dl[i] = dn at *
        by_cases h8 : i < 8
        · have h8i : ¬ (8 : Int) ≤ (i : Int) := by omega
          have CAn := hid (fun w => CA.out dn w hbd)
          have hsn0 := stepsN_ge dn hbd.1
          have hsn1 := stepsN_le dn
          generalize stepsN dn = sn at *
          obtain ⟨mN, hmN⟩ : ∃ mN, mN = runM l sn mi := ⟨_, rfl⟩
          have hoN : Hid (mN.ok l) := hid (by rw [hmN]; exact runM_ok HP.out hoi.out _)
          have hsN : Hid (mN.steps ≤ 5000 * (i + 1)) := hid (by
            have h1 := runM_le l sn mi
            have h2 := clamp_le hsn1
            rw [← hmN] at h1
            have := hsi.out
            omega)
          have R1 := hid (CR1.out wr g1 B S1 Q1 cp1 pv1 mi sn K1.out hoi.out (by have := hsi.out; omega) hsn0 hsn1)
          have R2 := hid (fun (w' : World) (h : Mach w' g2 108 302 B S2 A l c 2 pv2 mi xi) => CR2.out w' g2 B S2 A c pv2 mi xi sn h hoi.out (by have := hsi.out; omega) hsn0 hsn1)
          rw [← hmN] at R1 R2
          replace hmN := hid hmN
          clear hbd hsn0 hsn1
          go_wp2_with fail
          with_reducible refine (CAn.out _).mono ?_
          rintro e wr ⟨rfl, rfl⟩
          go_wp2_with fail
          with_reducible refine (R1.out).mono ?_
          rintro e w3 ⟨pv1', A3, A4, c3, c4, rfl, hW, hn3, hn4⟩
          have hBq := hid K1.out.bw
          have W3 := hid hW
          have hown1 := own_ge K1.out.own
          have hown2 := own_ge K2.out.own
          have K2' := hid (K2.out.stay hW.trn (by omega) (fun k e => ⟨(hown1 k e).1, hne.out k e⟩) (fun k e h => by have := (hown2 k e).1; omega) hS2b.out)
          have b3 := hid (trn_keep hb.out hW.trn (Nat.le_refl _) hgw1 (fun k e => by have := (hown1 k e).1; omega))
          have hne3 : Hid (∀ k, pv1'.ownBlock = some k → pv2.ownBlock ≠ some k) := hid fun k e e2 => by
            rcases hW.own with h | ⟨b, h, hb'⟩
            · exact hne.out k (by rw [← h]; exact e) e2
            · rw [h] at e
              injection e with e
              have := (hown2 k e2).2
              omega
          have hs3 := hW.trn.size
          have F3 := hid hn3
          have F4 := hid hn4
          clear hW hn3 hn4 K2 R1 K1
          go_wp2_with fail
          with_reducible refine (CAn.out _).mono ?_
          rintro e w3 ⟨rfl, rfl⟩
          go_wp2_with fail
          with_reducible refine (R2.out _ K2'.out).mono ?_
          rintro e w4 ⟨pv2', x2', A5, A6, c5, c6, rfl, hW, hn5, hn6⟩
          have hown3 := own_ge W3.out.mach.own
          have hown2b := own_ge K2'.out.own
          have W4 := hid hW
          have K1 := hid (W3.out.mach.stay hW.trn (by omega) (fun k e => ⟨(hown2b k e).1, fun h => hne3.out k h e⟩) (fun k e h => by have := (hown3 k e).1; omega) hS1b.out)
          have b4 := hid (trn_keep b3.out hW.trn (Nat.le_refl _) hgw2 (fun k e => by have := (hown2b k e).1; omega))
          have hne4 : Hid (∀ k, pv1'.ownBlock = some k → pv2'.ownBlock ≠ some k) := hid fun k e e2 => by
            rcases hW.own with h | ⟨b, h, hb'⟩
            · exact hne3.out k e (by rw [← h]; exact e2)
            · rw [h] at e2
              injection e2 with e2
              have := (hown3 k e).2
              omega
          have hgwr := hBq.out
          have N3 := hid (F3.out.turn hW.trn (by omega) (fun k e => (hown2 k e).2)).nums
          have N4 := hid (F4.out.turn hW.trn (by omega) (fun k e => (hown2 k e).2)).nums
          have N5 := hid hn5.nums
          have N6 := hid hn6.nums
          have K2 := hid hW.mach
          have hs4 := hW.trn.size
          clear hW hn5 hn6 W3 W4 F3 F4 K2' R2 b3 hne3 hown1 hown2 hown2b hown3
          go_wp2_with fail
          with_reducible refine (CL.out mN _ _ _ _ _ _ _ _ _ hoN.out (by have := hsN.out; omega) N3.out N5.out N4.out N6.out).mono ?_
          rintro e w5 ⟨rfl, hb5⟩
          replace K1 := hid (K1.out.below hb5)
          replace K2 := hid (K2.out.below hb5)
          have b5 := hid (btrans b4.out hb5)
          clear hb5 N3 N4 N5 N6 b4
          go_wp2_with fail
          with_reducible refine (CS1.out _ _ _ _ _ _ _ _ K1.out hoN.out).mono ?_
          rintro e w6 ⟨A7, A8, c7, c8, rfl, hb6, hn7, hn8⟩
          replace K1 := hid (K1.out.below hb6)
          replace K2 := hid (K2.out.below hb6)
          have b6 := hid (btrans b5.out hb6)
          have N7 := hid hn7.1
          have N8 := hid hn8.1
          clear hb6 hn7 hn8 b5
          go_wp2_with fail
          with_reducible refine (CS2.out _ _ _ _ _ _ _ _ _ K2.out hoN.out).mono ?_
          rintro e w7 ⟨A9, A0, c9, c0, rfl, hb7, hn9, hn0⟩
          replace K1 := hid (K1.out.below hb7)
          replace K2 := hid (K2.out.below hb7)
          have b7 := hid (btrans b6.out hb7)
          replace N7 := hid (N7.out.keep hb7)
          replace N8 := hid (N8.out.keep hb7)
          have N9 := hid hn9.1
          have N0 := hid hn0.1
          clear hb7 hn9 hn0 b6
          go_wp2_with fail
          with_reducible refine (CN1.out mN _ _ _ _ _ hoN.out (N7.out.keep ?_) (N9.out.keep ?_)).mono ?_
          · ((with_reducible (repeat (first | assumption | exact Below.refl _ _ | refine bset ?_ (Nat.le_refl _) _ | refine balloc ?_ _ | refine bdrew ?_ | refine bdrewN ?_ _))); done)
          · ((with_reducible (repeat (first | assumption | exact Below.refl _ _ | refine bset ?_ (Nat.le_refl _) _ | refine balloc ?_ _ | refine bdrew ?_ | refine bdrewN ?_ _))); done)
          rintro e w8 ⟨rfl, hb8⟩
          have hb78 := btrans (show Below w7.heap.size w7 _ by ((with_reducible (repeat (first | assumption | exact Below.refl _ _ | refine bset ?_ (Nat.le_refl _) _ | refine balloc ?_ _ | refine bdrew ?_ | refine bdrewN ?_ _))); done)) hb8
          have q1 : w8.cell? ⟨w7.heap.size, 1, none⟩ = some (.slice A8 mN.M.length c8) := cell_keep (by go_simp) hb8
          have r1 : w8.cell? ⟨w7.heap.size + 1, 1, none⟩ = some (.slice A0 mN.M.length c0) := cell_keep (by go_simp) hb8
          have hz := hb8.size
          (try simp at hz)
          have hq0 : w7.heap.size < w8.heap.size := by omega
          have hr0 : w7.heap.size + 1 < w8.heap.size := by omega
          replace K1 := hid (K1.out.below hb78)
          replace K2 := hid (K2.out.below hb78)
          have b8 := hid (btrans b7.out hb78)
          replace N8 := hid (N8.out.keep hb78)
          replace N0 := hid (N0.out.keep hb78)
          clear hb8 hb78 hz N7 N9 b7
          go_wp2_with fail
          with_reducible refine (CN2.out mN _ _ _ _ _ hoN.out N8.out N0.out).mono ?_
          rintro e w9 ⟨rfl, hb9⟩
          replace K1 := hid (K1.out.below hb9)
          replace K2 := hid (K2.out.below hb9)
          have b9 := hid (btrans b8.out hb9)
          clear hb9 q1 r1 hq0 hr0 N8 N0 b8
          go_wp2
          go_roundg (dl.length - (i + 1))
          case measure => have := hgk.out; omega
          case rel => exact ⟨i + 1, pv1', pv2', mN, x2', by go_num, by omega, by omega, by show _ + _ = _; omega, K1, K2, hoN, hsN, hne4, b9⟩
        · have h8i : (8 : Int) ≤ (i : Int) := by omega
          go_wp2_with fail
          with_reducible refine (CW.out _).mono ?_
          rintro e w3 ⟨rfl, hb9⟩
          go_wp2
          go_ret
          exact ⟨rfl, btrans hb.out hb9⟩
      · obtain rfl : i = dl.length := by omega
        go_wp2_with fail
        with_reducible refine (CW.out _).mono ?_
        rintro e w3 ⟨rfl, hb9⟩
        go_wp2
        go_ret
        exact ⟨rfl, btrans hb.out hb9⟩
  · have C0 : Hid (∀ w', Below w.heap.size w w' → Calls Try.prog 12 #[.agg #[.slice A l.length c], .agg #[.slice A1 s1.length c1, .slice A2 s2.length c2]] w' fun e w'' => e = .returned (.tuple #[.pointer none, .int .i64 (newE l s1 s2)]) ∧ Below w'.heap.size w' w'') := hid fun w' hb => new_no A l c A1 A2 s1 s2 c1 c2 w' (hl.keep hb) hw (by omega) (by omega) (by omega) he
    have C1 : Hid (∀ w', Below w.heap.size w w' → Calls Try.prog 13 #[.agg #[.slice A l.length c], .agg #[.slice A1 s1.length c1, .slice A2 s2.length c2]] w' fun e w'' => e = .returned (.tuple #[.pointer none, .int .i64 (newE l s1 s2)]) ∧ Below w'.heap.size w' w'') := hid fun w' hb => rnew_no A l c A1 A2 s1 s2 c1 c2 w' (hl.keep hb) hw (by omega) (by omega) (by omega) he
    have hE : (newE l s1 s2 != 0) = true := by simpa using he
    generalize newE l s1 s2 = E at *
    have hE2 : (E != E) = false := by simp
    clear hl hw hc hmx hs1 hs1w hs1c hs1m hs2 hs2w hs2c hs2m he hd hdw hdc hdm
    go_enter Try.func3, Try.ntmps3
    go_wp2_with fail
    with_reducible refine (C0.out _ ?_).mono ?_
    · ((with_reducible (repeat (first | assumption | exact Below.refl _ _ | refine bset ?_ (Nat.le_refl _) _ | refine balloc ?_ _ | refine bdrew ?_ | refine bdrewN ?_ _))); done)
    rintro e w1 ⟨rfl, hb⟩
    have B1 := hid (btrans (a := w) (by ((with_reducible (repeat (first | assumption | exact Below.refl _ _ | refine bset ?_ (Nat.le_refl _) _ | refine balloc ?_ _ | refine bdrew ?_ | refine bdrewN ?_ _))); done)) hb)
    have z0 : w1.cell? ⟨w.heap.size, 0, none⟩ = some (.slice A l.length c) := cell_keep (by go_simp) hb
    have z1 : w1.cell? ⟨w.heap.size + 1, 0, none⟩ = some (.slice A1 s1.length c1) := cell_keep (by go_simp) hb
    have z2 : w1.cell? ⟨w.heap.size + 1, 1, none⟩ = some (.slice A2 s2.length c2) := cell_keep (by go_simp) hb
    have hz : w.heap.size + 1 < w1.heap.size := by have := hb.size; simp at this; omega
    have hz0 : w.heap.size < w1.heap.size := by omega
    clear hb
    go_wp2_with fail
    with_reducible refine (C1.out _ B1.out).mono ?_
    rintro e w2 ⟨rfl, hb⟩
    have B2 := hid (btrans B1.out hb)
    clear hb z0 z1 z2
    go_wp2_with fail
    with_reducible refine (CW.out _).mono ?_
    rintro e w3 ⟨rfl, hb⟩
    go_wp2
    go_ret
    exact ⟨rfl, btrans B2.out hb⟩
end Go.Proofs.Ytpiagggnjppkhaa
