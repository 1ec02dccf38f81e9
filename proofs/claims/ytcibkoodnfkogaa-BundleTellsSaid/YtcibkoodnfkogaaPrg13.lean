/- The contract of program.Needs. -/
import Derived.Test.YtcibkoodnfkogaaPrg12
import Derived.Test.YtcibkoodnfkogaaPrg5
import Derived.Test.YtcibkoodnfkogaaOps2
namespace Go.Proofs.Ytcibkoodnfkogaa
open Go.RowKit
set_option linter.unusedVariables false
set_option linter.unusedSimpArgs false
set_option maxHeartbeats 4000000 in
set_option maxRecDepth 100000 in
theorem needs_any (A : Option Addr) (l : List Blk) (cap : Nat) (t : List Int) (w : World) (hl : BlksIn w A l) (hw : ∀ b ∈ l, b.wf) (hm : l.length ≤ 9223372036854775807) (ht : t.length = 13) :
    Calls Try.prog 36 #[.agg #[.slice A l.length cap], tabV t] w fun e w' => e = .returned (.int .i64 (needE l t)) ∧ Below w.heap.size w w' := by
  obtain ⟨a0, a1, a2, a3, a4, a5, a6, a7, a8, a9, a10, a11, a12, rfl⟩ := thirteen ht
  have C1 := hid (fun (w : World) (h : BlksIn w A l) => prg_check_any A l cap w h hw hm)
  have C2 := hid (fun (w : World) => tcheck_any [a0, a1, a2, a3, a4, a5, a6, a7, a8, a9, a10, a11, a12] w ht)
  have HL := hid hl
  have HW := hid hw
  clear hl hw ht
  have hV : tabV [a0, a1, a2, a3, a4, a5, a6, a7, a8, a9, a10, a11, a12] = tabX a0 a1 a2 a3 a4 a5 a6 a7 a8 a9 a10 a11 a12 := rfl
  rw [hV] at C2 ⊢
  clear hV
  generalize htt : [a0, a1, a2, a3, a4, a5, a6, a7, a8, a9, a10, a11, a12] = t at C2 ⊢
  have h3 : t[(3 : Nat)]?.getD 0 = a3 := by subst htt; rfl
  have hbox := hid (fun w T => htt ▸ TabIn.box a0 a1 a2 a3 a4 a5 a6 a7 a8 a9 a10 a11 a12 w T)
  clear htt
  by_cases hP : prgE l = 0
  case neg =>
    have e0 := hid (show needE l t = prgE l by unfold needE; rw [if_pos hP])
    clear h3
    go_enter Try.func36, Try.ntmps36
    go_wp2_with fail
    with_reducible refine (C1.out _ (BlksIn.keep (w := w) HL.out ?_)).mono ?_
    · ((with_reducible (repeat (first | assumption | exact Below.refl _ _ | refine bset ?_ (Nat.le_refl _) _ | refine balloc ?_ _ | refine bdrew ?_ | refine bdrewN ?_ _))); done)
    rintro e w1 ⟨rfl, hb⟩
    go_wp2
    go_ret
    refine ⟨ret_int e0.out.symm, btrans (a := w) ?_ hb⟩
    ((with_reducible (repeat (first | assumption | exact Below.refl _ _ | refine bset ?_ (Nat.le_refl _) _ | refine balloc ?_ _ | refine bdrew ?_ | refine bdrewN ?_ _))); done)
  have hlen := (prgE_len hP).1
  rw [hP] at C1
  have e0 : needE l t = if tabE t ≠ 0 then tabE t else if a3 = 0 then 21 else if lackL l t then 21 else 0 := by unfold needE; rw [if_neg (fun h => h hP), h3]
  replace e0 := hid e0
  replace h3 := hid h3
  clear hP
  go_enter Try.func36, Try.ntmps36
  go_wp2_with fail
  with_reducible refine (C1.out _ (BlksIn.keep (w := w) HL.out ?_)).mono ?_
  · ((with_reducible (repeat (first | assumption | exact Below.refl _ _ | refine bset ?_ (Nat.le_refl _) _ | refine balloc ?_ _ | refine bdrew ?_ | refine bdrewN ?_ _))); done)
  rintro e w1 ⟨rfl, hb⟩
  have B1 := hid (btrans (a := w) (by ((with_reducible (repeat (first | assumption | exact Below.refl _ _ | refine bset ?_ (Nat.le_refl _) _ | refine balloc ?_ _ | refine bdrew ?_ | refine bdrewN ?_ _))); done)) hb)
  have kA : w1.cell? ⟨w.heap.size, 0, none⟩ = some (.slice A l.length cap) := cell_keep (by simp) hb
  have TT : Hid (TabIn w1 (w.heap.size + 1) t) := hid (by have := hbox.out (w.alloc (.cells #[.slice A l.length cap] 61)) 28; rw [hsz] at this; exact this.keep hb)
  have hz : w.heap.size + 1 < w1.heap.size := World.block_lt_of_cell? w1 _ (TT.out 0 (by omega))
  have hc := (bcell hb).1
  have hz0 : w.heap.size < w1.heap.size := by omega
  clear hb
  go_wp2_with fail
  with_reducible refine (C2.out _).mono ?_
  rintro e w2 ⟨rfl, hb⟩
  have B2 := hid (btrans B1.out hb)
  have kA2 := cell_keep kA hb
  have T2 := hid (TT.out.keep hb)
  have k3 : w2.cell? ⟨w.heap.size + 1, 3, none⟩ = some (.int .i64 a3) := by have := T2.out 3 (by omega); rw [h3.out] at this; exact this
  clear hc hb kA hz hz0
  have hz : w.heap.size + 1 < w2.heap.size := World.block_lt_of_cell? w2 _ k3
  by_cases hT : tabE t = 0
  case neg =>
    have e1 := hid (e0.out.trans (if_pos hT))
    go_wp2
    go_ret
    exact ⟨ret_int e1.out.symm, B2.out⟩
  replace e0 := hid (e0.out.trans (if_neg (fun h => h hT)))
  by_cases hU : a3 = 0
  case pos =>
    have e1 := hid (e0.out.trans (if_pos hU))
    go_wp2
    go_ret
    exact ⟨ret_int e1.out.symm, B2.out⟩
  replace e0 := hid (e0.out.trans (if_neg hU))
  have hUb : (a3 == 0) = false := by simpa using hU
  go_wp2
  clear hT hU hUb kA2 k3
  go_loopg [32] l.length (fun g v wr => ∃ i : Nat, i ≤ l.length ∧ v = .int .i64 i ∧ Hid (g + i = l.length) ∧ Hid (∀ j (hj : j < i) (hj2 : j < l.length), (usesB l[j].ops t || usesB l[j].body t) = false) ∧ Hid (TabIn wr (w.heap.size + 1) t) ∧ Below w.heap.size w wr)
  case atStart => exact ⟨0, by omega, rfl, by exact Nat.add_zero _, fun j hj => by omega, T2, B2.out⟩
  case round =>
    obtain ⟨i, hi, rfl, hg, hall, htr, hbw⟩ := hrel
    by_cases hlt : i < l.length
    · obtain ⟨wo, rfl⟩ : ∃ wo : World, wo = wr := ⟨_, rfl⟩
      obtain ⟨g, off, rfl, hop⟩ := (BlksIn.keep HL.out hbw).get i hlt
      obtain ⟨B, c, B2, c2, k0, k1, k2, k3, k4, k5, o1, o2, _, _⟩ := hop
      have O1 := hid o1
      have O2 := hid o2
      clear o1 o2
      have hwf := hid (HW.out l[i] (List.getElem_mem hlt))
      have m0 := hwf.out.m0
      have m1 := hwf.out.m1
      have hgs : g < wo.heap.size := World.block_lt_of_cell? wo _ k0
      have hb0 := hid hbw
      have hgw : w.heap.size + 1 < wo.heap.size := World.block_lt_of_cell? wo _ (htr.out 0 (by omega))
      clear hbw
      have hij : (i : Int) < (l.length : Int) := by omega
      have hi0 : (0 : Int) ≤ (i : Int) := by omega
      have Y1 := hid (fun h : usesB l[i].ops t = true => lackL_yes (l := l) (t := t) hlt (by rw [h]; rfl))
      have Y2 := hid (fun h : usesB l[i].body t = true => lackL_yes (l := l) (t := t) hlt (by rw [h, Bool.or_true]))
      go_wp2
      go_loopg [42] 2 (fun g v wq => ∃ j : Nat, j ≤ 2 ∧ v = .int .i64 j ∧ Hid (g + j = 2) ∧ Hid (1 ≤ j → usesB l[i].ops t = false) ∧ Hid (2 ≤ j → usesB l[i].body t = false) ∧ wq.cell? ⟨wo.heap.size + 1, 0, none⟩ = some (.slice B l[i].ops.length c) ∧ wq.cell? ⟨wo.heap.size + 1, 1, none⟩ = some (.slice B2 l[i].body.length c2) ∧ Below wo.heap.size wo wq)
      case atStart =>
        refine ⟨0, by omega, rfl, by exact Nat.add_zero _, fun h => by omega, fun h => by omega, by simp, by simp, ?_⟩
        ((with_reducible (repeat (first | assumption | exact Below.refl _ _ | refine bset ?_ (Nat.le_refl _) _ | refine balloc ?_ _ | refine bdrew ?_ | refine bdrewN ?_ _))); done)
      case round =>
        obtain ⟨j, hj, rfl, hgj, q1, q2, a0, a1, hbq⟩ := hrel
        by_cases hj2 : j < 2
        · obtain ⟨wp, rfl⟩ : ∃ wp : World, wp = wr := ⟨_, rfl⟩
          obtain ⟨L, D, d, kL, OL, hL, hyes, hno⟩ : ∃ (L : List Op) (D : Option Addr) (d : Nat), wp.cell? ⟨wo.heap.size + 1, j, none⟩ = some (.slice D L.length d) ∧ Hid (OpsIn wo D L) ∧ L.length ≤ 140737488351232 ∧ Hid (usesB L t = true → lackL l t = true) ∧ Hid (usesB L t = false → (1 ≤ j + 1 → usesB l[i].ops t = false) ∧ (2 ≤ j + 1 → usesB l[i].body t = false)) := by
            obtain rfl | rfl : j = 0 ∨ j = 1 := by omega
            · exact ⟨l[i].ops, B, c, a0, O1, m0, Y1, hid fun h => ⟨fun _ => h, fun h => by omega⟩⟩
            · exact ⟨l[i].body, B2, c2, a1, O2, m1, Y2, hid fun h => ⟨fun _ => q1.out (by omega), fun _ => h⟩⟩
          have hj0 : (0 : Int) ≤ (j : Int) := by omega
          have hj1 : (j : Int) < 2 := by omega
          clear q1 q2
          have HB := hid hbq
          clear hbq
          go_wp2
          go_loopg [48] L.length (fun g v wz => ∃ m : Nat, m ≤ L.length ∧ v = .int .i64 m ∧ Hid (g + m = L.length) ∧ Hid (∀ n (hn : n < m) (hn2 : n < L.length), lackB t L[n] = false) ∧ wz.cell? ⟨wo.heap.size + 1, 0, none⟩ = some (.slice B l[i].ops.length c) ∧ wz.cell? ⟨wo.heap.size + 1, 1, none⟩ = some (.slice B2 l[i].body.length c2) ∧ Below wo.heap.size wo wz)
          case atStart =>
            exact ⟨0, by omega, rfl, by exact Nat.add_zero _, fun n hn => by omega, a0, a1, HB.out⟩
          case round =>
            obtain ⟨m, hm, rfl, hgm, hallm, b0, b1, hbz⟩ := hrel
            by_cases hlm : m < L.length
            · obtain ⟨g4, off4, rfl, hop4⟩ := (OpsIn.keep OL.out hbz).get m hlm
              obtain ⟨c0, c1, c2, c3, c4⟩ := hop4
              have hbz0 := hid hbz
              have htz := hid (htr.out.keep hbz)
              clear hbz
              have hmj : (m : Int) < (L.length : Int) := by omega
              have hm0 : (0 : Int) ≤ (m : Int) := by omega
              have HC := hid (fun w => class_any L[m].k w)
              cases h1 : clsB L[m].k
              · have e0 := hid (show lackB t L[m] = false by unfold lackB; rw [h1]; rfl)
                rw [h1] at HC
                clear h1
                go_wp2_with fail
                with_reducible refine (HC.out _).mono ?_
                rintro e w6 ⟨rfl, hb⟩
                have hb6 : Hid (Below wr.heap.size wr w6) := hid (btrans (a := wr) (by ((with_reducible (repeat (first | assumption | exact Below.refl _ _ | refine bset ?_ (Nat.le_refl _) _ | refine balloc ?_ _ | refine bdrew ?_ | refine bdrewN ?_ _))); done)) hb)
                clear hb
                go_wp2
                go_roundg (L.length - (m + 1))
                case measure => have := hgm.out; omega
                case rel =>
                  refine ⟨m + 1, by omega, by go_num, by show _ + _ = _; omega, fun n hn hn2 => ?_, cell_keep b0 hb6.out, cell_keep b1 hb6.out, btrans hbz0.out hb6.out⟩
                  by_cases h : n < m
                  · exact hallm.out n h hn2
                  · obtain rfl : n = m := by omega
                    exact e0.out
              · obtain ⟨c, hc4, hcn⟩ := cls_lt _ h1
                have e2 : lackB t L[m] = (t[c]?.getD 0 == 0) := by unfold lackB; rw [h1, hcn]; rfl
                rw [h1, hcn] at HC
                clear h1 hcn
                have hc4i : (c : Int) < 4 := by omega
                have hc0 : (0 : Int) ≤ (c : Int) := by omega
                cases h2 : (t[c]?.getD 0 == 0)
                · rw [h2] at e2
                  replace e2 := hid e2
                  go_wp2_with fail
                  with_reducible refine (HC.out _).mono ?_
                  rintro e w6 ⟨rfl, hb⟩
                  have hb6 : Hid (Below wr.heap.size wr w6) := hid (btrans (a := wr) (by ((with_reducible (repeat (first | assumption | exact Below.refl _ _ | refine bset ?_ (Nat.le_refl _) _ | refine balloc ?_ _ | refine bdrew ?_ | refine bdrewN ?_ _))); done)) hb)
                  have tc := htz.out.keep hb6.out c (by omega)
                  clear hb
                  go_wp2
                  go_roundg (L.length - (m + 1))
                  case measure => have := hgm.out; omega
                  case rel =>
                    refine ⟨m + 1, by omega, by go_num, by show _ + _ = _; omega, fun n hn hn2 => ?_, cell_keep b0 hb6.out, cell_keep b1 hb6.out, btrans hbz0.out hb6.out⟩
                    by_cases h : n < m
                    · exact hallm.out n h hn2
                    · obtain rfl : n = m := by omega
                      exact e2.out
                · rw [h2] at e2
                  have e3 := hid (e0.out.trans (if_pos (hyes.out (usesB_yes hlm e2))))
                  clear e2
                  go_wp2_with fail
                  with_reducible refine (HC.out _).mono ?_
                  rintro e w6 ⟨rfl, hb⟩
                  have hb6 : Hid (Below wr.heap.size wr w6) := hid (btrans (a := wr) (by ((with_reducible (repeat (first | assumption | exact Below.refl _ _ | refine bset ?_ (Nat.le_refl _) _ | refine balloc ?_ _ | refine bdrew ?_ | refine bdrewN ?_ _))); done)) hb)
                  have tc := htz.out.keep hb6.out c (by omega)
                  clear hb
                  go_wp2
                  go_ret
                  exact ⟨ret_int e3.out.symm, btrans hb0.out (btrans hbz0.out hb6.out)⟩
            · obtain rfl : m = L.length := by omega
              have e3 := hid (hno.out (usesB_no (l := L) (t := t) fun n hn => hallm.out n hn hn))
              have hbz0 := hid hbz
              clear hbz
              go_wp2
              go_roundg (2 - (j + 1))
              case measure => have := hgj.out; omega
              case rel => exact ⟨j + 1, by omega, by go_num, by show _ + _ = _; omega, hid e3.out.1, hid e3.out.2, b0, b1, hbz0.out⟩
        · obtain rfl : j = 2 := by omega
          have e1 : (usesB l[i].ops t || usesB l[i].body t) = false := by rw [q1.out (by omega), q2.out (by omega)]; rfl
          replace e1 := hid e1
          go_wp2
          go_roundg (l.length - (i + 1))
          case measure => have := hg.out; omega
          case rel =>
            refine ⟨i + 1, by omega, by go_num, by show _ + _ = _; omega, fun j hj hj2 => ?_, hid (htr.out.keep hbq), btrans hb0.out hbq⟩
            by_cases h : j < i
            · exact hall.out j h hj2
            · obtain rfl : j = i := by omega
              exact e1.out
    · obtain rfl : i = l.length := by omega
      have e1 := hid (lackL_no (l := l) (t := t) fun j hj => hall.out j hj hj)
      have e2 := hid (e0.out.trans (if_neg (by rw [e1.out]; decide)))
      go_wp2
      go_ret
      exact ⟨ret_int e2.out.symm, hbw⟩
end Go.Proofs.Ytcibkoodnfkogaa
